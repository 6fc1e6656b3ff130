/- SchedTurns answers true for all numbers; no conditions. -/
import Derived.Test.YtkfkacdiekpkfaaU
namespace Go.Proofs.Ytkfkacdiekpkfaa
open Go.RowKit
attribute [local go_sem high] eq35
def idsN : Nat → List (Int × Int)
  | 0 => []
  | k + 1 => idsN k ++ [((k : Int), 1)]
theorem idsN_len : ∀ n, (idsN n).length = n
  | 0 => rfl
  | n + 1 => by rw [idsN, List.length_append, idsN_len n]; rfl
theorem idsN_get : ∀ (n i : Nat), i < n → (idsN n)[i]? = some ((i : Int), 1)
  | 0, i, h => by omega
  | n + 1, i, h => by
    rw [idsN]
    by_cases e : i < n
    · rw [List.getElem?_append_left (by rw [idsN_len]; exact e)]; exact idsN_get n i e
    · obtain rfl : i = n := by omega
      rw [List.getElem?_append_right (by rw [idsN_len]; exact Nat.le_refl _), idsN_len, Nat.sub_self]; rfl
theorem pos_ids_new (k : Nat) : ¬ 0 ≤ pos (idsN k) ((k : Int), 1) := by
  rcases pos_spec (idsN k) ((k : Int), 1) with ⟨_, h⟩ | ⟨i, _, h2, _⟩
  · rw [h]; decide
  · have hl := (List.getElem?_eq_some_iff.1 h2).1
    rw [idsN_len] at hl
    rw [idsN_get k i hl] at h2
    injection h2 with h2
    injection h2 with h2 _
    omega
theorem pos_ids_old (k : Nat) : 0 ≤ pos (idsN (k + 1)) ((k : Int), 1) := by
  rcases pos_spec (idsN (k + 1)) ((k : Int), 1) with ⟨h, _⟩ | ⟨i, h1, _, _⟩
  · exact absurd (by rw [idsN]; simp) h
  · omega
def rotL {α : Type} (xs : List α) (c : Nat) : List α := xs.drop c ++ xs.take c
theorem rotL_len {α : Type} (xs : List α) (c : Nat) (hc : c ≤ xs.length) : (rotL xs c).length = xs.length := by
  unfold rotL; rw [List.length_append, List.length_drop, List.length_take]; omega
theorem rotL_get {α : Type} (xs : List α) (c i : Nat) (hc : c < xs.length) (hi : i < xs.length) : (rotL xs c)[i]? = xs[(c + i) % xs.length]? := by
  unfold rotL
  by_cases h : c + i < xs.length
  · rw [Nat.mod_eq_of_lt h, List.getElem?_append_left (by rw [List.length_drop]; omega), List.getElem?_drop]
  · have e : (c + i) % xs.length = c + i - xs.length := by
      rw [Nat.mod_eq_sub_mod (by omega), Nat.mod_eq_of_lt (by omega)]
    rw [e, List.getElem?_append_right (by rw [List.length_drop]; omega), List.length_drop, List.getElem?_take, if_pos (by omega)]
    congr 1
    omega
theorem list_rot (p : Nat) (xs : List (Int × Int)) (cur : Nat) (hc : cur ≤ xs.length) (hl : xs.length ≤ 50000) : Does Try.prog 16 #[.pointer (some ⟨p, 0, none⟩)] (isRg 51 p xs cur) (fun e B => ∃ v, e = .returned v ∧ B = Hp.seps [Hp.row 35 2 encId v (rotL xs cur), isRg 51 p xs cur]) := list_does p xs cur hc hl
set_option maxRecDepth 100000 in
set_option maxHeartbeats 12800000 in
theorem turns_walk (n more : Int) (w : World) : Calls Try.prog 5 #[.int .i64 n, .int .i64 more] w fun e w' => e = .returned (.bool true) ∧ Below w.heap.size w w' := by
  by_cases hg : (1 ≤ n ∧ n ≤ 30) ∧ (0 ≤ more ∧ more ≤ 1099511627776)
  · obtain ⟨⟨g1, g2⟩, g3, g4⟩ := hg
    obtain ⟨N, rfl⟩ : ∃ N : Nat, n = N := ⟨n.toNat, by omega⟩
    obtain ⟨M, rfl⟩ : ∃ M : Nat, more = M := ⟨more.toNat, by omega⟩
    have t1 : decide ((N : Int) < 1) = false := decide_eq_false (by omega)
    have t1' : decide (N < 1) = false := decide_eq_false (by omega)
    have t2 : decide (30 < (N : Int)) = false := decide_eq_false (by omega)
    have t2' : decide (30 < N) = false := decide_eq_false (by omega)
    have t3 : decide ((M : Int) < 0) = false := decide_eq_false (by omega)
    have t4 : decide (1099511627776 < (M : Int)) = false := decide_eq_false (by omega)
    have t4' : decide (1099511627776 < M) = false := decide_eq_false (by omega)
    have hN : 0 < N := by omega
    obtain ⟨c, hc⟩ : ∃ c, M % N = c := ⟨_, rfl⟩
    have hcN : c < N := hc ▸ Nat.mod_lt _ hN
    have HM : As (mv (idsN N).length 0 (M : Int) = c) := ⟨by unfold mv; rw [idsN_len]; simp only [Int.toNat_natCast, Nat.zero_add]; rw [Nat.mod_mod]; exact hc⟩
    have r1 : (M : Int).tmod (N : Int) = (c : Int) := by rw [Int.tmod_eq_emod_of_nonneg (by omega), ← hc]; rfl
    have r1' : (M : Int) % (N : Int) = (c : Int) := by rw [← hc]; rfl
    have r4 : IntKind.i64.wrap (c : Int) = (c : Int) := IntWalk.i64_in _ (by omega)
    have r6 : ¬ (N : Int) = 0 := by omega
    have r7 : ((N : Int) == 0) = false := beq_eq_false_iff_ne.2 r6
    have r8 : ¬ N = 0 := by omega
    clear hc
    go_enter Try.func5, Try.ntmps5
    go_wp2_with fail
    refine (alive_does w).mono ?_
    rintro e w1 ⟨rfl, hb⟩
    have hS1 := At.start0 hb
    clear hb
    go_wp2_with fail
    refine (hS1.callNew new_does).mono ?_
    rintro e w2 ⟨B, ⟨p, rfl, rfl⟩, hS2⟩
    clear hS1
    go_wp2_with fail
    go_loopg [7] N (fun g iv wr => ∃ i : Nat, i + g = N ∧ iv = .int .i64 i ∧ At (fun _ => False) w wr (Hp.seps [isRg 51 p (idsN i) 0]))
    case atStart => exact ⟨0, by omega, rfl, hS2⟩
    case round =>
      clear hS2
      obtain ⟨i, hi, rfl, hS⟩ := hrel
      by_cases hlt : i < N
      · have HI := As.mk hi
        have HA := As.mk (add_new p (idsN i) 0 i 1 (pos_ids_new i) (by rw [idsN_len]; omega))
        have HB := As.mk (add_old p (idsN (i + 1)) 0 i 1 (pos_ids_old i))
        clear hi
        go_wp2_with fail
        refine (hS.callAt 0 rfl HA.out).mono ?_
        rintro e w3 ⟨B, ⟨rfl, rfl⟩, hS3⟩
        have hS3 : At (fun _ => False) w w3 (Hp.seps [isRg 51 p (idsN (i + 1)) 0]) := hS3
        clear hS
        go_wp2_with fail
        refine (hS3.callAt 0 rfl HB.out).mono ?_
        rintro e w4 ⟨B, ⟨rfl, rfl⟩, hS4⟩
        clear hS3
        go_wp2_with fail
        go_roundg (gk - 1)
        case measure => have := HI.out; omega
        case rel => exact ⟨i + 1, by have := HI.out; omega, by go_num, hS4⟩
      · obtain rfl : i = N := by omega
        clear hi
        have HV := As.mk (move_does p 0 (idsN i) (M : Int) (by rw [idsN_len]; exact hN) (by rw [idsN_len]; omega) (by omega))
        rw [HM.out] at HV
        have HL := As.mk (list_rot p (idsN i) c (by rw [idsN_len]; omega) (by rw [idsN_len]; omega))
        go_wp2_with fail
        refine (hS.callAt 0 rfl HV.out).mono ?_
        rintro e w3 ⟨B, ⟨rfl, rfl⟩, hS3⟩
        clear hS
        go_wp2_with fail
        refine (hS3.callAt 0 rfl HL.out).mono ?_
        rintro e w4 ⟨B, ⟨v, rfl, rfl⟩, hS4⟩
        have hS5 := hS4.flats (l' := [_, _]) 0 rfl
        clear hS3 hS4
        have hln : (rotL (idsN i) c).length = i := by rw [rotL_len _ _ (by rw [idsN_len]; omega), idsN_len]
        obtain ⟨A4, n4, c4, rfl⟩ := (hS5.rowAt 0 rfl).slice
        obtain rfl : i = n4 := (((hS5.rowAt 0 rfl).rd encId_len).len.1.trans hln).symm
        have hget : ∀ k, k < i → (rotL (idsN i) c)[k]? = some ((((c + k) % i : Nat) : Int), 1) := fun k hk => by
          rw [rotL_get _ _ _ (by rw [idsN_len]; exact hcN) (by rw [idsN_len]; exact hk), idsN_len, idsN_get _ _ (Nat.mod_lt _ hN)]
        have HGet := As.mk hget
        have hg0 : (rotL (idsN i) c)[0]? = some ((c : Int), 1) := by have := hget 0 hN; rwa [Nat.add_zero, Nat.mod_eq_of_lt hcN] at this
        obtain ⟨g, rfl, hgl, hcell⟩ := (hS5.rowAt 0 rfl).cell encId_len 0 _ hg0
        have x0 := (hcell 0 (by omega)).1
        clear hg0
        simp [encId] at x0
        have m0 : (0 : Int) < (i : Int) := by omega
        clear hcell hget hln
        go_wp2_with fail
        go_quiet (fail)
        go_wp2_with fail
        go_loopg [9] i (fun g0 kv wr => ∃ k : Nat, k + g0 = i ∧ kv = .int .i64 k ∧ At (fun _ => False) w wr (Hp.seps [Hp.row 35 2 encId (.slice (some ⟨g, 0, none⟩) i c4) (rotL (idsN i) c), isRg 51 p (idsN i) ((c + k) % i)]))
        case atStart => exact ⟨0, by omega, rfl, by rw [Nat.add_zero, Nat.mod_eq_of_lt hcN]; exact hS5.below (by repeat (first | exact Below.refl _ _ | refine bl_drewN ?_ _ | refine Below.drew ?_ | refine bl_alloc ?_ _ | refine bl_set ?_ (by first | (simp; done) | omega | (simp; omega)) _))⟩
        case round =>
          clear hS5 x0
          obtain ⟨k, hk, rfl, hS⟩ := hrel
          by_cases hlt : k < i
          · have HK := As.mk hk
            obtain ⟨cc, hcc⟩ : ∃ cc, (c + k) % i = cc := ⟨_, rfl⟩
            have hcci : cc < i := hcc ▸ Nat.mod_lt _ hN
            have HMv : As (mv (idsN i).length cc 1 = (c + (k + 1)) % i) := ⟨by unfold mv; rw [idsN_len, ← hcc]; simp [Nat.add_assoc]⟩
            have hgk := HGet.out k hlt
            rw [hcc] at hgk hS
            have HGk := As.mk hgk
            have HLs := As.mk (list_rot p (idsN i) cc (by rw [idsN_len]; omega) (by rw [idsN_len]; omega))
            have HMo := As.mk (move_does p cc (idsN i) 1 (by rw [idsN_len]; exact hN) (by rw [idsN_len]; omega) (by rw [idsN_len]; omega))
            rw [HMv.out] at HMo
            clear hk hgk hcc HMv
            go_wp2_with fail
            refine (hS.callAt 1 rfl HLs.out).mono ?_
            rintro e w5 ⟨B, ⟨v, rfl, rfl⟩, hS7⟩
            have hS8 := hS7.flats (l' := [_, _]) 1 rfl
            clear hS hS7
            have hln : (rotL (idsN i) cc).length = i := by rw [rotL_len _ _ (by rw [idsN_len]; omega), idsN_len]
            obtain ⟨A5, n5, c5, rfl⟩ := (hS8.rowAt 0 rfl).slice
            obtain rfl : i = n5 := (((hS8.rowAt 0 rfl).rd encId_len).len.1.trans hln).symm
            have hg5 : (rotL (idsN i) cc)[0]? = some ((cc : Int), 1) := by
              rw [rotL_get _ _ _ (by rw [idsN_len]; exact hcci) (by rw [idsN_len]; exact hN), idsN_len, Nat.add_zero, Nat.mod_eq_of_lt hcci, idsN_get _ _ hcci]
            obtain ⟨g5, rfl, _, hcell⟩ := (hS8.rowAt 0 rfl).cell encId_len 0 _ hg5
            have y0 := (hcell 0 (by omega)).1
            have y1 := (hcell 1 (by omega)).1
            obtain ⟨g6, he, _, hcell6⟩ := (hS8.rowAt 2 rfl).cell encId_len k _ HGk.out
            injection he with he
            injection he with he _
            subst he
            have z0 := (hcell6 0 (by omega)).1
            have z1 := (hcell6 1 (by omega)).1
            simp [encId] at y0 y1 z0 z1
            have m1 : (k : Int) < (i : Int) := by omega
            clear hcell hcell6 hg5 hln
            go_wp2_with fail
            go_quiet (fail)
            go_wp2_with fail
            refine ((hS8.below (by repeat (first | exact Below.refl _ _ | refine bl_drewN ?_ _ | refine Below.drew ?_ | refine bl_alloc ?_ _ | refine bl_set ?_ (by first | (simp; done) | omega | (simp; omega)) _))).callAt 1 rfl HMo.out).mono ?_
            rintro e w6 ⟨B, ⟨rfl, rfl⟩, hS9⟩
            clear hS8
            go_wp2_with fail
            go_roundg (gk - 1)
            case measure => have := HK.out; omega
            case rel => exact ⟨k + 1, by have := HK.out; omega, by go_num, hS9.sel [2, 1]⟩
          · obtain rfl : k = i := by omega
            rw [Nat.add_mod_right, Nat.mod_eq_of_lt hcN] at hS
            go_wp2_with fail
            refine (hS.callAt 1 rfl HL.out).mono ?_
            rintro e w5 ⟨B, ⟨v, rfl, rfl⟩, hS7⟩
            have hS8 := hS7.flats (l' := [_, _]) 1 rfl
            clear hS hS7
            go_wp2_with fail
            refine (hS8.beside (sameids_does _ _ _ _ ((hS8.rowAt 0 rfl).rd encId_len) ((hS8.rowAt 2 rfl).rd encId_len))).mono ?_
            rintro e w6 ⟨rfl, hS9⟩
            go_wp2_with fail
            go_ret
            exact ⟨rfl, hS9.bl⟩
  · have HG := As.mk hg
    clear hg
    go_enter Try.func5, Try.ntmps5
    go_wp2_with fail
    refine (alive_does w).mono ?_
    rintro e w1 ⟨rfl, hb⟩
    have hS1 := At.start0 hb
    clear hb
    go_wp2_with fail
    all_goals first | (exfalso; have := HG.out; omega) | (go_ret; exact ⟨rfl, hS1.bl⟩)
end Go.Proofs.Ytkfkacdiekpkfaa
