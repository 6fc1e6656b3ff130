/- SchedRemoves answers true for all numbers; no conditions. -/
import Derived.Test.YtkfkacdiekpkfaaX
namespace Go.Proofs.Ytkfkacdiekpkfaa
open Go.RowKit
attribute [local go_sem high] eq35
set_option maxRecDepth 100000 in
set_option maxHeartbeats 12800000 in
theorem removes_walk (n at_ gone : Int) (w : World) : Calls Try.prog 7 #[.int .i64 n, .int .i64 at_, .int .i64 gone] w fun e w' => e = .returned (.bool true) ∧ Below w.heap.size w w' := by
  by_cases hg : (2 ≤ n ∧ n ≤ 30) ∧ (0 ≤ at_ ∧ at_ < n) ∧ (0 ≤ gone ∧ gone < n)
  · obtain ⟨⟨g1, g2⟩, ⟨g3, g4⟩, g5, g6⟩ := hg
    obtain ⟨N, rfl⟩ : ∃ N : Nat, n = N := ⟨n.toNat, by omega⟩
    obtain ⟨c, rfl⟩ : ∃ c : Nat, at_ = c := ⟨at_.toNat, by omega⟩
    obtain ⟨g, rfl⟩ : ∃ g : Nat, gone = g := ⟨gone.toNat, by omega⟩
    have t1 : decide ((N : Int) < 2) = false := decide_eq_false (by omega)
    have t1' : decide (N < 2) = false := decide_eq_false (by omega)
    have t2 : decide (30 < (N : Int)) = false := decide_eq_false (by omega)
    have t2' : decide (30 < N) = false := decide_eq_false (by omega)
    have t3 : decide ((c : Int) < 0) = false := decide_eq_false (by omega)
    have t4 : decide ((N : Int) ≤ (c : Int)) = false := decide_eq_false (by omega)
    have t4' : decide (N ≤ c) = false := decide_eq_false (by omega)
    have t5 : decide ((g : Int) < 0) = false := decide_eq_false (by omega)
    have t6 : decide ((N : Int) ≤ (g : Int)) = false := decide_eq_false (by omega)
    have t6' : decide (N ≤ g) = false := decide_eq_false (by omega)
    have hN : 0 < N := by omega
    have hcN : c < N := by omega
    have hgN : g < N := by omega
    have r6 : ¬ (N : Int) = 0 := by omega
    have r7 : ((N : Int) == 0) = false := beq_eq_false_iff_ne.2 r6
    have r8 : ¬ N = 0 := by omega
    go_enter Try.func7, Try.ntmps7
    go_wp2_with fail
    refine (alive_does w).mono ?_
    rintro e w1 ⟨rfl, hb⟩
    have hS1 := At.start0 hb
    clear hb
    go_wp2_with fail
    refine (hS1.callNew new_does).mono ?_
    rintro e w2 ⟨B, ⟨p, rfl, rfl⟩, hS2⟩
    clear hS1
    go_wp2_with fail
    go_loopg [9] N (fun g iv wr => ∃ i : Nat, i + g = N ∧ iv = .int .i64 i ∧ At (fun _ => False) w wr (Hp.seps [isRg 51 p (idsN i) 0]))
    case atStart => exact ⟨0, by omega, rfl, hS2⟩
    case round =>
      clear hS2
      obtain ⟨i, hi, rfl, hS⟩ := hrel
      by_cases hlt : i < N
      · have HI := As.mk hi
        have HA := As.mk (add_new p (idsN i) 0 i 1 (pos_ids_new i) (by rw [idsN_len]; omega))
        clear hi
        go_wp2_with fail
        refine (hS.callAt 0 rfl HA.out).mono ?_
        rintro e w3 ⟨B, ⟨rfl, rfl⟩, hS3⟩
        clear hS
        go_wp2_with fail
        go_roundg (gk - 1)
        case measure => have := HI.out; omega
        case rel => exact ⟨i + 1, by have := HI.out; omega, by go_num, hS3⟩
      · obtain rfl : i = N := by omega
        clear hi
        have HV := As.mk (move_does p 0 (idsN i) (c : Int) (by rw [idsN_len]; exact hN) (by rw [idsN_len]; omega) (by omega))
        have HM : As (mv (idsN i).length 0 (c : Int) = c) := ⟨by unfold mv; rw [idsN_len]; simp only [Int.toNat_natCast, Nat.zero_add]; rw [Nat.mod_mod, Nat.mod_eq_of_lt hcN]⟩
        rw [HM.out] at HV
        have HD := As.mk (rm_some p (idsN i) c (i - 1) g g 1 (pos_ids i g hgN) (by omega) (by rw [idsN_len]; omega) (by omega) (by omega))
        have HK := As.mk (rm_ok i c g (by omega) hcN hgN)
        have HEl : As (((idsN i).eraseIdx g).length = i - 1) := ⟨by rw [List.length_eraseIdx, idsN_len, if_pos hgN]⟩
        have HRc : As (rmc (i - 1) g c ≤ i - 1) := ⟨by unfold rmc; split <;> (try split) <;> omega⟩
        go_wp2_with fail
        refine (hS.callAt 0 rfl HV.out).mono ?_
        rintro e w3 ⟨B, ⟨rfl, rfl⟩, hS3⟩
        clear hS
        go_wp2_with fail
        refine (hS3.callAt 0 rfl HD.out).mono ?_
        rintro e w4 ⟨B, ⟨rfl, rfl⟩, hS4⟩
        have hS5 := hS4.nilRow 35 2 encId
        clear hS3 hS4 HD HV
        go_wp2_with fail
        go_loopg [11, 12] i (fun g0 wv kv wr => ∃ k : Nat, k + g0 = i ∧ kv = .int .i64 k ∧ At (fun _ => False) w wr (Hp.seps [Hp.row 35 2 encId wv ((wantN i c g k).map fid), isRg 51 p ((idsN i).eraseIdx g) (rmc (i - 1) g c)]))
        case atStart => exact ⟨0, by omega, rfl, hS5⟩
        case round =>
          clear hS5
          obtain ⟨k, hk, rfl, hS⟩ := hrel
          obtain ⟨D, n0, cc, rfl⟩ := (hS.rowAt 0 rfl).slice
          by_cases hlt : k < i
          · have HI := As.mk hk
            have hwl := wantN_len i c g k
            have hsu := wantN_succ i c g k
            obtain ⟨q, hq⟩ : ∃ q, (c + k) % i = q := ⟨_, rfl⟩
            have hqi : q < i := hq ▸ Nat.mod_lt _ hN
            have r1 : ((c : Int) + (k : Int)).tmod (i : Int) = (q : Int) := by rw [Int.tmod_eq_emod_of_nonneg (by omega), ← hq]; rfl
            have r1' : ((c : Int) + (k : Int)) % (i : Int) = (q : Int) := by rw [← hq]; rfl
            rw [hq] at hsu
            have HSu := As.mk hsu
            have HWl := As.mk hwl
            clear hsu hwl hk hq
            by_cases hqg : q = g
            · have t8 : ((q : Int) != (g : Int)) = false := by simp [hqg]
              have t9 : (q != g) = false := by simp [hqg]
              have HSu2 : As (wantN i c g (k + 1) = wantN i c g k) := ⟨by rw [HSu.out, if_pos hqg, List.append_nil]⟩
              clear hqg
              go_wp2_with fail
              go_roundg (gk - 1)
              case measure => have := HI.out; omega
              case rel => exact ⟨k + 1, by have := HI.out; omega, by go_num, by rw [HSu2.out]; exact hS⟩
            · have t8 : ((q : Int) != (g : Int)) = true := by rw [bne_iff_ne]; omega
              have t9 : (q != g) = true := by rw [bne_iff_ne]; exact hqg
              have HSu2 : As ((wantN i c g (k + 1)).map fid = (wantN i c g k).map fid ++ [((q : Int), 1)]) := ⟨by rw [HSu.out, if_neg hqg, List.map_append]; rfl⟩
              clear hqg
              go_wp2_with (at_builtin; refine rw_append rfl (.tmp 74) (.tmp 77) 37 35 2 encId (.agg #[.int .i64 0, .int .i64 0]) 16 rfl Try.underlying37 Try.info35 rfl (by decide) (.slice D n0 cc) ((wantN i c g k).map fid) ((q : Int), 1) rfl _ rfl (by first | exact blk_new (by simp) | exact blk_new_drew (by simp)) ((hS.below (by repeat (first | exact Below.refl _ _ | refine bl_drewN ?_ _ | refine Below.drew ?_ | refine bl_alloc ?_ _ | refine bl_set ?_ (by first | (simp; done) | omega | (simp; omega)) _))).rowAt 0 rfl) encId_len (one_id _) ?c1 ?c2 ?c3)
              case c1 => rw [List.length_map]; have := HWl.out; simp only [maxLen]; omega
              case c2 => rw [List.length_map]; have := HWl.out; omega
              case c3 =>
                intro v1 w5 hA
                have hT := At.appendAt 0 hA hS rfl (by repeat (first | exact Below.refl _ _ | refine bl_drewN ?_ _ | refine Below.drew ?_ | refine bl_alloc ?_ _ | refine bl_set ?_ (by first | (simp; done) | omega | (simp; omega)) _))
                clear hA hS
                go_wp2_with fail
                go_roundg (gk - 1)
                case measure => have := HI.out; omega
                case rel => exact ⟨k + 1, by have := HI.out; omega, by go_num, by rw [HSu2.out]; exact hT⟩
          · obtain rfl : k = i := by omega
            have HL := As.mk (list_rot p ((idsN k).eraseIdx g) (rmc (k - 1) g c) (by rw [HEl.out]; exact HRc.out) (by rw [HEl.out]; omega))
            rw [HK.out] at HL
            go_wp2_with fail
            refine (hS.callAt 1 rfl HL.out).mono ?_
            rintro e w5 ⟨B, ⟨v, rfl, rfl⟩, hS7⟩
            have hS8 := hS7.flats (l' := [_, _]) 1 rfl
            clear hS hS7
            go_wp2_with fail
            refine (hS8.beside (sameids_does _ _ _ _ ((hS8.rowAt 0 rfl).rd encId_len) ((hS8.rowAt 2 rfl).rd encId_len))).mono ?_
            rintro e w6 ⟨rfl, hS9⟩
            go_wp2_with fail
            go_ret
            exact ⟨rfl, hS9.bl⟩
  · have HG := As.mk hg
    clear hg
    go_enter Try.func7, Try.ntmps7
    go_wp2_with fail
    refine (alive_does w).mono ?_
    rintro e w1 ⟨rfl, hb⟩
    have hS1 := At.start0 hb
    clear hb
    go_wp2_with fail
    all_goals first | (exfalso; have := HG.out; omega) | (go_ret; exact ⟨rfl, hS1.bl⟩)
end Go.Proofs.Ytkfkacdiekpkfaa
