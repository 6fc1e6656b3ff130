/- The reference's ring: Move, List. -/
import Derived.Test.YtkfkacdiekpkfaaQ
namespace Go.Proofs.Ytkfkacdiekpkfaa
open Go.RowKit
set_option maxHeartbeats 3200000 in
theorem rmove_neg (p cur : Nat) (xs : List (Int × Int)) (n : Int) (hn : ¬ 0 < n) : Does Try.prog 21 #[.pointer (some ⟨p, 0, none⟩), .int .i64 n] (isRg 44 p xs cur) (fun e B => e = .returned (.tuple #[]) ∧ B = isRg 44 p xs cur) := by
  refine Does.of fun w F hS => ?_
  have t0 : decide (0 < n) = false := decide_eq_false hn
  have HN := As.mk hn
  clear hn
  go_enter Try.func21, Try.ntmps21
  go_wp2
  all_goals first | (exfalso; exact HN.out (by assumption)) | (go_end0; exact At.post hS ⟨rfl, rfl⟩)
set_option maxHeartbeats 3200000 in
theorem rmove_nil (p cur : Nat) (n : Int) : Does Try.prog 21 #[.pointer (some ⟨p, 0, none⟩), .int .i64 n] (isRg 44 p [] cur) (fun e B => e = .returned (.tuple #[]) ∧ B = isRg 44 p [] cur) := by
  by_cases hn : 0 < n
  · refine Does.of fun w F hS => ?_
    obtain ⟨sA, sc, hsc, hn', hS⟩ := rg_open hS
    have t0 : decide (0 < n) = true := decide_eq_true hn
    have p0 := (hS.cellAt 0 rfl 0).trans rfl
    have p1 := (hS.cellAt 0 rfl 1).trans rfl
    go_enter Try.func21, Try.ntmps21
    go_wp2
    go_end0
    exact At.post (rg_close hS) ⟨rfl, rfl⟩
  · exact rmove_neg p cur [] n hn
set_option maxHeartbeats 3200000 in
theorem rmove_does (p cur : Nat) (xs : List (Int × Int)) (k : Nat) (hp : 0 < (k : Int)) (hkm : (k : Int) ≤ 9223372036854775807) (h0 : 0 < xs.length) (hl : xs.length ≤ 50000) (hc : cur ≤ xs.length) : Does Try.prog 21 #[.pointer (some ⟨p, 0, none⟩), .int .i64 (k : Nat)] (isRg 44 p xs cur) (fun e B => e = .returned (.tuple #[]) ∧ B = isRg 44 p xs (mv xs.length cur (k : Nat))) := by
  refine Does.of fun w F hS => ?_
  obtain ⟨sA, sc, hsc, hn, hS⟩ := rg_open hS
  have p0 := (hS.cellAt 0 rfl 0).trans rfl
  have p1 := (hS.cellAt 0 rfl 1).trans rfl
  have f1 := hS.frozenAt 0 rfl 1
  have plt := hS.ltAt 0 rfl
  obtain ⟨L, hL⟩ : ∃ L, xs.length = L := ⟨_, rfl⟩
  have HR : As (isRg 44 p xs (mv xs.length cur (k : Nat)) = isRg 44 p xs (mv L cur (k : Nat))) := ⟨by rw [hL]⟩
  rw [hL] at h0 hl hc hsc hn p0
  have d0 : decide ((0 : Int) < (L : Int)) = true := decide_eq_true (by omega)
  have d1 : decide (0 < L) = true := decide_eq_true h0
  have d2 : decide ((0 : Int) < (k : Int)) = true := decide_eq_true hp
  have d3 : decide (0 < k) = true := decide_eq_true (by omega)
  have HL := As.mk hL
  clear hL
  obtain ⟨a, ha⟩ : ∃ a, k % L = a := ⟨_, rfl⟩
  obtain ⟨b, hb⟩ : ∃ b, (cur + a) % L = b := ⟨_, rfl⟩
  have hal : a < L := ha ▸ Nat.mod_lt _ h0
  have hbl : b < L := hb ▸ Nat.mod_lt _ h0
  have HM : As (mv L cur (k : Nat) = b) := ⟨by unfold mv; rw [← hb, ← ha]; simp⟩
  have r1 : (k : Int).tmod (L : Int) = (a : Int) := by rw [Int.tmod_eq_emod_of_nonneg (by omega), ← ha]; rfl
  have r1' : (k : Int) % (L : Int) = (a : Int) := by rw [← ha]; rfl
  have r2 : ((cur : Int) + (a : Int)).tmod (L : Int) = (b : Int) := by rw [Int.tmod_eq_emod_of_nonneg (by omega), ← hb]; rfl
  have r2' : ((cur : Int) + (a : Int)) % (L : Int) = (b : Int) := by rw [← hb]; rfl
  have r3 : IntKind.i64.wrap ((cur : Int) + (a : Int)) = (cur : Int) + (a : Int) := IntWalk.i64_in _ (by omega)
  have r4 : IntKind.i64.wrap (a : Int) = (a : Int) := IntWalk.i64_in _ (by omega)
  have r5 : IntKind.i64.wrap (b : Int) = (b : Int) := IntWalk.i64_in _ (by omega)
  have r6 : ¬ (L : Int) = 0 := by omega
  have r7 : ((L : Int) == 0) = false := beq_eq_false_iff_ne.2 r6
  have r8 : ¬ L = 0 := by omega
  clear ha hb
  go_enter Try.func21, Try.ntmps21
  go_wp2
  go_still_tail 21, (by kernel_rfl)
  go_wp2_with fail
  go_end0
  exact At.post (rg_close (hS.setBlkAt 0 rfl 1 (.int .i64 (b : Nat))).drew) ⟨rfl, by rw [HR.out, HM.out]⟩
set_option maxHeartbeats 6400000 in
theorem rlist_does (p : Nat) (xs : List (Int × Int)) (cur : Nat) (hc : cur < xs.length ∨ xs = []) (hl : xs.length ≤ 50000) : Does Try.prog 22 #[.pointer (some ⟨p, 0, none⟩)] (isRg 44 p xs cur) (fun e B => ∃ v, e = .returned v ∧ B = Hp.seps [Hp.row 35 2 encId v (rotL xs cur), isRg 44 p xs cur]) := by
  refine Does.of fun w F hS => ?_
  obtain ⟨L, hL⟩ : ∃ L, xs.length = L := ⟨_, rfl⟩
  have hS1 := hS.toL.nilRow 35 2 encId
  have HL := As.mk hL
  have HC := As.mk hc
  rw [hL] at hl
  clear hL hS hc
  obtain ⟨sA, sc, hsc, hn, hS⟩ := rg_openL (hS1.sel [1, 0])
  rw [HL.out] at hsc hS
  clear hS1 hn
  have p0 := (hS.cellAt 0 rfl 0).trans rfl
  have p1 := (hS.cellAt 0 rfl 1).trans rfl
  go_enter Try.func22, Try.ntmps22
  go_wp2
  go_loopg [3, 4] L (fun g v iv wr => ∃ i : Nat, i + g = L ∧ iv = .int .i64 i ∧ At F w wr (Hp.seps [Hp.blk p #[.slice sA L sc, .int .i64 (cur : Nat)] 44, Hp.row 35 2 encId (.slice sA L sc) xs, Hp.row 35 2 encId v ((rotL xs cur).take i)]))
  case atStart => exact ⟨0, by omega, rfl, hS⟩
  case round =>
    clear hS p0 p1
    obtain ⟨i, hi, rfl, hS⟩ := hrel
    have p0 := (hS.cellAt 0 rfl 0).trans rfl
    have p1 := (hS.cellAt 0 rfl 1).trans rfl
    obtain ⟨D, n0, cc, rfl⟩ := (hS.rowAt 2 rfl).slice
    by_cases hlt : i < L
    · have HI := As.mk hi
      have hcL : cur < L := by
        rcases HC.out with h | h
        · have := HL.out; omega
        · have := HL.out; rw [h] at this; simp at this; omega
      obtain ⟨q, hq⟩ : ∃ q, (cur + i) % L = q := ⟨_, rfl⟩
      have hqL : q < L := hq ▸ Nat.mod_lt _ (by omega)
      have hL2 := HL.out
      obtain ⟨y, hy⟩ : ∃ y, xs[q]? = some y := ⟨_, List.getElem?_eq_getElem (by omega)⟩
      have hrot : (rotL xs cur)[i]? = some y := by rw [rotL_get xs cur i (by omega) (by omega), hL2, hq]; exact hy
      have HT : As ((rotL xs cur).take (i + 1) = (rotL xs cur).take i ++ [y]) := ⟨by
        obtain ⟨hi', rfl⟩ := List.getElem?_eq_some_iff.1 hrot
        exact List.take_succ_eq_append_getElem hi'⟩
      have HTl : As (((rotL xs cur).take i).length ≤ i) := ⟨List.length_take_le _ _⟩
      obtain ⟨g, rfl, hgl, hcell⟩ := (hS.rowAt 1 rfl).cell encId_len q y hy
      have c0 := (hcell 0 (by omega)).1
      have c1 := (hcell 1 (by omega)).1
      obtain ⟨y1, y2⟩ := y
      simp only [encId, List.getElem?_cons_zero, List.getElem?_cons_succ, Nat.add_zero] at c0 c1
      have r2 : ((cur : Int) + (i : Int)).tmod (L : Int) = (q : Int) := by rw [Int.tmod_eq_emod_of_nonneg (by omega), ← hq]; rfl
      have r2' : ((cur : Int) + (i : Int)) % (L : Int) = (q : Int) := by rw [← hq]; rfl
      have r3 : IntKind.i64.wrap ((cur : Int) + (i : Int)) = (cur : Int) + (i : Int) := IntWalk.i64_in _ (by omega)
      have r5 : IntKind.i64.wrap (q : Int) = (q : Int) := IntWalk.i64_in _ (by omega)
      have r6 : ¬ (L : Int) = 0 := by omega
      have r7 : ((L : Int) == 0) = false := beq_eq_false_iff_ne.2 r6
      have r8 : ¬ L = 0 := by omega
      have m1 : (q : Int) < (L : Int) := by omega
      have m2 : (0 : Int) ≤ (q : Int) := by omega
      clear hcell hy hrot hq hi hL2
      go_wp2_with fail
      go_region_law (refine rw_append_step rfl (.tmp 14) (.tmp 33) 37 35 2 encId (.agg #[.int .i64 0, .int .i64 0]) 16 rfl Try.underlying37 Try.info35 rfl (by decide) (.slice D n0 cc) ((rotL xs cur).take i) (y1, y2) rfl _ rfl (by first | exact blk_new (by simp) | exact blk_new_drew (by simp) | exact (blk_new_drewN (by simp))) ((hS.below (by repeat (first | exact Below.refl _ _ | refine bl_drewN ?_ _ | refine Below.drew ?_ | refine bl_alloc ?_ _ | refine bl_set ?_ (by first | (simp; done) | omega | (simp; omega)) _))).rowAt 2 rfl) encId_len (one_id _) ?_ ?_ ?_; (have := HTl.out; simp only [maxLen]; omega); (have := HTl.out; omega); intro v1 w2 hA; have hT := At.appendAt 2 hA hS rfl (by repeat (first | exact Below.refl _ _ | refine bl_drewN ?_ _ | refine Below.drew ?_ | refine bl_alloc ?_ _ | refine bl_set ?_ (by first | (simp; done) | omega | (simp; omega)) _)); clear hA)
      all_goals
        go_wp2_with fail
        go_roundg (gk - 1)
        case measure => have := HI.out; omega
        case rel => exact ⟨i + 1, by have := HI.out; omega, by go_num, by rw [HT.out]; exact hT⟩
    · obtain rfl : i = L := by omega
      have HT : As ((rotL xs cur).take i = rotL xs cur) := ⟨List.take_of_length_le (by
        unfold rotL
        rw [List.length_append, List.length_drop, List.length_take]
        have := HL.out
        omega)⟩
      rw [HT.out] at hS
      go_wp2_with fail
      go_ret
      exact At.post ((rg_closeL hS).sel [1, 0]) ⟨_, rfl, rfl⟩
end Go.Proofs.Ytkfkacdiekpkfaa
