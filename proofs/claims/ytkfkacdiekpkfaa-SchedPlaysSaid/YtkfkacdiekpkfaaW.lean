/- A ring: Remove. -/
import Derived.Test.YtkfkacdiekpkfaaV
namespace Go.Proofs.Ytkfkacdiekpkfaa
open Go.RowKit
set_option maxHeartbeats 3200000 in
theorem rm_none (p : Nat) (xs : List (Int × Int)) (cur : Nat) (a b : Int) (hm : pos xs (a, b) = -1) : Does Try.prog 19 #[.pointer (some ⟨p, 0, none⟩), .agg #[.int .i64 a, .int .i64 b]] (isRg 51 p xs cur) (fun e B => e = .returned (.bool false) ∧ B = isRg 51 p xs cur) := by
  refine Does.of fun w F hS => ?_
  obtain ⟨sA, sc, hsc, hn, hS⟩ := rg_open hS
  have hS := hS.alloc #[.int .i64 a, .int .i64 b] 35
  obtain ⟨r, hr⟩ : ∃ r, r = w.heap.size := ⟨_, rfl⟩
  obtain ⟨W, hW⟩ : ∃ W, W = w.alloc (.cells #[.int .i64 a, .int .i64 b] 35) := ⟨_, rfl⟩
  rw [← hW, ← hr] at hS
  have HW := As.mk hW
  have HQ := As.mk hr
  have HC := As.mk (fun W hr => index_does (.slice sA xs.length sc) xs a b W hr)
  rw [hm] at HC
  clear hW hr hm hsc
  go_enter Try.func19, Try.ntmps19
  go_wp2
  rw [← HW.out, ← HQ.out]
  clear HW HQ
  have r0 := (hS.cellAt 0 rfl 0).trans rfl
  have r1 := (hS.cellAt 0 rfl 1).trans rfl
  have p0 := (hS.cellAt 1 rfl 0).trans rfl
  have p1 := (hS.cellAt 1 rfl 1).trans rfl
  go_still_tail 5, (by kernel_rfl)
  go_wp2_with fail
  refine (hS.drew.beside (HC.out _ ((hS.drew.rowAt 2 rfl).rd encId_len))).mono ?_
  rintro e w1 ⟨rfl, hS1⟩
  go_wp2_with fail
  go_ret
  exact At.post (rg_close (hS1.sel [1, 1])) ⟨rfl, rfl⟩
/-- Where the cursor is, one at i gone of a ring that has L left. -/
def rmc (L i cur : Nat) : Nat := if (if i < cur then cur - 1 else cur) = L then 0 else (if i < cur then cur - 1 else cur)
set_option maxHeartbeats 6400000 in
theorem rm_some (p : Nat) (xs : List (Int × Int)) (cur L i : Nat) (a b : Int) (hm : pos xs (a, b) = (i : Nat)) (hi : i < L + 1) (hL : xs.length = L + 1) (hl : L ≤ 50000) (hc : cur ≤ L) : Does Try.prog 19 #[.pointer (some ⟨p, 0, none⟩), .agg #[.int .i64 a, .int .i64 b]] (isRg 51 p xs cur) (fun e B => e = .returned (.bool true) ∧ B = isRg 51 p (xs.eraseIdx i) (rmc L i cur)) := by
  refine Does.of fun w F hS => ?_
  obtain ⟨sA, sc, hsc, hn, hS⟩ := rg_open hS
  have hS := hS.alloc #[.int .i64 a, .int .i64 b] 35
  obtain ⟨r, hr⟩ : ∃ r, r = w.heap.size := ⟨_, rfl⟩
  obtain ⟨W, hW⟩ : ∃ W, W = w.alloc (.cells #[.int .i64 a, .int .i64 b] 35) := ⟨_, rfl⟩
  rw [← hW, ← hr] at hS
  have HW := As.mk hW
  have HQ := As.mk hr
  have HC := As.mk (fun W hr => index_does (.slice sA xs.length sc) xs a b W hr)
  rw [hm] at HC
  rw [hL] at HC hS
  have HD := As.mk (delete_does sA sc L i xs hL hi hl)
  have q0 : decide ((i : Int) < 0) = false := decide_eq_false (by omega)
  have q1 : (i : Int) + 1 ≤ 9223372036854775807 := by omega
  clear hW hr hm hsc hn
  go_enter Try.func19, Try.ntmps19
  go_wp2
  rw [← HW.out, ← HQ.out]
  clear HW HQ
  have r0 := (hS.cellAt 0 rfl 0).trans rfl
  have r1 := (hS.cellAt 0 rfl 1).trans rfl
  have p0 := (hS.cellAt 1 rfl 0).trans rfl
  have p1 := (hS.cellAt 1 rfl 1).trans rfl
  go_still_tail 5, (by kernel_rfl)
  go_wp2_with fail
  refine (hS.drew.beside (HC.out _ ((hS.drew.rowAt 2 rfl).rd encId_len))).mono ?_
  rintro e w1 ⟨rfl, hS1⟩
  clear r0 r1 p0 p1 hS HC
  have p0 := (hS1.cellAt 1 rfl 0).trans rfl
  have p1 := (hS1.cellAt 1 rfl 1).trans rfl
  have plt := hS1.ltAt 1 rfl
  go_wp2_with fail
  refine (hS1.callAt 2 rfl HD.out).mono ?_
  rintro e w2 ⟨B, ⟨rfl, rfl⟩, hS2⟩
  clear p0 p1 plt hS1 HD
  have p0 := (hS2.cellAt 1 rfl 0).trans rfl
  have p1 := (hS2.cellAt 1 rfl 1).trans rfl
  have pf0 := hS2.frozenAt 1 rfl 0
  have pf1 := hS2.frozenAt 1 rfl 1
  have plt := hS2.ltAt 1 rfl
  have hS3 := hS2.setBlkAt 1 rfl 0 (.slice sA L sc)
  have HLn : As ((xs.eraseIdx i).length = L) := ⟨by rw [List.length_eraseIdx, hL, if_pos hi]; omega⟩
  by_cases h1 : i < cur
  · obtain ⟨k, rfl⟩ : ∃ k, cur = k + 1 := ⟨cur - 1, by omega⟩
    have HRm : As (rmc L i (k + 1) = k) := ⟨by unfold rmc; rw [if_pos h1, Nat.add_sub_cancel, if_neg (by omega)]⟩
    have d0 : decide ((i : Int) < (k : Int) + 1) = true := decide_eq_true (by omega)
    have d1 : decide (i < k + 1) = true := decide_eq_true h1
    have t0 : ((k : Int) == (L : Int)) = false := beq_eq_false_iff_ne.2 (by omega)
    have t1 : (k == L) = false := beq_eq_false_iff_ne.2 (by omega)
    have hS4 := hS3.setBlkAt 1 rfl 1 (.int .i64 (k : Nat))
    clear h1 hS3 hS2
    go_wp2_with fail
    go_quiet (fail)
    go_wp2_with fail
    go_ret
    exact At.post (rg_close ((hS4.sel [1, 1]).below (by repeat (first | exact Below.refl _ _ | refine bl_drewN ?_ _ | refine Below.drew ?_ | refine bl_alloc ?_ _ | refine bl_set ?_ (by first | (simp; done) | omega | (simp; omega)) _)))) ⟨rfl, by rw [HRm.out]⟩
  · have d0 : decide ((i : Int) < (cur : Int)) = false := decide_eq_false (by omega)
    have d1 : decide (i < cur) = false := decide_eq_false h1
    by_cases h2 : cur = L
    · have HRm : As (rmc L i cur = 0) := ⟨by unfold rmc; rw [if_neg h1, if_pos h2]⟩
      have t0 : ((cur : Int) == (L : Int)) = true := by rw [beq_iff_eq]; omega
      have t1 : (cur == L) = true := by rw [beq_iff_eq]; exact h2
      clear h1 h2 hS2
      go_wp2_with fail
      go_quiet (fail)
      go_wp2_with fail
      go_ret
      exact At.post (rg_close (((hS3.drewN _).setBlkAt 1 rfl 1 (.int .i64 (0 : Nat))).sel [1, 1])) ⟨rfl, by rw [HRm.out]⟩
    · have HRm : As (rmc L i cur = cur) := ⟨by unfold rmc; rw [if_neg h1, if_neg h2]⟩
      have t0 : ((cur : Int) == (L : Int)) = false := beq_eq_false_iff_ne.2 (by omega)
      have t1 : (cur == L) = false := beq_eq_false_iff_ne.2 h2
      clear h1 h2 hS2
      go_wp2_with fail
      go_quiet (fail)
      go_wp2_with fail
      go_ret
      exact At.post (rg_close ((hS3.sel [1, 1]).below (by repeat (first | exact Below.refl _ _ | refine bl_drewN ?_ _ | refine Below.drew ?_ | refine bl_alloc ?_ _ | refine bl_set ?_ (by first | (simp; done) | omega | (simp; omega)) _)))) ⟨rfl, by rw [HRm.out]⟩
end Go.Proofs.Ytkfkacdiekpkfaa
