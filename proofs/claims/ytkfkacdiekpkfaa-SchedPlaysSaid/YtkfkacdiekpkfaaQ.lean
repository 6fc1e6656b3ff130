/- The reference's ring: place, Add, Move. -/
import Derived.Test.YtkfkacdiekpkfaaW
namespace Go.Proofs.Ytkfkacdiekpkfaa
open Go.RowKit
attribute [local go_sem high] eq35
set_option maxHeartbeats 3200000 in
theorem place_does (p : Nat) (xs : List (Int × Int)) (cur : Nat) (a b : Int) : Does Try.prog 27 #[.pointer (some ⟨p, 0, none⟩), .agg #[.int .i64 a, .int .i64 b]] (isRg 44 p xs cur) (fun e B => e = .returned (.int .i64 (pos xs (a, b))) ∧ B = isRg 44 p xs cur) := by
  refine Does.of fun w F hS => ?_
  obtain ⟨sA, sc, hsc, hn, hS⟩ := rg_open hS
  have hS := hS.alloc #[.int .i64 a, .int .i64 b] 35
  obtain ⟨q, hq⟩ : ∃ q, q = w.heap.size := ⟨_, rfl⟩
  rw [← hq] at hS
  have HQ := As.mk hq
  generalize hr : pos xs (a, b) = r
  have HR := As.mk hr
  clear hq hr
  go_enter Try.func27, Try.ntmps27
  go_wp2
  rw [← HQ.out]
  clear HQ
  go_loopw [5] (fun iv wr => ∃ k : Nat, k ≤ xs.length ∧ iv = .int .i64 k ∧ As (posF (xs.drop k) (a, b) k = r) ∧ At F w wr (Hp.seps [Hp.blk q #[.int .i64 a, .int .i64 b] 35, Hp.blk p #[.slice sA xs.length sc, .int .i64 (cur : Nat)] 44, Hp.row 35 2 encId (.slice sA xs.length sc) xs])) (fun iv _ => xs.length - (intOf iv).toNat)
  case atStart => exact ⟨0, by omega, rfl, HR, hS⟩
  case round =>
    clear hS HR
    obtain ⟨k, hk, rfl, HP, hS⟩ := hrel
    have p0 := (hS.cellAt 1 rfl 0).trans rfl
    have p1 := (hS.cellAt 1 rfl 1).trans rfl
    by_cases hlt : k < xs.length
    · obtain ⟨y, hy⟩ : ∃ y, xs[k]? = some y := ⟨_, List.getElem?_eq_getElem hlt⟩
      obtain ⟨g, rfl, hgl, hcell⟩ := (hS.rowAt 2 rfl).cell encId_len k y hy
      have c0 := (hcell 0 (by omega)).1
      have c1 := (hcell 1 (by omega)).1
      obtain ⟨y1, y2⟩ := y
      simp only [encId, List.getElem?_cons_zero, List.getElem?_cons_succ, Nat.add_zero] at c0 c1
      have q0 := (hS.cellAt 0 rfl 0).trans rfl
      have q1 := (hS.cellAt 0 rfl 1).trans rfl
      have m1 : (k : Int) < (xs.length : Int) := by omega
      have hd : posF (xs.drop k) (a, b) k = if (y1, y2) = (a, b) then (k : Int) else posF (xs.drop (k + 1)) (a, b) (k + 1) := by
        rw [List.drop_eq_getElem_cons hlt]
        have : xs[k] = (y1, y2) := (List.getElem?_eq_some_iff.1 hy).2
        rw [this]; rfl
      have HX := As.mk (hd.symm.trans HP.out)
      clear hcell hy hd HP
      by_cases he : (y1, y2) = (a, b)
      · obtain ⟨rfl, rfl⟩ := Prod.mk.inj he
        have HX2 : As ((k : Int) = r) := ⟨by have := HX.out; rwa [if_pos he] at this⟩
        clear HX he
        go_wp2
        go_quiet (fail)
        go_wp2
        go_ret
        exact At.post (rg_close ((hS.sel [1, 1]).below (by repeat (first | exact Below.refl _ _ | refine bl_drewN ?_ _ | refine Below.drew ?_ | refine bl_alloc ?_ _ | refine bl_set ?_ (by first | (simp; done) | omega | (simp; omega)) _)))) ⟨ret_i HX2.out, rfl⟩
      · have t0 : (y1 == a && y2 == b) = false := by
          simp only [Prod.mk.injEq] at he
          simp only [Bool.and_eq_false_iff, beq_eq_false_iff_ne, ne_eq]
          omega
        have HX2 : As (posF (xs.drop (k + 1)) (a, b) (k + 1) = r) := ⟨by have := HX.out; rwa [if_neg he] at this⟩
        clear HX he
        go_wp2
        go_quiet (fail)
        go_wp2
        exact ⟨⟨k + 1, by omega, by go_num, HX2, hS.below (by repeat (first | exact Below.refl _ _ | refine bl_drewN ?_ _ | refine Below.drew ?_ | refine bl_alloc ?_ _ | refine bl_set ?_ (by first | (simp; done) | omega | (simp; omega)) _))⟩, by simp [intOf]; omega⟩
    · obtain rfl : k = xs.length := by omega
      have HX : As ((-1 : Int) = r) := ⟨by have := HP.out; rwa [List.drop_length] at this⟩
      go_wp2
      go_ret
      exact At.post (rg_close (hS.sel [1, 1])) ⟨ret_i HX.out, rfl⟩
set_option maxHeartbeats 3200000 in
theorem radd_old (p : Nat) (xs : List (Int × Int)) (cur : Nat) (a b : Int) (hm : 0 ≤ pos xs (a, b)) : Does Try.prog 18 #[.pointer (some ⟨p, 0, none⟩), .agg #[.int .i64 a, .int .i64 b]] (isRg 44 p xs cur) (fun e B => e = .returned (.bool false) ∧ B = isRg 44 p xs cur) := by
  refine Does.of fun w F hS => ?_
  have hS := hS.toL.alloc #[.int .i64 a, .int .i64 b] 35
  have HP := As.mk (place_does p xs cur a b)
  generalize pos xs (a, b) = q at *
  have t0 : decide (0 ≤ q) = true := decide_eq_true hm
  go_enter Try.func18, Try.ntmps18
  go_wp2_with fail
  refine (hS.callAt 1 rfl HP.out).mono ?_
  rintro e w1 ⟨B, ⟨rfl, rfl⟩, hS1⟩
  go_wp2_with fail
  go_ret
  exact At.post (hS1.one 1 rfl) ⟨rfl, rfl⟩
set_option maxHeartbeats 6400000 in
theorem radd_new (p : Nat) (xs : List (Int × Int)) (cur : Nat) (a b : Int) (hm : ¬ 0 ≤ pos xs (a, b)) (hl : xs.length ≤ 100000) : Does Try.prog 18 #[.pointer (some ⟨p, 0, none⟩), .agg #[.int .i64 a, .int .i64 b]] (isRg 44 p xs cur) (fun e B => e = .returned (.bool true) ∧ B = isRg 44 p (xs ++ [(a, b)]) cur) := by
  refine Does.of fun w F hS => ?_
  have hS := hS.toL.alloc #[.int .i64 a, .int .i64 b] 35
  have HP := As.mk (place_does p xs cur a b)
  generalize pos xs (a, b) = q at *
  have t0 : decide (0 ≤ q) = false := decide_eq_false hm
  have HM := As.mk hm
  clear hm
  go_enter Try.func18, Try.ntmps18
  go_wp2_with fail
  refine (hS.callAt 1 rfl HP.out).mono ?_
  rintro e w1 ⟨B, ⟨rfl, rfl⟩, hS1⟩
  obtain ⟨sA, sc, hsc, hn, hS1⟩ := rg_openL (hS1.sel [1, 0])
  clear hS hsc
  have r0 := (hS1.cellAt 2 rfl 0).trans rfl
  have r1 := (hS1.cellAt 2 rfl 1).trans rfl
  have rlt := hS1.ltAt 2 rfl
  have p0 := (hS1.cellAt 0 rfl 0).trans rfl
  have p1 := (hS1.cellAt 0 rfl 1).trans rfl
  have plt := hS1.ltAt 0 rfl
  go_wp2_with fail
  go_region_law (refine rw_append_step rfl (.tmp 13) (.tmp 15) 37 35 2 encId (.agg #[.int .i64 0, .int .i64 0]) 16 rfl Try.underlying37 Try.info35 rfl (by decide) (.slice sA xs.length sc) xs (a, b) rfl _ rfl (by first | exact blk_new (by simp) | exact blk_new_drew (by simp) | exact (blk_new_drewN (by simp))) ((hS1.below (by repeat (first | exact Below.refl _ _ | refine bl_drewN ?_ _ | refine Below.drew ?_ | refine bl_alloc ?_ _ | refine bl_set ?_ (by first | (simp; done) | omega | (simp; omega)) _))).rowAt 1 rfl) encId_len (one_id _) ?_ ?_ ?_; (simp only [maxLen]; omega); omega; intro v1 w2 hA; obtain ⟨A1, n1, c1, rfl⟩ := hA.row.slice; have hS2 := At.appendAt 1 hA hS1 rfl (by repeat (first | exact Below.refl _ _ | refine bl_drewN ?_ _ | refine Below.drew ?_ | refine bl_alloc ?_ _ | refine bl_set ?_ (by first | (simp; done) | omega | (simp; omega)) _)); clear hA; have p0 := (hS2.cellAt 0 rfl 0).trans rfl; have f0 := hS2.frozenAt 0 rfl 0; have plt := hS2.ltAt 0 rfl)
  all_goals
    have hS3 := (hS2.setBlkAt 0 rfl 0 (.slice A1 n1 c1)).sel [0, 0]
    go_wp2
    go_ret
    exact At.post (rg_close hS3) ⟨rfl, rfl⟩
end Go.Proofs.Ytkfkacdiekpkfaa
