/- The reference's ring: Remove. -/
import Derived.Test.YtkfkacdiekpkfaaY
namespace Go.Proofs.Ytkfkacdiekpkfaa
open Go.RowKit
set_option maxHeartbeats 3200000 in
theorem rrm_none (p : Nat) (xs : List (Int × Int)) (cur : Nat) (a b : Int) (hm : pos xs (a, b) = -1) : Does Try.prog 20 #[.pointer (some ⟨p, 0, none⟩), .agg #[.int .i64 a, .int .i64 b]] (isRg 44 p xs cur) (fun e B => e = .returned (.bool false) ∧ B = isRg 44 p xs cur) := by
  refine Does.of fun w F hS => ?_
  have hS := hS.toL.alloc #[.int .i64 a, .int .i64 b] 35
  have HP := As.mk (place_does p xs cur a b)
  rw [hm] at HP
  clear hm
  go_enter Try.func20, Try.ntmps20
  go_wp2_with fail
  refine (hS.callAt 1 rfl HP.out).mono ?_
  rintro e w1 ⟨B, ⟨rfl, rfl⟩, hS1⟩
  go_wp2_with fail
  go_ret
  exact At.post (hS1.one 1 rfl) ⟨rfl, rfl⟩
set_option maxHeartbeats 12800000 in
theorem rrm_some (p : Nat) (xs : List (Int × Int)) (cur L i : Nat) (a b : Int) (hm : pos xs (a, b) = (i : Nat)) (hi : i < L + 1) (hL : xs.length = L + 1) (hl : L ≤ 50000) (hc : cur ≤ L) : Does Try.prog 20 #[.pointer (some ⟨p, 0, none⟩), .agg #[.int .i64 a, .int .i64 b]] (isRg 44 p xs cur) (fun e B => e = .returned (.bool true) ∧ B = isRg 44 p (xs.eraseIdx i) (rmc L i cur)) := by
  refine Does.of fun w F hS => ?_
  have hS := hS.toL.alloc #[.int .i64 a, .int .i64 b] 35
  have HP := As.mk (place_does p xs cur a b)
  rw [hm] at HP
  have q0 : decide ((i : Int) < 0) = false := decide_eq_false (by omega)
  have q1 : (i : Int) + 1 ≤ 9223372036854775807 := by omega
  clear hm
  go_enter Try.func20, Try.ntmps20
  go_wp2_with fail
  refine (hS.callAt 1 rfl HP.out).mono ?_
  rintro e w1 ⟨B, ⟨rfl, rfl⟩, hS1⟩
  obtain ⟨sA, sc, hsc, hn, hS1⟩ := rg_openL (hS1.sel [1, 0])
  obtain ⟨A, hA, HR⟩ := rw_tail 35 2 encId encId_len (i + 1) sA sc xs (by omega)
  rw [hL] at hS1 hsc HR
  rw [Nat.add_sub_add_right] at HR
  have EL : As ((xs.drop (i + 1)).length = L - i) := ⟨by rw [List.length_drop]; omega⟩
  have HX := As.mk hL
  have HLn : As ((xs.eraseIdx i).length = L) := ⟨by rw [List.length_eraseIdx, hL, if_pos hi]; omega⟩
  clear hS HP hn hL
  have p0 := (hS1.cellAt 0 rfl 0).trans rfl
  have p1 := (hS1.cellAt 0 rfl 1).trans rfl
  have plt := hS1.ltAt 0 rfl
  have m2 : (i : Int) + 1 ≤ (L : Int) + 1 := by omega
  have m4 : (i : Int) ≤ (sc : Int) := by omega
  have m7 : (0 : Int) ≤ (i : Int) + 1 := by omega
  have m8 : ((i : Int) + 1).toNat = i + 1 := by omega
  have m9 : IntKind.i64.wrap ((i : Int) + 1) = (i : Int) + 1 := IntWalk.i64_in _ (by omega)
  go_wp2_with fail
  go_region_law (first | (refine rw_appendL_step rfl (.const (.slice none 0 0)) (.tmp 17) 37 35 2 encId (.agg #[.int .i64 0, .int .i64 0]) 16 rfl Try.underlying37 Try.info35 rfl (by decide) (.slice none 0 0) (.slice sA i sc) ([] : List (Int × Int)) (xs.take i) rfl rfl ((((hS1.below (by repeat (first | exact Below.refl _ _ | refine bl_drewN ?_ _ | refine Below.drew ?_ | refine bl_alloc ?_ _ | refine bl_set ?_ (by first | (simp; done) | omega | (simp; omega)) _))).rowAt 1 rfl).rd encId_len).take i (by rw [HX.out]; omega)) (Rw.nil _ _ _ _) encId_len one_id ?_ ?_ ?_; (rw [List.length_take]; simp only [maxLen, List.length_nil]; omega); (rw [List.length_take]; simp only [List.length_nil]; omega); intro v18 w18 hA; obtain ⟨A18, n18, c18, rfl⟩ := hA.row.slice; have hT := At.appendLAt 0 hA (hS1.nilRow 35 2 encId) rfl (by repeat (first | exact Below.refl _ _ | refine bl_drewN ?_ _ | refine Below.drew ?_ | refine bl_alloc ?_ _ | refine bl_set ?_ (by first | (simp; done) | omega | (simp; omega)) _)); clear hA; have p0 := (hT.cellAt 1 rfl 0).trans rfl; have p1 := (hT.cellAt 1 rfl 1).trans rfl; have plt := hT.ltAt 1 rfl) | (refine rw_appendL_step rfl (.tmp 18) (.tmp 25) 37 35 2 encId (.agg #[.int .i64 0, .int .i64 0]) 16 rfl Try.underlying37 Try.info35 rfl (by decide) (.slice A18 n18 c18) (.slice A (L - i) (sc - (i + 1))) ([] ++ xs.take i) (xs.drop (i + 1)) rfl rfl (HR.out _ ((hT.below (by repeat (first | exact Below.refl _ _ | refine bl_drewN ?_ _ | refine Below.drew ?_ | refine bl_alloc ?_ _ | refine bl_set ?_ (by first | (simp; done) | omega | (simp; omega)) _))).rowAt 2 rfl)) ((hT.below (by repeat (first | exact Below.refl _ _ | refine bl_drewN ?_ _ | refine Below.drew ?_ | refine bl_alloc ?_ _ | refine bl_set ?_ (by first | (simp; done) | omega | (simp; omega)) _))).rowAt 0 rfl) encId_len one_id ?_ ?_ ?_; (rw [EL.out, List.nil_append, List.length_take]; simp only [maxLen]; omega); (rw [EL.out, List.nil_append, List.length_take]; omega); intro v26 w26 hA; obtain ⟨A26, n26, c26, rfl⟩ := hA.row.slice; have hU := At.appendLAt 0 hA hT rfl (by repeat (first | exact Below.refl _ _ | refine bl_drewN ?_ _ | refine Below.drew ?_ | refine bl_alloc ?_ _ | refine bl_set ?_ (by first | (simp; done) | omega | (simp; omega)) _)); clear hA; have p0 := (hU.cellAt 1 rfl 0).trans rfl; have p1 := (hU.cellAt 1 rfl 1).trans rfl; have f0 := hU.frozenAt 1 rfl 0; have f1 := hU.frozenAt 1 rfl 1; have plt := hU.ltAt 1 rfl))
  all_goals
    have hU3 : At F w w26 (Hp.seps [Hp.blk p #[.slice sA (L + 1) sc, .int .i64 (cur : Nat)] 44, Hp.row 35 2 encId (.slice A26 n26 c26) (xs.take i ++ xs.drop (i + 1))]) := hU.sel [1, 0]
    rw [erase_split] at hU3
    obtain rfl : n26 = L := ((hU3.rowAt 1 rfl).rd encId_len).len.1.trans HLn.out
    clear hU hT hS1
    have hS3 := hU3.setBlkAt 0 rfl 0 (.slice A26 n26 c26)
    by_cases h1 : i < cur
    · obtain ⟨k, rfl⟩ : ∃ k, cur = k + 1 := ⟨cur - 1, by omega⟩
      have HRm : As (rmc n26 i (k + 1) = k) := ⟨by unfold rmc; rw [if_pos h1, Nat.add_sub_cancel, if_neg (by omega)]⟩
      have d0 : decide ((i : Int) < (k : Int) + 1) = true := decide_eq_true (by omega)
      have d1 : decide (i < k + 1) = true := decide_eq_true h1
      have t0 : decide ((n26 : Int) ≤ (k : Int)) = false := decide_eq_false (by omega)
      have t1 : decide (n26 ≤ k) = false := decide_eq_false (by omega)
      have hS4 := hS3.setBlkAt 0 rfl 1 (.int .i64 (k : Nat))
      clear h1 hS3 hU3
      go_wp2_with fail
      go_quiet (fail)
      go_wp2_with fail
      go_ret
      exact At.post (rg_close (hS4.below (by repeat (first | exact Below.refl _ _ | refine bl_drewN ?_ _ | refine Below.drew ?_ | refine bl_alloc ?_ _ | refine bl_set ?_ (by first | (simp; done) | omega | (simp; omega)) _)))) ⟨rfl, by rw [HRm.out]⟩
    · have d0 : decide ((i : Int) < (cur : Int)) = false := decide_eq_false (by omega)
      have d1 : decide (i < cur) = false := decide_eq_false h1
      by_cases h2 : cur = n26
      · have HRm : As (rmc n26 i cur = 0) := ⟨by unfold rmc; rw [if_neg h1, if_pos h2]⟩
        have t0 : decide ((n26 : Int) ≤ (cur : Int)) = true := decide_eq_true (by omega)
        have t1 : decide (n26 ≤ cur) = true := decide_eq_true (by omega)
        clear h1 h2 hU3
        go_wp2_with fail
        go_quiet (fail)
        go_wp2_with fail
        go_ret
        exact At.post (rg_close ((hS3.drewN _).setBlkAt 0 rfl 1 (.int .i64 (0 : Nat)))) ⟨rfl, by rw [HRm.out]⟩
      · have HRm : As (rmc n26 i cur = cur) := ⟨by unfold rmc; rw [if_neg h1, if_neg h2]⟩
        have t0 : decide ((n26 : Int) ≤ (cur : Int)) = false := decide_eq_false (by omega)
        have t1 : decide (n26 ≤ cur) = false := decide_eq_false (by omega)
        clear h1 h2 hU3
        go_wp2_with fail
        go_quiet (fail)
        go_wp2_with fail
        go_ret
        exact At.post (rg_close (hS3.below (by repeat (first | exact Below.refl _ _ | refine bl_drewN ?_ _ | refine Below.drew ?_ | refine bl_alloc ?_ _ | refine bl_set ?_ (by first | (simp; done) | omega | (simp; omega)) _)))) ⟨rfl, by rw [HRm.out]⟩
end Go.Proofs.Ytkfkacdiekpkfaa
