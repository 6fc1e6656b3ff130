/- slices.Delete of one; a ring: Remove. -/
import Derived.Test.YtkfkacdiekpkfaaTurns
import Derived.Test.YtkfkacdiekpkfaaDel
namespace Go.Proofs.Ytkfkacdiekpkfaa
open Go.RowKit
theorem erase_split {α : Type} (xs : List α) (i : Nat) : xs.take i ++ xs.drop (i + 1) = xs.eraseIdx i := by rw [List.eraseIdx_eq_take_drop_succ]
set_option maxHeartbeats 6400000 in
theorem delete_does (sA : Option Addr) (sc L i : Nat) (xs : List (Int × Int)) (hL : xs.length = L + 1) (hi : i < L + 1) (hm : L ≤ 50000) : Does Try.prog 29 #[.slice sA (L + 1) sc, .int .i64 (i : Nat), .int .i64 ((i : Int) + 1)] (Hp.row 35 2 encId (.slice sA (L + 1) sc) xs)
    (fun e B => e = .returned (.slice sA L sc) ∧ B = Hp.row 35 2 encId (.slice sA L sc) (xs.eraseIdx i)) := by
  refine Does.of fun w F hS => ?_
  have hS := hS.toL
  have hsc := ((hS.rowAt 0 rfl).rd encId_len).len.2
  obtain ⟨x, hx⟩ : ∃ x, xs[i]? = some x := ⟨_, List.getElem?_eq_getElem (by omega)⟩
  obtain ⟨g, rfl, hgl, _⟩ := (hS.rowAt 0 rfl).cell encId_len i x hx
  obtain ⟨A, hA, HR⟩ := rw_tail 35 2 encId encId_len (i + 1) (some ⟨g, 0, none⟩) sc xs (by omega)
  have hA' : (if sc = i + 1 then (some ⟨g, 0, none⟩ : Option Addr) else some ⟨g, (i + 1) * 2, none⟩) = A := by rw [← hA, Option.map_some, Addr.add_lit, Nat.zero_add]
  rw [hL] at hsc HR
  rw [Nat.add_sub_add_right] at HR
  have HX := As.mk hL
  have e0 : i + (xs.drop (i + 1)).length = L := by rw [List.length_drop]; omega
  have E0 := As.mk e0
  have EL : As ((xs.drop (i + 1)).length = L - i) := ⟨by rw [List.length_drop]; omega⟩
  have m0 : (0 : Int) ≤ (i : Int) := by omega
  have m1 : (i : Int) ≤ (i : Int) + 1 := by omega
  have m2 : (i : Int) + 1 ≤ (L : Int) + 1 := by omega
  have m3 : (L : Int) + 1 ≤ (sc : Int) := by omega
  have m4 : (i : Int) ≤ (sc : Int) := by omega
  have m5 : ¬ sc = L := by omega
  have m6 : (0 : Int) ≤ (L : Int) := by omega
  have m7 : (0 : Int) ≤ (i : Int) + 1 := by omega
  have m8 : ((i : Int) + 1).toNat = i + 1 := by omega
  have t0 : ((i : Int) == (i : Int) + 1) = false := beq_eq_false_iff_ne.2 (by omega)
  clear hA hx hL e0
  go_enter Try.func29, Try.ntmps29
  go_wp2
  go_region_law (refine rw_appendR_step rfl (.tmp 22) (.tmp 25) 37 35 2 encId (.agg #[.int .i64 0, .int .i64 0]) 16 rfl Try.underlying37 Try.info35 rfl (by decide) (some ⟨g, 0, none⟩) i sc (.slice A (L - i) (sc - (i + 1))) (xs.take i) (xs.drop (i + 1)) rfl rfl (HR.out _ ((hS.below (by repeat (first | exact Below.refl _ _ | refine bl_drewN ?_ _ | refine Below.drew ?_ | refine bl_alloc ?_ _ | refine bl_set ?_ (by first | (simp; done) | omega | (simp; omega)) _))).rowAt 0 rfl)) (((hS.below (by repeat (first | exact Below.refl _ _ | refine bl_drewN ?_ _ | refine Below.drew ?_ | refine bl_alloc ?_ _ | refine bl_set ?_ (by first | (simp; done) | omega | (simp; omega)) _))).rowAt 0 rfl).take encId_len (by rw [HX.out]; omega)) ?_ encId_len one_id ?_ ?_ ?_; (rw [EL.out]; omega); (rw [EL.out, List.length_take]; simp only [maxLen]; omega); (rw [EL.out, List.length_take]; omega); intro w1 hA; rw [E0.out] at hA ⊢; have HA := As.mk hA; clear hA)
  all_goals
    have hT : At F w w1 (Hp.seps [Hp.row 35 2 encId (.slice (some ⟨g, 0, none⟩) L sc) (xs.take i ++ xs.drop (i + 1))]) := At.appendLAt 0 HA.out (hS.takeAt 0 i rfl encId_len (by rw [HX.out]; omega)) rfl (by repeat (first | exact Below.refl _ _ | refine bl_drewN ?_ _ | refine Below.drew ?_ | refine bl_alloc ?_ _ | refine bl_set ?_ (by first | (simp; done) | omega | (simp; omega)) _))
    rw [erase_split] at hT
    clear HA
    go_wp2_with (refine rw_clear (o := ⟨none, _, _, _, _, _⟩) rfl (.tmp 31) 37 35 2 encId (.agg #[.int .i64 0, .int .i64 0]) 16 rfl Try.underlying37 Try.info35 rfl (by intro u hu; simp [Value.cells] at hu; rcases hu with rfl | rfl <;> rfl) g L sc (sc - L) (xs.eraseIdx i) rfl (hT.rowAt 0 rfl) (by omega) ?_; intro w2 hr hg)
    go_ret
    exact At.post ((hT.pick 0 rfl).row_grown hr hg (.inl rfl)).head ⟨rfl, rfl⟩
end Go.Proofs.Ytkfkacdiekpkfaa
