/- The law of ids: the example of the document. -/
import Derived.Test.YthlfkkmhjmjenaaE
namespace Go.Proofs.Ythlfkkmhjmjenaa
open Go.RowKit
theorem rm5 : rm 5 = 5 := by decide
set_option maxHeartbeats 400000 in
theorem num_does (x : Int) (w : World) : Calls Try.prog 9 #[.int .i64 x] w fun e w' => e = .returned (.int .i64 x) ∧ w = w' := by
  go_enter Try.func9, Try.ntmps9
  go_wp2
  go_ret
  exact ⟨rfl, rfl⟩
set_option maxHeartbeats 1600000 in
theorem alive_does (w : World) : Calls Try.prog 6 #[] w fun e w' => e = .returned (.bool true) ∧ Below w.heap.size w w' := by
  go_enter Try.func6, Try.ntmps6
  go_wp2_with fail
  refine (new_does 5 w (fun _ => False) (fun _ h => h)).mono ?_
  rw [rm5]
  rintro e w1 ⟨B, F1, ⟨p, rfl, rfl⟩, hB, hE, hN⟩
  have HB := As.mk hB
  have hbl : Below w.heap.size w w1 := hE.below (fun _ h => h.elim) (Nat.le_refl _)
  have HBl := As.mk hbl
  have hN1 : ∀ k, F1 k → w.heap.size ≤ k := fun k hk => (hN k hk).elim False.elim id
  have HN1 := As.mk hN1
  clear hB hE hN hbl hN1
  go_wp2_with fail
  refine (make_more p 5 [] (by decide) (by decide) w1 F1 HB.out).mono ?_
  rintro e w2 ⟨B, F2, ⟨rfl, rfl⟩, hB, hE, hN⟩
  have HB2 := As.mk hB
  have HBl2 := As.mk (HBl.out.trans (hE.below HN1.out HBl.out.size))
  have hN2 : ∀ k, F2 k → w.heap.size ≤ k := fun k hk => (hN k hk).elim (HN1.out k) (fun h => Nat.le_trans HBl.out.size h)
  have HN2 := As.mk hN2
  clear hB hE hN hN2 HB HBl HN1
  go_wp2_with ((go_at_call 9; refine (num_does _ _).mono ?_; rintro e w3 ⟨rfl, rfl⟩))
  refine (has_does p 0 1 5 _ _ _ F2 (Hp.below HB2.out (by repeat (first | exact Below.refl _ _ | refine bl_drewN ?_ _ | refine Below.drew ?_ | refine bl_alloc ?_ _ | refine bl_set ?_ (by first | (simp; done) | omega | (simp; omega)) _)))).mono ?_
  rintro e w3 ⟨B, F3, ⟨rfl, rfl⟩, hB, hE, hN⟩
  have HBl3 := As.mk (hE.below (fun k hk => HN2.out k hk) (by simp; have := HBl2.out.size; omega))
  have e1 : hasB ([] ++ [((1 : Int), true)]) 0 1 = true := by decide
  rw [e1]
  clear hB hE hN
  go_wp2
  go_ret
  exact ⟨rfl, ((bl_alloc HBl2.out _).trans HBl3.out)⟩
end Go.Proofs.Ythlfkkmhjmjenaa
