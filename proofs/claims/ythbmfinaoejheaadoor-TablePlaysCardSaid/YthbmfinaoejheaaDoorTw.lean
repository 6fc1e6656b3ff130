/- alive. -/
import Derived.Test.YthbmfinaoejheaaDoorTn
set_option linter.unusedVariables false
namespace Go.Proofs.YthbmfinaoejheaaDoor
open Go.RowKit
theorem bits5 : bitsN 5 = [0, 2] := by decide +kernel
theorem own_rd {F0 : Nat → Prop} {w0 : World} {e : Nat} {v : Value} {xs : List (Int × Int)} {l : List Hp} : ∀ w' L', At F0 w0 w' (Hp.seps (L' ++ (Hp.row e 2 encId v xs :: l))) → Rd w' 2 encId v xs := fun w' L' h => (h.rowAt (e := e) L'.length (by simp)).rd encId_len
set_option maxHeartbeats 6400000 in
theorem alive_does (w : World) (hT : GTab w) : Calls Tryd.prog 6 #[] w fun e w' => e = .returned (.bool true) ∧ Below w.heap.size w w' := by
  have HN := As.mk (new_does w hT 5 (by omega))
  clear hT
  go_enter Tryd.func6, Tryd.ntmps6
  go_wp2_with fail
  refine HN.out.mono ?_
  rintro e w1 ⟨p, rfl, hS⟩
  rw [bits5] at hS
  clear HN
  go_wp2_with fail
  refine (hS.callAt 0 rfl (row_does p [0, 2] [] (0, 0) (by unfold okId okI; decide))).mono ?_
  rintro e w2 ⟨B, ⟨rfl, rfl⟩, hS1⟩
  have hS2 := hS1.alloc #[.int .i64 2, .int .i64 9] 31
  clear hS hS1
  go_wp2_with fail
  have hS3 := At.rowOfBlk1 2 encId (2, 9) rfl hS2
  refine (add_new p [0, 2] (by decide) [] (0, 1) _ [(2, 9)] (by unfold okId okI; decide) rfl (by simp) own_rd (hS3.sel [1, 0])).mono ?_
  rintro e w3 ⟨rfl, hS4⟩
  clear hS2 hS3
  go_wp2_with fail
  refine (hS4.callAt 0 rfl (get_does p [0, 2] _ 0 2)).mono ?_
  rintro e w4 ⟨B, ⟨rfl, rfl⟩, hS5⟩
  have e1 : getV [0, 2] (addR [0, 2] [] (0, 1) [(2, 9)]) 0 2 = 9 := by decide
  have e2 : hasR [0, 2] (addR [0, 2] [] (0, 1) [(2, 9)]) 0 2 = true := by decide
  rw [e1, e2]
  have HB := As.mk hS5.bl
  clear hS4 hS5 e1 e2
  go_wp2_with fail
  go_ret
  exact ⟨rfl, HB.out⟩
end Go.Proofs.YthbmfinaoejheaaDoor
