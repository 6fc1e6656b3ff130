/- TableMoves: the walk and the opened arguments, together. -/
import Derived.Test.YthbmfinaoejheaaDoorTM1
set_option linter.unusedVariables false
namespace Go.Proofs.YthbmfinaoejheaaDoor
open Go.RowKit
theorem moves_row (m n row : Int) (v : Value) (xs : List Int) (w : World) (hT : GTab w) (hm : (Lit.int .u16 m).wf = true) (hn : (Lit.int .i64 n).wf = true) (hr : (Lit.int .i64 row).wf = true) (hd : Rd w 1 encI v xs) : Calls Tryd.prog 4 #[.int .u16 m, .int .i64 n, .int .i64 row, v] w fun e w' => e = .returned (.bool true) ∧ Below w.heap.size w w' := by
  by_cases hbad : n < 1 ∨ 30 < n ∨ row < 0 ∨ n ≤ row ∨ (xs.length : Int) < n
  · exact moves_bad m n row v xs w hT hd hbad
  · obtain ⟨k, rfl, h⟩ := wf_u16 hm
    obtain ⟨q, rfl⟩ : ∃ q : Nat, row = (q : Int) := ⟨row.toNat, by omega⟩
    exact moves_good k h n n.toNat q v xs w hT hd (by omega) (by omega) (by omega) (by omega) (by omega)
end Go.Proofs.YthbmfinaoejheaaDoor
