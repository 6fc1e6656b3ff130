/- BoardStamps: the opened argument. -/
import Derived.Test.YtdbdijicicbhfaaBJ
set_option linter.unusedVariables false
namespace Go.Proofs.Ytdbdijicicbhfaa
open Go.RowKit Go.ChangeShapes Go.WideShapes Go.Deep
section
variable {H : Type} {enc : TypeId × Value → H} {W : World} {spare : Nat → Bool} {held : Bool}
theorem elem_i (n : Nat) (cs : List Value) (y : DataW H × List MemPlace) (h : DataW.trod enc Try.prog W 0 spare held n 3 cs = some y) : ∃ a : Int, cs = encI a ∧ True := by
  obtain ⟨a, ha, _⟩ := DataW.trod_int Try.underlying3 h
  exact ⟨a, ha, trivial⟩
theorem open_ints {Q : Prop} {base : Nat} {v : Value} {d : DataW H} {p : List MemPlace} (hv : Value.okWide Try.prog W .any base 40 v) (hsz : Q)
    (h : DataW.Trod enc Try.prog W 0 (fun _ => true) true 40 v d p) : ∃ xs : List Int, Rd W 1 encI v xs := by
  obtain ⟨a, len, cap, rfl⟩ := okWide_slice Try.underlying40 hv
  obtain ⟨fuel, hf⟩ := h
  have hf2 : DataW.trod enc Try.prog W 0 (fun _ => true) true fuel 40 [.slice a len cap] = some (d, p) := by simpa [Value.cells] using hf
  obtain ⟨xs, h1, _⟩ := rd_open Try.underlying40 encI 1 (by decide) cellsI (fun _ => True) elem_i hf2
  exact ⟨xs, h1⟩
end
end Go.Proofs.Ytdbdijicicbhfaa
