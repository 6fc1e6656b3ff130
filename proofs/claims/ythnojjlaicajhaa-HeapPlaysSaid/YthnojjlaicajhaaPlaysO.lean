/- HeapPlays: the walk and the opened arguments, together. -/
import Derived.Test.YthnojjlaicajhaaPlays
import Derived.Test.YthnojjlaicajhaaHOpen
namespace Go.Proofs.Ythnojjlaicajhaa
open Go.RowKit Go.ChangeShapes Go.WideShapes Go.Deep
theorem cells4 : Try.prog.cellsOf 4 = 1 := by kernel_rfl
section
variable {H : Type} {enc : TypeId × Value → H} {W : World} {spare : Nat → Bool} {held : Bool}
theorem elem_b (n : Nat) (cs : List Value) (y : DataW H × List MemPlace) (h : DataW.trod enc Try.prog W 0 spare held n 4 cs = some y) : ∃ a : Bool, cs = encB a ∧ True := by
  obtain ⟨a, ha, _⟩ := DataW.trod_bool Try.underlying4 h
  exact ⟨a, ha, trivial⟩
theorem open_bools {base : Nat} {v : Value} {d : DataW H} {p : List MemPlace} {ts : List TypeId} {ds : List (DataW H)} (hv : Value.okWide Try.prog W .any base 23 v)
    (_hsz : (DataW.weightsEach Try.prog ts ds).all (· ≤ reachBytes) = true) (h : DataW.Trod enc Try.prog W 0 (fun _ => true) true 23 v d p) : ∃ xs : List Bool, Rd W 1 encB v xs := by
  obtain ⟨a, len, cap, rfl⟩ := okWide_slice Try.underlying23 hv
  obtain ⟨fuel, hf⟩ := h
  have hf2 : DataW.trod enc Try.prog W 0 (fun _ => true) true fuel 23 [.slice a len cap] = some (d, p) := by simpa [Value.cells] using hf
  obtain ⟨xs, h1, _⟩ := rd_open Try.underlying23 encB 1 (by decide) cells4 (fun _ => True) elem_b hf2
  exact ⟨xs, h1⟩
end
end Go.Proofs.Ythnojjlaicajhaa
