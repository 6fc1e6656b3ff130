/- The row's argument of IdsOnce, opened: a slice of whole numbers. -/
import Derived.Test.YthlfkkmhjmjenaaOnce
namespace Go.Proofs.Ythlfkkmhjmjenaa
open Go.RowKit Go.ChangeShapes Go.WideShapes Go.Deep
theorem elem_int {H : Type} {enc : TypeId × Value → H} {W : World} {spare : Nat → Bool} {held : Bool} (n : Nat) (cs : List Value) (y : DataW H × List MemPlace) (h : DataW.trod enc Try.prog W 0 spare held n 3 cs = some y) : ∃ a : Int, cs = encInt a ∧ True := by
  obtain ⟨a, rfl, _, _⟩ := DataW.trod_int Try.underlying3 h
  exact ⟨a, rfl, trivial⟩
theorem open_drops {H : Type} {enc : TypeId × Value → H} {W : World} {base : Nat} {v : Value} {d : DataW H} {p : List MemPlace} {ts : List TypeId} {ds : List (DataW H)} (hv : Value.okWide Try.prog W .any base 46 v)
    (_hsz : (DataW.weightsEach Try.prog ts ds).all (· ≤ reachBytes) = true) (h : DataW.Trod enc Try.prog W 0 (fun _ => true) true 46 v d p) : ∃ xs : List Int, Rd W 1 encInt v xs := by
  obtain ⟨a, len, cap, rfl⟩ := okWide_slice Try.underlying46 hv
  obtain ⟨fuel, hf⟩ := h
  have hf2 : DataW.trod enc Try.prog W 0 (fun _ => true) true fuel 46 [.slice a len cap] = some (d, p) := by simpa [Value.cells] using hf
  obtain ⟨xs, h1, _⟩ := rd_open Try.underlying46 encInt 1 (by decide) (by kernel_rfl) (fun _ => True) elem_int hf2
  exact ⟨xs, h1⟩
end Go.Proofs.Ythlfkkmhjmjenaa
