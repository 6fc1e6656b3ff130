/- A slice of items that came in, opened. -/
import Derived.Test.YthnojjlaicajhaaA
import Derived.Test.YthnojjlaicajhaaOpen
namespace Go.Proofs.Ythnojjlaicajhaa
open Go.RowKit Go.ChangeShapes Go.WideShapes Go.Deep
theorem cells32 : Try.prog.cellsOf 32 = 3 := by kernel_rfl
theorem cells3 : Try.prog.cellsOf 3 = 1 := by kernel_rfl
section
variable {H : Type} {enc : TypeId × Value → H} {W : World} {spare : Nat → Bool} {held : Bool}
theorem elem_item (n : Nat) (cs : List Value) (y : DataW H × List MemPlace) (h : DataW.trod enc Try.prog W 0 spare held n 32 cs = some y) : ∃ a : Item, cs = encItem a ∧ True := by
  obtain ⟨xs, m, _, _, hl, hx, hf⟩ := DataW.trod_struct Try.underlying32 h
  rw [cells32] at hl
  match cs, hl with
  | [c0, c1, c2], _ =>
    have f0 : DataW.trod enc Try.prog W 0 spare held m 3 (([c0, c1, c2].drop 0).take (Try.prog.cellsOf 3)) = xs[0]? := by have h := hf 0 _ rfl; exact h
    have f1 : DataW.trod enc Try.prog W 0 spare held m 3 (([c0, c1, c2].drop 1).take (Try.prog.cellsOf 3)) = xs[1]? := by have h := hf 1 _ rfl; exact h
    have f2 : DataW.trod enc Try.prog W 0 spare held m 3 (([c0, c1, c2].drop 2).take (Try.prog.cellsOf 3)) = xs[2]? := by have h := hf 2 _ rfl; exact h
    rw [List.getElem?_eq_getElem (by rw [hx]; decide)] at f0 f1 f2
    rw [cells3] at f0 f1 f2
    obtain ⟨a, ha, _, _⟩ := DataW.trod_int Try.underlying3 f0
    obtain ⟨b, hb, _, _⟩ := DataW.trod_int Try.underlying3 f1
    obtain ⟨c, hc, _, _⟩ := DataW.trod_int Try.underlying3 f2
    simp at ha hb hc
    exact ⟨⟨a, b, c⟩, by rw [ha, hb, hc]; rfl, trivial⟩
theorem open_items {base : Nat} {v : Value} {d : DataW H} {p : List MemPlace} {ts : List TypeId} {ds : List (DataW H)} (hv : Value.okWide Try.prog W .any base 22 v)
    (_hsz : (DataW.weightsEach Try.prog ts ds).all (· ≤ reachBytes) = true) (h : DataW.Trod enc Try.prog W 0 (fun _ => true) true 22 v d p) : ∃ xs : List Item, Rd W 3 encItem v xs := by
  obtain ⟨a, len, cap, rfl⟩ := okWide_slice Try.underlying22 hv
  obtain ⟨fuel, hf⟩ := h
  have hf2 : DataW.trod enc Try.prog W 0 (fun _ => true) true fuel 22 [.slice a len cap] = some (d, p) := by simpa [Value.cells] using hf
  obtain ⟨xs, h1, _⟩ := rd_open Try.underlying22 encItem 3 (by decide) cells32 (fun _ => True) elem_item hf2
  exact ⟨xs, h1⟩
end
end Go.Proofs.Ythnojjlaicajhaa
