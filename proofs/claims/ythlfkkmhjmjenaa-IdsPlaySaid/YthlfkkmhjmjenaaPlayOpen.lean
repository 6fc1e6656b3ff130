/- The row's argument of IdsPlay, opened: a slice of calls. -/
import Derived.Test.YthlfkkmhjmjenaaPlay
namespace Go.Proofs.Ythlfkkmhjmjenaa
open Go.RowKit Go.ChangeShapes Go.WideShapes Go.Deep
theorem cells39 : Try.prog.cellsOf 39 = 5 := by kernel_rfl
theorem cells26 : Try.prog.cellsOf 26 = 2 := by kernel_rfl
theorem cells3 : Try.prog.cellsOf 3 = 1 := by kernel_rfl
theorem cells4 : Try.prog.cellsOf 4 = 1 := by kernel_rfl
section
variable {H : Type} {enc : TypeId × Value → H} {W : World} {spare : Nat → Bool} {held : Bool}
theorem elem_id (n : Nat) (cs : List Value) (y : DataW H × List MemPlace) (h : DataW.trod enc Try.prog W 0 spare held n 26 cs = some y) : ∃ a b : Int, cs = [.int .i64 a, .int .i64 b] := by
  obtain ⟨xs, m, _, _, hl, hx, hf⟩ := DataW.trod_struct Try.underlying26 h
  rw [cells26] at hl
  match cs, hl with
  | [c0, c1], _ =>
    have f0 : DataW.trod enc Try.prog W 0 spare held m 3 (([c0, c1].drop 0).take (Try.prog.cellsOf 3)) = xs[0]? := by have h := hf 0 _ rfl; exact h
    have f1 : DataW.trod enc Try.prog W 0 spare held m 3 (([c0, c1].drop 1).take (Try.prog.cellsOf 3)) = xs[1]? := by have h := hf 1 _ rfl; exact h
    rw [List.getElem?_eq_getElem (by rw [hx]; decide)] at f0 f1
    rw [cells3] at f0 f1
    obtain ⟨a, ha, _, _⟩ := DataW.trod_int Try.underlying3 f0
    obtain ⟨b, hb, _, _⟩ := DataW.trod_int Try.underlying3 f1
    simp at ha hb
    exact ⟨a, b, by rw [ha, hb]⟩
theorem elem_act (n : Nat) (cs : List Value) (y : DataW H × List MemPlace) (h : DataW.trod enc Try.prog W 0 spare held n 39 cs = some y) : ∃ a : PAct, cs = encAct a ∧ True := by
  obtain ⟨xs, m, _, _, hl, hx, hf⟩ := DataW.trod_struct Try.underlying39 h
  rw [cells39] at hl
  match cs, hl with
  | [c0, c1, c2, c3, c4], _ =>
    have f0 : DataW.trod enc Try.prog W 0 spare held m 4 (([c0, c1, c2, c3, c4].drop 0).take (Try.prog.cellsOf 4)) = xs[0]? := by have h := hf 0 _ rfl; exact h
    have f1 : DataW.trod enc Try.prog W 0 spare held m 4 (([c0, c1, c2, c3, c4].drop 1).take (Try.prog.cellsOf 4)) = xs[1]? := by have h := hf 1 _ rfl; exact h
    have f2 : DataW.trod enc Try.prog W 0 spare held m 26 (([c0, c1, c2, c3, c4].drop 2).take (Try.prog.cellsOf 26)) = xs[2]? := by have h := hf 2 _ rfl; exact h
    have f3 : DataW.trod enc Try.prog W 0 spare held m 3 (([c0, c1, c2, c3, c4].drop 4).take (Try.prog.cellsOf 3)) = xs[3]? := by have h := hf 3 _ rfl; exact h
    rw [List.getElem?_eq_getElem (by rw [hx]; decide)] at f0 f1 f2 f3
    rw [cells4] at f0 f1
    rw [cells26] at f2
    rw [cells3] at f3
    obtain ⟨a, ha, _⟩ := DataW.trod_bool Try.underlying4 f0
    obtain ⟨b, hb, _⟩ := DataW.trod_bool Try.underlying4 f1
    obtain ⟨x, g, hi⟩ := elem_id _ _ _ f2
    obtain ⟨t, ht, _, _⟩ := DataW.trod_int Try.underlying3 f3
    simp at ha hb hi ht
    exact ⟨⟨a, b, x, g, t⟩, by rw [ha, hb, hi.1, hi.2, ht]; rfl, trivial⟩
theorem open_acts {base : Nat} {v : Value} {d : DataW H} {p : List MemPlace} {ts : List TypeId} {ds : List (DataW H)} (hv : Value.okWide Try.prog W .any base 34 v)
    (_hsz : (DataW.weightsEach Try.prog ts ds).all (· ≤ reachBytes) = true) (h : DataW.Trod enc Try.prog W 0 (fun _ => true) true 34 v d p) : ∃ xs : List PAct, Rd W 5 encAct v xs := by
  obtain ⟨a, len, cap, rfl⟩ := okWide_slice Try.underlying34 hv
  obtain ⟨fuel, hf⟩ := h
  have hf2 : DataW.trod enc Try.prog W 0 (fun _ => true) true fuel 34 [.slice a len cap] = some (d, p) := by simpa [Value.cells] using hf
  obtain ⟨xs, h1, _⟩ := rd_open Try.underlying34 encAct 5 (by decide) cells39 (fun _ => True) elem_act hf2
  exact ⟨xs, h1⟩
end
end Go.Proofs.Ythlfkkmhjmjenaa
