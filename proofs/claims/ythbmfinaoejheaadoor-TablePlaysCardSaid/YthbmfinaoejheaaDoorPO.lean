/- TablePlays: the walk and the opened arguments, together. -/
import Derived.Test.YthbmfinaoejheaaDoorP1g
set_option linter.unusedVariables false
namespace Go.Proofs.YthbmfinaoejheaaDoor
open Go.RowKit Go.ChangeShapes Go.WideShapes Go.Deep
theorem cellsA : Tryd.prog.cellsOf 48 = 7 := by kernel_rfl
theorem cellsD : Tryd.prog.cellsOf 29 = 2 := by kernel_rfl
theorem cellsL : Tryd.prog.cellsOf 23 = 1 := by kernel_rfl
theorem wf_okI {n : Int} (h : (Lit.int .i64 n).wf = true) : okI n := by
  have e1 : IntKind.i64.min = -9223372036854775808 := by decide
  have e2 : IntKind.i64.max = 9223372036854775807 := by decide
  simp only [Lit.wf, e1, e2, Bool.and_eq_true, decide_eq_true_eq] at h
  exact h
section
variable {H : Type} {enc : TypeId × Value → H} {W : World} {spare : Nat → Bool} {held : Bool}
theorem elem_id (n : Nat) (cs : List Value) (y : DataW H × List MemPlace) (h : DataW.trod enc Tryd.prog W 0 spare held n 29 cs = some y) : ∃ a : Int × Int, cs = encId a ∧ okId a := by
  obtain ⟨xs, m, _, _, hl, hx, hf⟩ := DataW.trod_struct Tryd.underlying29 h
  rw [cellsD] at hl
  match cs, hl with
  | [c0, c1], _ =>
    have f0 : DataW.trod enc Tryd.prog W 0 spare held m 3 (([c0, c1].drop 0).take (Tryd.prog.cellsOf 3)) = xs[0]? := by have h := hf 0 _ rfl; exact h
    have f1 : DataW.trod enc Tryd.prog W 0 spare held m 3 (([c0, c1].drop 1).take (Tryd.prog.cellsOf 3)) = xs[1]? := by have h := hf 1 _ rfl; exact h
    rw [List.getElem?_eq_getElem (by rw [hx]; decide)] at f0 f1
    rw [cellsI] at f0 f1
    obtain ⟨a, ha, _, wa⟩ := DataW.trod_int Tryd.underlying3 f0
    obtain ⟨b, hb, _, wb⟩ := DataW.trod_int Tryd.underlying3 f1
    simp at ha hb
    exact ⟨(a, b), by rw [ha, hb]; rfl, wf_okI wa, wf_okI wb⟩
theorem elem_act (n : Nat) (cs : List Value) (y : DataW H × List MemPlace) (h : DataW.trod enc Tryd.prog W 0 spare held n 48 cs = some y) : ∃ a : TAct, cs = encAct a ∧ GoodA W a := by
  obtain ⟨xs, m, _, _, hl, hx, hf⟩ := DataW.trod_struct Tryd.underlying48 h
  rw [cellsA] at hl
  match cs, hl with
  | [c0, c1, c2, c3, c4, c5, c6], _ =>
    have f0 : DataW.trod enc Tryd.prog W 0 spare held m 3 (([c0, c1, c2, c3, c4, c5, c6].drop 0).take (Tryd.prog.cellsOf 3)) = xs[0]? := by have h := hf 0 _ rfl; exact h
    have f1 : DataW.trod enc Tryd.prog W 0 spare held m 3 (([c0, c1, c2, c3, c4, c5, c6].drop 1).take (Tryd.prog.cellsOf 3)) = xs[1]? := by have h := hf 1 _ rfl; exact h
    have f2 : DataW.trod enc Tryd.prog W 0 spare held m 3 (([c0, c1, c2, c3, c4, c5, c6].drop 2).take (Tryd.prog.cellsOf 3)) = xs[2]? := by have h := hf 2 _ rfl; exact h
    have f3 : DataW.trod enc Tryd.prog W 0 spare held m 3 (([c0, c1, c2, c3, c4, c5, c6].drop 3).take (Tryd.prog.cellsOf 3)) = xs[3]? := by have h := hf 3 _ rfl; exact h
    have f4 : DataW.trod enc Tryd.prog W 0 spare held m 29 (([c0, c1, c2, c3, c4, c5, c6].drop 4).take (Tryd.prog.cellsOf 29)) = xs[4]? := by have h := hf 4 _ rfl; exact h
    have f5 : DataW.trod enc Tryd.prog W 0 spare held m 23 (([c0, c1, c2, c3, c4, c5, c6].drop 6).take (Tryd.prog.cellsOf 23)) = xs[5]? := by have h := hf 5 _ rfl; exact h
    rw [List.getElem?_eq_getElem (by rw [hx]; decide)] at f0 f1 f2 f3 f4 f5
    rw [cellsI] at f0 f1 f2 f3
    rw [cellsD] at f4
    rw [cellsL] at f5
    obtain ⟨a0, h0, _, _⟩ := DataW.trod_int Tryd.underlying3 f0
    obtain ⟨a1, h1, _, _⟩ := DataW.trod_int Tryd.underlying3 f1
    obtain ⟨a2, h2, _, _⟩ := DataW.trod_int Tryd.underlying3 f2
    obtain ⟨a3, h3, _, _⟩ := DataW.trod_int Tryd.underlying3 f3
    obtain ⟨b, hb, hok⟩ := elem_id _ _ _ f4
    have f5 : DataW.trod enc Tryd.prog W 0 spare held m 23 [c6] = some (xs[5]'(by rw [hx]; decide)) := f5
    obtain ⟨l, hl1, _⟩ := rd_open Tryd.underlying23 encId 2 (by decide) cellsC (fun _ => True) elem_cell f5
    simp at h0 h1 h2 h3
    simp [encId] at hb
    exact ⟨⟨a0, a1, a2, a3, b, c6, l⟩, by rw [h0, h1, h2, h3, hb.1, hb.2]; rfl, hl1, hok⟩
theorem open_acts {base : Nat} {v : Value} {d : DataW H} {p : List MemPlace} (hv : Value.okWide Tryd.prog W .any base 44 v)
    (h : DataW.Trod enc Tryd.prog W 0 (fun _ => true) true 44 v d p) : ∃ xs : List TAct, Rd W 7 encAct v xs ∧ ∀ a ∈ xs, GoodA W a := by
  obtain ⟨a, len, cap, rfl⟩ := okWide_slice Tryd.underlying44 hv
  obtain ⟨fuel, hf⟩ := h
  have hf2 : DataW.trod enc Tryd.prog W 0 (fun _ => true) true fuel 44 [.slice a len cap] = some (d, p) := by simpa [Value.cells] using hf
  exact rd_open Tryd.underlying44 encAct 7 (by decide) cellsA (GoodA W) elem_act hf2
end
theorem plays_row (m : Int) (v : Value) (l : List TAct) (w : World) (hT : GTab w) (hm : (Lit.int .u16 m).wf = true) (hd : Rd w 7 encAct v l ∧ ∀ a ∈ l, GoodA w a) : Calls Tryd.prog 5 #[.int .u16 m, v] w fun e w' => e = .returned (.bool true) ∧ Below w.heap.size w w' := by
  obtain ⟨n, rfl, h⟩ := wf_u16 hm
  exact plays_walk n h v l w hT hd.1 hd.2
end Go.Proofs.YthbmfinaoejheaaDoor
