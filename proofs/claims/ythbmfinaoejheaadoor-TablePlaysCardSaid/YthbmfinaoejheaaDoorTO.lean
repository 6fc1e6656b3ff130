/- TableCells: the walk and the opened arguments, together. -/
import Derived.Test.YthbmfinaoejheaaDoorTC
import Derived.Test.YthbmfinaoejheaaDoorOpen
namespace Go.Proofs.YthbmfinaoejheaaDoor
open Go.RowKit Go.ChangeShapes Go.WideShapes Go.Deep
theorem wf_u16 {n : Int} (h : (Lit.int .u16 n).wf = true) : ∃ m : Nat, n = m ∧ m < 65536 := by
  have e1 : IntKind.u16.min = 0 := by decide
  have e2 : IntKind.u16.max = 65535 := by decide
  simp only [Lit.wf, e1, e2, Bool.and_eq_true, decide_eq_true_eq] at h
  exact ⟨n.toNat, by omega, by omega⟩
theorem cellsI : Tryd.prog.cellsOf 3 = 1 := by kernel_rfl
theorem cellsC : Tryd.prog.cellsOf 31 = 2 := by kernel_rfl
section
variable {H : Type} {enc : TypeId × Value → H} {W : World} {spare : Nat → Bool} {held : Bool}
theorem elem_cell (n : Nat) (cs : List Value) (y : DataW H × List MemPlace) (h : DataW.trod enc Tryd.prog W 0 spare held n 31 cs = some y) : ∃ a : Int × Int, cs = encId a ∧ True := by
  obtain ⟨xs, m, _, _, hl, hx, hf⟩ := DataW.trod_struct Tryd.underlying31 h
  rw [cellsC] at hl
  match cs, hl with
  | [c0, c1], _ =>
    have f0 : DataW.trod enc Tryd.prog W 0 spare held m 3 (([c0, c1].drop 0).take (Tryd.prog.cellsOf 3)) = xs[0]? := by have h := hf 0 _ rfl; exact h
    have f1 : DataW.trod enc Tryd.prog W 0 spare held m 3 (([c0, c1].drop 1).take (Tryd.prog.cellsOf 3)) = xs[1]? := by have h := hf 1 _ rfl; exact h
    rw [List.getElem?_eq_getElem (by rw [hx]; decide)] at f0 f1
    rw [cellsI] at f0 f1
    obtain ⟨a, ha, _, _⟩ := DataW.trod_int Tryd.underlying3 f0
    obtain ⟨b, hb, _, _⟩ := DataW.trod_int Tryd.underlying3 f1
    simp at ha hb
    exact ⟨(a, b), by rw [ha, hb]; rfl, trivial⟩
theorem open_cells {base : Nat} {v : Value} {d : DataW H} {p : List MemPlace} (hv : Value.okWide Tryd.prog W .any base 23 v)
    (h : DataW.Trod enc Tryd.prog W 0 (fun _ => true) true 23 v d p) : ∃ xs : List (Int × Int), Rd W 2 encId v xs := by
  obtain ⟨a, len, cap, rfl⟩ := okWide_slice Tryd.underlying23 hv
  obtain ⟨fuel, hf⟩ := h
  have hf2 : DataW.trod enc Tryd.prog W 0 (fun _ => true) true fuel 23 [.slice a len cap] = some (d, p) := by simpa [Value.cells] using hf
  obtain ⟨xs, h1, _⟩ := rd_open Tryd.underlying23 encId 2 (by decide) cellsC (fun _ => True) elem_cell hf2
  exact ⟨xs, h1⟩
theorem elem_i (n : Nat) (cs : List Value) (y : DataW H × List MemPlace) (h : DataW.trod enc Tryd.prog W 0 spare held n 3 cs = some y) : ∃ a : Int, cs = encI a ∧ True := by
  obtain ⟨a, ha, _⟩ := DataW.trod_int Tryd.underlying3 h
  exact ⟨a, ha, trivial⟩
theorem open_ints {base : Nat} {v : Value} {d : DataW H} {p : List MemPlace} (hv : Value.okWide Tryd.prog W .any base 35 v)
    (h : DataW.Trod enc Tryd.prog W 0 (fun _ => true) true 35 v d p) : ∃ xs : List Int, Rd W 1 encI v xs := by
  obtain ⟨a, len, cap, rfl⟩ := okWide_slice Tryd.underlying35 hv
  obtain ⟨fuel, hf⟩ := h
  have hf2 : DataW.trod enc Tryd.prog W 0 (fun _ => true) true fuel 35 [.slice a len cap] = some (d, p) := by simpa [Value.cells] using hf
  obtain ⟨xs, h1, _⟩ := rd_open Tryd.underlying35 encI 1 (by decide) cellsI (fun _ => True) elem_i hf2
  exact ⟨xs, h1⟩
end
theorem cells_row (m : Int) (v : Value) (cells : List (Int × Int)) (w : World) (hT : GTab w) (hm : (Lit.int .u16 m).wf = true) (hd : Rd w 2 encId v cells) : Calls Tryd.prog 3 #[.int .u16 m, v] w fun e w' => e = .returned (.bool true) ∧ Below w.heap.size w w' := by
  obtain ⟨n, rfl, h⟩ := wf_u16 hm
  exact cells_walk n h v cells w hT hd
end Go.Proofs.YthbmfinaoejheaaDoor
