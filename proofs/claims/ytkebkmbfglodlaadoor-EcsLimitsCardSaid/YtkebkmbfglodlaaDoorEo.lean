/- The laws' arguments, opened. -/
import Derived.Test.YtkebkmbfglodlaaDoorEs16
import Derived.Test.YtkebkmbfglodlaaDoorOpen
set_option maxRecDepth 100000
namespace Go.Proofs.YtkebkmbfglodlaaDoor
open Go.RowKit Go.ChangeShapes Go.WideShapes Go.Deep
theorem wf_u16 {n : Int} (h : (Lit.int .u16 n).wf = true) : ∃ m : Nat, n = m ∧ m < 65536 := by
  have e1 : IntKind.u16.min = 0 := by decide
  have e2 : IntKind.u16.max = 65535 := by decide
  simp only [Lit.wf, e1, e2, Bool.and_eq_true, decide_eq_true_eq] at h
  exact ⟨n.toNat, by omega, by omega⟩
theorem cellsI : Tryd.prog.cellsOf 3 = 1 := by kernel_rfl
theorem cellsC : Tryd.prog.cellsOf 33 = 2 := by kernel_rfl
section
variable {H : Type} {enc : TypeId × Value → H} {W : World} {spare : Nat → Bool} {held : Bool}
theorem elem_i (n : Nat) (cs : List Value) (y : DataW H × List MemPlace) (h : DataW.trod enc Tryd.prog W 0 spare held n 3 cs = some y) : ∃ a : Int, cs = encI a ∧ True := by
  obtain ⟨a, ha, _⟩ := DataW.trod_int Tryd.underlying3 h
  exact ⟨a, ha, trivial⟩
theorem open_ints {base : Nat} {v : Value} {d : DataW H} {p : List MemPlace} (hv : Value.okWide Tryd.prog W .any base 63 v)
    (h : DataW.Trod enc Tryd.prog W 0 (fun _ => true) true 63 v d p) : ∃ xs : List Int, Rd W 1 encI v xs := by
  obtain ⟨a, len, cap, rfl⟩ := okWide_slice Tryd.underlying63 hv
  obtain ⟨fuel, hf⟩ := h
  have hf2 : DataW.trod enc Tryd.prog W 0 (fun _ => true) true fuel 63 [.slice a len cap] = some (d, p) := by simpa [Value.cells] using hf
  obtain ⟨xs, h1, _⟩ := rd_open Tryd.underlying63 encI 1 (by decide) cellsI (fun _ => True) elem_i hf2
  exact ⟨xs, h1⟩
theorem elem_u (n : Nat) (cs : List Value) (y : DataW H × List MemPlace) (h : DataW.trod enc Tryd.prog W 0 spare held n 35 cs = some y) : ∃ a : Int, cs = encH a ∧ (0 ≤ a ∧ a < 65536) := by
  obtain ⟨a, ha, _, hw⟩ := DataW.trod_int Tryd.underlying35 h
  obtain ⟨m, rfl, hm⟩ := wf_u16 hw
  exact ⟨(m : Int), ha, by omega, by omega⟩
theorem open_u16s {base : Nat} {v : Value} {d : DataW H} {p : List MemPlace} (hv : Value.okWide Tryd.prog W .any base 28 v)
    (h : DataW.Trod enc Tryd.prog W 0 (fun _ => true) true 28 v d p) : ∃ xs : List Int, Rd W 1 encH v xs ∧ ∀ x ∈ xs, 0 ≤ x ∧ x < 65536 := by
  obtain ⟨a, len, cap, rfl⟩ := okWide_slice Tryd.underlying28 hv
  obtain ⟨fuel, hf⟩ := h
  have hf2 : DataW.trod enc Tryd.prog W 0 (fun _ => true) true fuel 28 [.slice a len cap] = some (d, p) := by simpa [Value.cells] using hf
  exact rd_open Tryd.underlying28 encH 1 (by decide) (by kernel_rfl) (fun a => 0 ≤ a ∧ a < 65536) elem_u hf2
end
end Go.Proofs.YtkebkmbfglodlaaDoor
