/- A list of trees as an argument, opened. -/
import Derived.Test.YtlkkibeoobognaaRf3InlineTrees
set_option linter.unusedVariables false
set_option linter.unusedSimpArgs false
set_option maxRecDepth 100000
namespace Go.Proofs.Ytlkkibeoobognaa.OpenInlineTrees
open Go.RowKit Go.ChangeShapes Go.WideShapes Go.Deep
open Go.Proofs.YtlkkibeoobognaaW.PrintWords Go.Proofs.YtlkkibeoobognaaW.PrintLast Go.Proofs.YtlkkibeoobognaaW.PrintMore Go.Proofs.Ytlkkibeoobognaa.PInlineTrees
def szT (t : S32) : Nat := t.f0.size + 1 + szN t.f1
def szTs : List S32 → Nat
  | [] => 0
  | x :: l => szT x + szTs l
theorem szT_mem : ∀ (l : List S32) (t : S32), t ∈ l → szN t.f1 ≤ szTs l
  | [], t, h => by simp at h
  | x :: l, t, h => by
    rw [szTs]
    rcases List.mem_cons.1 h with e | e
    · rw [e, szT]; omega
    · have := szT_mem l t e; omega
section
variable {H : Type} {enc : TypeId × Value → H} {W : World} {spare : Nat → Bool} {held : Bool}
theorem cellsT : Try.prog.cellsOf 32 = 11 := by kernel_rfl
theorem elem_tree (n : Nat) (cs : List Value) (y : DataW H × List MemPlace) (h : DataW.trod enc Try.prog W 0 spare held n 32 cs = some y) : ∃ x : S32, k32.K W x cs ∧ szT x ≤ Rows.uptoBulk y.1 := by
  obtain ⟨xs, m, rfl, rfl, hl, hx, hf⟩ := DataW.trod_struct Try.underlying32 h
  rw [cellsT] at hl
  replace hx : xs.length = 2 := hx
  obtain ⟨x0, x1, rfl⟩ : ∃ a b, xs = [a, b] := by
    match xs, hx with
    | [a, b], _ => exact ⟨a, b, rfl⟩
  obtain ⟨c0, c1, c2, c3, c4, c5, c6, c7, c8, c9, c10, rfl⟩ : ∃ a b c d e f g h i j k, cs = [a, b, c, d, e, f, g, h, i, j, k] := by
    match cs, hl with
    | [a, b, c, d, e, f, g, h, i, j, k], _ => exact ⟨a, b, c, d, e, f, g, h, i, j, k, rfl⟩
  have f0 : DataW.trod enc Try.prog W 0 spare held m 9 (([c0, c1, c2, c3, c4, c5, c6, c7, c8, c9, c10].drop 0).take (Try.prog.cellsOf 9)) = some x0 := by have h := hf 0 _ rfl; exact h
  have f1 : DataW.trod enc Try.prog W 0 spare held m 30 (([c0, c1, c2, c3, c4, c5, c6, c7, c8, c9, c10].drop 1).take (Try.prog.cellsOf 30)) = some x1 := by have h := hf 1 _ rfl; exact h
  rw [cells9] at f0
  rw [cellsN] at f1
  obtain ⟨s, hs, rfl, _⟩ := DataW.trod_string Try.underlying9 f0
  obtain ⟨x, hxK, hxs⟩ := elem_node m _ _ f1
  obtain ⟨A7, q7, A8, q8, A9, q9, hxe, l7, g7, l8, g8, l9, g9⟩ := k30_open hxK
  simp at hs hxe
  obtain ⟨e1, e2, e3, e4, e5, e6, e7, e8, e9, e10⟩ := hxe
  subst hs; subst e1; subst e2; subst e3; subst e4; subst e5; subst e6; subst e7; subst e8; subst e9; subst e10
  refine ⟨⟨s, x⟩, k32_mk W ⟨s, x⟩ l7 g7 l8 g8 l9 g9, ?_⟩
  simp only [List.map_cons, List.map_nil, Rows.uptoBulk.eq_6, Rows.uptoBulkAll, bulk_str, szT]
  omega
theorem open_treesU {base : Nat} {v : Value} {d : DataW H} {p : List MemPlace} (hv : Value.okWide Try.prog W .any base 22 v) (hb : Rows.uptoBulk d ≤ 1048576)
    (h : DataW.Trod enc Try.prog W 0 (fun _ => true) true 22 v d p) : ∃ l : List S32, ∃ A c, v = .slice A l.length c ∧ l.length ≤ c ∧ k32.C W A l.length l ∧ szTs l ≤ 1048576 := by
  obtain ⟨a, len, cap, rfl⟩ := okWide_slice Try.underlying22 hv
  obtain ⟨fuel, hf⟩ := h
  have hf2 : DataW.trod enc Try.prog W 0 (fun _ => true) true fuel 22 [.slice a len cap] = some (d, p) := by simpa [Value.cells] using hf
  obtain ⟨A, c, l, hA, hlc, hC, hz⟩ := C_open k32 (m := szT) (ms := szTs) rfl (fun _ _ => rfl) Try.underlying22 (by rw [cellsT]; rfl) (fun n' cs' y' hn hy => elem_tree n' cs' y' hy) hf2
  exact ⟨l, A, c, hA, hlc, hC, by simp only at hz; omega⟩
end
end Go.Proofs.Ytlkkibeoobognaa.OpenInlineTrees
