/- SchedShares: the walk and the opened arguments, together. -/
import Derived.Test.YtkfkacdiekpkfaaShares
import Derived.Test.YtkfkacdiekpkfaaOpen
namespace Go.Proofs.Ytkfkacdiekpkfaa
open Go.RowKit Go.ChangeShapes Go.WideShapes Go.Deep
theorem wf_max {n : Int} (h : (Lit.int .i64 n).wf = true) : -9223372036854775808 ≤ n ∧ n ≤ 9223372036854775807 := by
  have e1 : IntKind.i64.min = -9223372036854775808 := by decide
  have e2 : IntKind.i64.max = 9223372036854775807 := by decide
  simp only [Lit.wf, e1, e2, Bool.and_eq_true, decide_eq_true_eq] at h
  exact h
theorem cells3 : Try.prog.cellsOf 3 = 1 := by kernel_rfl
section
variable {H : Type} {enc : TypeId × Value → H} {W : World} {spare : Nat → Bool} {held : Bool}
theorem elem_i (n : Nat) (cs : List Value) (y : DataW H × List MemPlace) (h : DataW.trod enc Try.prog W 0 spare held n 3 cs = some y) : ∃ a : Int, cs = encInt a ∧ True := by
  obtain ⟨a, ha, _⟩ := DataW.trod_int Try.underlying3 h
  exact ⟨a, ha, trivial⟩
theorem open_ints {base : Nat} {v : Value} {d : DataW H} {p : List MemPlace} {ts : List TypeId} {ds : List (DataW H)} (hv : Value.okWide Try.prog W .any base 22 v)
    (_hsz : (DataW.weightsEach Try.prog ts ds).all (· ≤ reachBytes) = true) (h : DataW.Trod enc Try.prog W 0 (fun _ => true) true 22 v d p) : ∃ xs : List Int, Rd W 1 encInt v xs := by
  obtain ⟨a, len, cap, rfl⟩ := okWide_slice Try.underlying22 hv
  obtain ⟨fuel, hf⟩ := h
  have hf2 : DataW.trod enc Try.prog W 0 (fun _ => true) true fuel 22 [.slice a len cap] = some (d, p) := by simpa [Value.cells] using hf
  obtain ⟨xs, h1, _⟩ := rd_open Try.underlying22 encInt 1 (by decide) cells3 (fun _ => True) elem_i hf2
  exact ⟨xs, h1⟩
end
theorem shares_row (b0 : Int) (lv : Value) (l : List Int) (w : World) (hb0 : (Lit.int .i64 b0).wf = true) (hd : Rd w 1 encInt lv l) : Calls Try.prog 3 #[.int .i64 b0, lv] w fun e w' => e = .returned (.bool true) ∧ Below w.heap.size w w' := shares_walk b0 lv l w (wf_max hb0).2 hd
end Go.Proofs.Ytkfkacdiekpkfaa
