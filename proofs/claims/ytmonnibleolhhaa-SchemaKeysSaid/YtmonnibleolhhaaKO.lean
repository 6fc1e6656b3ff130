/- SchemaKeys: the walk and the opened arguments, together. -/
import Derived.Test.YtmonnibleolhhaaJ
import Derived.Test.YtmonnibleolhhaaOpen
set_option linter.unusedVariables false
namespace Go.Proofs.Ytmonnibleolhhaa
open Go.RowKit Go.ChangeShapes Go.WideShapes Go.Deep
theorem cells3 : Try.prog.cellsOf 3 = 1 := by kernel_rfl
theorem cells4 : Try.prog.cellsOf 4 = 1 := by kernel_rfl
theorem cells9 : Try.prog.cellsOf 9 = 1 := by kernel_rfl
theorem cells24 : Try.prog.cellsOf 24 = 3 := by kernel_rfl
section
variable {H : Type} {enc : TypeId × Value → H} {W : World} {spare : Nat → Bool} {held : Bool}
theorem elem_key (n : Nat) (cs : List Value) (y : DataW H × List MemPlace) (h : DataW.trod enc Try.prog W 0 spare held n 24 cs = some y) : ∃ a : KeyM, cs = encKey a ∧ a.f0.size ≤ 9223372036854775807 := by
  obtain ⟨xs, m, _, _, hl, hx, hf⟩ := DataW.trod_struct Try.underlying24 h
  rw [cells24] at hl
  match cs, hl with
  | [c0, c1, c2], _ =>
    have f0 : DataW.trod enc Try.prog W 0 spare held m 9 (([c0, c1, c2].drop 0).take (Try.prog.cellsOf 9)) = xs[0]? := by have h := hf 0 _ rfl; exact h
    have f1 : DataW.trod enc Try.prog W 0 spare held m 3 (([c0, c1, c2].drop 1).take (Try.prog.cellsOf 3)) = xs[1]? := by have h := hf 1 _ rfl; exact h
    have f2 : DataW.trod enc Try.prog W 0 spare held m 4 (([c0, c1, c2].drop 2).take (Try.prog.cellsOf 4)) = xs[2]? := by have h := hf 2 _ rfl; exact h
    rw [List.getElem?_eq_getElem (by rw [hx]; decide)] at f0 f1 f2
    rw [cells9] at f0
    rw [cells3] at f1
    rw [cells4] at f2
    obtain ⟨s, hs, _, hw⟩ := DataW.trod_string Try.underlying9 f0
    obtain ⟨b, hb, _, _⟩ := DataW.trod_int Try.underlying3 f1
    obtain ⟨t, ht, _⟩ := DataW.trod_bool Try.underlying4 f2
    simp at hs hb ht
    exact ⟨⟨s, b, t⟩, by rw [hs, hb, ht]; rfl, by simp only [maxLen] at hw; exact hw⟩
theorem open_keys {base : Nat} {v : Value} {d : DataW H} {p : List MemPlace} {ts : List TypeId} {ds : List (DataW H)} (hv : Value.okWide Try.prog W .any base 25 v)
    (_hsz : (DataW.weightsEach Try.prog ts ds).all (· ≤ reachBytes) = true) (h : DataW.Trod enc Try.prog W 0 (fun _ => true) true 25 v d p) : ∃ xs : List KeyM, Rd W 3 encKey v xs ∧ ∀ a ∈ xs, a.f0.size ≤ 9223372036854775807 := by
  obtain ⟨a, len, cap, rfl⟩ := okWide_slice Try.underlying25 hv
  obtain ⟨fuel, hf⟩ := h
  have hf2 : DataW.trod enc Try.prog W 0 (fun _ => true) true fuel 25 [.slice a len cap] = some (d, p) := by simpa [Value.cells] using hf
  exact rd_open Try.underlying25 encKey 3 (by decide) cells24 _ elem_key hf2
end
theorem keys_row (lv : Value) (l : List KeyM) (nmv : ByteArray) (at_ : Int) (w : World) (hd : Rd w 3 encKey lv l ∧ ∀ x ∈ l, x.f0.size ≤ 9223372036854775807) (hy : nmv.size ≤ maxLen) : Calls Try.prog 5 #[lv, .string nmv, .int .i64 at_] w fun e w' => e = .returned (.bool true) ∧ Below w.heap.size w w' := keys_walk lv l nmv at_ w hd
end Go.Proofs.Ytmonnibleolhhaa
