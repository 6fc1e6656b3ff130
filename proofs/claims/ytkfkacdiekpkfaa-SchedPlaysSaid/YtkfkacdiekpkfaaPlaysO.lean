/- SchedPlays: the walk and the opened argument, together. -/
import Derived.Test.YtkfkacdiekpkfaaPlaysW
import Derived.Test.YtkfkacdiekpkfaaSharesO
namespace Go.Proofs.Ytkfkacdiekpkfaa
open Go.RowKit Go.ChangeShapes Go.WideShapes Go.Deep
theorem cells46 : Try.prog.cellsOf 46 = 4 := by kernel_rfl
theorem cells35 : Try.prog.cellsOf 35 = 2 := by kernel_rfl
section
variable {H : Type} {enc : TypeId × Value → H} {W : World} {spare : Nat → Bool} {held : Bool}
theorem elem_id (n : Nat) (cs : List Value) (y : DataW H × List MemPlace) (h : DataW.trod enc Try.prog W 0 spare held n 35 cs = some y) : ∃ a b : Int, cs = [.int .i64 a, .int .i64 b] := by
  obtain ⟨xs, m, _, _, hl, hx, hf⟩ := DataW.trod_struct Try.underlying35 h
  rw [cells35] at hl
  match cs, hl with
  | [c0, c1], _ =>
    have f0 : DataW.trod enc Try.prog W 0 spare held m 3 (([c0, c1].drop 0).take (Try.prog.cellsOf 3)) = xs[0]? := by have h := hf 0 _ rfl; exact h
    have f1 : DataW.trod enc Try.prog W 0 spare held m 3 (([c0, c1].drop 1).take (Try.prog.cellsOf 3)) = xs[1]? := by have h := hf 1 _ rfl; exact h
    rw [List.getElem?_eq_getElem (by rw [hx]; decide)] at f0 f1
    rw [cells3] at f0 f1
    obtain ⟨a, ha, _, _⟩ := DataW.trod_int Try.underlying3 f0
    obtain ⟨b, hb, _, _⟩ := DataW.trod_int Try.underlying3 f1
    simp at ha hb
    exact ⟨a, b, by rw [ha, hb]⟩
theorem elem_act (n : Nat) (cs : List Value) (y : DataW H × List MemPlace) (h : DataW.trod enc Try.prog W 0 spare held n 46 cs = some y) : ∃ a : SAct, cs = encSA a ∧ a.n ≤ 9223372036854775807 := by
  obtain ⟨xs, m, _, _, hl, hx, hf⟩ := DataW.trod_struct Try.underlying46 h
  rw [cells46] at hl
  match cs, hl with
  | [c0, c1, c2, c3], _ =>
    have f0 : DataW.trod enc Try.prog W 0 spare held m 3 (([c0, c1, c2, c3].drop 0).take (Try.prog.cellsOf 3)) = xs[0]? := by have h := hf 0 _ rfl; exact h
    have f1 : DataW.trod enc Try.prog W 0 spare held m 3 (([c0, c1, c2, c3].drop 1).take (Try.prog.cellsOf 3)) = xs[1]? := by have h := hf 1 _ rfl; exact h
    have f2 : DataW.trod enc Try.prog W 0 spare held m 35 (([c0, c1, c2, c3].drop 2).take (Try.prog.cellsOf 35)) = xs[2]? := by have h := hf 2 _ rfl; exact h
    rw [List.getElem?_eq_getElem (by rw [hx]; decide)] at f0 f1 f2
    rw [cells3] at f0 f1
    rw [cells35] at f2
    obtain ⟨a, ha, _, _⟩ := DataW.trod_int Try.underlying3 f0
    obtain ⟨b, hb, _, hw⟩ := DataW.trod_int Try.underlying3 f1
    obtain ⟨x, g, hi⟩ := elem_id _ _ _ f2
    simp at ha hb hi
    exact ⟨⟨a, b, x, g⟩, by rw [ha, hb, hi.1, hi.2]; rfl, (wf_max hw).2⟩
theorem open_acts {base : Nat} {v : Value} {d : DataW H} {p : List MemPlace} {ts : List TypeId} {ds : List (DataW H)} (hv : Value.okWide Try.prog W .any base 41 v)
    (_hsz : (DataW.weightsEach Try.prog ts ds).all (· ≤ reachBytes) = true) (h : DataW.Trod enc Try.prog W 0 (fun _ => true) true 41 v d p) : ∃ xs : List SAct, Rd W 4 encSA v xs ∧ ∀ a ∈ xs, a.n ≤ 9223372036854775807 := by
  obtain ⟨a, len, cap, rfl⟩ := okWide_slice Try.underlying41 hv
  obtain ⟨fuel, hf⟩ := h
  have hf2 : DataW.trod enc Try.prog W 0 (fun _ => true) true fuel 41 [.slice a len cap] = some (d, p) := by simpa [Value.cells] using hf
  exact rd_open Try.underlying41 encSA 4 (by decide) cells46 _ elem_act hf2
end
theorem plays_row (lv : Value) (l : List SAct) (w : World) (hd : Rd w 4 encSA lv l ∧ ∀ a ∈ l, a.n ≤ 9223372036854775807) : Calls Try.prog 6 #[lv] w fun e w' => e = .returned (.bool true) ∧ Below w.heap.size w w' := plays_walk lv l w hd.1 hd.2
end Go.Proofs.Ytkfkacdiekpkfaa
