/- SchedRemoves: what is left is what is wanted. -/
import Derived.Test.YtkfkacdiekpkfaaX0
namespace Go.Proofs.Ytkfkacdiekpkfaa
open Go.RowKit
theorem rm_ok (n c g : Nat) (hn : n ≤ 30) (hc : c < n) (hg : g < n) : rotL ((idsN n).eraseIdx g) (rmc (n - 1) g c) = (wantN n c g n).map fid := by
  have h1 := List.all_eq_true.1 rm_all n (List.mem_range.2 (by omega))
  have h2 := List.all_eq_true.1 (List.all_eq_true.1 h1 c (List.mem_range.2 hc)) g (List.mem_range.2 hg)
  rw [idsN_map, ← eq_of_beq h2]
  have e : ((List.range n).map fid).eraseIdx g = ((List.range n).eraseIdx g).map fid := by
    rw [List.eraseIdx_eq_take_drop_succ, List.eraseIdx_eq_take_drop_succ, List.map_append, List.map_take, List.map_drop]
  unfold rotL
  rw [List.map_append, List.map_drop, List.map_take, e]
theorem pos_ids (n g : Nat) (hg : g < n) : pos (idsN n) ((g : Int), 1) = (g : Nat) := by
  rcases pos_spec (idsN n) ((g : Int), 1) with ⟨h, _⟩ | ⟨i, h1, h2, _⟩
  · exact absurd (List.mem_of_getElem? (idsN_get n g hg)) h
  · have hl := (List.getElem?_eq_some_iff.1 h2).1
    rw [idsN_len] at hl
    rw [idsN_get n i hl] at h2
    injection h2 with h2
    injection h2 with h2 _
    rw [h1]
    exact h2
end Go.Proofs.Ytkfkacdiekpkfaa
