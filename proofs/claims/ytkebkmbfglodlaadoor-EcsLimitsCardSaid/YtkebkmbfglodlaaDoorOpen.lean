/- How arguments are opened: a slice that came in reads as a list. No condition. -/
import Derived.Test.YtkebkmbfglodlaaDoorOwn
import Derived.ProofKit
import Derived.Deep.Slices
namespace Go.Proofs.YtkebkmbfglodlaaDoor
open Go.RowKit Go.ChangeShapes Go.WideShapes Go.Deep
section
variable {H : Type} {enc : TypeId × Value → H} {P : Program} {W : World} {spare : Nat → Bool} {held : Bool}
theorem rd_open {α : Type} {t e : TypeId} {fuel : Nat} {v : Value} {x : DataW H × List MemPlace} (ht : P.underlying t = some (.slice e)) (encA : α → List Value) (size : Nat) (hs0 : 0 < size) (hc : P.cellsOf e = size) (good : α → Prop)
    (hel : ∀ n cs' y, DataW.trod enc P W 0 spare held n e cs' = some y → ∃ a, cs' = encA a ∧ good a) (h : DataW.trod enc P W 0 spare held fuel t [v] = some x) : ∃ xs : List α, Rd W size encA v xs ∧ ∀ a ∈ xs, good a := by
  rcases open_slice ht h with ⟨h1, _⟩ | ⟨a, len, cap, m, n, D, Pl, h1, _, hl, hm, hmm, _, hx⟩
  · obtain rfl : v = .slice none 0 0 := by simpa using h1
    exact ⟨[], ⟨⟨none, 0, rfl, Nat.le_refl _, by simp⟩, fun A n c _ i x hx => by simp at hx⟩, by simp⟩
  · obtain rfl : v = .slice (some a) len cap := by simpa using h1
    have hlm : len ≤ m := by rw [hmm]; split <;> omega
    by_cases h0 : len = 0
    · subst h0
      exact ⟨[], ⟨⟨some a, cap, rfl, Nat.zero_le _, by simp⟩, fun A n c _ i x hx => by simp at hx⟩, by simp⟩
    · have hsp : a.spot = none := by
        obtain ⟨cs', hcs, htr⟩ := hx 0 (by omega)
        obtain ⟨y, rfl, _⟩ := hel n cs' _ htr
        obtain ⟨_, hlen, hcell⟩ := World.cells?_some hcs
        rw [hc] at hlen hcell
        have h2 := hcell 0 hs0
        rw [List.getElem?_eq_getElem (by omega), Nat.zero_mul] at h2
        have e2 : (a.add 0).add 0 = a := by simp [Addr.add]
        rw [e2] at h2
        unfold World.cell? at h2
        split at h2
        · by_cases h3 : a.spot = none
          · exact h3
          · rw [if_pos (by cases hs : a.spot <;> simp_all)] at h2; cases h2
        · cases h2
      obtain ⟨ab, ao, asp⟩ := a
      obtain rfl : asp = none := hsp
      have key : ∀ i, i < len → ∃ y : α, good y ∧ ab < W.heap.size ∧ ∀ j, j < size → W.cell? ⟨ab, ao + i * size + j, none⟩ = (encA y)[j]? := by
        intro i hi
        obtain ⟨cs', hcs, htr⟩ := hx i (by omega)
        obtain ⟨y, rfl, hg⟩ := hel n cs' _ htr
        obtain ⟨_, hlen, hcell⟩ := World.cells?_some hcs
        rw [hc] at hlen hcell
        have hall : ∀ j, j < size → W.cell? ⟨ab, ao + i * size + j, none⟩ = (encA y)[j]? := by
          intro j hj
          have h2 := hcell j hj
          rwa [Addr.add_lit, Addr.add_lit] at h2
        refine ⟨y, hg, ?_, hall⟩
        have h2 := hall 0 hs0
        rw [List.getElem?_eq_getElem (by omega)] at h2
        exact World.block_lt_of_cell? (a := ⟨ab, ao + i * size + 0, none⟩) W h2
      obtain ⟨y0, _⟩ := key 0 (by omega)
      haveI : Inhabited α := ⟨y0⟩
      obtain ⟨f, hf⟩ := choose_lt key
      have hlen : ((List.range len).map f).length = len := by simp
      refine ⟨(List.range len).map f, ⟨⟨some ⟨ab, ao, none⟩, cap, by rw [hlen], by rw [hlen]; exact hl, by rw [hlen]; simp only [maxLen] at hm; omega⟩, ?_⟩, ?_⟩
      · intro A n c hv i x hx
        injection hv with hA _ _
        subst hA
        have hi : i < len := by have := (List.getElem?_eq_some_iff.1 hx).1; omega
        have : f i = x := by simpa [hi] using hx
        subst this
        exact ⟨ab, ao, rfl, (hf i hi).2.1, (hf i hi).2.2⟩
      · intro y hy
        obtain ⟨i, hi, rfl⟩ := List.mem_map.1 hy
        exact (hf i (by simpa using hi)).1
end
end Go.Proofs.YtkebkmbfglodlaaDoor
