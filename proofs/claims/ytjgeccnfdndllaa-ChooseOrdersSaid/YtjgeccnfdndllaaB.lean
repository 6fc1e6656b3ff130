/- The law of choose: the example of the document, and ChooseMore. -/
import Derived.Test.YtjgeccnfdndllaaA
import Derived.Test.YtjgeccnfdndllaaMany
namespace Go.Proofs.Ytjgeccnfdndllaa
open Go.RowKit
theorem rd_blk {α : Type} {w : World} {g t size : Nat} {fr : Nat × Nat} {enc : α → List Value} (xs : List α) (he : ∀ x, (enc x).length = size) (h : w.heap[g]? = some (.cells (xs.flatMap enc).toArray t fr)) (hn : xs.length ≤ 9223372036854775807) : Rd w size enc (.slice (some ⟨g, 0, none⟩) xs.length xs.length) xs :=
  ⟨⟨_, _, rfl, Nat.le_refl _, hn⟩, fun A n c hv i x hx => by
    injection hv with h1 h2 h3
    subst h1
    refine ⟨g, 0, rfl, lt_of_blk h, fun j hj => ?_⟩
    rw [cell_of_blk h, Nat.zero_add]
    simpa using flat_get he xs i j x hx hj⟩
theorem rd_nil (w : World) (size : Nat) {α : Type} (enc : α → List Value) : Rd w size enc (.slice none 0 0) ([] : List α) := ⟨⟨none, 0, rfl, by simp, by simp⟩, by intro A n c hv i x hx; simp at hx⟩
theorem best_nil {r : Int} (h : IsBest 0 [] r) : r = -1 := by
  rcases h with ⟨_, h⟩ | ⟨h1, h2, _⟩
  · exact h
  · omega
theorem best_132 {r : Int} (h : IsBest 3 [1, 3, 2] r) : r = 1 := by
  rcases h with ⟨h, _⟩ | ⟨h1, h2, m, h3, h4, h5⟩
  · omega
  · have h6 := h4 1 3 (by omega) rfl
    have : r = 0 ∨ r = 1 ∨ r = 2 := by omega
    rcases this with rfl | rfl | rfl
    · simp at h3; omega
    · rfl
    · simp at h3; omega
set_option maxHeartbeats 1600000 in
theorem alive_does (w : World) : Calls Try.prog 6 #[] w fun e w' => e = .returned (.bool true) ∧ Below w.heap.size w w' := by
  go_enter Try.func6, Try.ntmps6
  go_wp2_with fail
  refine (best_does _ [] _ (rd_nil _ 1 encInt)).mono ?_
  rintro e w1 ⟨⟨r, rfl, hr⟩, HB⟩
  obtain rfl := best_nil hr
  have HB := As.mk HB
  clear hr
  go_wp2_with fail
  refine (best_does _ [1, 3, 2] _ (rd_blk [1, 3, 2] encInt_len (blk_new rfl) (by decide))).mono ?_
  rintro e w2 ⟨⟨r, rfl, hr⟩, HB2⟩
  obtain rfl := best_132 hr
  have HB2 := As.mk HB2
  clear hr
  go_wp2
  go_ret
  exact ⟨rfl, (bl_alloc HB.out _).trans (Below.mono HB2.out (by simp; have := HB.out.size; omega))⟩
theorem best_more {xs : List Int} {n r m x : Int} (h : IsBest xs.length xs r) (h0 : 0 ≤ r) (hx : xs[r.toNat]? = some x) (h2 : IsBest (xs ++ [n]).length (xs ++ [n]) m) : m = if x < n then (xs.length : Int) else r := by
  have uniq : ∀ {k : Nat} {l : List Int} {a b : Int}, IsBest k l a → IsBest k l b → k ≤ l.length → a = b := by
    intro k l a b ha hb hk
    rcases ha with ⟨h1, h2⟩ | ⟨h1, h2, p, h3, h4, h5⟩ <;> rcases hb with ⟨g1, g2⟩ | ⟨g1, g2, q, g3, g4, g5⟩
    · omega
    · omega
    · omega
    · by_cases hab : a < b
      · have e1 := g5 a.toNat p (by omega) h3
        have e2 := h4 b.toNat q (by omega) g3
        omega
      · by_cases hba : b < a
        · have e1 := h5 b.toNat q (by omega) g3
          have e2 := g4 a.toNat p (by omega) h3
          omega
        · omega
  have hlen : (xs ++ [n]).length = xs.length + 1 := by simp
  have hrl := h.lt
  have hxl : r.toNat < xs.length := by omega
  have e1 : (xs ++ [n])[r.toNat]? = some x := by rw [List.getElem?_append_left hxl]; exact hx
  have e2 : (xs ++ [n])[xs.length]? = some n := by simp
  have h3 : IsBest xs.length (xs ++ [n]) r := by
    rcases h with ⟨h1, h2⟩ | ⟨h1, h2, p, h3, h4, h5⟩
    · omega
    · rw [hx] at h3; injection h3 with e; subst e
      refine .inr ⟨h1, h2, x, e1, ?_, ?_⟩
      · intro i y hi hy
        rw [List.getElem?_append_left hi] at hy
        exact h4 i y hi hy
      · intro i y hi hy
        rw [List.getElem?_append_left (by omega)] at hy
        exact h5 i y hi hy
  rw [hlen] at h2
  split
  · next hlt => exact uniq h2 (h3.more h0 e1 e2 hlt) (by omega)
  · next hge => exact uniq h2 (h3.stay h0 e1 e2 (by omega)) (by omega)
end Go.Proofs.Ytjgeccnfdndllaa
