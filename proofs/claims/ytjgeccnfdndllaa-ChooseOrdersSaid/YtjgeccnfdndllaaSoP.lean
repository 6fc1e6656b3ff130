/- Sorting by blocks and merging in place: plain laws of lists. -/
import Derived.Test.YtjgeccnfdndllaaOwn
set_option linter.unusedVariables false
set_option linter.unusedSimpArgs false
namespace Go.Proofs.Ytjgeccnfdndllaa
open Go.RowKit
/-! swaps -/
theorem set_swap (P M Q : List Int) (x y : Int) : ((P ++ x :: (M ++ y :: Q)).set P.length y).set (P.length + 1 + M.length) x = P ++ y :: (M ++ x :: Q) := by
  rw [List.set_append_right _ _ (Nat.le_refl _), Nat.sub_self, List.set_cons_zero, List.set_append_right _ _ (by omega), show P.length + 1 + M.length - P.length = M.length + 1 by omega, List.set_cons_succ, List.set_append_right _ _ (Nat.le_refl _), Nat.sub_self, List.set_cons_zero]
theorem get_mid (P Q : List Int) (x : Int) : (P ++ x :: Q)[P.length]? = some x := by simp
theorem get_mid2 (P M Q : List Int) (x y : Int) : (P ++ x :: (M ++ y :: Q))[P.length + 1 + M.length]? = some y := by
  rw [List.getElem?_append_right (by omega), show P.length + 1 + M.length - P.length = M.length + 1 by omega, List.getElem?_cons_succ]
  simp
/-! orders -/
section
variable {R : Int → Int → Prop} (tr : ∀ x y z, R x y → R y z → R x z)
include tr in
/-- All of A1 and A2 lie before all of B1 and B2. -/
theorem split_lt {A1 A2 B1 B2 : List Int} (h1 : (A1 ++ B1).Pairwise R) (h2 : (A2 ++ B2).Pairwise R) (hA : ∀ x, A1.getLast? = some x → ∀ y, B2.head? = some y → R x y) (hB : ∀ x, A2.getLast? = some x → ∀ y, B1.head? = some y → R x y) :
    ∀ x ∈ A1 ++ A2, ∀ y ∈ B1 ++ B2, R x y := by
  have key : ∀ (A B A' B' : List Int), (A ++ B').Pairwise R → (A' ++ B).Pairwise R → (∀ x, A.getLast? = some x → ∀ y, B.head? = some y → R x y) → ∀ x ∈ A, ∀ y ∈ B, R x y := by
    intro A B A' B' hA1 hB1 hh x hx y hy
    obtain ⟨l, hl⟩ : ∃ l, A.getLast? = some l := by
      cases h : A.getLast? with
      | none => rw [List.getLast?_eq_none_iff] at h; subst h; simp at hx
      | some l => exact ⟨l, rfl⟩
    obtain ⟨f, hf⟩ : ∃ f, B.head? = some f := by
      cases B with
      | nil => simp at hy
      | cons f B => exact ⟨f, rfl⟩
    have e1 : x = l ∨ R x l := by
      obtain ⟨A0, rfl⟩ : ∃ A0, A = A0 ++ [l] := List.getLast?_eq_some_iff.1 hl
      rw [List.append_assoc, List.pairwise_append] at hA1
      rcases List.mem_append.1 hx with h | h
      · exact .inr (hA1.2.2 x h l (by simp))
      · exact .inl (by simpa using h)
    have e2 : f = y ∨ R f y := by
      cases B with
      | nil => simp at hy
      | cons f0 B =>
        obtain rfl : f0 = f := by simpa using hf
        rw [List.pairwise_append, List.pairwise_cons] at hB1
        rcases List.mem_cons.1 hy with h | h
        · exact .inl h.symm
        · exact .inr (hB1.2.1.1 y h)
    have e3 := hh l hl f hf
    rcases e1 with rfl | e1 <;> rcases e2 with rfl | e2
    · exact e3
    · exact tr _ _ _ e3 e2
    · exact tr _ _ _ e1 e3
    · exact tr _ _ _ e1 (tr _ _ _ e3 e2)
  intro x hx y hy
  rcases List.mem_append.1 hx with hx | hx <;> rcases List.mem_append.1 hy with hy | hy
  · exact (List.pairwise_append.1 h1).2.2 x hx y hy
  · exact key A1 B2 A2 B1 h1 h2 hA x hx y hy
  · exact key A2 B1 A1 B2 h2 h1 hB x hx y hy
  · exact (List.pairwise_append.1 h2).2.2 x hx y hy
/-- Two sorted halves of what was split. -/
theorem split_sorted {A1 A2 B1 B2 S1 S2 : List Int} (h : ∀ x ∈ A1 ++ A2, ∀ y ∈ B1 ++ B2, R x y) (p1 : S1.Perm (A1 ++ A2)) (p2 : S2.Perm (B1 ++ B2)) (s1 : S1.Pairwise R) (s2 : S2.Pairwise R) : (S1 ++ S2).Pairwise R ∧ (S1 ++ S2).Perm (A1 ++ B1 ++ (A2 ++ B2)) := by
  refine ⟨List.pairwise_append.2 ⟨s1, s2, fun x hx y hy => h x (p1.mem_iff.1 hx) y (p2.mem_iff.1 hy)⟩, (p1.append p2).trans ?_⟩
  rw [List.append_assoc, List.append_assoc]
  refine List.Perm.append_left A1 ?_
  rw [← List.append_assoc, ← List.append_assoc]
  exact List.Perm.append_right B2 List.perm_append_comm
end
end Go.Proofs.Ytjgeccnfdndllaa
