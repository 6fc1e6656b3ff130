/- Merging in place: two sorted rows. No condition but bounded sizes. -/
import Derived.Test.YtjgeccnfdndllaaSoF
set_option linter.unusedVariables false
set_option linter.unusedSimpArgs false
set_option maxRecDepth 100000
namespace Go.Proofs.Ytjgeccnfdndllaa
open Go.RowKit
theorem SM.sub {ws : List Int} {A1 B1 A2 B2 : List Int} (h : SM ws (A1 ++ B1) (A2 ++ B2)) : SM ws A1 A2 ∧ SM ws B1 B2 := by
  obtain ⟨s1, s2, hx, o1, o2⟩ := h
  rw [List.pairwise_append] at s1 s2
  refine ⟨⟨s1.1, s2.1, fun x h1 y h2 => hx x (List.mem_append_left _ h1) y (List.mem_append_left _ h2), fun x h1 => o1 x (List.mem_append_left _ h1), fun x h1 => o2 x (List.mem_append_left _ h1)⟩, ⟨s1.2.1, s2.2.1, fun x h1 y h2 => hx x (List.mem_append_right _ h1) y (List.mem_append_right _ h2), fun x h1 => o1 x (List.mem_append_right _ h1), fun x h1 => o2 x (List.mem_append_right _ h1)⟩⟩
def SMDo (K : Nat) : Prop := ∀ (w0 : World) (bx : Nat) (A : Option Addr) (cA : Nat) (ws : List Int), Rd w0 1 encInt (.slice A ws.length cA) ws → ∀ (w : World) (lst : List Hp) (g c a m b N : Nat) (P L1 L2 Q : List Int), SM ws L1 L2 → L1 ≠ [] → L2 ≠ [] → L1.length + L2.length ≤ K → a = P.length → m = a + L1.length → b = m + L2.length → N = b + Q.length → N ≤ 1000000 →
  At (fun _ => False) w0 w (Hp.seps (RW g N c (P ++ (L1 ++ (L2 ++ Q))) :: BX bx A ws.length cA :: lst)) →
  Calls Try.prog 27 #[.slice (some ⟨g, 0, none⟩) N c, .int .i64 a, .int .i64 m, .int .i64 b, FV bx] w fun e w' => e = .returned (.tuple #[]) ∧ ∃ S : List Int, S.Perm (L1 ++ L2) ∧ S.Pairwise (RO ws) ∧ At (fun _ => False) w0 w' (Hp.seps (RW g N c (P ++ (S ++ Q)) :: BX bx A ws.length cA :: lst))
/-- Where the search ends, the rows part. -/
theorem part_lt {ws : List Int} {a m b mid s0 r0 s : Nat} {L1 L2 : List Int} (hs : SM ws L1 L2) (hm : m = a + L1.length) (hb : b = m + L2.length) (h0 : a ≤ s0) (h1 : s0 ≤ s) (h2 : s ≤ r0) (h3 : r0 ≤ m) (h4 : mid + m - s0 ≤ b) (h5 : s0 ≤ mid) (h6 : r0 ≤ mid) (hs0 : s0 = a ∨ mid + m - s0 = b) (hr0 : r0 = m ∨ r0 = mid)
    (hf : ∀ c x y, s0 ≤ c → c < s → L1[c - a]? = some x → L2[mid - 1 - c]? = some y → RO ws x y) (hg : ∀ c x y, s ≤ c → c < r0 → L1[c - a]? = some x → L2[mid - 1 - c]? = some y → RO ws y x) :
    ∃ A1 B1 A2 B2, L1 = A1 ++ B1 ∧ L2 = A2 ++ B2 ∧ A1.length = s - a ∧ A2.length = mid - s ∧ ∀ x ∈ A1 ++ A2, ∀ y ∈ B1 ++ B2, RO ws x y := by
  refine ⟨L1.take (s - a), L1.drop (s - a), L2.take (mid - s), L2.drop (mid - s), (List.take_append_drop _ _).symm, (List.take_append_drop _ _).symm, by rw [List.length_take]; omega, by rw [List.length_take]; omega, ?_⟩
  refine split_lt (RO_tr ws) (by rw [List.take_append_drop]; exact hs.s1) (by rw [List.take_append_drop]; exact hs.s2) (fun x hx y hy => ?_) (fun x hx y hy => ?_)
  · rw [List.getLast?_eq_getElem?, List.length_take, List.getElem?_take] at hx
    rw [List.head?_drop] at hy
    split at hx
    · rename_i hlt
      have hyl := (List.getElem?_eq_some_iff.1 hy).1
      refine hf (s - 1) x y (by omega) (by omega) ?_ ?_
      · rw [show s - 1 - a = min (s - a) L1.length - 1 by omega]; exact hx
      · rw [show mid - 1 - (s - 1) = mid - s by omega]; exact hy
    · cases hx
  · rw [List.getLast?_eq_getElem?, List.length_take, List.getElem?_take] at hx
    rw [List.head?_drop] at hy
    split at hx
    · rename_i hlt
      have hyl := (List.getElem?_eq_some_iff.1 hy).1
      refine hg s y x (Nat.le_refl _) (by omega) hy ?_
      rw [show mid - 1 - s = min (mid - s) L2.length - 1 by omega]; exact hx
    · cases hx
end Go.Proofs.Ytjgeccnfdndllaa
