/- Merging in place: the parts of the step's end. No condition but bounded sizes. -/
import Derived.Test.YtjgeccnfdndllaaSoG
set_option linter.unusedVariables false
set_option linter.unusedSimpArgs false
set_option maxRecDepth 100000
namespace Go.Proofs.Ytjgeccnfdndllaa
open Go.RowKit
/-- A call of the merge for a part of the row. -/
theorem sm_call {K : Nat} (ih : SMDo K) {w0 : World} {bx : Nat} {A : Option Addr} {cA : Nat} {ws : List Int} (hR : Rd w0 1 encInt (.slice A ws.length cA) ws) {lst : List Hp} {g c a s m N : Nat} {P A1 A2 R : List Int} (hs : SM ws A1 A2) (h1 : A1.length = s - a) (h2 : A2.length = m - s) (has : a < s) (hsm : s < m) (hK : m - a ≤ K) (ha : a = P.length) (hN : N = m + R.length) (hNb : N ≤ 1000000) {W : World}
    (hS : At (fun _ => False) w0 W (Hp.seps (RW g N c (P ++ (A1 ++ (A2 ++ R))) :: BX bx A ws.length cA :: lst))) :
    Calls Try.prog 27 #[.slice (some ⟨g, 0, none⟩) N c, .int .i64 a, .int .i64 s, .int .i64 m, .func (.func 18) #[] #[.pointer (some ⟨bx, 0, none⟩)]] W fun e w' => e = .returned (.tuple #[]) ∧ ∃ S : List Int, As (S.Perm (A1 ++ A2) ∧ S.Pairwise (RO ws)) ∧ At (fun _ => False) w0 w' (Hp.seps (RW g N c (P ++ (S ++ R)) :: BX bx A ws.length cA :: lst)) := by
  have n1 : A1 ≠ [] := by intro h; rw [h] at h1; simp at h1; omega
  have n2 : A2 ≠ [] := by intro h; rw [h] at h2; simp at h2; omega
  exact (ih w0 bx A cA ws hR W lst g c a s m N P A1 A2 R hs n1 n2 (by omega) ha (by omega) (by omega) hN hNb hS).mono (fun e w' ⟨h, S, p, o, hS⟩ => ⟨h, S, ⟨p, o⟩, hS⟩)
theorem sm_none {ws : List Int} {a s m : Nat} {A1 A2 : List Int} (hs : SM ws A1 A2) (h1 : A1.length = s - a) (h2 : A2.length = m - s) (hc : ¬ (a < s ∧ s < m)) (ha : a ≤ s) (hm : s ≤ m) : As ((A1 ++ A2).Perm (A1 ++ A2) ∧ (A1 ++ A2).Pairwise (RO ws)) := by
  refine ⟨List.Perm.refl _, ?_⟩
  rcases (by omega : a = s ∨ s = m) with h | h
  · rw [List.length_eq_zero_iff.1 (by omega : A1.length = 0)]; exact hs.s2
  · rw [List.length_eq_zero_iff.1 (by omega : A2.length = 0), List.append_nil]; exact hs.s1
theorem sm_rot {w0 : World} {bx : Nat} {A : Option Addr} {cA : Nat} {ws : List Int} {lst : List Hp} {g c s m en N : Nat} {P A1 A2 B1 B2 Q : List Int} (h1 : B1.length = m - s) (h2 : A2.length = en - m) (has : s < m) (hsm : m < en) (ha : s = (P ++ A1).length) (hN : N = en + (B2 ++ Q).length) (hNb : N ≤ 1000000) {W : World}
    (hS : At (fun _ => False) w0 W (Hp.seps (RW g N c (P ++ ((A1 ++ B1) ++ ((A2 ++ B2) ++ Q))) :: BX bx A ws.length cA :: lst))) :
    Calls Try.prog 28 #[.slice (some ⟨g, 0, none⟩) N c, .int .i64 s, .int .i64 m, .int .i64 en, .func (.func 18) #[] #[.pointer (some ⟨bx, 0, none⟩)]] W fun e w' => e = .returned (.tuple #[]) ∧ At (fun _ => False) w0 w' (Hp.seps (RW g N c (P ++ (A1 ++ (A2 ++ (B1 ++ (B2 ++ Q))))) :: BX bx A ws.length cA :: lst)) := by
  have n1 : B1 ≠ [] := by intro h; rw [h] at h1; simp at h1; omega
  have n2 : A2 ≠ [] := by intro h; rw [h] at h2; simp at h2; omega
  have hS2 : At (fun _ => False) w0 W (Hp.seps (Hp.row 3 1 encInt (.slice (some ⟨g, 0, none⟩) N c) ((P ++ A1) ++ (B1 ++ (A2 ++ (B2 ++ Q)))) :: BX bx A ws.length cA :: lst)) := by simpa [List.append_assoc] using hS
  exact (rot_does g c s m en N (.func (.func 18) #[] #[.pointer (some ⟨bx, 0, none⟩)]) (P ++ A1) B1 A2 (B2 ++ Q) n1 n2 ha (by omega) (by omega) hN hNb hS2).mono (fun e w' ⟨h, hS⟩ => ⟨h, by simpa [List.append_assoc] using hS⟩)
theorem sm_norot {w0 : World} {bx : Nat} {A : Option Addr} {cA : Nat} {ws : List Int} {lst : List Hp} {g c s m en N : Nat} {P A1 A2 B1 B2 Q : List Int} (h1 : B1.length = m - s) (h2 : A2.length = en - m) (ha : s ≤ m) (hm : m ≤ en) (hc : ¬ (s < m ∧ m < en)) {W : World}
    (hS : At (fun _ => False) w0 W (Hp.seps (RW g N c (P ++ ((A1 ++ B1) ++ ((A2 ++ B2) ++ Q))) :: BX bx A ws.length cA :: lst))) :
    At (fun _ => False) w0 W (Hp.seps (RW g N c (P ++ (A1 ++ (A2 ++ (B1 ++ (B2 ++ Q))))) :: BX bx A ws.length cA :: lst)) := by
  rcases (by omega : s = m ∨ m = en) with h | h
  · rw [List.length_eq_zero_iff.1 (by omega : B1.length = 0)] at hS ⊢; simpa [List.append_assoc] using hS
  · rw [List.length_eq_zero_iff.1 (by omega : A2.length = 0)] at hS ⊢; simpa [List.append_assoc] using hS
/-- The two halves, each merged, are the whole. -/
theorem sm_fin {w0 : World} {bx : Nat} {A : Option Addr} {cA : Nat} {ws : List Int} {lst : List Hp} {g c N : Nat} {P A1 A2 B1 B2 S1 S2 Q : List Int} (hlt : ∀ x ∈ A1 ++ A2, ∀ y ∈ B1 ++ B2, RO ws x y) (h1 : As (S1.Perm (A1 ++ A2) ∧ S1.Pairwise (RO ws))) (h2 : As (S2.Perm (B1 ++ B2) ∧ S2.Pairwise (RO ws))) {W : World}
    (hS : At (fun _ => False) w0 W (Hp.seps (RW g N c ((P ++ S1) ++ (S2 ++ Q)) :: BX bx A ws.length cA :: lst))) :
    ∃ S : List Int, S.Perm ((A1 ++ B1) ++ (A2 ++ B2)) ∧ S.Pairwise (RO ws) ∧ At (fun _ => False) w0 W (Hp.seps (RW g N c (P ++ (S ++ Q)) :: BX bx A ws.length cA :: lst)) := by
  have h := split_sorted hlt h1.out.1 h2.out.1 h1.out.2 h2.out.2
  exact ⟨S1 ++ S2, h.2, h.1, by simpa [List.append_assoc] using hS⟩
end Go.Proofs.Ytjgeccnfdndllaa
