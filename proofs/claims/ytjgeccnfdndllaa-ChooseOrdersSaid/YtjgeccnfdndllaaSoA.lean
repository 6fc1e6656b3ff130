/- Swapping ranges of a row. No condition but bounded sizes. -/
import Derived.Test.YtjgeccnfdndllaaSoP
import Derived.Test.YtjgeccnfdndllaaAt
import Derived.Test.YtjgeccnfdndllaaA
import Derived.Deep.Cut
set_option linter.unusedVariables false
set_option linter.unusedSimpArgs false
namespace Go.Proofs.Ytjgeccnfdndllaa
open Go.RowKit
theorem At.set1 {F0 : Nat → Prop} {w0 w : World} {l : List Hp} {xs : List Int} {g m c : Nat} (n : Nat) (h : At F0 w0 w (Hp.seps l)) (ha : l[n]? = some (Hp.row 3 1 encInt (.slice (some ⟨g, 0, none⟩) m c) xs)) (i : Nat) (x x' : Int) (hx : xs[i]? = some x) :
    At F0 w0 (w.setCell ⟨g, i, none⟩ (.int .i64 x')) (Hp.seps (l.set n (Hp.row 3 1 encInt (.slice (some ⟨g, 0, none⟩) m c) (xs.set i x')))) := by
  have h1 := h.setAt n ha encInt_len i 0 x x' (.int .i64 x') hx (by decide) rfl
  simpa only [Nat.mul_one, Nat.add_zero] using h1
theorem Rw.at1 {w : World} {g n c : Nat} {xs : List Int} (h : Rw w 3 1 encInt (.slice (some ⟨g, 0, none⟩) n c) xs) (i : Nat) (x : Int) (hx : xs[i]? = some x) : w.cell? ⟨g, i, none⟩ = some (.int .i64 x) ∧ w.frozen? ⟨g, i, none⟩ = false := by
  have := h.at_ encInt_len i x hx 0 (by decide)
  rw [Nat.mul_one, Nat.add_zero] at this
  exact this
abbrev RI (g c : Nat) (xs : List Int) : Hp := Hp.row 3 1 encInt (.slice (some ⟨g, 0, none⟩) xs.length c) xs
set_option maxHeartbeats 12800000 in
theorem swap_does {F : Nat → Prop} {w0 w : World} {lst : List Hp} (g c p q n N : Nat) (fv : Value) (P X M Y Q : List Int) (hX : X.length = n) (hY : Y.length = n) (hp : p = P.length) (hq : q = p + n + M.length) (hN : N = p + n + M.length + n + Q.length) (hb : N ≤ 1000000)
    (hS : At F w0 w (Hp.seps (Hp.row 3 1 encInt (.slice (some ⟨g, 0, none⟩) N c) (P ++ (X ++ (M ++ (Y ++ Q)))) :: lst))) :
    Calls Try.prog 29 #[.slice (some ⟨g, 0, none⟩) N c, .int .i64 p, .int .i64 q, .int .i64 n, fv] w fun e w' => e = .returned (.tuple #[]) ∧ At F w0 w' (Hp.seps (Hp.row 3 1 encInt (.slice (some ⟨g, 0, none⟩) N c) (P ++ (Y ++ (M ++ (X ++ Q)))) :: lst)) := by
  have HD := As.mk (⟨hX, hY, hp, hq, hN, hb⟩ : _ ∧ _ ∧ _ ∧ _ ∧ _ ∧ _)
  clear hX hY hp hq hN hb
  go_enter Try.func29, Try.ntmps29
  go_wp2_with fail
  go_loopg [10] n (fun g0 iv wr => ∃ (k : Nat) (X1 X2 Y1 Y2 xs : List Int), k + g0 = n ∧ iv = .int .i64 k ∧ As (X = X1 ++ X2 ∧ Y = Y1 ++ Y2 ∧ X1.length = k ∧ Y1.length = k ∧ xs = P ++ (Y1 ++ (X2 ++ (M ++ (X1 ++ (Y2 ++ Q)))))) ∧ At F w0 wr (Hp.seps (Hp.row 3 1 encInt (.slice (some ⟨g, 0, none⟩) N c) xs :: lst)))
  case atStart => exact ⟨0, [], X, [], Y, _, by omega, rfl, ⟨rfl, rfl, rfl, rfl, rfl⟩, hS⟩
  case round =>
    clear hS
    obtain ⟨k, X1, X2, Y1, Y2, xs, hk, rfl, HX, hS⟩ := hrel
    by_cases hlt : k < n
    · obtain ⟨x, X3, rfl⟩ : ∃ x X3, X2 = x :: X3 := by
        cases X2 with
        | nil => have h1 := HX.out.1; have h2 := HX.out.2.2.1; have h3 := HD.out.1; rw [h1, List.append_nil] at h3; omega
        | cons x X3 => exact ⟨x, X3, rfl⟩
      obtain ⟨y, Y3, rfl⟩ : ∃ y Y3, Y2 = y :: Y3 := by
        cases Y2 with
        | nil => have h1 := HX.out.2.1; have h2 := HX.out.2.2.2.1; have h3 := HD.out.2.1; rw [h1, List.append_nil] at h3; omega
        | cons y Y3 => exact ⟨y, Y3, rfl⟩
      have hXl : X1.length + (X3.length + 1) = n := by have h1 := HD.out.1; rw [HX.out.1] at h1; simpa using h1
      have hxs : xs = (P ++ Y1) ++ x :: ((X3 ++ (M ++ X1)) ++ y :: (Y3 ++ Q)) := by rw [HX.out.2.2.2.2]; simp
      obtain ⟨i1, hi1⟩ : ∃ i1, i1 = p + k := ⟨_, rfl⟩
      obtain ⟨i2, hi2⟩ : ∃ i2, i2 = q + k := ⟨_, rfl⟩
      have e1 : (P ++ Y1).length = i1 := by rw [List.length_append, HX.out.2.2.2.1, ← HD.out.2.2.1, hi1]
      have e2 : (P ++ Y1).length + 1 + (X3 ++ (M ++ X1)).length = i2 := by
        rw [e1, List.length_append, List.length_append, hi2, hi1]
        have := HD.out.2.2.2.1; have := HX.out.2.2.1; omega
      have g1 : xs[i1]? = some x := by rw [hxs, ← e1]; exact get_mid _ _ _
      have g2 : xs[i2]? = some y := by rw [hxs, ← e2]; exact get_mid2 _ _ _ _ _
      have hne : i1 ≠ i2 := by omega
      have hsw : (xs.set i1 y).set i2 x = P ++ ((Y1 ++ [y]) ++ (X3 ++ (M ++ ((X1 ++ [x]) ++ (Y3 ++ Q))))) := by rw [hxs, ← e1, ← e2, e1, ← e1, set_swap]; simp
      obtain ⟨c1, f1⟩ := (hS.rowAt 0 rfl).at1 i1 x g1
      obtain ⟨c2, f2⟩ := (hS.rowAt 0 rfl).at1 i2 y g2
      have hS2 := At.set1 0 (At.set1 0 hS rfl i1 x y g1) rfl i2 y x (by rw [List.getElem?_set_ne hne]; exact g2)
      rw [hsw] at hS2
      have s1 : IntKind.i64.wrap ((p : Int) + (k : Int)) = (i1 : Int) := by rw [IntKind.wrap_i64]; have := HD.out; omega
      have s2 : IntKind.i64.wrap ((q : Int) + (k : Int)) = (i2 : Int) := by rw [IntKind.wrap_i64]; have := HD.out; omega
      have s0 : IntKind.i64.wrap ((k : Int) + 1) = (k : Int) + 1 := by rw [IntKind.wrap_i64]; have := HD.out; omega
      have hl1 : (i1 : Int) < (N : Int) := by have := HD.out; omega
      have hl2 : (i2 : Int) < (N : Int) := by have := HD.out; omega
      have hne2 := hne.symm
      have HK := As.mk (⟨hk, hlt⟩ : _ ∧ _)
      have HS2 := As.mk hS2
      have HX2 : As (X = (X1 ++ [x]) ++ X3 ∧ Y = (Y1 ++ [y]) ++ Y3 ∧ (X1 ++ [x]).length = k + 1 ∧ (Y1 ++ [y]).length = k + 1) := ⟨by rw [HX.out.1]; simp, by rw [HX.out.2.1]; simp, by simp [HX.out.2.2.1], by simp [HX.out.2.2.2.1]⟩
      clear hS hS2 hsw g1 g2 e1 e2 hi1 hi2 hxs hXl hk HX
      go_wp2_with fail
      go_region
      go_wp2_with fail
      go_roundg (gk - 1)
      case measure => have := HK.out; omega
      case rel => exact ⟨k + 1, X1 ++ [x], X3, Y1 ++ [y], Y3, _, by have := HK.out; omega, rfl, ⟨HX2.out.1, HX2.out.2.1, HX2.out.2.2.1, HX2.out.2.2.2, rfl⟩, HS2.out.drew⟩
    · obtain rfl : k = n := by omega
      have hX2 : X2 = [] := by have h1 := HX.out.1; have h2 := HX.out.2.2.1; have h3 := HD.out.1; rw [h1, List.length_append] at h3; exact List.length_eq_zero_iff.1 (by omega)
      have hY2 : Y2 = [] := by have h1 := HX.out.2.1; have h2 := HX.out.2.2.2.1; have h3 := HD.out.2.1; rw [h1, List.length_append] at h3; exact List.length_eq_zero_iff.1 (by omega)
      have hxs : xs = P ++ (Y ++ (M ++ (X ++ Q))) := by rw [HX.out.2.2.2.2, HX.out.1, HX.out.2.1, hX2, hY2]; simp
      rw [hxs] at hS
      clear hX2 hY2 hxs hk hlt
      go_wp2_with fail
      go_end0
      exact ⟨rfl, hS⟩
end Go.Proofs.Ytjgeccnfdndllaa
