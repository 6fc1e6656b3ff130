/- Rotating: two neighbouring ranges change places. No condition but bounded sizes. -/
import Derived.Test.YtjgeccnfdndllaaSoA
set_option linter.unusedVariables false
set_option linter.unusedSimpArgs false
namespace Go.Proofs.Ytjgeccnfdndllaa
open Go.RowKit
set_option maxHeartbeats 12800000 in
theorem rot_does {F : Nat → Prop} {w0 w : World} {lst : List Hp} (g c a m b N : Nat) (fv : Value) (P X Y Q : List Int) (hX : X ≠ []) (hY : Y ≠ []) (ha : a = P.length) (hm : m = a + X.length) (hb : b = m + Y.length) (hN : N = b + Q.length) (hNb : N ≤ 1000000)
    (hS : At F w0 w (Hp.seps (Hp.row 3 1 encInt (.slice (some ⟨g, 0, none⟩) N c) (P ++ (X ++ (Y ++ Q))) :: lst))) :
    Calls Try.prog 28 #[.slice (some ⟨g, 0, none⟩) N c, .int .i64 a, .int .i64 m, .int .i64 b, fv] w fun e w' => e = .returned (.tuple #[]) ∧ At F w0 w' (Hp.seps (Hp.row 3 1 encInt (.slice (some ⟨g, 0, none⟩) N c) (P ++ (Y ++ (X ++ Q))) :: lst)) := by
  obtain ⟨i0, hi0⟩ : ∃ i, i = X.length := ⟨_, rfl⟩
  obtain ⟨j0, hj0⟩ : ∃ j, j = Y.length := ⟨_, rfl⟩
  have hi1 : 1 ≤ i0 := by rw [hi0]; exact List.length_pos_iff.2 hX
  have hj1 : 1 ≤ j0 := by rw [hj0]; exact List.length_pos_iff.2 hY
  have HD := As.mk (⟨ha, by omega, by omega, hN, hNb, hi0, hj0, hi1, hj1⟩ : a = P.length ∧ m = a + i0 ∧ b = m + j0 ∧ N = b + Q.length ∧ N ≤ 1000000 ∧ i0 = X.length ∧ j0 = Y.length ∧ 1 ≤ i0 ∧ 1 ≤ j0)
  have r1 : IntKind.i64.wrap ((m : Int) - (a : Int)) = (i0 : Int) := by rw [IntKind.wrap_i64]; have := HD.out; omega
  have r2 : IntKind.i64.wrap ((b : Int) - (m : Int)) = (j0 : Int) := by rw [IntKind.wrap_i64]; have := HD.out; omega
  have HG : As (P ++ (X ++ (Y ++ Q)) = P ++ (X ++ (Y ++ Q))) := ⟨rfl⟩
  clear hX hY ha hm hb hN hNb hi0 hj0 hi1 hj1 HG
  go_enter Try.func28, Try.ntmps28
  go_wp2_with fail
  go_loopg [10, 11] (i0 + j0) (fun g0 iv jv wr => ∃ (i j : Nat) (P' X' Y' Q' : List Int), i + j = g0 ∧ iv = .int .i64 i ∧ jv = .int .i64 j ∧ As (1 ≤ i ∧ 1 ≤ j ∧ i = X'.length ∧ j = Y'.length ∧ m = P'.length + i ∧ N = m + j + Q'.length ∧ P' ++ (Y' ++ (X' ++ Q')) = P ++ (Y ++ (X ++ Q))) ∧ At F w0 wr (Hp.seps (Hp.row 3 1 encInt (.slice (some ⟨g, 0, none⟩) N c) (P' ++ (X' ++ (Y' ++ Q'))) :: lst)))
  case atStart =>
    exact ⟨i0, j0, P, X, Y, Q, rfl, rfl, rfl, ⟨by have := HD.out; omega, by have := HD.out; omega, by have := HD.out; omega, by have := HD.out; omega, by have := HD.out; omega, by have := HD.out; omega, rfl⟩, hS⟩
  case round =>
    clear hS r1 r2
    obtain ⟨i, j, P', X', Y', Q', hij, rfl, rfl, HX, hS⟩ := hrel
    obtain ⟨d, hd⟩ : ∃ d, d = m - i := ⟨_, rfl⟩
    have s1 : IntKind.i64.wrap ((m : Int) - (i : Int)) = (d : Int) := by rw [IntKind.wrap_i64]; have := HD.out; have := HX.out; omega
    by_cases hne : i = j
    · subst hne
      have hC := swap_does g c d m i N fv P' X' [] Y' Q' HX.out.2.2.1.symm HX.out.2.2.2.1.symm (by have := HX.out; omega) (by have := HX.out; simp; omega) (by have := HX.out; simp; omega) (by have := HD.out; omega) hS
      have HC := As.mk hC
      clear hC hS hij hd
      go_wp2_with fail
      refine HC.out.mono ?_
      rintro e w' ⟨rfl, hS⟩
      rw [List.nil_append, HX.out.2.2.2.2.2.2] at hS
      go_wp2_with fail
      go_end0
      exact ⟨rfl, hS⟩
    · have HIJ := As.mk hij
      rcases Nat.lt_or_gt_of_ne hne with hlt | hgt
      · obtain ⟨V1, V2, rfl, hv⟩ : ∃ V1 V2, Y' = V1 ++ V2 ∧ V2.length = i := ⟨Y'.take (j - i), Y'.drop (j - i), (List.take_append_drop _ _).symm, by rw [List.length_drop]; have := HX.out; omega⟩
        have hv1 : V1.length = j - i := by have h := HX.out.2.2.2.1; rw [List.length_append] at h; omega
        obtain ⟨q, hq⟩ : ∃ q, q = m + j - i := ⟨_, rfl⟩
        have s2 : IntKind.i64.wrap ((m : Int) + (j : Int)) = (m : Int) + (j : Int) := by rw [IntKind.wrap_i64]; have := HD.out; have := HX.out; omega
        have s3 : IntKind.i64.wrap ((m : Int) + (j : Int) - (i : Int)) = (q : Int) := by rw [IntKind.wrap_i64]; have := HD.out; have := HX.out; omega
        obtain ⟨j2, hj2⟩ : ∃ j2, j2 = j - i := ⟨_, rfl⟩
        have s4 : IntKind.i64.wrap ((j : Int) - (i : Int)) = (j2 : Int) := by rw [IntKind.wrap_i64]; have := HD.out; have := HX.out; omega
        rw [List.append_assoc] at hS
        have HC := As.mk (swap_does g c d q i N fv P' X' V1 V2 Q' HX.out.2.2.1.symm hv (by have := HX.out; omega) (by have := HX.out; omega) (by have := HX.out; omega) (by have := HD.out; omega) hS)
        have HX2 : As (1 ≤ i ∧ 1 ≤ j2 ∧ i = V2.length ∧ j2 = V1.length ∧ m = P'.length + i ∧ N = m + j2 + (X' ++ Q').length ∧ P' ++ (V1 ++ (V2 ++ (X' ++ Q'))) = P ++ (Y ++ (X ++ Q))) := ⟨by have := HX.out; omega, by omega, hv.symm, by omega, by have := HX.out; omega, by rw [List.length_append]; have := HX.out; omega, by rw [← HX.out.2.2.2.2.2.2]; simp⟩
        have HJ2 := As.mk hj2
        have hlti : ¬ (j : Int) < (i : Int) := by omega
        have HLt := As.mk hlt
        have nei : (i : Int) ≠ (j : Int) := by omega
        clear hS hij hd hv hv1 hq hj2 hne
        go_wp2_with fail
        refine HC.out.mono ?_
        rintro e w' ⟨rfl, hS⟩
        go_wp2_with fail
        go_roundg j
        case measure => have := HIJ.out; have := HX.out; omega
        case rel => exact ⟨i, j2, P', V2, V1, X' ++ Q', by have := HJ2.out; have := HLt.out; omega, rfl, rfl, HX2, hS⟩
      · obtain ⟨U1, U2, rfl, hv⟩ : ∃ U1 U2, X' = U1 ++ U2 ∧ U1.length = j := ⟨X'.take j, X'.drop j, (List.take_append_drop _ _).symm, by rw [List.length_take]; have := HX.out; omega⟩
        have hv1 : U2.length = i - j := by have h := HX.out.2.2.1; rw [List.length_append] at h; omega
        obtain ⟨i2, hi2⟩ : ∃ i2, i2 = i - j := ⟨_, rfl⟩
        have s4 : IntKind.i64.wrap ((i : Int) - (j : Int)) = (i2 : Int) := by rw [IntKind.wrap_i64]; have := HD.out; have := HX.out; omega
        rw [List.append_assoc] at hS
        have HC := As.mk (swap_does g c d m j N fv P' U1 U2 Y' Q' hv HX.out.2.2.2.1.symm (by have := HX.out; omega) (by have := HX.out; omega) (by have := HX.out; omega) (by have := HD.out; omega) hS)
        have HX2 : As (1 ≤ i2 ∧ 1 ≤ j ∧ i2 = U2.length ∧ j = U1.length ∧ m = (P' ++ Y').length + i2 ∧ N = m + j + Q'.length ∧ (P' ++ Y') ++ (U1 ++ (U2 ++ Q')) = P ++ (Y ++ (X ++ Q))) := ⟨by omega, by have := HX.out; omega, by omega, hv.symm, by rw [List.length_append]; have := HX.out; omega, by have := HX.out; omega, by rw [← HX.out.2.2.2.2.2.2]; simp⟩
        have HI2 := As.mk hi2
        have hgti : (j : Int) < (i : Int) := by omega
        have HLt := As.mk hgt
        have nei : (i : Int) ≠ (j : Int) := by omega
        clear hS hij hd hv hv1 hi2 hne
        go_wp2_with fail
        refine HC.out.mono ?_
        rintro e w' ⟨rfl, hS⟩
        rw [← List.append_assoc P' Y'] at hS
        go_wp2_with fail
        go_roundg i
        case measure => have := HIJ.out; have := HX.out; omega
        case rel => exact ⟨i2, j, P' ++ Y', U2, U1, Q', by have := HI2.out; have := HLt.out; omega, rfl, rfl, HX2, hS⟩
end Go.Proofs.Ytjgeccnfdndllaa
