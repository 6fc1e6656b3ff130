/- Sorting by blocks. No condition but bounded sizes. -/
import Derived.Test.YtjgeccnfdndllaaSoJ
set_option linter.unusedVariables false
set_option linter.unusedSimpArgs false
set_option maxRecDepth 100000
namespace Go.Proofs.Ytjgeccnfdndllaa
open Go.RowKit
theorem ins_empty (v : Value) (a bx : Nat) (ha : a ≤ 1000000) (w : World) : Calls Try.prog 26 #[v, .int .i64 a, .int .i64 a, FV bx] w fun e w' => e = .returned (.tuple #[]) ∧ Below w.heap.size w w' := by
  obtain ⟨i1, hi1⟩ : ∃ i1, i1 = a + 1 := ⟨_, rfl⟩
  have s0 : IntKind.i64.wrap ((a : Int) + 1) = (i1 : Int) := by rw [IntKind.wrap_i64]; omega
  have hi : ¬ i1 < a := by omega
  clear hi1
  unfold FV
  go_enter Try.func26, Try.ntmps26
  go_wp2_with fail
  go_loopg [8] 0 (fun g0 iv wr => g0 = 0 ∧ iv = .int .i64 (i1 : Int) ∧ Below w.heap.size w wr)
  case atStart => exact ⟨rfl, rfl, by first | exact Below.refl _ _ | (with_reducible exact bl_drew (Below.refl _ _)) | exact (by repeat (first | exact Below.refl _ _ | refine bl_drewN ?_ _ | refine Below.drew ?_ | refine bl_alloc ?_ _ | refine bl_set ?_ (by first | (simp; done) | omega | (simp; omega)) _))⟩
  case round =>
    obtain ⟨rfl, rfl, hb⟩ := hrel
    go_wp2_with fail
    go_end0
    refine ⟨rfl, ?_⟩
    first | exact hb | exact (by repeat (first | exact Below.refl _ _ | refine bl_drewN ?_ _ | refine Below.drew ?_ | refine bl_alloc ?_ _ | refine bl_set ?_ (by first | (simp; done) | omega | (simp; omega)) _))
theorem ins_any {w0 w : World} {lst : List Hp} (bx : Nat) (A : Option Addr) (cA : Nat) (ws : List Int) (hR : Rd w0 1 encInt (.slice A ws.length cA) ws) (g c a b N k : Nat) (P Q : List Int) (hok : a + k ≤ ws.length) (ha : a = P.length) (hb : b = a + k) (hN : N = b + Q.length) (hNb : N ≤ 1000000)
    (hS : At (fun _ => False) w0 w (Hp.seps (RW g N c (P ++ (iota a k ++ Q)) :: BX bx A ws.length cA :: lst))) :
    Calls Try.prog 26 #[.slice (some ⟨g, 0, none⟩) N c, .int .i64 a, .int .i64 b, .func (.func 18) #[] #[.pointer (some ⟨bx, 0, none⟩)]] w fun e w' => e = .returned (.tuple #[]) ∧ ∃ S : List Int, As (S.length = k ∧ Seg ws a S) ∧ At (fun _ => False) w0 w' (Hp.seps (RW g N c (P ++ (S ++ Q)) :: BX bx A ws.length cA :: lst)) := by
  by_cases hk : k = 0
  · subst hk
    obtain rfl : b = a := hb
    exact (ins_empty _ b bx (by omega) w).mono fun e w' ⟨h1, h2⟩ => ⟨h1, [], ⟨rfl, Seg.nil _ _⟩, hS.below h2⟩
  · refine (ins_does bx A cA ws hR g c a b N P (iota a k) Q (fun h => hk ?_) (iota_lt a k) (fun x hx => ?_) ha (by rw [iota_len]; exact hb) hN hNb hS).mono fun e w' ⟨h1, S, p, o, h2⟩ => ⟨h1, S, ⟨Seg.of p o⟩, h2⟩
    · rw [← iota_len a k, h]; rfl
    · have := iota_mem.1 hx
      unfold okI
      omega
theorem sm_seg {w0 : World} {bx : Nat} {A : Option Addr} {cA : Nat} {ws : List Int} (hR : Rd w0 1 encInt (.slice A ws.length cA) ws) {lst : List Hp} {g c a m b N : Nat} {P L1 L2 Q : List Int} (h1 : Seg ws a L1) (h2 : Seg ws m L2) (ha : a = P.length) (hm : m = a + L1.length) (hb : b = m + L2.length) (n1 : L1 ≠ []) (n2 : L2 ≠ []) (hN : N = b + Q.length) (hNb : N ≤ 1000000) (hNw : N ≤ ws.length) {W : World}
    (hS : At (fun _ => False) w0 W (Hp.seps (RW g N c (P ++ (L1 ++ (L2 ++ Q))) :: BX bx A ws.length cA :: lst))) :
    Calls Try.prog 27 #[.slice (some ⟨g, 0, none⟩) N c, .int .i64 a, .int .i64 m, .int .i64 b, .func (.func 18) #[] #[.pointer (some ⟨bx, 0, none⟩)]] W fun e w' => e = .returned (.tuple #[]) ∧ ∃ S : List Int, As (S.length = L1.length + L2.length ∧ Seg ws a S) ∧ At (fun _ => False) w0 w' (Hp.seps (RW g N c (P ++ (S ++ Q)) :: BX bx A ws.length cA :: lst)) :=
  (sm_all _ w0 bx A cA ws hR W lst g c a m b N P L1 L2 Q (h1.sm h2 hm (by omega)) n1 n2 (Nat.le_refl _) ha hm hb hN hNb hS).mono fun e w' ⟨h, S, p, o, hS⟩ => ⟨h, S, ⟨h1.merge h2 hm p o⟩, hS⟩
set_option maxHeartbeats 51200000 in
theorem stable_does {w0 w : World} {lst : List Hp} (bx : Nat) (A : Option Addr) (cA : Nat) (ws : List Int) (hR : Rd w0 1 encInt (.slice A ws.length cA) ws) (g c N : Nat) (hNw : N ≤ ws.length) (hNb : N ≤ 1000000)
    (hS : At (fun _ => False) w0 w (Hp.seps (RW g N c (iota 0 N) :: BX bx A ws.length cA :: lst))) :
    Calls Try.prog 24 #[.slice (some ⟨g, 0, none⟩) N c, .int .i64 N, FV bx] w fun e w' => e = .returned (.tuple #[]) ∧ ∃ S : List Int, As (S.length = N ∧ Seg ws 0 S) ∧ At (fun _ => False) w0 w' (Hp.seps (RW g N c S :: BX bx A ws.length cA :: lst)) := by
  have HD := As.mk (⟨hNw, hNb⟩ : _ ∧ _)
  have HR := As.mk hR
  clear hNw hNb hR
  unfold FV
  go_enter Try.func24, Try.ntmps24
  go_wp2_with fail
  go_loopg [7, 8] N (fun g0 av bv wr => ∃ (a b : Nat) (Ls : List (List Int)), N - a = g0 ∧ b = a + 20 ∧ av = .int .i64 a ∧ bv = .int .i64 b ∧ As (BK ws 20 0 Ls ∧ Ls.flatten.length = a ∧ a ≤ N) ∧ At (fun _ => False) w0 wr (Hp.seps (RW g N c (Ls.flatten ++ iota a (N - a)) :: BX bx A ws.length cA :: lst)))
  case atStart => exact ⟨0, 20, [], rfl, rfl, rfl, rfl, ⟨trivial, rfl, Nat.zero_le _⟩, by simpa using hS⟩
  case round =>
    clear hS
    obtain ⟨a, b, Ls, hg, hb, rfl, rfl, HX, hS⟩ := hrel
    by_cases hbN : b ≤ N
    · obtain ⟨b2, hb2⟩ : ∃ b2, b2 = b + 20 := ⟨_, rfl⟩
      have s1 : IntKind.i64.wrap ((b : Int) + 20) = (b2 : Int) := by rw [IntKind.wrap_i64]; have := HD.out; omega
      rw [show N - a = 20 + (N - b) by omega, ← iota_add, ← hb] at hS
      have HC := As.mk (ins_any bx A cA ws HR.out g c a b N 20 Ls.flatten (iota b (N - b)) (by have := HD.out; omega) HX.out.2.1.symm hb (by rw [iota_len]; omega) HD.out.2 hS)
      have HU := As.mk (⟨hg, hb, hb2, hbN⟩ : _ ∧ _ ∧ _ ∧ _)
      clear hS hg hb hb2
      go_wp2_with fail
      refine HC.out.mono ?_
      rintro e w' ⟨rfl, S, HS, hS⟩
      clear HC
      go_wp2_with fail
      go_roundg (N - b)
      case measure => have := HU.out; omega
      case rel => exact ⟨b, b2, Ls ++ [S], rfl, HU.out.2.2.1, rfl, rfl, ⟨HX.out.1.snoc HS.out.1 (by rw [HX.out.2.1, Nat.zero_add]; exact HS.out.2), by have := HX.out.2.1; have := HS.out.1; have := HU.out; rw [List.flatten_append, List.flatten_singleton, List.length_append]; omega, HU.out.2.2.2⟩, by simpa using hS⟩
    · have HC := As.mk (ins_any bx A cA ws HR.out g c a N N (N - a) Ls.flatten [] (by have := HD.out; have := HX.out.2.2; omega) HX.out.2.1.symm (by have := HX.out.2.2; omega) rfl HD.out.2 (by rw [List.append_nil]; exact hS))
      have HU := As.mk (show N - a < 20 by omega)
      clear hS hg hb
      go_wp2_with fail
      refine HC.out.mono ?_
      rintro e w' ⟨rfl, T, HT, hS⟩
      clear HC
      go_wp2_with fail
      rw [List.append_nil] at hS
      have HX2 := As.mk (⟨HX.out.1, by rw [Nat.zero_add, HX.out.2.1]; exact HT.out.2, by have := HT.out.1; have := HU.out; omega, by have := HT.out.1; have := HX.out.2; omega⟩ : BK ws 20 0 Ls ∧ Seg ws (0 + Ls.flatten.length) T ∧ T.length < 20 ∧ Ls.flatten.length + T.length = N)
      clear HX HT HU
      go_loopg [6] N (fun g0 kv wr => ∃ (k : Nat) (Ls : List (List Int)) (T : List Int), N - k ≤ g0 ∧ 20 ≤ k ∧ k ≤ 2000000 ∧ kv = .int .i64 k ∧ As (BK ws k 0 Ls ∧ Seg ws (0 + Ls.flatten.length) T ∧ T.length < k ∧ Ls.flatten.length + T.length = N) ∧ At (fun _ => False) w0 wr (Hp.seps (RW g N c (Ls.flatten ++ T) :: BX bx A ws.length cA :: lst)))
      case atStart => exact ⟨20, Ls, T, by omega, by omega, by omega, rfl, HX2, hS⟩
      case round =>
        clear hS HX2
        obtain ⟨k, Ls, T, hg, hk, hkb, rfl, HX, hS⟩ := hrel
        by_cases hkN : k < N
        · obtain ⟨k2, hk2⟩ : ∃ k2, k2 = 2 * k := ⟨_, rfl⟩
          have s1 : IntKind.i64.wrap (2 * (k : Int)) = (k2 : Int) := by rw [IntKind.wrap_i64]; have := HD.out; omega
          have HU := As.mk (⟨hg, hk, hkb, hk2⟩ : _ ∧ _ ∧ _ ∧ _)
          clear hg hk hk2
          go_wp2_with fail
          go_loopg [7, 8] N (fun g1 av bv wr => ∃ (a b : Nat) (Ms Ls : List (List Int)), N - a = g1 ∧ b = a + k2 ∧ av = .int .i64 a ∧ bv = .int .i64 b ∧ As (BK ws k2 0 Ms ∧ Ms.flatten.length = a ∧ BK ws k a Ls ∧ Seg ws (a + Ls.flatten.length) T ∧ T.length < k ∧ a + Ls.flatten.length + T.length = N) ∧ At (fun _ => False) w0 wr (Hp.seps (RW g N c (Ms.flatten ++ (Ls.flatten ++ T)) :: BX bx A ws.length cA :: lst)))
          case atStart => exact ⟨0, k2, [], Ls, rfl, by omega, rfl, rfl, ⟨trivial, rfl, HX.out.1, HX.out.2.1, HX.out.2.2.1, by have := HX.out.2.2.2; omega⟩, by simpa using hS⟩
          case round =>
            clear hS HX
            obtain ⟨a, b, Ms, Ls, hg, hb, rfl, rfl, HX, hS⟩ := hrel
            by_cases hbN : b ≤ N
            · obtain ⟨L1, L2, Ls', rfl, l1, l2, sg1, sg2, hBK⟩ := BK.two HX.out.2.2.1 HX.out.2.2.2.2.1 (by have := HX.out; have := HU.out; omega)
              obtain ⟨b2, hb2⟩ : ∃ b2, b2 = b + k2 := ⟨_, rfl⟩
              obtain ⟨m, hm⟩ : ∃ m, m = a + k := ⟨_, rfl⟩
              have s2 : IntKind.i64.wrap ((b : Int) + (k2 : Int)) = (b2 : Int) := by rw [IntKind.wrap_i64]; have := HD.out; have := HU.out; omega
              have s3 : IntKind.i64.wrap ((a : Int) + (k : Int)) = (m : Int) := by rw [IntKind.wrap_i64]; have := HD.out; have := HU.out; omega
              have hX := HX.out
              rw [List.flatten_cons, List.flatten_cons, List.length_append, List.length_append] at hX
              have hS2 : At (fun _ => False) w0 wr (Hp.seps (RW g N c (Ms.flatten ++ (L1 ++ (L2 ++ (Ls'.flatten ++ T)))) :: BX bx A ws.length cA :: lst)) := by simpa [List.append_assoc] using hS
              have HC := As.mk (sm_seg (a := a) (m := m) (b := b) HR.out sg1 (hm ▸ sg2) hX.2.1.symm (by omega) (by have := HU.out; omega) (by rintro rfl; have := HU.out; simp at l1; omega) (by rintro rfl; have := HU.out; simp at l2; omega) (by have := HU.out; rw [List.length_append]; omega) HD.out.2 HD.out.1 hS2)
              have HV := As.mk (⟨hg, hb, hb2, l1, l2, hBK, hbN, by rw [show b + Ls'.flatten.length = a + (L1.length + (L2.length + Ls'.flatten.length)) by have := HU.out; omega]; exact hX.2.2.2.1, by have := HU.out; omega⟩ : _ ∧ _ ∧ _ ∧ _ ∧ _ ∧ _ ∧ _ ∧ Seg ws (b + Ls'.flatten.length) T ∧ b + Ls'.flatten.length + T.length = N)
              clear hS hS2 hg hb hb2 hm hX l1 l2 sg1 sg2 hBK
              go_wp2_with fail
              refine HC.out.mono ?_
              rintro e w' ⟨rfl, S, HS, hS⟩
              clear HC
              go_wp2_with fail
              go_roundg (N - b)
              case measure => have := HU.out; have := HV.out; omega
              case rel =>
                refine ⟨b, b2, Ms ++ [S], Ls', rfl, HV.out.2.2.1, rfl, rfl, ⟨HX.out.1.snoc (by have := HS.out.1; have := HV.out; have := HU.out; omega) (by rw [HX.out.2.1, Nat.zero_add]; exact HS.out.2), ?_, ?_, HV.out.2.2.2.2.2.2.2.1, HX.out.2.2.2.2.1, HV.out.2.2.2.2.2.2.2.2⟩, by simpa [List.append_assoc] using hS⟩
                · have := HX.out.2.1; have := HS.out.1; have := HV.out; have := HU.out
                  rw [List.flatten_append, List.flatten_singleton, List.length_append]; omega
                · have h := HV.out.2.2.2.2.2.1
                  rw [show a + 2 * k = b by have := HV.out; have := HU.out; omega] at h
                  exact h
            · obtain ⟨m, hm⟩ : ∃ m, m = a + k := ⟨_, rfl⟩
              have s3 : IntKind.i64.wrap ((a : Int) + (k : Int)) = (m : Int) := by rw [IntKind.wrap_i64]; have := HD.out; have := HU.out; have := HX.out; omega
              have s4 : IntKind.i64.wrap ((k : Int) * 2) = (k2 : Int) := by rw [IntKind.wrap_i64]; have := HD.out; have := HU.out; omega
              have hX := HX.out
              have hl : Ls.flatten.length + T.length < k2 := by omega
              by_cases hmN : m < N
              · obtain ⟨L, rfl, l1, sg1, hT0⟩ := BK.one hX.2.2.1 hX.2.2.2.2.1 (by omega) (by have := HU.out; omega)
                rw [List.flatten_singleton] at hX hS
                have hS2 : At (fun _ => False) w0 wr (Hp.seps (RW g N c (Ms.flatten ++ (L ++ (T ++ []))) :: BX bx A ws.length cA :: lst)) := by rw [List.append_nil]; exact hS
                have HC := As.mk (sm_seg (a := a) (m := m) (b := N) (N := N) (Q := []) HR.out sg1 (by rw [hm, ← l1]; exact hX.2.2.2.1) hX.2.1.symm (by omega) (by omega) (by rintro rfl; have := HU.out; simp at l1; omega) hT0 rfl HD.out.2 HD.out.1 hS2)
                have HV := As.mk (⟨hX.1, hX.2.1, by omega, by have := HU.out; omega⟩ : BK ws k2 0 Ms ∧ Ms.flatten.length = a ∧ a + (L.length + T.length) = N ∧ L.length + T.length < k2)
                clear hS hS2 hX hg hb hm hl l1 sg1 hT0 HX
                go_wp2_with fail
                refine HC.out.mono ?_
                rintro e w' ⟨rfl, S, HS, hS⟩
                clear HC
                rw [List.append_nil] at hS
                go_wp2_with fail
                go_roundg (N - k2)
                case measure => have := HU.out; omega
                case rel => exact ⟨k2, Ms, S, Nat.le_refl _, by have := HU.out; omega, by have := HD.out; have := HU.out; omega, rfl, ⟨HV.out.1, by rw [HV.out.2.1, Nat.zero_add]; exact HS.out.2, by have := HS.out.1; have := HV.out; omega, by have := HS.out.1; have := HV.out; omega⟩, hS⟩
              · have HS := As.mk (hX.2.2.1.last hX.2.2.2.2.1 hX.2.2.2.1 (by omega))
                have HV := As.mk (⟨hX.1, hX.2.1, by rw [List.length_append]; omega, by rw [List.length_append]; exact hl⟩ : BK ws k2 0 Ms ∧ Ms.flatten.length = a ∧ a + (Ls.flatten ++ T).length = N ∧ (Ls.flatten ++ T).length < k2)
                clear hX hg hb hm hl HX
                go_wp2_with fail
                go_roundg (N - k2)
                case measure => have := HU.out; omega
                case rel => exact ⟨k2, Ms, Ls.flatten ++ T, Nat.le_refl _, by have := HU.out; omega, by have := HD.out; have := HU.out; omega, rfl, ⟨HV.out.1, by rw [HV.out.2.1, Nat.zero_add]; exact HS.out, HV.out.2.2.2, by have := HV.out; omega⟩, hS⟩
        · have HF := As.mk (BK.last HX.out.1 HX.out.2.2.1 HX.out.2.1 (by have := HX.out; omega))
          have HL := As.mk (show (Ls.flatten ++ T).length = N by rw [List.length_append]; exact HX.out.2.2.2)
          clear hg hk hkb HX
          go_wp2_with fail
          go_end0
          exact ⟨rfl, _, ⟨HL.out, HF.out⟩, hS⟩
end Go.Proofs.Ytjgeccnfdndllaa
