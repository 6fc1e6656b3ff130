/- Merging in place: the step. No condition but bounded sizes. -/
import Derived.Test.YtjgeccnfdndllaaSoGt
set_option linter.unusedVariables false
set_option linter.unusedSimpArgs false
set_option maxRecDepth 100000
namespace Go.Proofs.Ytjgeccnfdndllaa
open Go.RowKit
set_option maxHeartbeats 51200000 in
theorem sm_main (K : Nat) (ih : SMDo K) (w0 : World) (bx : Nat) (A : Option Addr) (cA : Nat) (ws : List Int) (hR : Rd w0 1 encInt (.slice A ws.length cA) ws) (w : World) (lst : List Hp) (g c a m b N : Nat) (P L1 L2 Q : List Int) (hs : SM ws L1 L2) (hn1 : 2 ≤ L1.length) (hn2 : 2 ≤ L2.length) (hK : L1.length + L2.length ≤ K + 1) (ha : a = P.length) (hm : m = a + L1.length) (hb : b = m + L2.length) (hN : N = b + Q.length) (hNb : N ≤ 1000000)
    (hS : At (fun _ => False) w0 w (Hp.seps (RW g N c (P ++ (L1 ++ (L2 ++ Q))) :: BX bx A ws.length cA :: lst))) :
    Calls Try.prog 27 #[.slice (some ⟨g, 0, none⟩) N c, .int .i64 a, .int .i64 m, .int .i64 b, FV bx] w fun e w' => e = .returned (.tuple #[]) ∧ ∃ S : List Int, S.Perm (L1 ++ L2) ∧ S.Pairwise (RO ws) ∧ At (fun _ => False) w0 w' (Hp.seps (RW g N c (P ++ (S ++ Q)) :: BX bx A ws.length cA :: lst)) := by
  obtain ⟨l1, hl1⟩ : ∃ l, l = L1.length := ⟨_, rfl⟩
  obtain ⟨l2, hl2⟩ : ∃ l, l = L2.length := ⟨_, rfl⟩
  obtain ⟨mid, hmid⟩ : ∃ x, x = (a + b) / 2 := ⟨_, rfl⟩
  obtain ⟨q, hq⟩ : ∃ x, x = a + b := ⟨_, rfl⟩
  obtain ⟨n, hn⟩ : ∃ x, x = mid + m := ⟨_, rfl⟩
  have HD := As.mk (⟨ha, by omega, by omega, hN, hNb, hl1, hl2, by omega, by omega, hmid, hn⟩ : a = P.length ∧ m = a + l1 ∧ b = m + l2 ∧ N = b + Q.length ∧ N ≤ 1000000 ∧ l1 = L1.length ∧ l2 = L2.length ∧ 2 ≤ l1 ∧ 2 ≤ l2 ∧ mid = (a + b) / 2 ∧ n = mid + m)
  have HM := As.mk hs
  have HR := As.mk hR
  have HI := As.mk ih
  have HK := As.mk hK
  have r0 : IntKind.i64.wrap ((m : Int) - (a : Int)) = (l1 : Int) := by rw [IntKind.wrap_i64]; omega
  have r2 : (l1 : Int) ≠ 1 := by omega
  have r3 : IntKind.i64.wrap ((b : Int) - (m : Int)) = (l2 : Int) := by rw [IntKind.wrap_i64]; omega
  have r4 : (l2 : Int) ≠ 1 := by omega
  have b1 : ((l1 : Int) == 1) = false := by rw [beq_eq_false_iff_ne]; exact r2
  have b2 : ((l2 : Int) == 1) = false := by rw [beq_eq_false_iff_ne]; exact r4
  have HB := As.mk (⟨b1, b2⟩ : _ ∧ _)
  have s1 : IntKind.i64.wrap ((a : Int) + (b : Int)) = (q : Int) := by rw [IntKind.wrap_i64]; omega
  have s2 : IntKind.i64.wrap ((mid : Int) + (m : Int)) = (n : Int) := by rw [IntKind.wrap_i64]; omega
  have e1 : (q : Int) / 2 = (mid : Int) := by omega
  have hqb : q ≤ 3000000 := by omega
  clear b1 b2 hs hn1 hn2 hK ha hm hb hN hNb hR hl1 hl2 hmid hq hn ih
  unfold FV
  go_enter Try.func27, Try.ntmps27
  go_upto_region 25 with fail
  rw [HB.out.1, HB.out.2]
  try rw [e1]
  clear r0 r2 r3 r4 s1 e1 hqb
  go_upto_region 27 with fail
  go_upto_if 140 with fail
  go_cut [20, 21] (fun sv rv wc => ∃ s0 r0 : Nat, sv = .int .i64 s0 ∧ rv = .int .i64 r0 ∧ As (a ≤ s0 ∧ s0 ≤ r0 ∧ r0 ≤ m ∧ r0 ≤ mid ∧ n - s0 ≤ b ∧ s0 ≤ mid ∧ (s0 = a ∨ n - s0 = b) ∧ (r0 = m ∨ r0 = mid)) ∧ wc = w)
  case first =>
    by_cases hmm : mid < m
    · obtain ⟨s0, hs0⟩ : ∃ s0, s0 = n - b := ⟨_, rfl⟩
      have s3 : IntKind.i64.wrap ((n : Int) - (b : Int)) = (s0 : Int) := by rw [IntKind.wrap_i64]; have := HD.out; omega
      have HS0 := As.mk hs0
      clear hs0
      go_wp2_with fail
      go_meet
      exact ⟨s0, mid, rfl, rfl, ⟨by have := HD.out; have := HS0.out; omega⟩, rfl⟩
    · have hmm2 : ¬ (mid : Int) < (m : Int) := by omega
      go_wp2_with fail
      go_meet
      exact ⟨a, m, rfl, rfl, ⟨by have := HD.out; omega⟩, rfl⟩
  case rest =>
    obtain ⟨s0, r0, rfl, rfl, HZ, rfl⟩ := hcut
    obtain ⟨p, hp⟩ : ∃ p, p = n - 1 := ⟨_, rfl⟩
    have s3 : IntKind.i64.wrap ((n : Int) - 1) = (p : Int) := by rw [IntKind.wrap_i64]; have := HD.out; omega
    have HP := As.mk hp
    clear hp
    go_wp2_with fail
    go_loopg [20, 21] (r0 - s0) (fun g0 sv rv wr => ∃ s r : Nat, r - s = g0 ∧ sv = .int .i64 s ∧ rv = .int .i64 r ∧ As (s0 ≤ s ∧ s ≤ r ∧ r ≤ r0 ∧ (∀ c x y, s0 ≤ c → c < s → L1[c - a]? = some x → L2[mid - 1 - c]? = some y → RO ws x y) ∧ (∀ c x y, r ≤ c → c < r0 → L1[c - a]? = some x → L2[mid - 1 - c]? = some y → RO ws y x)) ∧ At (fun _ => False) w0 wr (Hp.seps (RW g N c (P ++ (L1 ++ (L2 ++ Q))) :: BX bx A ws.length cA :: lst)))
    case atStart => exact ⟨s0, r0, rfl, rfl, rfl, ⟨Nat.le_refl _, HZ.out.2.1, Nat.le_refl _, fun c x y h1 h2 => by omega, fun c x y h1 h2 => by omega⟩, hS⟩
    case round =>
      clear hS s2 s3
      obtain ⟨s, r, hg, rfl, rfl, HX, hS⟩ := hrel
      by_cases hsr : s < r
      · as_aux_lemma =>
          obtain ⟨t, ht⟩ : ∃ t, t = (s + r) / 2 := ⟨_, rfl⟩
          obtain ⟨q2, hq2⟩ : ∃ q, q = s + r := ⟨_, rfl⟩
          obtain ⟨d, hd⟩ : ∃ d, d = p - t := ⟨_, rfl⟩
          have hpn := HP.out
          have hA := HD.out
          have hZ := HZ.out
          have hX1 := HX.out.1
          have hX2 := HX.out.2.2.1
          have s1 : IntKind.i64.wrap ((s : Int) + (r : Int)) = (q2 : Int) := by rw [IntKind.wrap_i64]; omega
          have hqb : q2 ≤ 3000000 := by omega
          have e1 : (q2 : Int) / 2 = (t : Int) := by omega
          have s2 : IntKind.i64.wrap ((p : Int) - (t : Int)) = (d : Int) := by rw [IntKind.wrap_i64]; omega
          obtain ⟨x, hx⟩ : ∃ x, L1[t - a]? = some x := ⟨_, List.getElem?_eq_getElem (by omega)⟩
          obtain ⟨y, hy⟩ : ∃ y, L2[mid - 1 - t]? = some y := ⟨_, List.getElem?_eq_getElem (by omega)⟩
          have hxL : x ∈ L1 := List.mem_of_getElem? hx
          have hyL : y ∈ L2 := List.mem_of_getElem? hy
          have g1 : (P ++ (L1 ++ (L2 ++ Q)))[t]? = some x := by
            rw [List.getElem?_append_right (by omega), List.getElem?_append_left (by omega), show t - P.length = t - a by omega]
            exact hx
          have g2 : (P ++ (L1 ++ (L2 ++ Q)))[d]? = some y := by
            rw [List.getElem?_append_right (by omega), List.getElem?_append_right (by omega), List.getElem?_append_left (by omega), show d - P.length - L1.length = mid - 1 - t by omega]
            exact hy
          have hxy := As.mk (HM.out.x x hxL y hyL)
          have htn : (t : Int) < (N : Int) := by omega
          have hdn : (d : Int) < (N : Int) := by omega
          have htb : t ≤ 1000000 := by omega
          have HU := As.mk (⟨hg, hsr, ht, hx, hy⟩ : _ ∧ _ ∧ _ ∧ _ ∧ _)
          have HKA : As (∀ V : World, At (fun _ => False) w0 V (Hp.seps (RW g N c (P ++ (L1 ++ (L2 ++ Q))) :: BX bx A ws.length cA :: lst)) → (V.cell? ⟨g, d, none⟩ = some (.int .i64 y) ∧ V.cell? ⟨g, t, none⟩ = some (.int .i64 x))) := ⟨fun V hV => ⟨((hV.rowAt 0 rfl).at1 d y g2).1, ((hV.rowAt 0 rfl).at1 t x g1).1⟩⟩
          have HKp : As (∀ V : World, Below wr.heap.size wr V → (V.cell? ⟨g, d, none⟩ = some (.int .i64 y) ∧ V.cell? ⟨g, t, none⟩ = some (.int .i64 x))) := ⟨fun V hb => HKA.out V (hS.below hb)⟩
          have HC := As.mk (clo2_does bx A cA ws HR.out y x (HM.out.o2 y hyL) (HM.out.o1 x hxL) hS.drew)
          clear g1 g2 hxL hyL hx hy hg ht hq2 hd hpn hA hZ hX1 hX2 hS
          go_upto_region 35 with fail
          try rw [e1]
          clear e1 s1
          go_cut [171] (fun vb wc => ∃ bb : Bool, vb = .bool bb ∧ As ((bb = true → RO ws x y) ∧ (bb = false → RO ws y x)) ∧ At (fun _ => False) w0 wc (Hp.seps (RW g N c (P ++ (L1 ++ (L2 ++ Q))) :: BX bx A ws.length cA :: lst)))
          case first =>
            go_region_held3 (fun V => V.cell? ⟨g, d, none⟩ = some (.int .i64 y) ∧ V.cell? ⟨g, t, none⟩ = some (.int .i64 x)) (first | with_reducible exact HKA.out _ HS3.out | exact HKp.out _ (by repeat (first | exact Below.refl _ _ | refine bl_drewN ?_ _ | refine Below.drew ?_ | refine bl_alloc ?_ _ | refine bl_set ?_ (by first | (simp; done) | omega | (simp; omega)) _))) (first | (go_at_call 18; refine HC.out.mono ?_; rintro e w3 ⟨cd, rfl, hcd, hS3⟩; have HS3 := As.mk hS3; have HCD := As.mk hcd; clear hS3 hcd))
            all_goals (go_wp2_with fail)
            all_goals (go_meet)
            all_goals (
              refine ⟨!decide (cd < 0), by first | rfl | simp, ⟨fun h => ?_, fun h => ?_⟩, HS3.out⟩
              · have h1 : ¬ cd < 0 := by simpa using h
                rw [HCD.out] at h1
                exact RO_of_not h1 hxy.out
              · have h1 : cd < 0 := by simpa using h
                exact .inl (HCD.out.1 h1))
          case rest =>
            clear HKA HKp HC
            obtain ⟨bb, rfl, HBB, hS⟩ := hcut
            cases bb with
            | true =>
              have HQ := As.mk (HBB.out.1 rfl)
              have s1 : IntKind.i64.wrap ((t : Int) + 1) = ((t + 1 : Nat) : Int) := by rw [IntKind.wrap_i64]; omega
              go_wp2_with fail
              go_roundg (r - (t + 1))
              case measure => have := HU.out; omega
              case rel =>
                refine ⟨t + 1, r, rfl, rfl, rfl, ⟨by have := HU.out; have := HX.out.1; omega, by have := HU.out; omega, HX.out.2.2.1, fun c' x' y' h1 h2 hx' hy' => ?_, HX.out.2.2.2.2⟩, hS⟩
                by_cases hc : c' = t
                · subst hc
                  rw [HU.out.2.2.2.1] at hx'
                  rw [HU.out.2.2.2.2] at hy'
                  injection hx' with hx'; injection hy' with hy'
                  rw [← hx', ← hy']; exact HQ.out
                · have hz := HZ.out; have hu := HU.out; have hx1 := HX.out.1; have hx2 := HX.out.2.2.1
                  exact RO_tr ws _ _ _ (pw_get HM.out.s1 (show c' - a < t - a by omega) hx' HU.out.2.2.2.1) (RO_tr ws _ _ _ HQ.out (pw_get HM.out.s2 (show mid - 1 - t < mid - 1 - c' by omega) HU.out.2.2.2.2 hy'))
            | false =>
              have HQ := As.mk (HBB.out.2 rfl)
              go_wp2_with fail
              go_roundg (t - s)
              case measure => have := HU.out; omega
              case rel =>
                refine ⟨s, t, rfl, rfl, rfl, ⟨HX.out.1, by have := HU.out; omega, by have := HU.out; have := HX.out.2.2.1; omega, HX.out.2.2.2.1, fun c' x' y' h1 h2 hx' hy' => ?_⟩, hS⟩
                by_cases hc : c' = t
                · subst hc
                  rw [HU.out.2.2.2.1] at hx'
                  rw [HU.out.2.2.2.2] at hy'
                  injection hx' with hx'; injection hy' with hy'
                  rw [← hx', ← hy']; exact HQ.out
                · by_cases hr : r ≤ c'
                  · exact HX.out.2.2.2.2 c' x' y' hr h2 hx' hy'
                  · have hz := HZ.out; have hu := HU.out; have hx1 := HX.out.1; have hx2 := HX.out.2.2.1
                    exact RO_tr ws _ _ _ (pw_get HM.out.s2 (show mid - 1 - c' < mid - 1 - t by omega) hy' HU.out.2.2.2.2) (RO_tr ws _ _ _ HQ.out (pw_get HM.out.s1 (show t - a < c' - a by omega) HU.out.2.2.2.1 hx'))
      · obtain rfl : s = r := by have := HX.out; omega
        obtain ⟨A1, B1, A2, B2, rfl, rfl, hA1, hA2, hlt⟩ := part_lt (s := s) (mid := mid) (a := a) (m := m) (b := b) (s0 := s0) (r0 := r0) HM.out (by have := HD.out; omega) (by have := HD.out; omega) HZ.out.1 HX.out.1 HX.out.2.2.1 HZ.out.2.2.1 (by have := HD.out; have := HZ.out; omega) HZ.out.2.2.2.2.2.1 HZ.out.2.2.2.1 (by have := HD.out; have := HZ.out; omega) HZ.out.2.2.2.2.2.2.2 HX.out.2.2.2.1 HX.out.2.2.2.2
        obtain ⟨en, hen⟩ : ∃ en, en = n - s := ⟨_, rfl⟩
        have hD := HD.out
        have hZ := HZ.out
        have hX1 := HX.out.1
        have hX2 := HX.out.2.2.1
        have hK := HK.out
        simp only [List.length_append] at hD hK
        have HN := As.mk (⟨hA1, hA2, by omega, by omega, by omega, by omega, by omega, by omega, by omega, by omega, by omega, by omega, by omega, by omega, by omega⟩ : A1.length = s - a ∧ A2.length = mid - s ∧ B1.length = en - mid ∧ B2.length = b - en ∧ a = P.length ∧ a ≤ s ∧ s ≤ mid ∧ s ≤ m ∧ m ≤ en ∧ en = m + (mid - s) ∧ mid ≤ en ∧ en ≤ b ∧ mid - a ≤ K ∧ b - mid ≤ K ∧ N = b + Q.length)
        have hNb := hD.2.2.2.2.1
        have hnn : n ≤ 3000000 := by omega
        have s1 : IntKind.i64.wrap ((n : Int) - (s : Int)) = (en : Int) := by rw [IntKind.wrap_i64]; omega
        have hn := HN.out
        clear hD hZ hX1 hX2 hK
        have HCr := As.mk (fun (h1 : s < m) (h2 : m < en) => sm_rot (A1 := A1) (B2 := B2) (lst := lst) (bx := bx) (A := A) (cA := cA) (ws := ws) (w0 := w0) (g := g) (c := c) (s := s) (m := m) (en := en) (N := N) (P := P) (Q := Q) (show B1.length = m - s by omega) (show A2.length = en - m by omega) h1 h2 (by rw [List.length_append]; omega) (by rw [List.length_append]; omega) hNb hS)
        have HCn := As.mk (fun (h : ¬ (s < m ∧ m < en)) => sm_norot (g := g) (c := c) (N := N) (P := P) (Q := Q) (lst := lst) (bx := bx) (A := A) (cA := cA) (ws := ws) (w0 := w0) (A1 := A1) (B2 := B2) (s := s) (m := m) (en := en) (show B1.length = m - s by omega) (show A2.length = en - m by omega) (by omega) (by omega) h hS)
        have HC1 := As.mk (fun (h1 : a < s) (h2 : s < mid) (W : World) (hS : At (fun _ => False) w0 W (Hp.seps (RW g N c (P ++ (A1 ++ (A2 ++ (B1 ++ (B2 ++ Q))))) :: BX bx A ws.length cA :: lst))) => sm_call (a := a) (s := s) (m := mid) HI.out HR.out HM.out.sub.1 (by omega) (by omega) h1 h2 (by omega) (by omega) (by simp only [List.length_append]; omega) hNb hS)
        have HC2 := As.mk (fun (h1 : mid < en) (h2 : en < b) (S1 : List Int) (hl : S1.length = mid - a) (W : World) (hS : At (fun _ => False) w0 W (Hp.seps (RW g N c ((P ++ S1) ++ (B1 ++ (B2 ++ Q))) :: BX bx A ws.length cA :: lst))) => sm_call (a := mid) (s := en) (m := b) HI.out HR.out HM.out.sub.2 (by omega) (by omega) h1 h2 (by omega) (by rw [List.length_append]; omega) (by omega) hNb hS)
        have HO1 := As.mk (fun h => sm_none (a := a) (s := s) (m := mid) HM.out.sub.1 (by omega) (by omega) h (by omega) (by omega))
        have HO2 := As.mk (fun h => sm_none (a := mid) (s := en) (m := b) HM.out.sub.2 (by omega) (by omega) h (by omega) (by omega))
        have HLT := As.mk hlt
        have HLn := As.mk (show ∀ S1 : List Int, S1.Perm (A1 ++ A2) → S1.length = mid - a from fun S1 h => by rw [h.length_eq, List.length_append]; omega)
        have HS := As.mk hS
        clear hn hNb hA1 hA2 hlt hen hg hsr HX HZ HD HM HR HI HK HN HP hS
        go_upto_region 39 with fail
        clear s1
        go_cut [185] (fun vb wc => vb = .bool (decide (s < m) && decide (m < en)) ∧ wc = wr)
        case first =>
          as_aux_lemma =>
            by_cases h1 : s < m
            · by_cases h2 : m < en
              · go_wp2_with fail
                go_meet
                exact ⟨by simp [h1, h2], rfl⟩
              · go_wp2_with fail
                go_meet
                exact ⟨by simp [h1, h2], rfl⟩
            · go_wp2_with fail
              go_meet
              exact ⟨by simp [h1], rfl⟩
        case rest =>
          obtain ⟨rfl, rfl⟩ := hcut
          go_upto_if 185 with fail
          go_cut [] (fun wz => At (fun _ => False) w0 wz (Hp.seps (RW g N c (P ++ (A1 ++ (A2 ++ (B1 ++ (B2 ++ Q))))) :: BX bx A ws.length cA :: lst)))
          case first =>
            as_aux_lemma =>
              cases hc : (decide (s < m) && decide (m < en)) with
              | true =>
                have HC := As.mk (HCr.out (by simp at hc; exact hc.1) (by simp at hc; exact hc.2))
                clear hc
                go_wp2_with fail
                refine HC.out.mono ?_
                rintro e w' ⟨rfl, hS⟩
                go_wp2_with fail
                go_meet
                exact hS
              | false =>
                have HC := As.mk (HCn.out (by intro h; simp [h.1, h.2] at hc))
                clear hc
                go_wp2_with fail
                go_meet
                exact HC.out
          case rest =>
            have HS := As.mk hcut
            clear hcut HCr HCn
            --A
            go_upto_region 41 with fail
            go_cut [199] (fun vb wc' => vb = .bool (decide (a < s) && decide (s < mid)) ∧ wc' = _)
            case first =>
              as_aux_lemma =>
                by_cases h1 : a < s
                · by_cases h2 : s < mid
                  · go_wp2_with fail
                    go_meet
                    exact ⟨by simp [h1, h2], rfl⟩
                  · go_wp2_with fail
                    go_meet
                    exact ⟨by simp [h1, h2], rfl⟩
                · go_wp2_with fail
                  go_meet
                  exact ⟨by simp [h1], rfl⟩
            case rest =>
              obtain ⟨rfl, rfl⟩ := hcut
              go_upto_if 199 with fail
              go_cut [] (fun wz => ∃ S1 : List Int, As (S1.Perm (A1 ++ A2) ∧ S1.Pairwise (RO ws)) ∧ At (fun _ => False) w0 wz (Hp.seps (RW g N c (P ++ (S1 ++ (B1 ++ (B2 ++ Q)))) :: BX bx A ws.length cA :: lst)))
              case first =>
                as_aux_lemma =>
                  cases hc : (decide (a < s) && decide (s < mid)) with
                  | true =>
                    have HC := As.mk (HC1.out (by simp at hc; exact hc.1) (by simp at hc; exact hc.2) _ HS.out)
                    clear hc
                    --B
                    go_wp2_with fail
                    refine HC.out.mono ?_
                    rintro e w' ⟨rfl, S1, HS1, hS⟩
                    go_wp2_with fail
                    go_meet
                    exact ⟨S1, HS1, hS⟩
                  | false =>
                    have HS1 := HO1.out (by intro h; simp [h.1, h.2] at hc)
                    clear hc
                    --C
                    go_wp2_with fail
                    go_meet
                    exact ⟨_, HS1, by simpa [List.append_assoc] using HS.out⟩
              case rest =>
                obtain ⟨S1, HS1, hS⟩ := hcut
                rw [← List.append_assoc] at hS
                have HSl := As.mk (HLn.out S1 HS1.out.1)
                clear HS HO1 HC1 HLn
                --D
                as_aux_lemma =>
                  by_cases h1 : mid < en
                  · by_cases h2 : en < b
                    · have HC := As.mk (HC2.out h1 h2 S1 HSl.out _ hS)
                      clear hS HC2 HO2
                      go_wp2_with fail
                      refine HC.out.mono ?_
                      rintro e w' ⟨rfl, S2, HS2, hS⟩
                      go_wp2_with fail
                      go_end0
                      exact ⟨rfl, sm_fin HLT.out HS1 HS2 hS⟩
                    · have HS2 := HO2.out (fun h => h2 h.2)
                      clear HC2 HO2
                      --E
                      go_wp2_with fail
                      go_end0
                      exact ⟨rfl, sm_fin HLT.out HS1 HS2 (by simpa [List.append_assoc] using hS)⟩
                  · have HS2 := HO2.out (fun h => h1 h.1)
                    clear HC2 HO2
                    --F
                    go_wp2_with fail
                    go_end0
                    exact ⟨rfl, sm_fin HLT.out HS1 HS2 (by simpa [List.append_assoc] using hS)⟩
end Go.Proofs.Ytjgeccnfdndllaa
