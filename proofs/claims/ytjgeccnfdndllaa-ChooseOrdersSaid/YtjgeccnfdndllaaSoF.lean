/- Merging in place: a sorted row and one element. No condition but bounded sizes. -/
import Derived.Test.YtjgeccnfdndllaaSoE
set_option linter.unusedVariables false
set_option linter.unusedSimpArgs false
set_option maxRecDepth 100000
namespace Go.Proofs.Ytjgeccnfdndllaa
open Go.RowKit
set_option maxHeartbeats 25600000 in
theorem sm_right {w0 w : World} {lst : List Hp} (bx : Nat) (A : Option Addr) (cA : Nat) (ws : List Int) (hR : Rd w0 1 encInt (.slice A ws.length cA) ws) (g c a m b N : Nat) (P : List Int) (y : Int) (L1 Q : List Int) (hs : SM ws L1 [y]) (hl1 : L1.length ≠ 1) (ha : a = P.length) (hm : m = a + L1.length) (hb : b = m + 1) (hN : N = b + Q.length) (hNb : N ≤ 1000000)
    (hS : At (fun _ => False) w0 w (Hp.seps (RW g N c (P ++ (L1 ++ (y :: Q))) :: BX bx A ws.length cA :: lst))) :
    Calls Try.prog 27 #[.slice (some ⟨g, 0, none⟩) N c, .int .i64 a, .int .i64 m, .int .i64 b, FV bx] w fun e w' => e = .returned (.tuple #[]) ∧ ∃ S : List Int, S.Perm (L1 ++ [y]) ∧ S.Pairwise (RO ws) ∧ At (fun _ => False) w0 w' (Hp.seps (RW g N c (P ++ (S ++ Q)) :: BX bx A ws.length cA :: lst)) := by
  obtain ⟨l1, hl⟩ : ∃ l1, l1 = L1.length := ⟨_, rfl⟩
  have HD := As.mk (⟨ha, by omega, hb, hN, hNb, hl⟩ : a = P.length ∧ m = a + l1 ∧ b = m + 1 ∧ N = b + Q.length ∧ N ≤ 1000000 ∧ l1 = L1.length)
  have HM := As.mk hs
  have HR := As.mk hR
  have r0 : IntKind.i64.wrap ((m : Int) - (a : Int)) = (l1 : Int) := by rw [IntKind.wrap_i64]; omega
  have r1 : l1 ≠ 1 := by omega
  have r2 : (l1 : Int) ≠ 1 := by omega
  have r3 : IntKind.i64.wrap ((b : Int) - (m : Int)) = 1 := by rw [IntKind.wrap_i64]; omega
  clear hs ha hm hb hN hNb hR hl hl1
  unfold FV
  go_enter Try.func27, Try.ntmps27
  go_wp2_with fail
  rw [show ((l1 : Int) == 1) = false by rw [beq_eq_false_iff_ne]; exact r2]
  go_loopg [14, 15] l1 (fun g0 iv jv wr => ∃ (i j u v : Nat), v - u = g0 ∧ i = a + u ∧ j = a + v ∧ iv = .int .i64 i ∧ jv = .int .i64 j ∧ As (u ≤ v ∧ v ≤ l1 ∧ (∀ t z, t < u → L1[t]? = some z → RO ws z y) ∧ (∀ t z, v ≤ t → L1[t]? = some z → RO ws y z)) ∧ At (fun _ => False) w0 wr (Hp.seps (RW g N c (P ++ (L1 ++ (y :: Q))) :: BX bx A ws.length cA :: lst)))
  case atStart =>
    refine ⟨a, m, 0, l1, by omega, rfl, HD.out.2.1, rfl, rfl, ⟨Nat.zero_le _, Nat.le_refl _, fun t z h => by omega, fun t z h hz => ?_⟩, hS⟩
    have := (List.getElem?_eq_some_iff.1 hz).1
    have := HD.out
    omega
  case round =>
    clear hS r0 r1 r2 r3
    obtain ⟨i, j, u, v, hg, hi, hj, rfl, rfl, HX, hS⟩ := hrel
    by_cases huv : u < v
    · obtain ⟨hh, hhe⟩ : ∃ hh, hh = (u + v) / 2 := ⟨_, rfl⟩
      obtain ⟨h, hhm⟩ : ∃ h, h = a + hh := ⟨_, rfl⟩
      obtain ⟨q, hq⟩ : ∃ q, q = i + j := ⟨_, rfl⟩
      have hlt : i < j := by omega
      have s1 : IntKind.i64.wrap ((i : Int) + (j : Int)) = (q : Int) := by rw [IntKind.wrap_i64]; have := HD.out; have := HX.out; omega
      have hqb : q ≤ 3000000 := by have := HD.out; have := HX.out; omega
      have e1 : (q : Int) / 2 = (h : Int) := by omega
      have hhl : hh < L1.length := by have := HX.out; have := HD.out; omega
      obtain ⟨x, hx⟩ : ∃ x, L1[hh]? = some x := ⟨_, List.getElem?_eq_getElem hhl⟩
      have hxL : x ∈ L1 := List.mem_of_getElem? hx
      have g1 : (P ++ (L1 ++ (y :: Q)))[h]? = some x := by
        rw [List.getElem?_append_right (by have := HD.out; omega), show h - P.length = hh by have := HD.out; omega, List.getElem?_append_left hhl]
        exact hx
      have g2 : (P ++ (L1 ++ (y :: Q)))[m]? = some y := by
        rw [← List.append_assoc, show m = (P ++ L1).length by rw [List.length_append]; have := HD.out; omega]
        exact get_mid _ _ _
      have HU := As.mk (⟨hg, hi, hj, huv, hhe, hhm, hx⟩ : _ ∧ _ ∧ _ ∧ _ ∧ _ ∧ _ ∧ _)
      have hxy := As.mk (HM.out.x x hxL y (by simp))
      have hln : (h : Int) < (N : Int) := by have := HD.out; omega
      have hmn : (m : Int) < (N : Int) := by have := HD.out; omega
      have hhb : h ≤ 1000000 := by have := HD.out; omega
      have HKA : As (∀ V : World, At (fun _ => False) w0 V (Hp.seps (RW g N c (P ++ (L1 ++ (y :: Q))) :: BX bx A ws.length cA :: lst)) → (V.cell? ⟨g, h, none⟩ = some (.int .i64 x) ∧ V.cell? ⟨g, m, none⟩ = some (.int .i64 y))) := ⟨fun V hV => ⟨((hV.rowAt 0 rfl).at1 h x g1).1, ((hV.rowAt 0 rfl).at1 m y g2).1⟩⟩
      have HKp : As (∀ V : World, Below wr.heap.size wr V → (V.cell? ⟨g, h, none⟩ = some (.int .i64 x) ∧ V.cell? ⟨g, m, none⟩ = some (.int .i64 y))) := ⟨fun V hb => HKA.out V (hS.below hb)⟩
      have HC := As.mk (clo2_does bx A cA ws HR.out y x (HM.out.o2 y (by simp)) (HM.out.o1 x hxL) hS.drew)
      clear g1 g2 hxL hx hg hi hj huv hhe hhm hq hhl hS
      go_upto_region 17 with fail
      try rw [e1]
      clear e1 s1
      go_cut [103] (fun vb wc => ∃ bb : Bool, vb = .bool bb ∧ As ((bb = true → RO ws x y) ∧ (bb = false → RO ws y x)) ∧ At (fun _ => False) w0 wc (Hp.seps (RW g N c (P ++ (L1 ++ (y :: Q))) :: BX bx A ws.length cA :: lst)))
      case first =>
        go_region_held3 (fun V => V.cell? ⟨g, h, none⟩ = some (.int .i64 x) ∧ V.cell? ⟨g, m, none⟩ = some (.int .i64 y)) (first | with_reducible exact HKA.out _ HS3.out | exact HKp.out _ (by repeat (first | exact Below.refl _ _ | refine bl_drewN ?_ _ | refine Below.drew ?_ | refine bl_alloc ?_ _ | refine bl_set ?_ (by first | (simp; done) | omega | (simp; omega)) _))) (first | (go_at_call 18; refine HC.out.mono ?_; rintro e w3 ⟨cd, rfl, hcd, hS3⟩; have HS3 := As.mk hS3; have HCD := As.mk hcd; clear hS3 hcd))
        all_goals (go_wp2_with fail)
        all_goals (go_meet)
        all_goals (
          refine ⟨!decide (cd < 0), by first | rfl | simp, ⟨fun h => ?_, fun h => ?_⟩, HS3.out⟩
          · have h1 : ¬ cd < 0 := by simpa using h
            rw [HCD.out] at h1
            exact RO_of_not h1 hxy.out
          · have h1 : cd < 0 := by simpa using h
            exact .inl (HCD.out.1 h1))
      case rest =>
        clear HKA HKp HC
        obtain ⟨bb, rfl, HBB, hS⟩ := hcut
        cases bb with
        | true =>
          have HZ := As.mk (HBB.out.1 rfl)
          have s1 : IntKind.i64.wrap ((h : Int) + 1) = ((h + 1 : Nat) : Int) := by rw [IntKind.wrap_i64]; omega
          go_wp2_with fail
          go_roundg (v - (hh + 1))
          case measure => have := HU.out; omega
          case rel =>
            refine ⟨h + 1, j, hh + 1, v, rfl, by have := HU.out; omega, HU.out.2.2.1, rfl, rfl, ⟨by have := HU.out; omega, HX.out.2.1, fun t z ht hz => ?_, HX.out.2.2.2⟩, hS⟩
            by_cases hth : t = hh
            · subst hth
              rw [HU.out.2.2.2.2.2.2] at hz
              injection hz with hz
              rw [← hz]; exact HZ.out
            · exact RO_tr ws _ _ _ (pw_get HM.out.s1 (show t < hh by omega) hz HU.out.2.2.2.2.2.2) HZ.out
        | false =>
          have HZ := As.mk (HBB.out.2 rfl)
          go_wp2_with fail
          go_roundg (hh - u)
          case measure => have := HU.out; omega
          case rel =>
            refine ⟨i, h, u, hh, rfl, HU.out.2.1, HU.out.2.2.2.2.2.1, rfl, rfl, ⟨by have := HU.out; omega, by have := HU.out; have := HX.out; omega, HX.out.2.2.1, fun t z ht hz => ?_⟩, hS⟩
            by_cases hth : t = hh
            · subst hth
              rw [HU.out.2.2.2.2.2.2] at hz
              injection hz with hz
              rw [← hz]; exact HZ.out
            · exact RO_tr ws _ _ _ HZ.out (pw_get HM.out.s1 (show hh < t by omega) HU.out.2.2.2.2.2.2 hz)
    · obtain rfl : u = v := by have := HX.out; omega
      have hij : ¬ i < j := by omega
      obtain ⟨U, V, rfl, hUl⟩ : ∃ U V, L1 = U ++ V ∧ U.length = u := ⟨L1.take u, L1.drop u, (List.take_append_drop _ _).symm, by rw [List.length_take]; have := HX.out; have := HD.out; omega⟩
      have HF : As ((U ++ y :: V).Pairwise (RO ws)) := ⟨ins_sorted (RO_tr ws) HM.out.s1 (fun s hs => by
        obtain ⟨t, ht, e⟩ := List.mem_iff_getElem.1 hs
        exact HX.out.2.2.2 (u + t) s (by omega) (by rw [List.getElem?_append_right (by omega), hUl, Nat.add_sub_cancel_left, List.getElem?_eq_getElem ht, e])) (fun z hz => by
        obtain ⟨U0, rfl⟩ := List.getLast?_eq_some_iff.1 hz
        refine HX.out.2.2.1 U0.length z (by rw [List.length_append] at hUl; simp at hUl; omega) ?_
        rw [List.append_assoc]
        exact get_mid _ _ _)⟩
      have hVl : m = i + V.length := by have h1 := HD.out; rw [List.length_append] at h1; omega
      have HU := As.mk (⟨hUl, hi, hVl⟩ : _ ∧ _ ∧ _)
      clear hUl HX hg hi hj huv hVl
      go_wp2_with fail
      go_loopg [17] V.length (fun g1 kv wr => ∃ (k : Nat) (V1 V2 : List Int), V1.length = g1 ∧ k = i + V1.length ∧ kv = .int .i64 k ∧ As (V = V1 ++ V2) ∧ At (fun _ => False) w0 wr (Hp.seps (RW g N c (P ++ (U ++ (V1 ++ (y :: (V2 ++ Q))))) :: BX bx A ws.length cA :: lst)))
      case atStart => exact ⟨m, V, [], rfl, HU.out.2.2, rfl, ⟨by simp⟩, by simpa using hS⟩
      case round =>
        clear hS
        obtain ⟨k, V1, V2, hV1, hk, rfl, HVe, hS⟩ := hrel
        rcases nil_snoc V1 with rfl | ⟨V0, z, rfl⟩
        · have hki : ¬ i < k := by simp at hk; omega
          have e : V = V2 := by rw [HVe.out, List.nil_append]
          subst e
          clear hV1 hk
          go_wp2_with fail
          refine bodyPost_ret (v := .tuple #[]) (by simp [results, Try.results27, go_sem]) rfl ⟨rfl, U ++ y :: V, List.perm_middle.trans (List.perm_append_singleton y (U ++ V)).symm, HF.out, ?_⟩
          simpa using hS
        · rw [List.length_append, List.length_singleton] at hk hV1
          have hki : i < k := by omega
          have hNn := HD.out.2.2.2.1
          have hbb := HD.out.2.2.1
          have hNb := HD.out.2.2.2.2.1
          have haP := HD.out.1
          have hVl := HU.out.2.2
          have hUu := HU.out.1
          have hiu := HU.out.2.1
          rw [HVe.out, List.length_append, List.length_append, List.length_singleton] at hVl
          obtain ⟨k1, hk1⟩ : ∃ k1, k1 = k - 1 := ⟨_, rfl⟩
          have s2 : IntKind.i64.wrap ((k : Int) - 1) = (k1 : Int) := by rw [IntKind.wrap_i64]; omega
          have e1 : (P ++ (U ++ V0)).length = k1 := by rw [List.length_append, List.length_append]; omega
          have hxs : P ++ (U ++ ((V0 ++ [z]) ++ (y :: (V2 ++ Q)))) = (P ++ (U ++ V0)) ++ z :: ([] ++ y :: (V2 ++ Q)) := by simp
          have g1 := get_mid (P ++ (U ++ V0)) ([] ++ y :: (V2 ++ Q)) z
          have g2 := get_mid2 (P ++ (U ++ V0)) [] (V2 ++ Q) z y
          have hsw := set_swap (P ++ (U ++ V0)) [] (V2 ++ Q) z y
          rw [← hxs, e1] at g1 g2 hsw
          rw [show k1 + 1 + ([] : List Int).length = k by simp; omega] at g2 hsw
          obtain ⟨c1, f1⟩ := (hS.rowAt 0 rfl).at1 k1 z g1
          obtain ⟨c2, f2⟩ := (hS.rowAt 0 rfl).at1 k y g2
          have hne : k ≠ k1 := by omega
          have hne2 := hne.symm
          have hkn : (k : Int) < (N : Int) := by omega
          have hk1n : (k1 : Int) < (N : Int) := by omega
          have hS2 := At.set1 0 (At.set1 0 hS rfl k y z g2) rfl k1 z y (by rw [List.getElem?_set_ne hne]; exact g1)
          rw [List.set_comm _ _ hne, hsw] at hS2
          have HS2 : As (At (fun _ => False) w0 _ (Hp.seps (RW g N c (P ++ (U ++ (V0 ++ (y :: ((z :: V2) ++ Q))))) :: BX bx A ws.length cA :: lst))) := ⟨by simpa using hS2⟩
          have HK := As.mk (⟨hV1, hk, hk1⟩ : _ ∧ _ ∧ _)
          have HVe2 : As (V = V0 ++ (z :: V2)) := ⟨by rw [HVe.out]; simp⟩
          clear hS hS2 hsw g1 g2 hxs e1 hV1 hk hk1 hbb hNn hNb haP hVl hUu hiu HVe
          go_wp2_with fail
          go_region
          go_wp2_with fail
          go_roundg V0.length
          case measure => have := HK.out.1; omega
          case rel => exact ⟨k1, V0, z :: V2, rfl, by have := HK.out; omega, rfl, HVe2, HS2.out.drew⟩
end Go.Proofs.Ytjgeccnfdndllaa
