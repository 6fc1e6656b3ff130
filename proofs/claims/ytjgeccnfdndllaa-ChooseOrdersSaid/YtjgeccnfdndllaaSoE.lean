/- Merging in place: one element and a sorted row. No condition but bounded sizes. -/
import Derived.Test.YtjgeccnfdndllaaSoD
set_option linter.unusedVariables false
set_option linter.unusedSimpArgs false
set_option maxRecDepth 100000
namespace Go.Proofs.Ytjgeccnfdndllaa
open Go.RowKit
theorem pw_get {R : Int → Int → Prop} {l : List Int} (h : l.Pairwise R) {i j : Nat} {x y : Int} (hij : i < j) (hx : l[i]? = some x) (hy : l[j]? = some y) : R x y := by
  obtain ⟨hi, e1⟩ := List.getElem?_eq_some_iff.1 hx
  obtain ⟨hj, e2⟩ := List.getElem?_eq_some_iff.1 hy
  rw [← e1, ← e2]
  exact List.pairwise_iff_getElem.1 h i j hi hj hij
theorem RO_of_not {ws : List Int} {x y : Int} (h : ¬ wtI ws x < wtI ws y) (hxy : x < y) : RO ws x y := by unfold RO; omega
abbrev RW (g N c : Nat) (xs : List Int) : Hp := Hp.row 3 1 encInt (.slice (some ⟨g, 0, none⟩) N c) xs
structure SM (ws : List Int) (L1 L2 : List Int) : Prop where
  s1 : L1.Pairwise (RO ws)
  s2 : L2.Pairwise (RO ws)
  x : ∀ x ∈ L1, ∀ y ∈ L2, x < y
  o1 : ∀ x ∈ L1, okI ws x
  o2 : ∀ x ∈ L2, okI ws x
set_option maxHeartbeats 25600000 in
theorem sm_left {w0 w : World} {lst : List Hp} (bx : Nat) (A : Option Addr) (cA : Nat) (ws : List Int) (hR : Rd w0 1 encInt (.slice A ws.length cA) ws) (g c a m b N : Nat) (P : List Int) (x : Int) (L2 Q : List Int) (hs : SM ws [x] L2) (ha : a = P.length) (hm : m = a + 1) (hb : b = m + L2.length) (hN : N = b + Q.length) (hNb : N ≤ 1000000)
    (hS : At (fun _ => False) w0 w (Hp.seps (RW g N c (P ++ (x :: (L2 ++ Q))) :: BX bx A ws.length cA :: lst))) :
    Calls Try.prog 27 #[.slice (some ⟨g, 0, none⟩) N c, .int .i64 a, .int .i64 m, .int .i64 b, FV bx] w fun e w' => e = .returned (.tuple #[]) ∧ ∃ S : List Int, S.Perm ([x] ++ L2) ∧ S.Pairwise (RO ws) ∧ At (fun _ => False) w0 w' (Hp.seps (RW g N c (P ++ (S ++ Q)) :: BX bx A ws.length cA :: lst)) := by
  have HD := As.mk (⟨ha, hm, hb, hN, hNb⟩ : _ ∧ _ ∧ _ ∧ _ ∧ _)
  have HM := As.mk hs
  have HR := As.mk hR
  have s0 : IntKind.i64.wrap ((m : Int) - (a : Int)) = 1 := by rw [IntKind.wrap_i64]; omega
  clear hs ha hm hb hN hNb hR
  unfold FV
  go_enter Try.func27, Try.ntmps27
  go_wp2_with fail
  go_loopg [10, 11] L2.length (fun g0 iv jv wr => ∃ (i j u v : Nat), v - u = g0 ∧ i = m + u ∧ j = m + v ∧ iv = .int .i64 i ∧ jv = .int .i64 j ∧ As (u ≤ v ∧ v ≤ L2.length ∧ (∀ t y, t < u → L2[t]? = some y → RO ws y x) ∧ (∀ t y, v ≤ t → L2[t]? = some y → RO ws x y)) ∧ At (fun _ => False) w0 wr (Hp.seps (RW g N c (P ++ (x :: (L2 ++ Q))) :: BX bx A ws.length cA :: lst)))
  case atStart =>
    refine ⟨m, b, 0, L2.length, by omega, rfl, HD.out.2.2.1, rfl, rfl, ⟨Nat.zero_le _, Nat.le_refl _, fun t y h => by omega, fun t y h hy => ?_⟩, hS⟩
    have := (List.getElem?_eq_some_iff.1 hy).1
    omega
  case round =>
    clear hS s0
    obtain ⟨i, j, u, v, hg, hi, hj, rfl, rfl, HX, hS⟩ := hrel
    by_cases huv : u < v
    · obtain ⟨hh, hhe⟩ : ∃ hh, hh = (u + v) / 2 := ⟨_, rfl⟩
      obtain ⟨h, hhm⟩ : ∃ h, h = m + hh := ⟨_, rfl⟩
      obtain ⟨q, hq⟩ : ∃ q, q = i + j := ⟨_, rfl⟩
      have hlt : i < j := by omega
      have s1 : IntKind.i64.wrap ((i : Int) + (j : Int)) = (q : Int) := by rw [IntKind.wrap_i64]; have := HD.out; have := HX.out; omega
      have hqb : q ≤ 3000000 := by have := HD.out; have := HX.out; omega
      have e1 : (q : Int) / 2 = (h : Int) := by omega
      have hhl : hh < L2.length := by have := HX.out; omega
      obtain ⟨y, hy⟩ : ∃ y, L2[hh]? = some y := ⟨_, List.getElem?_eq_getElem hhl⟩
      have hyL : y ∈ L2 := List.mem_of_getElem? hy
      have g1 : (P ++ (x :: (L2 ++ Q)))[h]? = some y := by
        rw [List.getElem?_append_right (by have := HD.out; omega), show h - P.length = hh + 1 by have := HD.out; omega, List.getElem?_cons_succ, List.getElem?_append_left hhl]
        exact hy
      have g2 : (P ++ (x :: (L2 ++ Q)))[a]? = some x := by rw [HD.out.1]; exact get_mid _ _ _
      have HU := As.mk (⟨hg, hi, hj, huv, hhe, hhm, hy⟩ : _ ∧ _ ∧ _ ∧ _ ∧ _ ∧ _ ∧ _)
      have hxy := As.mk (HM.out.x x (by simp) y hyL)
      have hln : (h : Int) < (N : Int) := by have := HD.out; omega
      have han : (a : Int) < (N : Int) := by have := HD.out; omega
      have hhb : h ≤ 1000000 := by have := HD.out; omega
      have HKA : As (∀ V : World, At (fun _ => False) w0 V (Hp.seps (RW g N c (P ++ (x :: (L2 ++ Q))) :: BX bx A ws.length cA :: lst)) → (V.cell? ⟨g, h, none⟩ = some (.int .i64 y) ∧ V.cell? ⟨g, a, none⟩ = some (.int .i64 x))) := ⟨fun V hV => ⟨((hV.rowAt 0 rfl).at1 h y g1).1, ((hV.rowAt 0 rfl).at1 a x g2).1⟩⟩
      have HKp : As (∀ V : World, Below wr.heap.size wr V → (V.cell? ⟨g, h, none⟩ = some (.int .i64 y) ∧ V.cell? ⟨g, a, none⟩ = some (.int .i64 x))) := ⟨fun V hb => HKA.out V (hS.below hb)⟩
      have HC := As.mk (clo2_does bx A cA ws HR.out y x (HM.out.o2 y hyL) (HM.out.o1 x (by simp)) hS.drew)
      clear g1 g2 hyL hy hg hi hj huv hhe hhm hq hhl hS
      go_upto_region 5 with fail
      try rw [e1]
      clear e1 s1
      go_cut [50] (fun vb wc => ∃ bb : Bool, vb = .bool bb ∧ As ((bb = true → RO ws y x) ∧ (bb = false → RO ws x y)) ∧ At (fun _ => False) w0 wc (Hp.seps (RW g N c (P ++ (x :: (L2 ++ Q))) :: BX bx A ws.length cA :: lst)))
      case first =>
        go_region_held3 (fun V => V.cell? ⟨g, h, none⟩ = some (.int .i64 y) ∧ V.cell? ⟨g, a, none⟩ = some (.int .i64 x)) (first | with_reducible exact HKA.out _ HS3.out | exact HKp.out _ (by repeat (first | exact Below.refl _ _ | refine bl_drewN ?_ _ | refine Below.drew ?_ | refine bl_alloc ?_ _ | refine bl_set ?_ (by first | (simp; done) | omega | (simp; omega)) _))) (first | (go_at_call 18; refine HC.out.mono ?_; rintro e w3 ⟨cd, rfl, hcd, hS3⟩; have HS3 := As.mk hS3; have HCD := As.mk hcd; clear hS3 hcd))
        all_goals (go_wp2_with fail)
        all_goals (go_meet)
        all_goals (exact ⟨decide (cd < 0), rfl, ⟨fun h => .inl (HCD.out.1 (of_decide_eq_true h)), fun h => by
          have h1 := of_decide_eq_false h
          rw [HCD.out] at h1
          exact RO_of_not h1 hxy.out⟩, HS3.out⟩)
      case rest =>
        clear HKA HKp HC
        obtain ⟨bb, rfl, HBB, hS⟩ := hcut
        cases bb with
        | true =>
          have HZ := As.mk (HBB.out.1 rfl)
          have s1 : IntKind.i64.wrap ((h : Int) + 1) = ((h + 1 : Nat) : Int) := by rw [IntKind.wrap_i64]; omega
          go_wp2_with fail
          go_roundg (v - (hh + 1))
          case measure => have := HU.out; omega
          case rel =>
            refine ⟨h + 1, j, hh + 1, v, rfl, by have := HU.out; omega, HU.out.2.2.1, rfl, rfl, ⟨by have := HU.out; omega, HX.out.2.1, fun t z ht hz => ?_, HX.out.2.2.2⟩, hS⟩
            by_cases hth : t = hh
            · subst hth
              rw [HU.out.2.2.2.2.2.2] at hz
              injection hz with hz
              rw [← hz]; exact HZ.out
            · exact RO_tr ws _ _ _ (pw_get HM.out.s2 (show t < hh by omega) hz HU.out.2.2.2.2.2.2) (HZ.out)
        | false =>
          have HZ := As.mk (HBB.out.2 rfl)
          go_wp2_with fail
          go_roundg (hh - u)
          case measure => have := HU.out; omega
          case rel =>
            refine ⟨i, h, u, hh, rfl, HU.out.2.1, HU.out.2.2.2.2.2.1, rfl, rfl, ⟨by have := HU.out; omega, by have := HU.out; have := HX.out; omega, HX.out.2.2.1, fun t z ht hz => ?_⟩, hS⟩
            by_cases hth : t = hh
            · subst hth
              rw [HU.out.2.2.2.2.2.2] at hz
              injection hz with hz
              rw [← hz]; exact HZ.out
            · exact RO_tr ws _ _ _ (HZ.out) (pw_get HM.out.s2 (show hh < t by omega) HU.out.2.2.2.2.2.2 hz)
    · obtain rfl : u = v := by have := HX.out; omega
      have hij : ¬ i < j := by omega
      obtain ⟨U, V, rfl, hUl⟩ : ∃ U V, L2 = U ++ V ∧ U.length = u := ⟨L2.take u, L2.drop u, (List.take_append_drop _ _).symm, by rw [List.length_take]; have := HX.out; omega⟩
      have HF : As ((U ++ x :: V).Pairwise (RO ws)) := ⟨ins_sorted (RO_tr ws) HM.out.s2 (fun s hs => by
        obtain ⟨t, ht, e⟩ := List.mem_iff_getElem.1 hs
        exact HX.out.2.2.2 (u + t) s (by omega) (by rw [List.getElem?_append_right (by omega), hUl, Nat.add_sub_cancel_left, List.getElem?_eq_getElem ht, e])) (fun z hz => by
        obtain ⟨U0, rfl⟩ := List.getLast?_eq_some_iff.1 hz
        refine HX.out.2.2.1 U0.length z (by rw [List.length_append] at hUl; simp at hUl; omega) ?_
        rw [List.append_assoc]
        exact get_mid _ _ _)⟩
      obtain ⟨i1, hi1⟩ : ∃ i1, i1 = a + u := ⟨_, rfl⟩
      have s1 : IntKind.i64.wrap ((i : Int) - 1) = (i1 : Int) := by rw [IntKind.wrap_i64]; have := HD.out; have := HX.out; omega
      have HU := As.mk (⟨hUl, hi1⟩ : _ ∧ _)
      clear hUl hi1 HX hg hi hj huv
      go_wp2_with fail
      go_loopg [13] U.length (fun g1 kv wr => ∃ (k : Nat) (U1 U2 : List Int), U2.length = g1 ∧ k = a + U1.length ∧ kv = .int .i64 k ∧ As (U = U1 ++ U2) ∧ At (fun _ => False) w0 wr (Hp.seps (RW g N c (P ++ (U1 ++ (x :: (U2 ++ (V ++ Q))))) :: BX bx A ws.length cA :: lst)))
      case atStart => exact ⟨a, [], U, rfl, rfl, rfl, ⟨rfl⟩, by simpa using hS⟩
      case round =>
        clear hS
        obtain ⟨k, U1, U2, hU2, hk, rfl, HUe, hS⟩ := hrel
        cases U2 with
        | nil =>
          have hki : ¬ k < i1 := by have h1 := HU.out; have h2 := HUe.out; rw [List.append_nil] at h2; rw [h2] at h1; omega
          have e : U = U1 := by rw [HUe.out, List.append_nil]
          subst e
          clear hU2 hk
          go_wp2_with fail
          refine bodyPost_ret (v := .tuple #[]) (by simp [results, Try.results27, go_sem]) rfl ⟨rfl, U ++ x :: V, List.perm_middle, HF.out, ?_⟩
          simpa using hS
        | cons y U3 =>
          have hki : k < i1 := by have h1 := HU.out; have h2 := HUe.out; rw [h2, List.length_append, List.length_cons] at h1; omega
          have hUl := HU.out.1
          rw [HUe.out, List.length_append, List.length_cons] at hUl
          have hbb := HD.out.2.2.1
          rw [List.length_append] at hbb
          have hNn := HD.out.2.2.2.1
          have hmm := HD.out.2.1
          have hNb := HD.out.2.2.2.2
          have haP := HD.out.1
          rw [HUe.out, List.length_append, List.length_cons] at hbb
          obtain ⟨k1, hk1⟩ : ∃ k1, k1 = k + 1 := ⟨_, rfl⟩
          have s2 : IntKind.i64.wrap ((k : Int) + 1) = (k1 : Int) := by rw [IntKind.wrap_i64]; omega
          have e1 : (P ++ U1).length = k := by rw [List.length_append]; omega
          have hxs : P ++ (U1 ++ (x :: ((y :: U3) ++ (V ++ Q)))) = (P ++ U1) ++ x :: ([] ++ y :: (U3 ++ (V ++ Q))) := by simp
          have g1 := get_mid (P ++ U1) ([] ++ y :: (U3 ++ (V ++ Q))) x
          have g2 := get_mid2 (P ++ U1) [] (U3 ++ (V ++ Q)) x y
          have hsw := set_swap (P ++ U1) [] (U3 ++ (V ++ Q)) x y
          rw [← hxs, e1] at g1 g2 hsw
          rw [show k + 1 + ([] : List Int).length = k1 by simp; omega] at g2 hsw
          obtain ⟨c1, f1⟩ := (hS.rowAt 0 rfl).at1 k x g1
          obtain ⟨c2, f2⟩ := (hS.rowAt 0 rfl).at1 k1 y g2
          have hne : k ≠ k1 := by omega
          have hne2 := hne.symm
          have hkn : (k : Int) < (N : Int) := by omega
          have hk1n : (k1 : Int) < (N : Int) := by omega
          have hS2 := At.set1 0 (At.set1 0 hS rfl k x y g1) rfl k1 y x (by rw [List.getElem?_set_ne hne]; exact g2)
          rw [hsw] at hS2
          have HS2 : As (At (fun _ => False) w0 _ (Hp.seps (RW g N c (P ++ ((U1 ++ [y]) ++ (x :: (U3 ++ (V ++ Q))))) :: BX bx A ws.length cA :: lst))) := ⟨by simpa using hS2⟩
          have HK := As.mk (⟨hU2, hk, hk1⟩ : _ ∧ _ ∧ _)
          have HUe2 : As (U = (U1 ++ [y]) ++ U3) := ⟨by rw [HUe.out]; simp⟩
          clear hS hS2 hsw g1 g2 hxs e1 hU2 hk hk1 hUl hbb hNn hmm hNb haP HUe
          go_wp2_with fail
          go_region
          go_wp2_with fail
          go_roundg U3.length
          case measure => have := HK.out.1; simp at this; omega
          case rel => exact ⟨k1, U1 ++ [y], U3, rfl, by have := HK.out; simp; omega, rfl, HUe2, HS2.out.drew⟩
end Go.Proofs.Ytjgeccnfdndllaa
