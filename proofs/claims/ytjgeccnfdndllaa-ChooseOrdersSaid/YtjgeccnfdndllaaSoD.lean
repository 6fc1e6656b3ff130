/- Insertion sort of a block. No condition but bounded sizes. -/
import Derived.Test.YtjgeccnfdndllaaSoC
set_option linter.unusedVariables false
set_option linter.unusedSimpArgs false
namespace Go.Proofs.Ytjgeccnfdndllaa
open Go.RowKit
theorem nil_snoc (l : List Int) : l = [] ∨ ∃ L b, l = L ++ [b] := by
  rcases List.eq_nil_or_concat l with h | ⟨L, b, h⟩
  · exact .inl h
  · exact .inr ⟨L, b, by rw [h, List.concat_eq_append]⟩
def wtI (ws : List Int) (x : Int) : Int := ws.getD x.toNat 0
def RO (ws : List Int) (x y : Int) : Prop := wtI ws y < wtI ws x ∨ (wtI ws x = wtI ws y ∧ x < y)
theorem RO_tr (ws : List Int) (x y z : Int) (h1 : RO ws x y) (h2 : RO ws y z) : RO ws x z := by unfold RO at *; omega
theorem ins_sorted {R : Int → Int → Prop} (tr : ∀ x y z, R x y → R y z → R x z) {S1 S2 : List Int} {y : Int} (h : (S1 ++ S2).Pairwise R) (h2 : ∀ s ∈ S2, R y s) (h1 : ∀ x, S1.getLast? = some x → R x y) : (S1 ++ y :: S2).Pairwise R := by
  obtain ⟨p1, p2, p3⟩ := List.pairwise_append.1 h
  refine List.pairwise_append.2 ⟨p1, List.pairwise_cons.2 ⟨h2, p2⟩, fun a ha b hb => ?_⟩
  rcases List.mem_cons.1 hb with rfl | hb
  · cases hl : S1.getLast? with
    | none => rw [List.getLast?_eq_none_iff] at hl; subst hl; simp at ha
    | some x =>
      obtain ⟨S0, rfl⟩ := List.getLast?_eq_some_iff.1 hl
      rcases List.mem_append.1 ha with ha | ha
      · exact tr _ _ _ ((List.pairwise_append.1 p1).2.2 a ha x (by simp)) (h1 x hl)
      · obtain rfl : a = x := by simpa using ha
        exact h1 a hl
  · exact p3 a ha b hb
theorem ins_perm {S1 S2 B : List Int} {k : Nat} {y : Int} (h : (S1 ++ S2).Perm (B.take k)) (hy : B[k]? = some y) : (S1 ++ y :: S2).Perm (B.take (k + 1)) := by
  rw [List.take_add_one, hy]
  refine List.perm_middle.trans ?_
  refine List.Perm.trans (List.Perm.cons y h) ?_
  have := List.perm_middle (a := y) (l₁ := B.take k) (l₂ := [])
  rw [List.append_nil] at this
  exact this.symm
theorem take_lt {B : List Int} (h : B.Pairwise (· < ·)) {k : Nat} {y : Int} (hy : B[k]? = some y) : ∀ x ∈ B.take k, x < y := fun x hx => by
  obtain ⟨hk, e⟩ := List.getElem?_eq_some_iff.1 hy
  rw [← List.take_append_drop k B, List.pairwise_append] at h
  exact h.2.2 x hx y (by rw [List.drop_eq_getElem_cons hk, e]; simp)
def okI (ws : List Int) (x : Int) : Prop := 0 ≤ x ∧ x < ws.length
theorem okI_get {ws : List Int} {x : Int} (h : okI ws x) : ∃ n : Nat, x = (n : Int) ∧ ws[n]? = some (wtI ws x) := by
  refine ⟨x.toNat, by have := h.1; omega, ?_⟩
  have : x.toNat < ws.length := by have := h.1; have := h.2; omega
  unfold wtI
  rw [List.getD_eq_getElem?_getD, List.getElem?_eq_getElem this]
  rfl
/-- The closure, on the row's own numbers. -/
theorem clo2_does {w0 w : World} {R1 : Hp} {lst : List Hp} (bx : Nat) (A : Option Addr) (cA : Nat) (ws : List Int) (hR : Rd w0 1 encInt (.slice A ws.length cA) ws) (x y : Int) (hx : okI ws x) (hy : okI ws y)
    (hS : At (fun _ => False) w0 w (Hp.seps (R1 :: BX bx A ws.length cA :: lst))) :
    Calls Try.prog 18 #[.int .i64 x, .int .i64 y, .pointer (some ⟨bx, 0, none⟩)] w fun e w' => ∃ cd : Int, e = .returned (.int .i64 cd) ∧ (cd < 0 ↔ wtI ws y < wtI ws x) ∧ At (fun _ => False) w0 w' (Hp.seps (R1 :: BX bx A ws.length cA :: lst)) := by
  obtain ⟨n, h1, h2⟩ := okI_get hx
  obtain ⟨m, h3, h4⟩ := okI_get hy
  have h := clo_does bx A cA ws hR n m _ _ h2 h4 hS
  rw [← h1, ← h3] at h
  exact h.mono fun e w' h => ⟨_, h.1, cmpI_neg _ _, h.2⟩
abbrev FV (bx : Nat) : Value := .func (.func 18) #[] #[.pointer (some ⟨bx, 0, none⟩)]
set_option maxHeartbeats 25600000 in
theorem ins_does {w0 w : World} {lst : List Hp} (bx : Nat) (A : Option Addr) (cA : Nat) (ws : List Int) (hR : Rd w0 1 encInt (.slice A ws.length cA) ws) (g c a b N : Nat) (P B Q : List Int) (hB0 : B ≠ []) (hlt : B.Pairwise (· < ·)) (hok : ∀ x ∈ B, okI ws x) (ha : a = P.length) (hb : b = a + B.length) (hN : N = b + Q.length) (hNb : N ≤ 1000000)
    (hS : At (fun _ => False) w0 w (Hp.seps (Hp.row 3 1 encInt (.slice (some ⟨g, 0, none⟩) N c) (P ++ (B ++ Q)) :: BX bx A ws.length cA :: lst))) :
    Calls Try.prog 26 #[.slice (some ⟨g, 0, none⟩) N c, .int .i64 a, .int .i64 b, FV bx] w fun e w' => e = .returned (.tuple #[]) ∧ ∃ S : List Int, S.Perm B ∧ S.Pairwise (RO ws) ∧ At (fun _ => False) w0 w' (Hp.seps (Hp.row 3 1 encInt (.slice (some ⟨g, 0, none⟩) N c) (P ++ (S ++ Q)) :: BX bx A ws.length cA :: lst)) := by
  have HD := As.mk (⟨ha, hb, hN, hNb⟩ : _ ∧ _ ∧ _ ∧ _)
  have HB := As.mk (⟨hlt, hok⟩ : _ ∧ _)
  have HR := As.mk hR
  obtain ⟨b0, B', rfl⟩ := List.exists_cons_of_ne_nil hB0
  have s0 : IntKind.i64.wrap ((a : Int) + 1) = ((a + 1 : Nat) : Int) := by rw [IntKind.wrap_i64]; omega
  clear hB0 hlt hok ha hb hN hNb hR
  unfold FV
  go_enter Try.func26, Try.ntmps26
  go_wp2_with fail
  go_loopg [8] (b - a) (fun g0 iv wr => ∃ (k i : Nat) (S : List Int), k + g0 = b - a + 1 ∧ i = a + k ∧ iv = .int .i64 i ∧ As (1 ≤ k ∧ k ≤ (b0 :: B').length ∧ S.Perm ((b0 :: B').take k) ∧ S.Pairwise (RO ws)) ∧ At (fun _ => False) w0 wr (Hp.seps (Hp.row 3 1 encInt (.slice (some ⟨g, 0, none⟩) N c) (P ++ (S ++ ((b0 :: B').drop k ++ Q))) :: BX bx A ws.length cA :: lst)))
  case atStart => exact ⟨1, a + 1, [b0], by omega, rfl, rfl, ⟨Nat.le_refl _, by simp, by simp, by simp⟩, hS⟩
  case round =>
    clear hS s0
    obtain ⟨k, i, S, hk, hi, rfl, HX, hS⟩ := hrel
    by_cases hib : i < b
    · obtain ⟨y, hy⟩ : ∃ y, (b0 :: B')[k]? = some y := ⟨_, List.getElem?_eq_getElem (by have := HD.out; omega)⟩
      have hkl := (List.getElem?_eq_some_iff.1 hy).1
      have hdr : (b0 :: B').drop k = y :: (b0 :: B').drop (k + 1) := by rw [List.drop_eq_getElem_cons hkl, (List.getElem?_eq_some_iff.1 hy).2]
      rw [hdr] at hS
      have hSl : S.length = k := by rw [HX.out.2.2.1.length_eq, List.length_take]; omega
      have HY := As.mk (⟨hy, hk, hi, hSl⟩ : _ ∧ _ ∧ _ ∧ _)
      have HLy : As (∀ x ∈ S, x < y) := ⟨fun x hx => take_lt HB.out.1 hy x (HX.out.2.2.1.mem_iff.1 hx)⟩
      have HOy : As (okI ws y) := ⟨HB.out.2 y (List.mem_of_getElem? hy)⟩
      have HOS : As (∀ x ∈ S, okI ws x) := ⟨fun x hx => HB.out.2 x (List.mem_of_mem_take (HX.out.2.2.1.mem_iff.1 hx))⟩
      clear hy hkl hdr hk hi
      go_wp2_with fail
      go_loopg [9] S.length (fun g1 jv wr => ∃ (j : Nat) (S1 S2 : List Int), S1.length = g1 ∧ j = a + S1.length ∧ jv = .int .i64 j ∧ As (S = S1 ++ S2 ∧ ∀ s ∈ S2, RO ws y s) ∧ At (fun _ => False) w0 wr (Hp.seps (Hp.row 3 1 encInt (.slice (some ⟨g, 0, none⟩) N c) (P ++ (S1 ++ (y :: (S2 ++ ((b0 :: B').drop (k + 1) ++ Q))))) :: BX bx A ws.length cA :: lst)))
      case atStart => exact ⟨i, S, [], rfl, by have := HY.out; omega, rfl, ⟨by simp, by simp⟩, hS⟩
      case round =>
        clear hS
        obtain ⟨j, S1, S2, hj1, hj, rfl, HS, hS⟩ := hrel
        have HJ := As.mk (⟨hj1, hj⟩ : _ ∧ _)
        have hjn : (j : Int) < (N : Int) := by have h1 := HY.out.2.2.2; rw [HS.out.1, List.length_append] at h1; have := HD.out; have := HY.out; simp only [List.length_cons] at *; omega
        have hjb : j ≤ 1000000 := by have := HD.out; omega
        have hS0 := As.mk hS
        have hin0 : i < N := by have := HD.out; omega
        go_upto_region 4 with fail
        go_cut [34] (fun vb wc => ∃ bb : Bool, vb = .bool bb ∧ As ((bb = true → ∃ S0 x, S1 = S0 ++ [x] ∧ RO ws y x) ∧ (bb = false → ∀ x, S1.getLast? = some x → RO ws x y)) ∧ At (fun _ => False) w0 wc (Hp.seps (Hp.row 3 1 encInt (.slice (some ⟨g, 0, none⟩) N c) (P ++ (S1 ++ (y :: (S2 ++ ((b0 :: B').drop (k + 1) ++ Q))))) :: BX bx A ws.length cA :: lst)))
        case first =>
          rcases nil_snoc S1 with rfl | ⟨S0, x, rfl⟩
          · have hja : ¬ (a : Int) < (j : Int) := by simp at hj; omega
            clear hj1 hj
            go_quiet (fail)
            go_wp2_with fail
            go_meet
            exact ⟨false, rfl, ⟨fun h => by (cases h), fun _ x hx => by simp at hx⟩, hS0.out.drewN _⟩
          · have hja : (a : Int) < (j : Int) := by simp at hj; omega
            obtain ⟨j1, hj1e⟩ : ∃ j1, j1 = j - 1 := ⟨_, rfl⟩
            have s1 : IntKind.i64.wrap ((j : Int) - 1) = (j1 : Int) := by rw [IntKind.wrap_i64]; omega
            have e1 : (P ++ S0).length = j1 := by rw [List.length_append]; have := HD.out; simp at hj; omega
            have hxs : P ++ ((S0 ++ [x]) ++ (y :: (S2 ++ ((b0 :: B').drop (k + 1) ++ Q)))) = (P ++ S0) ++ x :: ([] ++ y :: (S2 ++ ((b0 :: B').drop (k + 1) ++ Q))) := by simp
            have g1 := get_mid (P ++ S0) ([] ++ y :: (S2 ++ ((b0 :: B').drop (k + 1) ++ Q))) x
            have g2 := get_mid2 (P ++ S0) [] (S2 ++ ((b0 :: B').drop (k + 1) ++ Q)) x y
            rw [← hxs, e1] at g1 g2
            rw [show j1 + 1 + ([] : List Int).length = j by simp; omega] at g2
            have HKA : As (∀ V : World, At (fun _ => False) w0 V (Hp.seps (Hp.row 3 1 encInt (.slice (some ⟨g, 0, none⟩) N c) (P ++ ((S0 ++ [x]) ++ (y :: (S2 ++ ((b0 :: B').drop (k + 1) ++ Q))))) :: BX bx A ws.length cA :: lst)) → (V.cell? ⟨g, j, none⟩ = some (.int .i64 y) ∧ V.cell? ⟨g, j1, none⟩ = some (.int .i64 x))) := ⟨fun V h => ⟨((h.rowAt 0 rfl).at1 j y g2).1, ((h.rowAt 0 rfl).at1 j1 x g1).1⟩⟩
            have HKp : As (∀ V : World, Below wr.heap.size wr V → (V.cell? ⟨g, j, none⟩ = some (.int .i64 y) ∧ V.cell? ⟨g, j1, none⟩ = some (.int .i64 x))) := ⟨fun V hb => HKA.out V (hS.below hb)⟩
            have hxS : x ∈ S := by rw [HS.out.1]; simp
            have hj1n : (j1 : Int) < (N : Int) := by omega
            have hxy := As.mk (HLy.out x hxS)
            have HC := As.mk (clo2_does bx A cA ws HR.out y x HOy.out (HOS.out x hxS) hS.drew)
            clear g1 g2 hxs e1 hj1e hj hj1 hxS
            go_region_held3 (fun V => V.cell? ⟨g, j, none⟩ = some (.int .i64 y) ∧ V.cell? ⟨g, j1, none⟩ = some (.int .i64 x)) (first | with_reducible exact HKA.out _ HS3.out | exact HKp.out _ (by repeat (first | exact Below.refl _ _ | refine bl_drewN ?_ _ | refine Below.drew ?_ | refine bl_alloc ?_ _ | refine bl_set ?_ (by first | (simp; done) | omega | (simp; omega)) _))) (first | (go_at_call 18; refine HC.out.mono ?_; rintro e w3 ⟨cd, rfl, hcd, hS3⟩; have HS3 := As.mk hS3; have HCD := As.mk hcd; clear hS3 hcd))
            all_goals (go_wp2_with fail)
            all_goals (go_meet)
            all_goals (
              refine ⟨decide (cd < 0), rfl, ⟨fun h => ⟨S0, x, rfl, ?_⟩, fun h x' hx' => ?_⟩, HS3.out⟩
              · exact .inl (HCD.out.1 (of_decide_eq_true h))
              · obtain rfl : x = x' := by simpa using hx'
                have h1 := of_decide_eq_false h
                rw [HCD.out] at h1
                have := hxy.out
                unfold RO; omega)
        case rest =>
          clear hS hS0
          obtain ⟨bb, rfl, HBB, hS⟩ := hcut
          cases bb with
          | true =>
            obtain ⟨S0, x, rfl, hyx⟩ := HBB.out.1 rfl
            obtain ⟨j1, hj1e⟩ : ∃ j1, j1 = j - 1 := ⟨_, rfl⟩
            have hja : a < j := by simp at hj; omega
            have s1 : IntKind.i64.wrap ((j : Int) - 1) = (j1 : Int) := by rw [IntKind.wrap_i64]; omega
            have e1 : (P ++ S0).length = j1 := by rw [List.length_append]; have := HD.out; simp at hj; omega
            have hxs : P ++ ((S0 ++ [x]) ++ (y :: (S2 ++ ((b0 :: B').drop (k + 1) ++ Q)))) = (P ++ S0) ++ x :: ([] ++ y :: (S2 ++ ((b0 :: B').drop (k + 1) ++ Q))) := by simp
            have g1 := get_mid (P ++ S0) ([] ++ y :: (S2 ++ ((b0 :: B').drop (k + 1) ++ Q))) x
            have g2 := get_mid2 (P ++ S0) [] (S2 ++ ((b0 :: B').drop (k + 1) ++ Q)) x y
            rw [← hxs, e1] at g1 g2
            rw [show j1 + 1 + ([] : List Int).length = j by simp; omega] at g2
            obtain ⟨c1, f1⟩ := (hS.rowAt 0 rfl).at1 j y g2
            obtain ⟨c2, f2⟩ := (hS.rowAt 0 rfl).at1 j1 x g1
            have hne : j ≠ j1 := by omega
            have hne2 := hne.symm
            have hj1n : (j1 : Int) < (N : Int) := by omega
            have hsw := set_swap (P ++ S0) [] (S2 ++ ((b0 :: B').drop (k + 1) ++ Q)) x y
            rw [← hxs, e1, show j1 + 1 + ([] : List Int).length = j by simp; omega] at hsw
            have hS2 := At.set1 0 (At.set1 0 hS rfl j y x g2) rfl j1 x y (by rw [List.getElem?_set_ne hne]; exact g1)
            rw [List.set_comm _ _ hne, hsw] at hS2
            have HS2 : As (At (fun _ => False) w0 _ (Hp.seps (Hp.row 3 1 encInt (.slice (some ⟨g, 0, none⟩) N c) (P ++ (S0 ++ (y :: ((x :: S2) ++ ((b0 :: B').drop (k + 1) ++ Q))))) :: BX bx A ws.length cA :: lst))) := ⟨by simpa using hS2⟩
            have HQ := As.mk (⟨hj1e, hyx, hja, hj1, hj⟩ : _ ∧ _ ∧ _ ∧ _ ∧ _)
            clear hS hS2 hsw g1 g2 e1 hxs hj1e hyx hja hj1 hj HBB
            go_wp2_with fail
            go_region
            go_wp2_with fail
            go_roundg S0.length
            case measure => have := HQ.out.2.2.2.1; simp at this; omega
            case rel => exact ⟨j1, S0, x :: S2, rfl, by have := HQ.out; simp at this; omega, rfl, ⟨by rw [HS.out.1]; simp, fun s hs => by
              rcases List.mem_cons.1 hs with rfl | hs
              · exact HQ.out.2.1
              · exact HS.out.2 s hs⟩, HS2.out.drew⟩
          | false =>
            have h1 := HX.out.2.2.2
            rw [HS.out.1] at h1
            have h2 := HX.out.2.2.1
            rw [HS.out.1] at h2
            have HP := As.mk (⟨ins_perm h2 HY.out.1, ins_sorted (RO_tr ws) h1 HS.out.2 (HBB.out.2 rfl)⟩ : _ ∧ _)
            have s1 : IntKind.i64.wrap ((i : Int) + 1) = ((i + 1 : Nat) : Int) := by rw [IntKind.wrap_i64]; have := HD.out; omega
            have hS2 : At (fun _ => False) w0 wc (Hp.seps (Hp.row 3 1 encInt (.slice (some ⟨g, 0, none⟩) N c) (P ++ ((S1 ++ y :: S2) ++ ((b0 :: B').drop (k + 1) ++ Q))) :: BX bx A ws.length cA :: lst)) := by
              have e : P ++ ((S1 ++ y :: S2) ++ ((b0 :: B').drop (k + 1) ++ Q)) = P ++ (S1 ++ (y :: (S2 ++ ((b0 :: B').drop (k + 1) ++ Q)))) := by simp
              rw [e]; exact hS
            clear h1 h2 hS HBB hj1 hj
            go_wp2_with fail
            go_roundg (b - a - k)
            case measure => have := HY.out; omega
            case rel => exact ⟨k + 1, i + 1, S1 ++ y :: S2, by have := HY.out; omega, by have := HY.out; omega, rfl, ⟨by omega, by have := (List.getElem?_eq_some_iff.1 HY.out.1).1; omega, HP.out.1, HP.out.2⟩, hS2⟩
    · have hkB : k = (b0 :: B').length := by have := HD.out; have := HX.out.2.1; omega
      have h1 := HX.out.2.2.1
      rw [hkB, List.take_length] at h1
      rw [hkB, List.drop_length, List.nil_append] at hS
      have HP := As.mk (⟨h1, HX.out.2.2.2⟩ : _ ∧ _)
      have hii : ¬ (i : Int) < (b : Int) := by omega
      clear h1 hk hi hkB hib HX
      go_wp2_with fail
      go_end0
      exact ⟨rfl, S, HP.out.1, HP.out.2, hS⟩
end Go.Proofs.Ytjgeccnfdndllaa
