/- Sorting a short row of uint16. No condition but bounded sizes. -/
import Derived.Test.YtkebkmbfglodlaaDoorSk2
import Derived.Deep.RegionHeld3
import Derived.Deep.Cut
import Derived.Deep.LoopGhost
import Derived.BigQuiet
set_option linter.unusedVariables false
set_option linter.unusedSimpArgs false
set_option maxRecDepth 100000
namespace Go.Proofs.YtkebkmbfglodlaaDoor
open Go.RowKit
theorem set_swap (P M Q : List Int) (x y : Int) : ((P ++ x :: (M ++ y :: Q)).set P.length y).set (P.length + 1 + M.length) x = P ++ y :: (M ++ x :: Q) := by
  rw [List.set_append_right _ _ (Nat.le_refl _), Nat.sub_self, List.set_cons_zero, List.set_append_right _ _ (by omega), show P.length + 1 + M.length - P.length = M.length + 1 by omega, List.set_cons_succ, List.set_append_right _ _ (Nat.le_refl _), Nat.sub_self, List.set_cons_zero]
theorem get_mid (P Q : List Int) (x : Int) : (P ++ x :: Q)[P.length]? = some x := by simp
theorem get_mid2 (P M Q : List Int) (x y : Int) : (P ++ x :: (M ++ y :: Q))[P.length + 1 + M.length]? = some y := by
  rw [List.getElem?_append_right (by omega), show P.length + 1 + M.length - P.length = M.length + 1 by omega, List.getElem?_cons_succ]
  simp
theorem nil_snoc (l : List Int) : l = [] ∨ ∃ L b, l = L ++ [b] := by
  rcases List.eq_nil_or_concat l with h | ⟨L, b, h⟩
  · exact .inl h
  · exact .inr ⟨L, b, by rw [h, List.concat_eq_append]⟩
theorem ins_sorted {R : Int → Int → Prop} (tr : ∀ x y z, R x y → R y z → R x z) {S1 S2 : List Int} {y : Int} (h : (S1 ++ S2).Pairwise R) (h2 : ∀ s ∈ S2, R y s) (h1 : ∀ x, S1.getLast? = some x → R x y) : (S1 ++ y :: S2).Pairwise R := by
  obtain ⟨p1, p2, p3⟩ := List.pairwise_append.1 h
  refine List.pairwise_append.2 ⟨p1, List.pairwise_cons.2 ⟨h2, p2⟩, fun a ha b hb => ?_⟩
  rcases List.mem_cons.1 hb with rfl | hb
  · cases hl : S1.getLast? with
    | none => rw [List.getLast?_eq_none_iff] at hl; subst hl; simp at ha
    | some x =>
      obtain ⟨S0, rfl⟩ := List.getLast?_eq_some_iff.1 hl
      rcases List.mem_append.1 ha with ha | ha
      · exact tr _ _ _ ((List.pairwise_append.1 p1).2.2 a ha x (by simp)) (h1 x hl)
      · obtain rfl : a = x := by simpa using ha
        exact h1 a hl
  · exact p3 a ha b hb
theorem ins_perm {S1 S2 B : List Int} {k : Nat} {y : Int} (h : (S1 ++ S2).Perm (B.take k)) (hy : B[k]? = some y) : (S1 ++ y :: S2).Perm (B.take (k + 1)) := by
  rw [List.take_add_one, hy]
  refine List.perm_middle.trans ?_
  refine List.Perm.trans (List.Perm.cons y h) ?_
  have := List.perm_middle (a := y) (l₁ := B.take k) (l₂ := [])
  rw [List.append_nil] at this
  exact this.symm
theorem isnanU_does (w : World) (a : Int) : Calls Tryd.prog 93 #[.int .u16 a] w fun e w' => e = .returned (.bool false) ∧ w' = w := by
  go_enter Tryd.func93, Tryd.ntmps93
  go_wp2_with fail
  go_ret
  exact ⟨by simp, rfl⟩
theorem less_does (w : World) (x y : Int) : Calls Tryd.prog 83 #[.int .u16 x, .int .u16 y] w fun e w' => e = .returned (.bool (decide (x < y))) ∧ w' = w := by
  go_enter Tryd.func83, Tryd.ntmps83
  go_wp2_with fail
  refine (isnanU_does _ _).mono ?_
  rintro e w1 ⟨rfl, rfl⟩
  go_wp2_with fail
  go_ret
  exact ⟨by first | rfl | simp, rfl⟩
theorem At.set1 {F0 : Nat → Prop} {w0 w : World} {l : List Hp} {xs : List Int} {g m c : Nat} (n : Nat) (h : At F0 w0 w (Hp.seps l)) (ha : l[n]? = some (Hp.row 35 1 encH (.slice (some ⟨g, 0, none⟩) m c) xs)) (i : Nat) (x x' : Int) (hx : xs[i]? = some x) :
    At F0 w0 (w.setCell ⟨g, i, none⟩ (.int .u16 x')) (Hp.seps (l.set n (Hp.row 35 1 encH (.slice (some ⟨g, 0, none⟩) m c) (xs.set i x')))) := by
  have h1 := h.setAt n ha encH_len i 0 x x' (.int .u16 x') hx (by decide) rfl
  simpa only [Nat.mul_one, Nat.add_zero] using h1
theorem Rw.at1 {w : World} {g n c : Nat} {xs : List Int} (h : Rw w 35 1 encH (.slice (some ⟨g, 0, none⟩) n c) xs) (i : Nat) (x : Int) (hx : xs[i]? = some x) : w.cell? ⟨g, i, none⟩ = some (.int .u16 x) ∧ w.frozen? ⟨g, i, none⟩ = false := by
  have := h.at_ encH_len i x hx 0 (by decide)
  rw [Nat.mul_one, Nat.add_zero] at this
  exact this
theorem insU_empty (v : Value) (a : Nat) (ha : a ≤ 1000000) (w : World) : Calls Tryd.prog 77 #[v, .int .i64 a, .int .i64 a] w fun e w' => e = .returned (.tuple #[]) ∧ Below w.heap.size w w' := by
  obtain ⟨i1, hi1⟩ : ∃ i1, i1 = a + 1 := ⟨_, rfl⟩
  have s0 : IntKind.i64.wrap ((a : Int) + 1) = (i1 : Int) := by rw [IntKind.wrap_i64]; omega
  have hi : ¬ i1 < a := by omega
  clear hi1
  go_enter Tryd.func77, Tryd.ntmps77
  go_wp2_with fail
  go_loopg [6] 0 (fun g0 iv wr => g0 = 0 ∧ iv = .int .i64 (i1 : Int) ∧ Below w.heap.size w wr)
  case atStart => exact ⟨rfl, rfl, by first | exact Below.refl _ _ | (with_reducible exact bl_drew (Below.refl _ _)) | exact (by repeat (first | exact Below.refl _ _ | refine bl_drewN ?_ _ | refine Below.drew ?_ | refine bl_alloc ?_ _ | refine bl_set ?_ (by first | (simp; done) | omega | (simp; omega)) _))⟩
  case round =>
    obtain ⟨rfl, rfl, hb⟩ := hrel
    go_wp2_with fail
    go_end0
    refine ⟨rfl, ?_⟩
    first | exact hb | exact (by repeat (first | exact Below.refl _ _ | refine bl_drewN ?_ _ | refine Below.drew ?_ | refine bl_alloc ?_ _ | refine bl_set ?_ (by first | (simp; done) | omega | (simp; omega)) _))
abbrev RU (g N c : Nat) (xs : List Int) : Hp := Hp.row 35 1 encH (.slice (some ⟨g, 0, none⟩) N c) xs
set_option maxHeartbeats 25600000 in
theorem insU_does {F : Nat → Prop} {w0 w : World} {lst : List Hp} (g c a b N : Nat) (P B Q : List Int) (hB0 : B ≠ []) (ha : a = P.length) (hb : b = a + B.length) (hN : N = b + Q.length) (hNb : N ≤ 1000000)
    (hS : At F w0 w (Hp.seps (RU g N c (P ++ (B ++ Q)) :: lst))) :
    Calls Tryd.prog 77 #[.slice (some ⟨g, 0, none⟩) N c, .int .i64 a, .int .i64 b] w fun e w' => e = .returned (.tuple #[]) ∧ ∃ S : List Int, S.Perm B ∧ S.Pairwise (· ≤ ·) ∧ At F w0 w' (Hp.seps (RU g N c (P ++ (S ++ Q)) :: lst)) := by
  have HD := As.mk (⟨ha, hb, hN, hNb⟩ : _ ∧ _ ∧ _ ∧ _)
  have tr : ∀ x y z : Int, x ≤ y → y ≤ z → x ≤ z := fun x y z h1 h2 => Int.le_trans h1 h2
  have HTR := As.mk tr
  obtain ⟨b0, B', rfl⟩ := List.exists_cons_of_ne_nil hB0
  have s0 : IntKind.i64.wrap ((a : Int) + 1) = ((a + 1 : Nat) : Int) := by rw [IntKind.wrap_i64]; omega
  clear hB0 ha hb hN hNb tr
  go_enter Tryd.func77, Tryd.ntmps77
  go_wp2_with fail
  go_loopg [6] (b - a) (fun g0 iv wr => ∃ (k i : Nat) (S : List Int), k + g0 = b - a + 1 ∧ i = a + k ∧ iv = .int .i64 i ∧ As (1 ≤ k ∧ k ≤ (b0 :: B').length ∧ S.Perm ((b0 :: B').take k) ∧ S.Pairwise (· ≤ ·)) ∧ At F w0 wr (Hp.seps (RU g N c (P ++ (S ++ ((b0 :: B').drop k ++ Q))) :: lst)))
  case atStart => exact ⟨1, a + 1, [b0], by omega, rfl, rfl, ⟨Nat.le_refl _, by simp, by simp, by simp⟩, hS⟩
  case round =>
    clear hS s0
    obtain ⟨k, i, S, hk, hi, rfl, HX, hS⟩ := hrel
    by_cases hib : i < b
    · obtain ⟨y, hy⟩ : ∃ y, (b0 :: B')[k]? = some y := ⟨_, List.getElem?_eq_getElem (by have := HD.out; omega)⟩
      have hkl := (List.getElem?_eq_some_iff.1 hy).1
      have hdr : (b0 :: B').drop k = y :: (b0 :: B').drop (k + 1) := by rw [List.drop_eq_getElem_cons hkl, (List.getElem?_eq_some_iff.1 hy).2]
      rw [hdr] at hS
      have hSl : S.length = k := by rw [HX.out.2.2.1.length_eq, List.length_take]; omega
      have HY := As.mk (⟨hy, hk, hi, hSl⟩ : _ ∧ _ ∧ _ ∧ _)
      clear hy hkl hdr hk hi
      go_wp2_with fail
      go_loopg [7] S.length (fun g1 jv wr => ∃ (j : Nat) (S1 S2 : List Int), S1.length = g1 ∧ j = a + S1.length ∧ jv = .int .i64 j ∧ As (S = S1 ++ S2 ∧ ∀ s ∈ S2, y ≤ s) ∧ At F w0 wr (Hp.seps (RU g N c (P ++ (S1 ++ (y :: (S2 ++ ((b0 :: B').drop (k + 1) ++ Q))))) :: lst)))
      case atStart => exact ⟨i, S, [], rfl, by have := HY.out; omega, rfl, ⟨by simp, by simp⟩, hS⟩
      case round =>
        clear hS
        obtain ⟨j, S1, S2, hj1, hj, rfl, HS, hS⟩ := hrel
        have HJ := As.mk (⟨hj1, hj⟩ : _ ∧ _)
        have hjn : (j : Int) < (N : Int) := by have h1 := HY.out.2.2.2; rw [HS.out.1, List.length_append] at h1; have := HD.out; have := HY.out; simp only [List.length_cons] at *; omega
        have hjb : j ≤ 1000000 := by have := HD.out; omega
        have hS0 := As.mk hS
        go_upto_region 4 with fail
        go_cut [30] (fun vb wc => ∃ bb : Bool, vb = .bool bb ∧ As ((bb = true → ∃ S0 x, S1 = S0 ++ [x] ∧ y ≤ x) ∧ (bb = false → ∀ x, S1.getLast? = some x → x ≤ y)) ∧ At F w0 wc (Hp.seps (RU g N c (P ++ (S1 ++ (y :: (S2 ++ ((b0 :: B').drop (k + 1) ++ Q))))) :: lst)))
        case first =>
          rcases nil_snoc S1 with rfl | ⟨S0, x, rfl⟩
          · have hja : ¬ (a : Int) < (j : Int) := by simp at hj; omega
            have d0 : decide ((a : Int) < (j : Int)) = false := decide_eq_false hja
            clear hj1 hj
            go_quiet (fail)
            go_wp2_with fail
            go_meet
            exact ⟨false, rfl, ⟨fun h => by (cases h), fun _ x hx => by simp at hx⟩, hS0.out.drewN _⟩
          · have hja : (a : Int) < (j : Int) := by simp at hj; omega
            have d0 : decide ((a : Int) < (j : Int)) = true := decide_eq_true hja
            obtain ⟨j1, hj1e⟩ : ∃ j1, j1 = j - 1 := ⟨_, rfl⟩
            have s1 : IntKind.i64.wrap ((j : Int) - 1) = (j1 : Int) := by rw [IntKind.wrap_i64]; omega
            have e1 : (P ++ S0).length = j1 := by rw [List.length_append]; have := HD.out; simp at hj; omega
            have hxs : P ++ ((S0 ++ [x]) ++ (y :: (S2 ++ ((b0 :: B').drop (k + 1) ++ Q)))) = (P ++ S0) ++ x :: ([] ++ y :: (S2 ++ ((b0 :: B').drop (k + 1) ++ Q))) := by simp
            have g1 := get_mid (P ++ S0) ([] ++ y :: (S2 ++ ((b0 :: B').drop (k + 1) ++ Q))) x
            have g2 := get_mid2 (P ++ S0) [] (S2 ++ ((b0 :: B').drop (k + 1) ++ Q)) x y
            rw [← hxs, e1] at g1 g2
            rw [show j1 + 1 + ([] : List Int).length = j by simp; omega] at g2
            have c1 := ((hS.rowAt 0 rfl).at1 j y g2).1
            have c2 := ((hS.rowAt 0 rfl).at1 j1 x g1).1
            have hj1n : (j1 : Int) < (N : Int) := by omega
            clear g1 g2 hxs e1 hj1e hj hj1 hS
            go_quiet (first | (go_at_call 83; refine Calls.quiet_of_same (less_does _ _ _)))
            go_wp2_with fail
            go_meet
            refine ⟨decide (y < x), rfl, ⟨fun h => ⟨S0, x, rfl, Int.le_of_lt (of_decide_eq_true h)⟩, fun h x' hx' => ?_⟩, hS0.out.drewN _⟩
            obtain rfl : x = x' := by simpa using hx'
            have h1 := of_decide_eq_false h
            omega
        case rest =>
          clear hS hS0
          obtain ⟨bb, rfl, HBB, hS⟩ := hcut
          cases bb with
          | true =>
            obtain ⟨S0, x, rfl, hyx⟩ := HBB.out.1 rfl
            obtain ⟨j1, hj1e⟩ : ∃ j1, j1 = j - 1 := ⟨_, rfl⟩
            have hja : a < j := by simp at hj; omega
            have s1 : IntKind.i64.wrap ((j : Int) - 1) = (j1 : Int) := by rw [IntKind.wrap_i64]; omega
            have e1 : (P ++ S0).length = j1 := by rw [List.length_append]; have := HD.out; simp at hj; omega
            have hxs : P ++ ((S0 ++ [x]) ++ (y :: (S2 ++ ((b0 :: B').drop (k + 1) ++ Q)))) = (P ++ S0) ++ x :: ([] ++ y :: (S2 ++ ((b0 :: B').drop (k + 1) ++ Q))) := by simp
            have g1 := get_mid (P ++ S0) ([] ++ y :: (S2 ++ ((b0 :: B').drop (k + 1) ++ Q))) x
            have g2 := get_mid2 (P ++ S0) [] (S2 ++ ((b0 :: B').drop (k + 1) ++ Q)) x y
            rw [← hxs, e1] at g1 g2
            rw [show j1 + 1 + ([] : List Int).length = j by simp; omega] at g2
            obtain ⟨c1, f1⟩ := (hS.rowAt 0 rfl).at1 j y g2
            obtain ⟨c2, f2⟩ := (hS.rowAt 0 rfl).at1 j1 x g1
            have hne : j ≠ j1 := by omega
            have hne2 := hne.symm
            have hj1n : (j1 : Int) < (N : Int) := by omega
            have hsw := set_swap (P ++ S0) [] (S2 ++ ((b0 :: B').drop (k + 1) ++ Q)) x y
            rw [← hxs, e1, show j1 + 1 + ([] : List Int).length = j by simp; omega] at hsw
            have hS2 := At.set1 0 (At.set1 0 hS rfl j y x g2) rfl j1 x y (by rw [List.getElem?_set_ne hne]; exact g1)
            rw [List.set_comm _ _ hne, hsw] at hS2
            have HS2 : As (At F w0 _ (Hp.seps (RU g N c (P ++ (S0 ++ (y :: ((x :: S2) ++ ((b0 :: B').drop (k + 1) ++ Q))))) :: lst))) := ⟨by simpa using hS2⟩
            have HQ := As.mk (⟨hj1e, hyx, hja, hj1, hj⟩ : _ ∧ _ ∧ _ ∧ _ ∧ _)
            clear hS hS2 hsw g1 g2 e1 hxs hj1e hyx hja hj1 hj HBB
            go_wp2_with fail
            go_region
            go_wp2_with fail
            go_roundg S0.length
            case measure => have := HQ.out.2.2.2.1; simp at this; omega
            case rel => exact ⟨j1, S0, x :: S2, rfl, by have := HQ.out; simp at this; omega, rfl, ⟨by rw [HS.out.1]; simp, fun s hs => by
              rcases List.mem_cons.1 hs with rfl | hs
              · exact HQ.out.2.1
              · exact HS.out.2 s hs⟩, HS2.out.drew⟩
          | false =>
            have h1 := HX.out.2.2.2
            rw [HS.out.1] at h1
            have h2 := HX.out.2.2.1
            rw [HS.out.1] at h2
            have HP := As.mk (⟨ins_perm h2 HY.out.1, ins_sorted HTR.out h1 HS.out.2 (HBB.out.2 rfl)⟩ : _ ∧ _)
            have s1 : IntKind.i64.wrap ((i : Int) + 1) = ((i + 1 : Nat) : Int) := by rw [IntKind.wrap_i64]; have := HD.out; omega
            have hS2 : At F w0 wc (Hp.seps (RU g N c (P ++ ((S1 ++ y :: S2) ++ ((b0 :: B').drop (k + 1) ++ Q))) :: lst)) := by
              have e : P ++ ((S1 ++ y :: S2) ++ ((b0 :: B').drop (k + 1) ++ Q)) = P ++ (S1 ++ (y :: (S2 ++ ((b0 :: B').drop (k + 1) ++ Q)))) := by simp
              rw [e]; exact hS
            clear h1 h2 hS HBB hj1 hj
            go_wp2_with fail
            go_roundg (b - a - k)
            case measure => have := HY.out; omega
            case rel => exact ⟨k + 1, i + 1, S1 ++ y :: S2, by have := HY.out; omega, by have := HY.out; omega, rfl, ⟨by omega, by have := (List.getElem?_eq_some_iff.1 HY.out.1).1; omega, HP.out.1, HP.out.2⟩, hS2⟩
    · have hkB : k = (b0 :: B').length := by have := HD.out; have := HX.out.2.1; omega
      have h1 := HX.out.2.2.1
      rw [hkB, List.take_length] at h1
      rw [hkB, List.drop_length, List.nil_append] at hS
      have HP := As.mk (⟨h1, HX.out.2.2.2⟩ : _ ∧ _)
      have hii : ¬ (i : Int) < (b : Int) := by omega
      clear h1 hk hi hkB hib HX
      go_wp2_with fail
      go_end0
      exact ⟨rfl, S, HP.out.1, HP.out.2, hS⟩
end Go.Proofs.YtkebkmbfglodlaaDoor
