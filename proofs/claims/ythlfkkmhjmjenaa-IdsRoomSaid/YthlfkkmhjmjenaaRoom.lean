/- IdsRoom answers true for every room, n and drop; no conditions. -/
import Derived.Test.YthlfkkmhjmjenaaF
namespace Go.Proofs.Ythlfkkmhjmjenaa
open Go.RowKit
/-- m places that were taken once. -/
def ones (m : Nat) : List (Int × Bool) := List.replicate m (1, true)
theorem ones_len (m : Nat) : (ones m).length = m := by simp [ones]
theorem ones_succ (m : Nat) : ones m ++ [(1, true)] = ones (m + 1) := by simp [ones, List.replicate_succ']
theorem rm_nonneg (room : Int) : 0 ≤ rm room ∧ rm room ≤ 100000 := by unfold rm; split <;> (try split) <;> omega
theorem rm_lt {room : Int} (_h : room ≤ 100 ∨ 100000 < room) {i : Int} (h0 : 0 ≤ i) (hi : i < 60) : i < rm room ↔ i < room := by unfold rm; split <;> (try split) <;> omega

theorem hasB_ones {m : Nat} {i : Int} (h0 : 0 ≤ i) : hasB (ones m) i 1 = decide (i < m) := by
  unfold hasB
  rw [ones_len]
  by_cases h : i < m
  · rw [decide_eq_true ⟨h0, h⟩, decide_eq_true h, List.getD_eq_getElem?_getD, ones, List.getElem?_replicate, if_pos (by omega)]
    rfl
  · rw [decide_eq_false (fun h2 => h h2.2), decide_eq_false h]; rfl
theorem hasB_set {m : Nat} {i g : Int} (h0 : 0 ≤ i) (h : i < m) : hasB ((ones m).set i.toNat (2, true)) i g = (2 == g) := by
  unfold hasB
  rw [List.length_set, ones_len, decide_eq_true ⟨h0, h⟩, List.getD_eq_getElem?_getD, List.getElem?_set_self (by rw [ones_len]; omega)]
  simp
set_option maxHeartbeats 3200000 in
theorem room_walk (room n drop : Int) (w : World) : Calls Try.prog 3 #[.int .i64 room, .int .i64 n, .int .i64 drop] w fun e w' => e = .returned (.bool true) ∧ Below w.heap.size w w' := by
  go_enter Try.func3, Try.ntmps3
  go_wp2_with fail
  refine (alive_does w).mono ?_
  rintro e w1 ⟨rfl, hb⟩
  have HB := As.mk hb
  clear hb
  by_cases hg : 1 ≤ n ∧ n ≤ 60 ∧ 0 ≤ drop ∧ drop < n ∧ (room ≤ 100 ∨ 100000 < room)
  · obtain ⟨g1, g2, g3, g4, g5⟩ := hg
    have d1 : decide (n < 1) = false := decide_eq_false (by omega)
    have d2 : decide (60 < n) = false := decide_eq_false (by omega)
    have d3 : decide (drop < 0) = false := decide_eq_false (by omega)
    have d4 : decide (n ≤ drop) = false := decide_eq_false (by omega)
    have hrm : As (∀ i : Int, 0 ≤ i → i < 60 → (i < rm room ↔ i < room)) := ⟨fun i h0 hi => rm_lt g5 h0 hi⟩
    have hr0 := As.mk (rm_nonneg room)
    have hnew := As.mk (new_does room)
    generalize rm room = R at hrm hr0 hnew
    rcases g5 with h | h
    · have d5 : decide (100 < room) = false := decide_eq_false (by omega)
      go_wp2_with fail
      refine (hnew.out w1 (fun _ => False) (fun _ h => h)).mono ?_
      rintro e w2 ⟨B, F1, ⟨p, rfl, rfl⟩, hB, hE, hN⟩
      have hN1 : ∀ k, F1 k → w.heap.size ≤ k := fun k hk => (hN k hk).elim False.elim (fun h => Nat.le_trans HB.out.size h)
      have HS : As (∃ F, (isIds p R (ones 0) []).H w2 F ∧ ∀ k, F k → w.heap.size ≤ k) := ⟨F1, hB, hN1⟩
      have HB2 := As.mk (HB.out.trans (hE.below (fun _ h => h.elim) HB.out.size))
      clear hB hE hN hN1 HB
      go_wp2_with fail
      go_loopw [9] (fun i wr => ∃ k : Nat, (k : Int) ≤ n ∧ i = .int .i64 k ∧ As (∃ F, (isIds p R (ones (min k R.toNat)) []).H wr F ∧ ∀ k, F k → w.heap.size ≤ k) ∧ As (Below w.heap.size w wr)) (fun i _ => n.toNat - (intOf i).toNat)
      case atStart => exact ⟨0, by omega, rfl, by rw [Nat.zero_min]; exact HS, HB2⟩
      case round =>
        clear HS HB2
        obtain ⟨k, hk, rfl, HS, HB2⟩ := hrel
        by_cases hlt : (k : Int) < n
        · have e1 := hrm.out k (by omega) (by omega)
          have hR := hr0.out
          have HS1 := HS
          obtain ⟨F, hF, hFw⟩ := HS1.out
          have HF := As.mk hF
          have HFw := As.mk hFw
          clear hF hFw HS1 HS
          by_cases hkR : (k : Int) < R
          · have e2 : As (min k R.toNat = k) := ⟨by omega⟩
            have e3 : As (min (k + 1) R.toNat = k + 1) := ⟨by omega⟩
            have d7 : decide ((k : Int) < room) = true := decide_eq_true (e1.1 hkR)
            rw [e2.out] at HF
            go_wp2_with fail
            have hmk := make_more p R (ones k) (by rw [ones_len]; omega) (by rw [ones_len]; omega) wr F HF.out
            rw [ones_len, ones_succ] at hmk
            refine hmk.mono ?_
            clear hmk HF
            rintro e w3 ⟨B, F3, ⟨rfl, rfl⟩, hB, hE, hN⟩
            have HF : As (∃ F, (isIds p R (ones (min (k + 1) R.toNat)) []).H w3 F ∧ ∀ k, F k → w.heap.size ≤ k) := ⟨by rw [e3.out]; exact ⟨F3, hB, fun j hj => (hN j hj).elim (HFw.out j) (fun h => Nat.le_trans HB2.out.size h)⟩⟩
            have HB3 := As.mk (HB2.out.trans (hE.below HFw.out HB2.out.size))
            clear hB hE hN HB2 HFw e1
            go_wp2_with (go_at_call 9; refine (num_does _ _).mono ?_; rintro e w4 ⟨rfl, rfl⟩)
            obtain ⟨F4, hF4, hF4w⟩ := HF.out
            exact ⟨⟨k + 1, by omega, by go_num, ⟨F4, Hp.below hF4 (by repeat (first | exact Below.refl _ _ | refine bl_drewN ?_ _ | refine Below.drew ?_ | refine bl_alloc ?_ _ | refine bl_set ?_ (by first | (simp; done) | omega | (simp; omega)) _)), hF4w⟩, ⟨HB3.out.trans (Below.mono (by repeat (first | exact Below.refl _ _ | refine bl_drewN ?_ _ | refine Below.drew ?_ | refine bl_alloc ?_ _ | refine bl_set ?_ (by first | (simp; done) | omega | (simp; omega)) _)) HB3.out.size)⟩⟩, by simp [intOf]; omega⟩
          · have e2 : As (min k R.toNat = R.toNat) := ⟨by omega⟩
            have e3 : As (min (k + 1) R.toNat = R.toNat) := ⟨by omega⟩
            have d7 : decide ((k : Int) < room) = false := decide_eq_false (fun h => hkR (e1.2 h))
            rw [e2.out] at HF
            go_wp2_with fail
            have hmk := make_full p (ones R.toNat)
            rw [ones_len, Int.toNat_of_nonneg hR.1] at hmk
            refine (hmk wr F HF.out).mono ?_
            clear hmk HF
            rintro e w3 ⟨B, F3, ⟨rfl, rfl⟩, hB, hE, hN⟩
            have HF : As (∃ F, (isIds p R (ones (min (k + 1) R.toNat)) []).H w3 F ∧ ∀ k, F k → w.heap.size ≤ k) := ⟨by rw [e3.out]; exact ⟨F3, hB, fun j hj => (hN j hj).elim (HFw.out j) (fun h => Nat.le_trans HB2.out.size h)⟩⟩
            have HB3 := As.mk (HB2.out.trans (hE.below HFw.out HB2.out.size))
            clear hB hE hN HB2 HFw e1
            go_wp2_with (go_at_call 9; refine (num_does _ _).mono ?_; rintro e w4 ⟨rfl, rfl⟩)
            obtain ⟨F4, hF4, hF4w⟩ := HF.out
            exact ⟨⟨k + 1, by omega, by go_num, ⟨F4, Hp.below hF4 (by repeat (first | exact Below.refl _ _ | refine bl_drewN ?_ _ | refine Below.drew ?_ | refine bl_alloc ?_ _ | refine bl_set ?_ (by first | (simp; done) | omega | (simp; omega)) _)), hF4w⟩, ⟨HB3.out.trans (Below.mono (by repeat (first | exact Below.refl _ _ | refine bl_drewN ?_ _ | refine Below.drew ?_ | refine bl_alloc ?_ _ | refine bl_set ?_ (by first | (simp; done) | omega | (simp; omega)) _)) HB3.out.size)⟩⟩, by simp [intOf]; omega⟩
        · have hkn : n = (k : Int) := by omega
          subst hkn
          have e1 := hrm.out drop (by omega) (by omega)
          have hR := hr0.out
          obtain ⟨F, hF, hFw⟩ := HS.out
          have HF := As.mk hF
          have HFw := As.mk hFw
          clear hF hFw HS
          have e4 := hasB_ones (m := min k R.toNat) (i := drop) g3
          go_wp2_with fail
          by_cases hdR : drop < R
          · have d7 : decide (drop < room) = true := decide_eq_true (e1.1 hdR)
            have d8 : decide (room ≤ drop) = false := decide_eq_false (by have := e1.1 hdR; omega)
            rw [decide_eq_true (by omega)] at e4
            have E4 := As.mk e4
            clear e4 e1
            refine (drop_ok p drop 1 R _ [] E4.out (by decide) wr F HF.out).mono ?_
            rintro e w3 ⟨B, F3, ⟨rfl, rfl⟩, hB, hE, hN⟩
            have HF3 := As.mk hB
            have HN3 : As (∀ k, F3 k → w.heap.size ≤ k) := ⟨fun j hj => (hN j hj).elim (HFw.out j) (fun h => Nat.le_trans HB2.out.size h)⟩
            have HB3 := As.mk (HB2.out.trans (hE.below HFw.out HB2.out.size))
            clear hB hE hN HF HB2 HFw
            go_wp2_with (go_at_call 9; refine (num_does _ _).mono ?_; rintro e w4 ⟨rfl, rfl⟩)
            refine (make_pop p R _ [] drop (1, false) g3 (by rw [List.getElem?_set_self (by rw [ones_len]; omega)]) _ F3 (Hp.below HF3.out (by repeat (first | exact Below.refl _ _ | refine bl_drewN ?_ _ | refine Below.drew ?_ | refine bl_alloc ?_ _ | refine bl_set ?_ (by first | (simp; done) | omega | (simp; omega)) _)))).mono ?_
            rw [List.set_set, show wrap64 (((1 : Int), false).1 + 1) = 2 from by show wrap64 (1 + 1) = 2; unfold wrap64; omega]
            rintro e w4 ⟨B, F4, ⟨rfl, rfl⟩, hB, hE, hN⟩
            have HF4 := As.mk hB
            have HN4 : As (∀ k, F4 k → w.heap.size ≤ k) := ⟨fun j hj => (hN j hj).elim (HN3.out j) (fun h => Nat.le_trans HB3.out.size h)⟩
            have HB4 := As.mk (HB3.out.trans (hE.below HN3.out HB3.out.size))
            clear hB hE hN HF3 HB3 HN3
            go_wp2_with (go_at_call 9; refine (num_does _ _).mono ?_; rintro e w4 ⟨rfl, rfl⟩)
            refine (has_does p drop 1 R _ _ _ F4 (Hp.below HF4.out (by repeat (first | exact Below.refl _ _ | refine bl_drewN ?_ _ | refine Below.drew ?_ | refine bl_alloc ?_ _ | refine bl_set ?_ (by first | (simp; done) | omega | (simp; omega)) _)))).mono ?_
            rw [hasB_set g3 (show drop < ((min k R.toNat : Nat) : Int) by omega)]
            rintro e w5 ⟨B, F5, ⟨rfl, rfl⟩, hB, hE, hN⟩
            have HF5 := As.mk hB
            have hbl : Below w.heap.size w (w4.alloc (.cells #[.int .i64 drop, .int .i64 2] 26)) := HB4.out.trans (Below.mono (by repeat (first | exact Below.refl _ _ | refine bl_drewN ?_ _ | refine Below.drew ?_ | refine bl_alloc ?_ _ | refine bl_set ?_ (by first | (simp; done) | omega | (simp; omega)) _)) HB4.out.size)
            have HB5 := As.mk (hbl.trans (hE.below HN4.out hbl.size))
            have HN5 : As (∀ k, F5 k → w.heap.size ≤ k) := ⟨fun j hj => (hN j hj).elim (HN4.out j) (fun h => Nat.le_trans hbl.size h)⟩
            have hRb : w5.heap[w4.heap.size]? = some (.cells #[.int .i64 drop, .int .i64 2] 26 (0, 0)) := (hE.block _ (by simp) (Hp.not_foot HF4.out (Nat.le_refl _))).trans (blk_alloc_new w4 _)
            have r0 : w5.cell? ⟨w4.heap.size, 0, none⟩ = some (.int .i64 drop) := (cell_of_blk hRb 0).trans rfl
            have r1 : w5.cell? ⟨w4.heap.size, 1, none⟩ = some (.int .i64 2) := (cell_of_blk hRb 1).trans rfl
            clear hB hE hN HB4 HN4 hbl hRb
            have e5 : ((2 : Int) == 1) = false := rfl
            rw [e5]
            go_wp2_with fail
            refine (has_does p drop 2 R _ _ _ F5 HF5.out).mono ?_
            rw [hasB_set g3 (show drop < ((min k R.toNat : Nat) : Int) by omega)]
            rintro e w6 ⟨B, F6, ⟨rfl, rfl⟩, hB, hE, hN⟩
            have HB6 := As.mk (HB5.out.trans (hE.below HN5.out HB5.out.size))
            clear hB hE hN
            go_wp2
            go_ret
            exact ⟨rfl, HB6.out⟩
          · have d7 : decide (drop < room) = false := decide_eq_false (fun h => hdR (e1.2 h))
            have d8 : decide (room ≤ drop) = true := decide_eq_true (by have := fun h => hdR (e1.2 h); omega)
            rw [decide_eq_false (by omega)] at e4
            have E4 := As.mk e4
            clear e4 e1
            refine (drop_stale p drop 1 R _ [] E4.out wr F HF.out).mono ?_
            rintro e w3 ⟨B, F3, ⟨rfl, rfl⟩, hB, hE, hN⟩
            have HB3 := As.mk (HB2.out.trans (hE.below HFw.out HB2.out.size))
            clear hB hE hN HF HB2 HFw
            go_wp2_with (go_at_call 9; refine (num_does _ _).mono ?_; rintro e w4 ⟨rfl, rfl⟩)
            go_ret
            exact ⟨rfl, HB3.out⟩
    · have d5 : decide (100 < room) = true := decide_eq_true (by omega)
      have d6 : decide (room ≤ 100000) = false := decide_eq_false (by omega)
      go_wp2_with fail
      refine (hnew.out w1 (fun _ => False) (fun _ h => h)).mono ?_
      rintro e w2 ⟨B, F1, ⟨p, rfl, rfl⟩, hB, hE, hN⟩
      have hN1 : ∀ k, F1 k → w.heap.size ≤ k := fun k hk => (hN k hk).elim False.elim (fun h => Nat.le_trans HB.out.size h)
      have HS : As (∃ F, (isIds p R (ones 0) []).H w2 F ∧ ∀ k, F k → w.heap.size ≤ k) := ⟨F1, hB, hN1⟩
      have HB2 := As.mk (HB.out.trans (hE.below (fun _ h => h.elim) HB.out.size))
      clear hB hE hN hN1 HB
      go_wp2_with fail
      go_loopw [9] (fun i wr => ∃ k : Nat, (k : Int) ≤ n ∧ i = .int .i64 k ∧ As (∃ F, (isIds p R (ones (min k R.toNat)) []).H wr F ∧ ∀ k, F k → w.heap.size ≤ k) ∧ As (Below w.heap.size w wr)) (fun i _ => n.toNat - (intOf i).toNat)
      case atStart => exact ⟨0, by omega, rfl, by rw [Nat.zero_min]; exact HS, HB2⟩
      case round =>
        clear HS HB2
        obtain ⟨k, hk, rfl, HS, HB2⟩ := hrel
        by_cases hlt : (k : Int) < n
        · have e1 := hrm.out k (by omega) (by omega)
          have hR := hr0.out
          have HS1 := HS
          obtain ⟨F, hF, hFw⟩ := HS1.out
          have HF := As.mk hF
          have HFw := As.mk hFw
          clear hF hFw HS1 HS
          by_cases hkR : (k : Int) < R
          · have e2 : As (min k R.toNat = k) := ⟨by omega⟩
            have e3 : As (min (k + 1) R.toNat = k + 1) := ⟨by omega⟩
            have d7 : decide ((k : Int) < room) = true := decide_eq_true (e1.1 hkR)
            rw [e2.out] at HF
            go_wp2_with fail
            have hmk := make_more p R (ones k) (by rw [ones_len]; omega) (by rw [ones_len]; omega) wr F HF.out
            rw [ones_len, ones_succ] at hmk
            refine hmk.mono ?_
            clear hmk HF
            rintro e w3 ⟨B, F3, ⟨rfl, rfl⟩, hB, hE, hN⟩
            have HF : As (∃ F, (isIds p R (ones (min (k + 1) R.toNat)) []).H w3 F ∧ ∀ k, F k → w.heap.size ≤ k) := ⟨by rw [e3.out]; exact ⟨F3, hB, fun j hj => (hN j hj).elim (HFw.out j) (fun h => Nat.le_trans HB2.out.size h)⟩⟩
            have HB3 := As.mk (HB2.out.trans (hE.below HFw.out HB2.out.size))
            clear hB hE hN HB2 HFw e1
            go_wp2_with (go_at_call 9; refine (num_does _ _).mono ?_; rintro e w4 ⟨rfl, rfl⟩)
            obtain ⟨F4, hF4, hF4w⟩ := HF.out
            exact ⟨⟨k + 1, by omega, by go_num, ⟨F4, Hp.below hF4 (by repeat (first | exact Below.refl _ _ | refine bl_drewN ?_ _ | refine Below.drew ?_ | refine bl_alloc ?_ _ | refine bl_set ?_ (by first | (simp; done) | omega | (simp; omega)) _)), hF4w⟩, ⟨HB3.out.trans (Below.mono (by repeat (first | exact Below.refl _ _ | refine bl_drewN ?_ _ | refine Below.drew ?_ | refine bl_alloc ?_ _ | refine bl_set ?_ (by first | (simp; done) | omega | (simp; omega)) _)) HB3.out.size)⟩⟩, by simp [intOf]; omega⟩
          · have e2 : As (min k R.toNat = R.toNat) := ⟨by omega⟩
            have e3 : As (min (k + 1) R.toNat = R.toNat) := ⟨by omega⟩
            have d7 : decide ((k : Int) < room) = false := decide_eq_false (fun h => hkR (e1.2 h))
            rw [e2.out] at HF
            go_wp2_with fail
            have hmk := make_full p (ones R.toNat)
            rw [ones_len, Int.toNat_of_nonneg hR.1] at hmk
            refine (hmk wr F HF.out).mono ?_
            clear hmk HF
            rintro e w3 ⟨B, F3, ⟨rfl, rfl⟩, hB, hE, hN⟩
            have HF : As (∃ F, (isIds p R (ones (min (k + 1) R.toNat)) []).H w3 F ∧ ∀ k, F k → w.heap.size ≤ k) := ⟨by rw [e3.out]; exact ⟨F3, hB, fun j hj => (hN j hj).elim (HFw.out j) (fun h => Nat.le_trans HB2.out.size h)⟩⟩
            have HB3 := As.mk (HB2.out.trans (hE.below HFw.out HB2.out.size))
            clear hB hE hN HB2 HFw e1
            go_wp2_with (go_at_call 9; refine (num_does _ _).mono ?_; rintro e w4 ⟨rfl, rfl⟩)
            obtain ⟨F4, hF4, hF4w⟩ := HF.out
            exact ⟨⟨k + 1, by omega, by go_num, ⟨F4, Hp.below hF4 (by repeat (first | exact Below.refl _ _ | refine bl_drewN ?_ _ | refine Below.drew ?_ | refine bl_alloc ?_ _ | refine bl_set ?_ (by first | (simp; done) | omega | (simp; omega)) _)), hF4w⟩, ⟨HB3.out.trans (Below.mono (by repeat (first | exact Below.refl _ _ | refine bl_drewN ?_ _ | refine Below.drew ?_ | refine bl_alloc ?_ _ | refine bl_set ?_ (by first | (simp; done) | omega | (simp; omega)) _)) HB3.out.size)⟩⟩, by simp [intOf]; omega⟩
        · have hkn : n = (k : Int) := by omega
          subst hkn
          have e1 := hrm.out drop (by omega) (by omega)
          have hR := hr0.out
          obtain ⟨F, hF, hFw⟩ := HS.out
          have HF := As.mk hF
          have HFw := As.mk hFw
          clear hF hFw HS
          have e4 := hasB_ones (m := min k R.toNat) (i := drop) g3
          go_wp2_with fail
          by_cases hdR : drop < R
          · have d7 : decide (drop < room) = true := decide_eq_true (e1.1 hdR)
            have d8 : decide (room ≤ drop) = false := decide_eq_false (by have := e1.1 hdR; omega)
            rw [decide_eq_true (by omega)] at e4
            have E4 := As.mk e4
            clear e4 e1
            refine (drop_ok p drop 1 R _ [] E4.out (by decide) wr F HF.out).mono ?_
            rintro e w3 ⟨B, F3, ⟨rfl, rfl⟩, hB, hE, hN⟩
            have HF3 := As.mk hB
            have HN3 : As (∀ k, F3 k → w.heap.size ≤ k) := ⟨fun j hj => (hN j hj).elim (HFw.out j) (fun h => Nat.le_trans HB2.out.size h)⟩
            have HB3 := As.mk (HB2.out.trans (hE.below HFw.out HB2.out.size))
            clear hB hE hN HF HB2 HFw
            go_wp2_with (go_at_call 9; refine (num_does _ _).mono ?_; rintro e w4 ⟨rfl, rfl⟩)
            refine (make_pop p R _ [] drop (1, false) g3 (by rw [List.getElem?_set_self (by rw [ones_len]; omega)]) _ F3 (Hp.below HF3.out (by repeat (first | exact Below.refl _ _ | refine bl_drewN ?_ _ | refine Below.drew ?_ | refine bl_alloc ?_ _ | refine bl_set ?_ (by first | (simp; done) | omega | (simp; omega)) _)))).mono ?_
            rw [List.set_set, show wrap64 (((1 : Int), false).1 + 1) = 2 from by show wrap64 (1 + 1) = 2; unfold wrap64; omega]
            rintro e w4 ⟨B, F4, ⟨rfl, rfl⟩, hB, hE, hN⟩
            have HF4 := As.mk hB
            have HN4 : As (∀ k, F4 k → w.heap.size ≤ k) := ⟨fun j hj => (hN j hj).elim (HN3.out j) (fun h => Nat.le_trans HB3.out.size h)⟩
            have HB4 := As.mk (HB3.out.trans (hE.below HN3.out HB3.out.size))
            clear hB hE hN HF3 HB3 HN3
            go_wp2_with (go_at_call 9; refine (num_does _ _).mono ?_; rintro e w4 ⟨rfl, rfl⟩)
            refine (has_does p drop 1 R _ _ _ F4 (Hp.below HF4.out (by repeat (first | exact Below.refl _ _ | refine bl_drewN ?_ _ | refine Below.drew ?_ | refine bl_alloc ?_ _ | refine bl_set ?_ (by first | (simp; done) | omega | (simp; omega)) _)))).mono ?_
            rw [hasB_set g3 (show drop < ((min k R.toNat : Nat) : Int) by omega)]
            rintro e w5 ⟨B, F5, ⟨rfl, rfl⟩, hB, hE, hN⟩
            have HF5 := As.mk hB
            have hbl : Below w.heap.size w (w4.alloc (.cells #[.int .i64 drop, .int .i64 2] 26)) := HB4.out.trans (Below.mono (by repeat (first | exact Below.refl _ _ | refine bl_drewN ?_ _ | refine Below.drew ?_ | refine bl_alloc ?_ _ | refine bl_set ?_ (by first | (simp; done) | omega | (simp; omega)) _)) HB4.out.size)
            have HB5 := As.mk (hbl.trans (hE.below HN4.out hbl.size))
            have HN5 : As (∀ k, F5 k → w.heap.size ≤ k) := ⟨fun j hj => (hN j hj).elim (HN4.out j) (fun h => Nat.le_trans hbl.size h)⟩
            have hRb : w5.heap[w4.heap.size]? = some (.cells #[.int .i64 drop, .int .i64 2] 26 (0, 0)) := (hE.block _ (by simp) (Hp.not_foot HF4.out (Nat.le_refl _))).trans (blk_alloc_new w4 _)
            have r0 : w5.cell? ⟨w4.heap.size, 0, none⟩ = some (.int .i64 drop) := (cell_of_blk hRb 0).trans rfl
            have r1 : w5.cell? ⟨w4.heap.size, 1, none⟩ = some (.int .i64 2) := (cell_of_blk hRb 1).trans rfl
            clear hB hE hN HB4 HN4 hbl hRb
            have e5 : ((2 : Int) == 1) = false := rfl
            rw [e5]
            go_wp2_with fail
            refine (has_does p drop 2 R _ _ _ F5 HF5.out).mono ?_
            rw [hasB_set g3 (show drop < ((min k R.toNat : Nat) : Int) by omega)]
            rintro e w6 ⟨B, F6, ⟨rfl, rfl⟩, hB, hE, hN⟩
            have HB6 := As.mk (HB5.out.trans (hE.below HN5.out HB5.out.size))
            clear hB hE hN
            go_wp2
            go_ret
            exact ⟨rfl, HB6.out⟩
          · have d7 : decide (drop < room) = false := decide_eq_false (fun h => hdR (e1.2 h))
            have d8 : decide (room ≤ drop) = true := decide_eq_true (by have := fun h => hdR (e1.2 h); omega)
            rw [decide_eq_false (by omega)] at e4
            have E4 := As.mk e4
            clear e4 e1
            refine (drop_stale p drop 1 R _ [] E4.out wr F HF.out).mono ?_
            rintro e w3 ⟨B, F3, ⟨rfl, rfl⟩, hB, hE, hN⟩
            have HB3 := As.mk (HB2.out.trans (hE.below HFw.out HB2.out.size))
            clear hB hE hN HF HB2 HFw
            go_wp2_with (go_at_call 9; refine (num_does _ _).mono ?_; rintro e w4 ⟨rfl, rfl⟩)
            go_ret
            exact ⟨rfl, HB3.out⟩
  · have HG := As.mk hg
    clear hg
    go_wp2_with fail
    all_goals first | (exfalso; have := HG.out; omega) | (go_ret; exact ⟨rfl, HB.out⟩)
end Go.Proofs.Ythlfkkmhjmjenaa
