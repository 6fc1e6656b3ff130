-- PRINTED BY print.sh 35421559b90ae4d0a3588c463048766b98c2df88dd9212a6774a882060cdf62d: not written by this session
import Derived.Test.YtmonnibleolhhaaPSchemaKeysx0
import Derived.Test.YtmonnibleolhhaaPSchemaKeysx1
namespace Go.Proofs.Ytmonnibleolhhaa.PSchemaKeys
open Go.RowKit Go.Proofs.YtmonnibleolhhaaW.PrintWords Go.Proofs.YtmonnibleolhhaaW.PrintLast Go.Proofs.YtmonnibleolhhaaW.PrintMore
attribute [local go_sem] max2_int min2_int max_two min_two max_three min_three max_four min_four   -- for this text's walks alone
set_option linter.unusedVariables false
set_option linter.unusedSimpArgs false

/-! ### puppeteerref1_CheckKeys: function 13 -/
mutual
def puppeteerref1_CheckKeys.l0 : Nat → List (S24) → Int → Option (Int × Int)
  | 0, _, _ => none
  | k + 1, x0, x4 => if x4 < (x0.length : Int) then (if 0 ≤ x4 then ((puppeteerref1_Named.f k ((rd_T24 x0 x4).f0)).bind fun t108 => (if t108 = true then (if ((rd_T24 x0 x4).f1) < 0 then (puppeteerref1_CheckKeys.j1 k x0 x4 true) else (puppeteerref1_CheckKeys.j1 k x0 x4 (decide (((rd_T24 x0 x4).f1) > 4)))) else (some (x4, 5)))) else (none)) else (some (0, 0))
def puppeteerref1_CheckKeys.j1 : Nat → List (S24) → Int → Bool → Option (Int × Int)
  | 0, _, _, _ => none
  | k + 1, x0, x4, x23 => if x23 = true then (some (x4, 7)) else (if 0 ≤ x4 then (if x4 ≤ (x0.length : Int) then (if x4 < (x0.length : Int) then ((puppeteerref1_FindKey.f k (x0.take (x4 : Int).toNat) ((rd_T24 x0 x4).f0)).bind fun t116 => (if t116 ≥ 0 then (some (x4, 6)) else (puppeteerref1_CheckKeys.l0 k x0 (wrap64 (x4 + 1))))) else (none)) else (none)) else (none))
end
def puppeteerref1_CheckKeys.f (k : Nat) (l0 : List (S24)) : Option (Int × Int) := if (l0.length : Int) > 100 then (some (0, 9)) else (puppeteerref1_CheckKeys.l0 k l0 0)
theorem puppeteerref1_CheckKeys.mono_l : ∀ k, (∀ y0 y1, LeO (puppeteerref1_CheckKeys.l0 k y0 y1) (puppeteerref1_CheckKeys.l0 (k + 1) y0 y1)) ∧ (∀ y0 y1 y2, LeO (puppeteerref1_CheckKeys.j1 k y0 y1 y2) (puppeteerref1_CheckKeys.j1 (k + 1) y0 y1 y2))
  | 0 => ⟨fun _ _ r h => by simp [puppeteerref1_CheckKeys.l0] at h, fun _ _ _ r h => by simp [puppeteerref1_CheckKeys.j1] at h⟩
  | k + 1 => by
    obtain ⟨ih0, ih1⟩ := puppeteerref1_CheckKeys.mono_l k
    refine ⟨?_, ?_⟩
    · intro y0 y1
      unfold puppeteerref1_CheckKeys.l0
      repeat' first
      | (with_reducible exact ih0 _ _)
      | (with_reducible exact ih1 _ _ _)
      | (with_reducible exact puppeteerref1_FindKey.mono _ _ _)
      | (with_reducible exact puppeteerref1_Named.mono _ _)
      | (with_reducible exact LeO.refl _)
      | (with_reducible exact LeO.none _)
      | (with_reducible refine LeO.ite ?_ ?_)
      | (with_reducible refine LeO.bind ?_ (fun _ => ?_))
      | exact ih0 _ _
      | exact ih1 _ _ _
      | exact puppeteerref1_FindKey.mono _ _ _
      | exact puppeteerref1_Named.mono _ _
      | exact LeO.none _
      | refine LeO.ite ?_ ?_
      | refine LeO.bind ?_ (fun _ => ?_)
    · intro y0 y1 y2
      unfold puppeteerref1_CheckKeys.j1
      repeat' first
      | (with_reducible exact ih0 _ _)
      | (with_reducible exact ih1 _ _ _)
      | (with_reducible exact puppeteerref1_FindKey.mono _ _ _)
      | (with_reducible exact puppeteerref1_Named.mono _ _)
      | (with_reducible exact LeO.refl _)
      | (with_reducible exact LeO.none _)
      | (with_reducible refine LeO.ite ?_ ?_)
      | (with_reducible refine LeO.bind ?_ (fun _ => ?_))
      | exact ih0 _ _
      | exact ih1 _ _ _
      | exact puppeteerref1_FindKey.mono _ _ _
      | exact puppeteerref1_Named.mono _ _
      | exact LeO.none _
      | refine LeO.ite ?_ ?_
      | refine LeO.bind ?_ (fun _ => ?_)
theorem puppeteerref1_CheckKeys.mono : ∀ a0 k, LeO (puppeteerref1_CheckKeys.f k a0) (puppeteerref1_CheckKeys.f (k + 1) a0) := by
  intro a0 k
  obtain ⟨ih0, ih1⟩ := puppeteerref1_CheckKeys.mono_l k
  unfold puppeteerref1_CheckKeys.f
  repeat' first
      | (with_reducible exact ih0 _ _)
      | (with_reducible exact ih1 _ _ _)
      | (with_reducible exact puppeteerref1_FindKey.mono _ _ _)
      | (with_reducible exact puppeteerref1_Named.mono _ _)
      | (with_reducible exact LeO.refl _)
      | (with_reducible exact LeO.none _)
      | (with_reducible refine LeO.ite ?_ ?_)
      | (with_reducible refine LeO.bind ?_ (fun _ => ?_))
      | exact ih0 _ _
      | exact ih1 _ _ _
      | exact puppeteerref1_FindKey.mono _ _ _
      | exact puppeteerref1_Named.mono _ _
      | exact LeO.none _
      | refine LeO.ite ?_ ?_
      | refine LeO.bind ?_ (fun _ => ?_)
set_option maxHeartbeats 8000000 in
set_option maxRecDepth 100000 in
theorem puppeteerref1_CheckKeys.calls (k : Nat) (A0 : Option Addr) (c0 : Nat) (l0 : List (S24)) (r1 : Int) (r2 : Int) (w : World) (hr0 : Kd.C k24 w A0 l0.length l0) (hc0 : l0.length ≤ c0) (h : puppeteerref1_CheckKeys.f k l0 = some (r1, r2)) :
    Calls Try.prog 13 #[.slice A0 l0.length c0] w fun e w' => e = .returned (.tuple #[.int .i64 r1, .int .i64 r2]) ∧ Drawn0 w w' := by
  have HR0 := Aside0.mk hr0
  have HC0 := Aside0.mk hc0
  clear hr0 hc0
  have H : (if (l0.length : Int) > 100 then (some (0, 9)) else (puppeteerref1_CheckKeys.l0 k l0 0)) = some (r1, r2) := h
  clear h
  by_cases c2 : (l0.length : Int) > 100
  · rw [if_pos c2] at H
    have c2b0 : decide (100 < (l0.length : Int)) = true := decide_eq_true c2
    have c2b1 : decide (100 < l0.length) = true := decide_eq_true (by omega)
    clear c2
    simp only [Option.some.injEq, Prod.mk.injEq] at H
    obtain ⟨rfl, rfl⟩ := H
    go_enter Try.func13, Try.ntmps13
    go_wp2
    repeat (go_quiet (fail); try go_wp2)
    go_ret2
    exact ⟨by first | rfl | (simp; done) | (simp [*]; done), by repeat (first | exact Drawn0.refl _ | apply Drawn0.step)⟩
  · rw [if_neg c2] at H
    have c2b0 : decide (100 < (l0.length : Int)) = false := decide_eq_false c2
    have c2b1 : decide (100 < l0.length) = false := decide_eq_false (by omega)
    clear c2
    have H' := Aside0.mk H
    clear H
    go_enter Try.func13, Try.ntmps13
    go_wp2
    repeat (go_quiet (fail); try go_wp2)
    go_loopg [4] k (fun kq v4 w' => ∃ (x4_1 : Int), v4 = .int .i64 x4_1 ∧ Aside0 (puppeteerref1_CheckKeys.l0 kq l0 x4_1 = some (r1, r2)) ∧ Aside0 (kq ≤ k) ∧ Drawn0 w w')
    case atStart => exact ⟨(0), (by first | rfl | (simp; done) | (simp [*]; done)), H', ⟨Nat.le_refl _⟩, by repeat (first | exact Drawn0.refl _ | apply Drawn0.step)⟩
    case round =>
      clear H'
      try clear c1
      try clear c2
      try clear c2b0
      try clear c2b1
      try clear p2
      obtain ⟨x4_1, rfl, HA, HK1, ⟨m1, rfl⟩⟩ := hrel
      cases gk with
      | zero => exact absurd HA.out (by simp [puppeteerref1_CheckKeys.l0])
      | succ k1 =>
        have H := HA.out
        clear HA
        simp only [puppeteerref1_CheckKeys.l0] at H
        by_cases c3 : x4_1 < (l0.length : Int)
        · rw [if_pos c3] at H
          have c3b0 : decide (x4_1 < (l0.length : Int)) = true := decide_eq_true c3
          clear c3
          by_cases c4 : 0 ≤ x4_1
          · rw [if_pos c4] at H
            have c4b0 : decide (0 ≤ x4_1) = true := decide_eq_true c4
            clear c4
            replace H := Option.bind_eq_some_iff.mp H
            obtain ⟨t108, A50, H⟩ := H
            replace H : (if t108 = true then (if ((rd_T24 l0 x4_1).f1) < 0 then (puppeteerref1_CheckKeys.j1 k1 l0 x4_1 true) else (puppeteerref1_CheckKeys.j1 k1 l0 x4_1 (decide (((rd_T24 l0 x4_1).f1) > 4)))) else (some (x4_1, 5))) = some (r1, r2) := H
            have A5 := Aside0.mk A50
            clear A50
            by_cases c6 : t108 = true
            · subst c6
              have H1 : (if ((rd_T24 l0 x4_1).f1) < 0 then (puppeteerref1_CheckKeys.j1 k1 l0 x4_1 true) else (puppeteerref1_CheckKeys.j1 k1 l0 x4_1 (decide (((rd_T24 l0 x4_1).f1) > 4)))) = some (r1, r2) := by rw [if_pos rfl] at H; exact H
              clear H
              have H := H1
              clear H1
              have HC7 := Aside0.mk H
              clear H
              have p107 : 0 ≤ (x4_1 : Int) := of_decide_eq_true (by first | (with_reducible assumption) | assumption)
              have q107 : x4_1 < (l0.length : Int) := of_decide_eq_true (by first | (with_reducible assumption) | assumption)
              obtain ⟨ad107, e107, hx107_0, hx107_1, hx107_2⟩ := at_T24 HR0.out x4_1 p107 q107
              cases e107
              replace p107 := eq_true p107
              replace q107 := eq_true q107
              go_upto_region 8 with (first | (go_at_call 18; (with_reducible refine (puppeteerref1_Named.calls k1 ((rd_T24 l0 x4_1).f0) true _ A5.out).mono ?_); rintro e w' ⟨rfl, ⟨nd, rfl⟩⟩; (try first | exact ⟨rfl, _, World.drewN_drewN _ _ _⟩ | exact ⟨rfl, _, Eq.trans (World.drewN_drewN _ _ _) (congrArg (World.drewN _) (Nat.add_assoc _ _ _))⟩)))
              repeat (go_quiet (first | (go_at_call 18; (with_reducible refine (puppeteerref1_Named.calls k1 ((rd_T24 l0 x4_1).f0) true _ A5.out).mono ?_); rintro e w' ⟨rfl, ⟨nd, rfl⟩⟩; (try first | exact ⟨rfl, _, World.drewN_drewN _ _ _⟩ | exact ⟨rfl, _, Eq.trans (World.drewN_drewN _ _ _) (congrArg (World.drewN _) (Nat.add_assoc _ _ _))⟩))); go_upto_region 8 with (first | (go_at_call 18; (with_reducible refine (puppeteerref1_Named.calls k1 ((rd_T24 l0 x4_1).f0) true _ A5.out).mono ?_); rintro e w' ⟨rfl, ⟨nd, rfl⟩⟩; (try first | exact ⟨rfl, _, World.drewN_drewN _ _ _⟩ | exact ⟨rfl, _, Eq.trans (World.drewN_drewN _ _ _) (congrArg (World.drewN _) (Nat.add_assoc _ _ _))⟩))))
              (try simp only [Act.put, List.setIfInBounds_toArray, List.set_cons_zero, List.set_cons_succ])
              go_cut [23] (fun v23 wc => ∃ (kq : Nat) (x23_6 : Bool), v23 = .bool x23_6 ∧ Aside0 (puppeteerref1_CheckKeys.j1 kq l0 x4_1 x23_6 = some (r1, r2)) ∧ Aside0 (kq ≤ k1) ∧ Drawn0 w wc)
              case first =>
                have H := HC7.out
                clear HC7
                by_cases c8 : ((rd_T24 l0 x4_1).f1) < 0
                · rw [if_pos c8] at H
                  have c8b0 : decide (((rd_T24 l0 x4_1).f1) < 0) = true := decide_eq_true c8
                  clear c8
                  (first | rw [c8b0] | (simp only [i64_w, i32_w]; rw [c8b0]) | skip)
                  have H' := Aside0.mk H
                  clear H
                  have p109 : 0 ≤ (x4_1 : Int) := of_decide_eq_true (by first | (with_reducible assumption) | assumption)
                  have q109 : x4_1 < (l0.length : Int) := of_decide_eq_true (by first | (with_reducible assumption) | assumption)
                  obtain ⟨ad109, e109, hx109_0, hx109_1, hx109_2⟩ := at_T24 HR0.out x4_1 p109 q109
                  obtain rfl : ad107 = ad109 := (by injection e109)
                  replace p109 := eq_true p109
                  replace q109 := eq_true q109
                  go_wp2
                  repeat (go_quiet (fail); try go_wp2)
                  go_meet
                  case rel => exact ⟨_, (true), (by first | rfl | (simp; done) | (simp [*]; done)), H', ⟨by have := HK1.out; first | omega | exact Nat.le_refl _⟩, by repeat (first | exact Drawn0.refl _ | apply Drawn0.step)⟩
                · rw [if_neg c8] at H
                  have c8b0 : decide (((rd_T24 l0 x4_1).f1) < 0) = false := decide_eq_false c8
                  clear c8
                  (first | rw [c8b0] | (simp only [i64_w, i32_w]; rw [c8b0]) | skip)
                  have H' := Aside0.mk H
                  clear H
                  have p109 : 0 ≤ (x4_1 : Int) := of_decide_eq_true (by first | (with_reducible assumption) | assumption)
                  have q109 : x4_1 < (l0.length : Int) := of_decide_eq_true (by first | (with_reducible assumption) | assumption)
                  obtain ⟨ad109, e109, hx109_0, hx109_1, hx109_2⟩ := at_T24 HR0.out x4_1 p109 q109
                  obtain rfl : ad107 = ad109 := (by injection e109)
                  replace p109 := eq_true p109
                  replace q109 := eq_true q109
                  have p110 : 0 ≤ (x4_1 : Int) := of_decide_eq_true (by first | (with_reducible assumption) | assumption)
                  have q110 : x4_1 < (l0.length : Int) := of_decide_eq_true (by first | (with_reducible assumption) | assumption)
                  obtain ⟨ad110, e110, hx110_0, hx110_1, hx110_2⟩ := at_T24 HR0.out x4_1 p110 q110
                  obtain rfl : ad107 = ad110 := (by injection e110)
                  replace p110 := eq_true p110
                  replace q110 := eq_true q110
                  go_wp2
                  repeat (go_quiet (fail); try go_wp2)
                  go_meet
                  case rel => exact ⟨_, (decide (((rd_T24 l0 x4_1).f1) > 4)), (by first | rfl | (simp; done) | (simp [*]; done)), H', ⟨by have := HK1.out; first | omega | exact Nat.le_refl _⟩, by repeat (first | exact Drawn0.refl _ | apply Drawn0.step)⟩
              case rest =>
                clear HC7
                try clear c1
                try clear p1
                try clear q1
                try clear hx1
                try clear c2
                try clear c2b0
                try clear c2b1
                try clear p2
                try clear c3
                try clear c3b0
                try clear c4
                try clear c4b0
                try clear c6
                try clear c8
                try clear c8b0
                try clear hx107_0
                try clear hx107_1
                try clear hx107_2
                try clear hx109_0
                try clear hx109_1
                try clear hx109_2
                try clear hx110_0
                try clear hx110_1
                try clear hx110_2
                try clear p107
                try clear p109
                try clear p110
                try clear p2
                try clear q107
                try clear q109
                try clear q110
                obtain ⟨kq, x23_6, rfl, HA, HJ6, ⟨mc6, rfl⟩⟩ := hcut
                cases kq with
                | zero => exact absurd HA.out (by simp [puppeteerref1_CheckKeys.j1])
                | succ kj6 =>
                  have H := HA.out
                  clear HA
                  simp only [puppeteerref1_CheckKeys.j1] at H
                  by_cases c9 : x23_6 = true
                  · subst c9
                    have H1 : (some (x4_1, 7)) = some (r1, r2) := by rw [if_pos rfl] at H; exact H
                    clear H
                    have H := H1
                    clear H1
                    simp only [Option.some.injEq, Prod.mk.injEq] at H
                    obtain ⟨rfl, rfl⟩ := H
                    go_wp2
                    repeat (go_quiet (fail); try go_wp2)
                    go_ret2
                    exact ⟨by first | rfl | (simp; done) | (simp [*]; done), by repeat (first | exact Drawn0.refl _ | apply Drawn0.step)⟩
                  · replace c9 := Bool.eq_false_iff.mpr c9
                    subst c9
                    have H1 : (if 0 ≤ x4_1 then (if x4_1 ≤ (l0.length : Int) then (if x4_1 < (l0.length : Int) then ((puppeteerref1_FindKey.f kj6 (l0.take (x4_1 : Int).toNat) ((rd_T24 l0 x4_1).f0)).bind fun t116 => (if t116 ≥ 0 then (some (x4_1, 6)) else (puppeteerref1_CheckKeys.l0 kj6 l0 (wrap64 (x4_1 + 1))))) else (none)) else (none)) else (none)) = some (r1, r2) := by rw [if_neg (show ¬ (false = true) by decide)] at H; exact H
                    clear H
                    have H := H1
                    clear H1
                    by_cases c10 : 0 ≤ x4_1
                    · rw [if_pos c10] at H
                      have c10b0 := eq_true c10
                      have c10b1 : decide (0 ≤ x4_1) = true := decide_eq_true c10
                      clear c10
                      by_cases c11 : x4_1 ≤ (l0.length : Int)
                      · rw [if_pos c11] at H
                        have c11b0 := eq_true c11
                        have c11b1 : decide (x4_1 ≤ (l0.length : Int)) = true := decide_eq_true c11
                        clear c11
                        obtain ⟨y111, hy111⟩ : ∃ y_ : List (S24), y_ = (l0.take (x4_1 : Int).toNat) := ⟨_, rfl⟩
                        replace H : (if x4_1 < (l0.length : Int) then ((puppeteerref1_FindKey.f kj6 y111 ((rd_T24 l0 x4_1).f0)).bind fun t116 => (if t116 ≥ 0 then (some (x4_1, 6)) else (puppeteerref1_CheckKeys.l0 kj6 l0 (wrap64 (x4_1 + 1))))) else (none)) = some (r1, r2) := by first | (rw [hy111]; with_reducible exact H) | (have H2_ := (Option.bind_some _ _).symm.trans H; rw [hy111]; with_reducible exact H2_) | (have H2_ := (Option.bind_some _ _).symm.trans H; with_reducible exact H2_) | with_reducible exact H | (rw [hy111]; exact H) | exact H
                        have Ny111 := Aside0.mk hy111
                        clear hy111
                        by_cases c12 : x4_1 < (l0.length : Int)
                        · rw [if_pos c12] at H
                          have c12b0 : decide (x4_1 < (l0.length : Int)) = true := decide_eq_true c12
                          clear c12
                          replace H := Option.bind_eq_some_iff.mp H
                          obtain ⟨t116, A130, H⟩ := H
                          replace H : (if t116 ≥ 0 then (some (x4_1, 6)) else (puppeteerref1_CheckKeys.l0 kj6 l0 (wrap64 (x4_1 + 1)))) = some (r1, r2) := H
                          have A13 := Aside0.mk A130
                          clear A130
                          by_cases c14 : t116 ≥ 0
                          · rw [if_pos c14] at H
                            have c14b0 : decide (0 ≤ t116) = true := decide_eq_true c14
                            clear c14
                            simp only [Option.some.injEq, Prod.mk.injEq] at H
                            obtain ⟨rfl, rfl⟩ := H
                            have q15 : (x4_1 : Int) ≤ ((l0.length : Int) : Int) := of_decide_eq_true (by first | (with_reducible assumption) | assumption)
                            obtain ⟨i015, hi015, _, hsz15, _⟩ := info_parts info24
                            have hroom15 : l0.length ≤ c0 := HC0.out
                            have hC15 : Kd.C k24 _ (some ad107) l0.length l0 := HR0.out
                            have hcut15 := cut_to (P := Try.prog) 25 24 .i64 Try.underlying25 hi015 (some ad107) l0.length c0 x4_1 (of_decide_eq_true (by first | (with_reducible assumption) | assumption)) q15 hroom15
                            have hr15 := Kd.C_take (m := (x4_1 : Int).toNat) hC15 (by omega)
                            have hy15 : y111.length = (x4_1 : Int).toNat := (by rw [Ny111.out, List.length_take]; omega)
                            rw [← Ny111.out] at hr15
                            rw [← hy15] at hcut15
                            have HR114 := Aside0.mk hr15
                            have HC114 := Aside0.mk (show y111.length ≤ c0 from by omega)
                            clear hr15 hC15 hroom15 hi015 hsz15
                            have KY15 := Aside0.mk hy15
                            clear hy15
                            replace q15 := eq_true q15
                            have p115 : 0 ≤ (x4_1 : Int) := of_decide_eq_true (by first | (with_reducible assumption) | assumption)
                            have q115 : x4_1 < (l0.length : Int) := of_decide_eq_true (by first | (with_reducible assumption) | assumption)
                            obtain ⟨ad115, e115, hx115_0, hx115_1, hx115_2⟩ := at_T24 HR0.out x4_1 p115 q115
                            obtain rfl : ad107 = ad115 := (by injection e115)
                            replace p115 := eq_true p115
                            replace q115 := eq_true q115
                            go_wp2_with (first | (go_at_call 14; (with_reducible refine (puppeteerref1_FindKey.calls kj6 _ _ y111 ((rd_T24 l0 x4_1).f0) t116 _ ?side1 ?side2 A13.out).mono ?_); (case side1 => repeat (first | exact HR114.out | (with_reducible refine Kd.C_alloc ?_ _) | (with_reducible refine Kd.C_drewN ?_ _) | (with_reducible refine Kd.C_drew ?_))); (case side2 => exact HC114.out); rintro e w' ⟨rfl, ⟨nd, rfl⟩⟩; (try first | exact ⟨rfl, _, World.drewN_drewN _ _ _⟩ | exact ⟨rfl, _, Eq.trans (World.drewN_drewN _ _ _) (congrArg (World.drewN _) (Nat.add_assoc _ _ _))⟩)))
                            repeat (go_quiet (first | (go_at_call 14; (with_reducible refine (puppeteerref1_FindKey.calls kj6 _ _ y111 ((rd_T24 l0 x4_1).f0) t116 _ ?side1 ?side2 A13.out).mono ?_); (case side1 => repeat (first | exact HR114.out | (with_reducible refine Kd.C_alloc ?_ _) | (with_reducible refine Kd.C_drewN ?_ _) | (with_reducible refine Kd.C_drew ?_))); (case side2 => exact HC114.out); rintro e w' ⟨rfl, ⟨nd, rfl⟩⟩; (try first | exact ⟨rfl, _, World.drewN_drewN _ _ _⟩ | exact ⟨rfl, _, Eq.trans (World.drewN_drewN _ _ _) (congrArg (World.drewN _) (Nat.add_assoc _ _ _))⟩))); try go_wp2_with (first | (go_at_call 14; (with_reducible refine (puppeteerref1_FindKey.calls kj6 _ _ y111 ((rd_T24 l0 x4_1).f0) t116 _ ?side1 ?side2 A13.out).mono ?_); (case side1 => repeat (first | exact HR114.out | (with_reducible refine Kd.C_alloc ?_ _) | (with_reducible refine Kd.C_drewN ?_ _) | (with_reducible refine Kd.C_drew ?_))); (case side2 => exact HC114.out); rintro e w' ⟨rfl, ⟨nd, rfl⟩⟩; (try first | exact ⟨rfl, _, World.drewN_drewN _ _ _⟩ | exact ⟨rfl, _, Eq.trans (World.drewN_drewN _ _ _) (congrArg (World.drewN _) (Nat.add_assoc _ _ _))⟩))))
                            go_ret2
                            exact ⟨by first | rfl | (simp; done) | (simp [*]; done), by repeat (first | exact Drawn0.refl _ | apply Drawn0.step)⟩
                          · rw [if_neg c14] at H
                            have c14b0 : decide (0 ≤ t116) = false := decide_eq_false c14
                            clear c14
                            have H' := Aside0.mk H
                            clear H
                            have q16 : (x4_1 : Int) ≤ ((l0.length : Int) : Int) := of_decide_eq_true (by first | (with_reducible assumption) | assumption)
                            obtain ⟨i016, hi016, _, hsz16, _⟩ := info_parts info24
                            have hroom16 : l0.length ≤ c0 := HC0.out
                            have hC16 : Kd.C k24 _ (some ad107) l0.length l0 := HR0.out
                            have hcut16 := cut_to (P := Try.prog) 25 24 .i64 Try.underlying25 hi016 (some ad107) l0.length c0 x4_1 (of_decide_eq_true (by first | (with_reducible assumption) | assumption)) q16 hroom16
                            have hr16 := Kd.C_take (m := (x4_1 : Int).toNat) hC16 (by omega)
                            have hy16 : y111.length = (x4_1 : Int).toNat := (by rw [Ny111.out, List.length_take]; omega)
                            rw [← Ny111.out] at hr16
                            rw [← hy16] at hcut16
                            have HR114 := Aside0.mk hr16
                            have HC114 := Aside0.mk (show y111.length ≤ c0 from by omega)
                            clear hr16 hC16 hroom16 hi016 hsz16
                            have KY16 := Aside0.mk hy16
                            clear hy16
                            replace q16 := eq_true q16
                            have p115 : 0 ≤ (x4_1 : Int) := of_decide_eq_true (by first | (with_reducible assumption) | assumption)
                            have q115 : x4_1 < (l0.length : Int) := of_decide_eq_true (by first | (with_reducible assumption) | assumption)
                            obtain ⟨ad115, e115, hx115_0, hx115_1, hx115_2⟩ := at_T24 HR0.out x4_1 p115 q115
                            obtain rfl : ad107 = ad115 := (by injection e115)
                            replace p115 := eq_true p115
                            replace q115 := eq_true q115
                            go_wp2_with (first | (go_at_call 14; (with_reducible refine (puppeteerref1_FindKey.calls kj6 _ _ y111 ((rd_T24 l0 x4_1).f0) t116 _ ?side1 ?side2 A13.out).mono ?_); (case side1 => repeat (first | exact HR114.out | (with_reducible refine Kd.C_alloc ?_ _) | (with_reducible refine Kd.C_drewN ?_ _) | (with_reducible refine Kd.C_drew ?_))); (case side2 => exact HC114.out); rintro e w' ⟨rfl, ⟨nd, rfl⟩⟩; (try first | exact ⟨rfl, _, World.drewN_drewN _ _ _⟩ | exact ⟨rfl, _, Eq.trans (World.drewN_drewN _ _ _) (congrArg (World.drewN _) (Nat.add_assoc _ _ _))⟩)))
                            repeat (go_quiet (first | (go_at_call 14; (with_reducible refine (puppeteerref1_FindKey.calls kj6 _ _ y111 ((rd_T24 l0 x4_1).f0) t116 _ ?side1 ?side2 A13.out).mono ?_); (case side1 => repeat (first | exact HR114.out | (with_reducible refine Kd.C_alloc ?_ _) | (with_reducible refine Kd.C_drewN ?_ _) | (with_reducible refine Kd.C_drew ?_))); (case side2 => exact HC114.out); rintro e w' ⟨rfl, ⟨nd, rfl⟩⟩; (try first | exact ⟨rfl, _, World.drewN_drewN _ _ _⟩ | exact ⟨rfl, _, Eq.trans (World.drewN_drewN _ _ _) (congrArg (World.drewN _) (Nat.add_assoc _ _ _))⟩))); try go_wp2_with (first | (go_at_call 14; (with_reducible refine (puppeteerref1_FindKey.calls kj6 _ _ y111 ((rd_T24 l0 x4_1).f0) t116 _ ?side1 ?side2 A13.out).mono ?_); (case side1 => repeat (first | exact HR114.out | (with_reducible refine Kd.C_alloc ?_ _) | (with_reducible refine Kd.C_drewN ?_ _) | (with_reducible refine Kd.C_drew ?_))); (case side2 => exact HC114.out); rintro e w' ⟨rfl, ⟨nd, rfl⟩⟩; (try first | exact ⟨rfl, _, World.drewN_drewN _ _ _⟩ | exact ⟨rfl, _, Eq.trans (World.drewN_drewN _ _ _) (congrArg (World.drewN _) (Nat.add_assoc _ _ _))⟩))))
                            go_roundg kj6
                            case measure => have := HK1.out; have := HJ6.out; omega
                            case rel => exact ⟨(wrap64 (x4_1 + 1)), (by first | rfl | (simp; done) | (simp [*]; done)), H', ⟨by have := HK1.out; have := HJ6.out; omega⟩, by repeat (first | exact Drawn0.refl _ | apply Drawn0.step)⟩
                        · rw [if_neg c12] at H
                          exact absurd H (by simp)
                      · rw [if_neg c11] at H
                        exact absurd H (by simp)
                    · rw [if_neg c10] at H
                      exact absurd H (by simp)
            · replace c6 := Bool.eq_false_iff.mpr c6
              subst c6
              have H1 : (some (x4_1, 5)) = some (r1, r2) := by rw [if_neg (show ¬ (false = true) by decide)] at H; exact H
              clear H
              have H := H1
              clear H1
              simp only [Option.some.injEq, Prod.mk.injEq] at H
              obtain ⟨rfl, rfl⟩ := H
              have p107 : 0 ≤ (x4_1 : Int) := of_decide_eq_true (by first | (with_reducible assumption) | assumption)
              have q107 : x4_1 < (l0.length : Int) := of_decide_eq_true (by first | (with_reducible assumption) | assumption)
              obtain ⟨ad107, e107, hx107_0, hx107_1, hx107_2⟩ := at_T24 HR0.out x4_1 p107 q107
              cases e107
              replace p107 := eq_true p107
              replace q107 := eq_true q107
              go_wp2_with (first | (go_at_call 18; (with_reducible refine (puppeteerref1_Named.calls k1 ((rd_T24 l0 x4_1).f0) false _ A5.out).mono ?_); rintro e w' ⟨rfl, ⟨nd, rfl⟩⟩; (try first | exact ⟨rfl, _, World.drewN_drewN _ _ _⟩ | exact ⟨rfl, _, Eq.trans (World.drewN_drewN _ _ _) (congrArg (World.drewN _) (Nat.add_assoc _ _ _))⟩)))
              repeat (go_quiet (first | (go_at_call 18; (with_reducible refine (puppeteerref1_Named.calls k1 ((rd_T24 l0 x4_1).f0) false _ A5.out).mono ?_); rintro e w' ⟨rfl, ⟨nd, rfl⟩⟩; (try first | exact ⟨rfl, _, World.drewN_drewN _ _ _⟩ | exact ⟨rfl, _, Eq.trans (World.drewN_drewN _ _ _) (congrArg (World.drewN _) (Nat.add_assoc _ _ _))⟩))); try go_wp2_with (first | (go_at_call 18; (with_reducible refine (puppeteerref1_Named.calls k1 ((rd_T24 l0 x4_1).f0) false _ A5.out).mono ?_); rintro e w' ⟨rfl, ⟨nd, rfl⟩⟩; (try first | exact ⟨rfl, _, World.drewN_drewN _ _ _⟩ | exact ⟨rfl, _, Eq.trans (World.drewN_drewN _ _ _) (congrArg (World.drewN _) (Nat.add_assoc _ _ _))⟩))))
              go_ret2
              exact ⟨by first | rfl | (simp; done) | (simp [*]; done), by repeat (first | exact Drawn0.refl _ | apply Drawn0.step)⟩
          · rw [if_neg c4] at H
            exact absurd H (by simp)
        · rw [if_neg c3] at H
          have c3b0 : decide (x4_1 < (l0.length : Int)) = false := decide_eq_false c3
          clear c3
          simp only [Option.some.injEq, Prod.mk.injEq] at H
          obtain ⟨rfl, rfl⟩ := H
          go_wp2
          repeat (go_quiet (fail); try go_wp2)
          go_ret2
          exact ⟨by first | rfl | (simp; done) | (simp [*]; done), by repeat (first | exact Drawn0.refl _ | apply Drawn0.step)⟩

-- NOT PRINTED: function 15 (schema_Schema_Key)

-- NOT PRINTED: function 5 (puppeteerlaw7_SchemaKeys)

end Go.Proofs.Ytmonnibleolhhaa.PSchemaKeys
