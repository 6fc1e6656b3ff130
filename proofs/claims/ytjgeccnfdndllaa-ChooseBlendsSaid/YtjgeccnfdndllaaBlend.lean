/- ChooseBlends answers true for all numbers; no conditions. -/
import Derived.Test.YtjgeccnfdndllaaPt
import Derived.Test.YtjgeccnfdndllaaNum
import Derived.Deep.RegionLaw
namespace Go.Proofs.Ytjgeccnfdndllaa
open Go.RowKit
theorem Try.info3 : (Try.prog.info? 3).map (fun i => (i.zero, i.size, i.bytes)) = some (some (.int .i64 0), 1, 8) := by kernel_rfl
theorem one_int (p : Int) : ∀ u ∈ encInt p, u.oneCell' = true := by intro u hu; simp [encInt] at hu; subst hu; rfl
theorem best_two {a b r : Int} (h : IsBest 2 [a, b] r) : r = if a < b then 1 else 0 := by
  rcases h with ⟨h, _⟩ | ⟨h1, h2, m, h3, h4, h5⟩
  · omega
  · have : r = 0 ∨ r = 1 := by omega
    rcases this with rfl | rfl
    · have h6 := h4 1 b (by omega) rfl
      simp at h3
      rw [if_neg (by omega)]
    · have h6 := h5 0 a (by omega) rfl
      simp at h3
      rw [if_pos (by omega)]
set_option maxHeartbeats 6400000 in
theorem blend_does (b : Nat) (x1 y1 x2 y2 : Int) (hx1 : Bd x1) (hy1 : Bd y1) (hx2 : Bd x2) (hy2 : Bd y2) (w : World) (hb : w.heap[b]? = some (.cells #[.complex .f64 (fb x1) (fb y1), .complex .f64 (fb x2) (fb y2)] 26 (0, 0))) :
    Calls Try.prog 10 #[.slice (some ⟨b, 0, none⟩) 2 2] w fun e w' => e = .returned (.int .i64 (if x1 * 10 + y1 < x2 * 10 + y2 then 1 else 0)) ∧ Below w.heap.size w w' := by
  have hbl := lt_of_blk hb
  have HB := As.mk hb
  clear hb
  have P1 := As.mk (fun w => parts_does _ _ x1 y1 (fl_bd hx1) (fl_bd hy1) hx1 hy1 w)
  have P2 := As.mk (fun w => parts_does _ _ x2 y2 (fl_bd hx2) (fl_bd hy2) hx2 hy2 w)
  have M1 := As.mk (fun w => Num.cmul_does x1 hx1.1 hx1.2 w)
  have M2 := As.mk (fun w => Num.cmul_does x2 hx2.1 hx2.2 w)
  have A1 := As.mk (fun w => Num.cadd_does (x1 * 10) y1 (by have := hx1.1; omega) (by have := hx1.2; omega) hy1.1 hy1.2 w)
  have A2 := As.mk (fun w => Num.cadd_does (x2 * 10) y2 (by have := hx2.1; omega) (by have := hx2.2; omega) hy2.1 hy2.2 w)
  generalize fb x1 = fx1 at *
  generalize fb y1 = fy1 at *
  generalize fb x2 = fx2 at *
  generalize fb y2 = fy2 at *
  obtain ⟨m1, hm1⟩ : ∃ m, x1 * 10 + y1 = m := ⟨_, rfl⟩
  obtain ⟨m2, hm2⟩ : ∃ m, x2 * 10 + y2 = m := ⟨_, rfl⟩
  rw [hm1] at A1 ⊢
  rw [hm2] at A2 ⊢
  have hbt := fun r (h : IsBest 2 [m1, m2] r) => best_two h
  obtain ⟨R, hR⟩ : ∃ R : Int, (if m1 < m2 then 1 else 0) = R := ⟨_, rfl⟩
  rw [hR] at hbt ⊢
  have HR := As.mk hbt
  clear hbt hR
  clear hx1 hy1 hx2 hy2 hm1 hm2
  have hS : At (fun _ => False) w w (Hp.seps [Hp.row 3 1 encInt (.slice none 0 0) ([] : List Int)]) := (At.start0 (Below.refl _ _)).nilRow 3 1 encInt
  go_enter Try.func10, Try.ntmps10
  go_wp2_with fail
  go_loopg [3, 11] 2 (fun g v iv wr => (g = 2 ∧ iv = .int .i64 (0 : Nat) ∧ At (fun _ => False) w wr (Hp.seps [Hp.row 3 1 encInt v ([] : List Int)])) ∨ (g = 1 ∧ iv = .int .i64 (1 : Nat) ∧ At (fun _ => False) w wr (Hp.seps [Hp.row 3 1 encInt v [m1]])) ∨ (g = 0 ∧ iv = .int .i64 (2 : Nat) ∧ At (fun _ => False) w wr (Hp.seps [Hp.row 3 1 encInt v [m1, m2]])))
  case atStart => exact .inl ⟨rfl, rfl, hS⟩
  case round =>
    clear hS
    rcases hrel with ⟨rfl, rfl, hS⟩ | ⟨rfl, rfl, hS⟩ | ⟨rfl, rfl, hS⟩
    · have hb := (hS.bl.block b hbl).trans HB.out
      have e0 := (cell_of_blk hb 0).trans rfl
      clear hb
      obtain ⟨D, n0, c, rfl⟩ := (hS.rowAt 0 rfl).slice
      go_wp2_with fail
      refine (P1.out _).mono ?_
      rintro e w' ⟨rfl, rfl⟩
      go_wp2_with fail
      refine (hS.beside (M1.out _)).mono ?_
      rintro e w1 ⟨rfl, hS1⟩
      go_wp2_with fail
      refine (hS1.beside (A1.out _)).mono ?_
      rintro e w2 ⟨rfl, hS2⟩
      clear hS hS1
      go_wp2_with (at_builtin; refine rw_append rfl (.tmp 21) (.tmp 26) 22 3 1 encInt (.int .i64 0) 8 rfl Try.underlying22 Try.info3 rfl (by decide) (.slice D n0 c) [] m1 rfl _ rfl (by first | exact blk_new (by simp) | exact blk_new_drew (by simp)) ((hS2.below (by repeat (first | exact Below.refl _ _ | refine bl_drewN ?_ _ | refine Below.drew ?_ | refine bl_alloc ?_ _ | refine bl_set ?_ (by first | (simp; done) | omega | (simp; omega)) _))).rowAt 0 rfl) encInt_len (one_int _) ?c1 ?c2 ?c3)
      case c1 => first | (simp [maxLen]; done) | (simp only [maxLen, List.length_cons, List.length_nil]; omega)
      case c2 => first | (simp; done) | (simp only [List.length_cons, List.length_nil]; omega)
      case c3 =>
        intro v1 w3 hA
        have hT := At.appendAt 0 hA hS2 rfl (by repeat (first | exact Below.refl _ _ | refine bl_drewN ?_ _ | refine Below.drew ?_ | refine bl_alloc ?_ _ | refine bl_set ?_ (by first | (simp; done) | omega | (simp; omega)) _))
        clear hA hS2
        go_wp2_with fail
        go_roundg 1
        case measure => omega
        case rel => exact .inr (.inl ⟨rfl, rfl, hT⟩)
    · have hb := (hS.bl.block b hbl).trans HB.out
      have e1 := (cell_of_blk hb 1).trans rfl
      clear hb
      obtain ⟨D, n0, c, rfl⟩ := (hS.rowAt 0 rfl).slice
      go_wp2_with fail
      refine (P2.out _).mono ?_
      rintro e w' ⟨rfl, rfl⟩
      go_wp2_with fail
      refine (hS.beside (M2.out _)).mono ?_
      rintro e w1 ⟨rfl, hS1⟩
      go_wp2_with fail
      refine (hS1.beside (A2.out _)).mono ?_
      rintro e w2 ⟨rfl, hS2⟩
      clear hS hS1
      go_wp2_with (at_builtin; refine rw_append rfl (.tmp 21) (.tmp 26) 22 3 1 encInt (.int .i64 0) 8 rfl Try.underlying22 Try.info3 rfl (by decide) (.slice D n0 c) [m1] m2 rfl _ rfl (by first | exact blk_new (by simp) | exact blk_new_drew (by simp)) ((hS2.below (by repeat (first | exact Below.refl _ _ | refine bl_drewN ?_ _ | refine Below.drew ?_ | refine bl_alloc ?_ _ | refine bl_set ?_ (by first | (simp; done) | omega | (simp; omega)) _))).rowAt 0 rfl) encInt_len (one_int _) ?c1 ?c2 ?c3)
      case c1 => first | (simp [maxLen]; done) | (simp only [maxLen, List.length_cons, List.length_nil]; omega)
      case c2 => first | (simp; done) | (simp only [List.length_cons, List.length_nil]; omega)
      case c3 =>
        intro v1 w3 hA
        have hT := At.appendAt 0 hA hS2 rfl (by repeat (first | exact Below.refl _ _ | refine bl_drewN ?_ _ | refine Below.drew ?_ | refine bl_alloc ?_ _ | refine bl_set ?_ (by first | (simp; done) | omega | (simp; omega)) _))
        clear hA hS2
        go_wp2_with fail
        go_roundg 0
        case measure => omega
        case rel => exact .inr (.inr ⟨rfl, rfl, hT⟩)
    · obtain ⟨D, n0, c, rfl⟩ := (hS.rowAt 0 rfl).slice
      go_wp2_with fail
      refine (hS.beside (best_does _ _ _ ((hS.rowAt 0 rfl).rd encInt_len))).mono ?_
      rintro e w1 ⟨⟨r, rfl, hr⟩, hS1⟩
      obtain rfl := HR.out r hr
      clear hr
      go_wp2_with fail
      go_ret
      exact ⟨rfl, hS1.bl⟩
set_option maxHeartbeats 6400000 in
theorem blends_walk (a b c d : Int) (w : World) : Calls Try.prog 4 #[.int .i64 a, .int .i64 b, .int .i64 c, .int .i64 d] w fun e w' => e = .returned (.bool true) ∧ Below w.heap.size w w' := by
  have O1 := As.mk (fun w => point_does a b w)
  have O2 := As.mk (fun w => point_does c d w)
  have ha := cl_bd a; have hb := cl_bd b; have hc := cl_bd c; have hd := cl_bd d
  generalize cl a = A at *
  generalize cl b = B at *
  generalize cl c = C at *
  generalize cl d = D at *
  have P1 := As.mk (fun w => rparts_does _ _ A B (fl_bd ha) (fl_bd hb) ha hb w)
  have P2 := As.mk (fun w => rparts_does _ _ C D (fl_bd hc) (fl_bd hd) hc hd w)
  have B1 := As.mk (fun g w h => blend_does g A B C D ha hb hc hd w h)
  have B2 := As.mk (fun g w h => blend_does g A B A B ha hb ha hb w h)
  rw [if_neg (by omega)] at B2
  generalize fb A = fA at *
  generalize fb B = fB at *
  generalize fb C = fC at *
  generalize fb D = fD at *
  obtain ⟨a1, a2⟩ := ha
  obtain ⟨b1, b2⟩ := hb
  obtain ⟨c1, c2⟩ := hc
  obtain ⟨d1, d2⟩ := hd
  by_cases hlt : A * 10 + B < C * 10 + D
  · rw [if_pos hlt] at B1
    have t1 : decide (10 * A + B < 10 * C + D) = true := decide_eq_true (by omega)
    clear hlt
    go_enter Try.func4, Try.ntmps4
    go_wp2_with fail
    refine (alive_does _).mono ?_
    rintro e w1 ⟨rfl, hb⟩
    have hS := At.start0 hb
    clear hb
    go_wp2_with fail
    refine (O1.out _).mono ?_
    rintro e w' ⟨rfl, rfl⟩
    go_wp2_with fail
    refine (O2.out _).mono ?_
    rintro e w' ⟨rfl, rfl⟩
    go_wp2_with fail
    refine (P1.out _).mono ?_
    rintro e w' ⟨rfl, rfl⟩
    go_wp2_with fail
    refine (P2.out _).mono ?_
    rintro e w' ⟨rfl, rfl⟩
    go_wp2_with fail
    have hS1 := hS.alloc #[.complex .f64 fA fB, .complex .f64 fC fD] 26
    refine (hS1.beside (B1.out _ _ (hS1.blkAt 0 rfl))).mono ?_
    rintro e w2 ⟨rfl, hS2⟩
    clear hS hS1
    go_wp2_with fail
    have hS3 := hS2.alloc #[.complex .f64 fA fB, .complex .f64 fA fB] 26
    refine (hS3.beside (B2.out _ _ (hS3.blkAt 0 rfl))).mono ?_
    rintro e w3 ⟨rfl, hS4⟩
    clear hS2 hS3
    go_wp2_with fail
    go_ret
    exact ⟨rfl, hS4.bl⟩
  · rw [if_neg hlt] at B1
    have t1 : decide (10 * A + B < 10 * C + D) = false := decide_eq_false (by omega)
    clear hlt
    go_enter Try.func4, Try.ntmps4
    go_wp2_with fail
    refine (alive_does _).mono ?_
    rintro e w1 ⟨rfl, hb⟩
    have hS := At.start0 hb
    clear hb
    go_wp2_with fail
    refine (O1.out _).mono ?_
    rintro e w' ⟨rfl, rfl⟩
    go_wp2_with fail
    refine (O2.out _).mono ?_
    rintro e w' ⟨rfl, rfl⟩
    go_wp2_with fail
    refine (P1.out _).mono ?_
    rintro e w' ⟨rfl, rfl⟩
    go_wp2_with fail
    refine (P2.out _).mono ?_
    rintro e w' ⟨rfl, rfl⟩
    go_wp2_with fail
    have hS1 := hS.alloc #[.complex .f64 fA fB, .complex .f64 fC fD] 26
    refine (hS1.beside (B1.out _ _ (hS1.blkAt 0 rfl))).mono ?_
    rintro e w2 ⟨rfl, hS2⟩
    clear hS hS1
    go_wp2_with fail
    have hS3 := hS2.alloc #[.complex .f64 fA fB, .complex .f64 fA fB] 26
    refine (hS3.beside (B2.out _ _ (hS3.blkAt 0 rfl))).mono ?_
    rintro e w3 ⟨rfl, hS4⟩
    clear hS2 hS3
    go_wp2_with fail
    go_ret
    exact ⟨rfl, hS4.bl⟩
end Go.Proofs.Ytjgeccnfdndllaa
