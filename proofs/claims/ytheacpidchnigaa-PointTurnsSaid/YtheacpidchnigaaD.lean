/- alive; what the laws need of distances; PointFar, PointNear: walks. -/
import Derived.Test.YtheacpidchnigaaC
namespace Go.Proofs.Ytheacpidchnigaa
open Go.RowKit
theorem fl_eqt {x y : Nat} {a b : Int} (hx : Fl x a) (hy : Fl y b) (h : a = b) : (FloatKind.f64.format.order x y == some Ordering.eq) = true := by rw [fl_eq hx hy, decide_eq_true h]
theorem fl_eqf {x y : Nat} {a b : Int} (hx : Fl x a) (hy : Fl y b) (h : a ≠ b) : (FloatKind.f64.format.order x y == some Ordering.eq) = false := by rw [fl_eq hx hy, decide_eq_false h]
theorem bd_small {n : Int} (h : -1000 ≤ n) (h2 : n ≤ 1000) : Bd n := ⟨by omega, by omega⟩
theorem fl_three : Fl 4613937818241073152 3 := by
  have e : fb 3 = 4613937818241073152 := by decide +kernel
  have := fb_fl 3 (bd53 (by omega))
  rwa [e] at this
theorem fl_four : Fl 4616189618054758400 4 := by
  have e : fb 4 = 4616189618054758400 := by decide +kernel
  have := fb_fl 4 (bd53 (by omega))
  rwa [e] at this
theorem turn_at {x y : Nat} {a b : Int} (n : Int) (k : Nat) (c d : Int) (hx : Fl x a) (hy : Fl y b) (ha : Bd a) (hb : Bd b) (hk : (n % 4).toNat = k) (hr : rot k (a, b) = (c, d)) (w : World) : Calls Try.prog 12 #[.complex .f64 x y, .int .i64 n] w fun e w' => e = .returned (.complex .f64 (fb c) (fb d)) ∧ w = w' := by
  have := turn_does x y a b n hx hy ha hb w
  rw [hk, hr] at this
  exact this
set_option maxHeartbeats 800000 in
theorem alive_does (w : World) : Calls Try.prog 9 #[] w fun e w' => e = .returned (.bool true) ∧ w = w' := by
  have H1 := As.mk (fun w => turn_at 1 1 0 1 fl_one fl_zero (bd_small (by omega) (by omega)) (bd_small (by omega) (by omega)) (by decide) (by decide) w)
  have H2 : As (∀ w, Calls Try.prog 11 #[.complex .f64 4613937818241073152 4616189618054758400, .complex .f64 0 0] w fun e w' => e = .returned (.int .i64 7) ∧ w = w') := ⟨fun w => far_does _ _ _ _ 3 4 0 0 fl_three fl_four fl_zero fl_zero (bd_small (by omega) (by omega)) (bd_small (by omega) (by omega)) (bd_small (by omega) (by omega)) (bd_small (by omega) (by omega)) w⟩
  have e1 := fl_eqt (fl_bd (bd_small (n := 0) (by omega) (by omega))) fl_zero rfl
  have e2 := fl_eqt (fl_bd (bd_small (n := 1) (by omega) (by omega))) fl_one rfl
  go_enter Try.func9, Try.ntmps9
  go_wp2_with fail
  refine (H1.out _).mono ?_
  rintro e w' ⟨rfl, rfl⟩
  go_wp2_with fail
  refine (H2.out _).mono ?_
  rintro e w' ⟨rfl, rfl⟩
  go_wp2_with fail
  go_ret
  exact ⟨rfl, rfl⟩
theorem ap_comm (a b : Int) : ap a b = ap b a := by unfold ap; omega
theorem bd_cl (n : Int) : Bd (cl n) := cl_bd n
theorem far_at {a b c d : Int} (ha : Bd a) (hb : Bd b) (hc : Bd c) (hd : Bd d) (n : Int) (h : ap a c + ap b d = n) (w : World) : Calls Try.prog 11 #[.complex .f64 (fb a) (fb b), .complex .f64 (fb c) (fb d)] w fun e w' => e = .returned (.int .i64 n) ∧ w = w' := by
  subst h
  exact far_does _ _ _ _ a b c d (fl_bd ha) (fl_bd hb) (fl_bd hc) (fl_bd hd) ha hb hc hd w
theorem step_at {a b c d : Int} (ha : Bd a) (hb : Bd b) (hc : Bd c) (hd : Bd d) (x y : Int) (hx : st1 a b c d = x) (hy : st2 a b c d = y) (w : World) : Calls Try.prog 14 #[.complex .f64 (fb a) (fb b), .complex .f64 (fb c) (fb d)] w fun e w' => e = .returned (.complex .f64 (fb x) (fb y)) ∧ w = w' := by
  subst hx; subst hy
  exact step_does _ _ _ _ a b c d (fl_bd ha) (fl_bd hb) (fl_bd hc) (fl_bd hd) ha hb hc hd w
theorem st_bd {a b c d : Int} (ha : Bd a) (hb : Bd b) (hc : Bd c) (hd : Bd d) : Bd (st1 a b c d) ∧ Bd (st2 a b c d) := by
  unfold st1 st2
  split
  · exact ⟨nr_bd ha hc, hb⟩
  · exact ⟨ha, nr_bd hb hd⟩
theorem nr_ap (a c : Int) : (a = c → nr a c = a) ∧ (a ≠ c → ap (nr a c) c = ap a c - 1 ∧ ap a (nr a c) = 1) := by
  unfold nr cl3 ap
  constructor
  · intro h; split
    · omega
    · split <;> omega
  · intro h; split
    · omega
    · split <;> omega
theorem ap_zero (a c : Int) : ap a c = 0 ↔ a = c := by unfold ap; omega
theorem ap_nn (a c : Int) : 0 ≤ ap a c := by unfold ap; omega
/-- A step is one nearer. -/
theorem st_near (a b c d : Int) : (ap a c + ap b d = 0 → st1 a b c d = a ∧ st2 a b c d = b) ∧ (0 < ap a c + ap b d → ap (st1 a b c d) c + ap (st2 a b c d) d = ap a c + ap b d - 1) ∧ ap a (st1 a b c d) + ap b (st2 a b c d) ≤ 1 := by
  have n1 := nr_ap a c
  have n2 := nr_ap b d
  have z1 := ap_zero a c
  have z2 := ap_zero b d
  have p1 := ap_nn a c
  have p2 := ap_nn b d
  have sa : ap a a = 0 := (ap_zero a a).2 rfl
  have sb : ap b b = 0 := (ap_zero b b).2 rfl
  unfold st1 st2
  by_cases h : ap b d ≤ ap a c
  · rw [if_pos h, if_pos h]
    by_cases e : a = c
    · have e1 := n1.1 e
      have e2 := z1.2 e
      rw [e1]
      omega
    · have e1 := n1.2 e
      have e3 : ap a c ≠ 0 := fun h => e (z1.1 h)
      omega
  · rw [if_neg h, if_neg h]
    have e3 : ap b d ≠ 0 := by omega
    have e4 : b ≠ d := fun h => e3 (z2.2 h)
    have e1 := n2.2 e4
    omega
set_option maxHeartbeats 1600000 in
theorem far_walk (a b c d e' f : Int) (w : World) : Calls Try.prog 3 #[.int .i64 a, .int .i64 b, .int .i64 c, .int .i64 d, .int .i64 e', .int .i64 f] w fun e w' => e = .returned (.bool true) ∧ Below w.heap.size w w' := by
  have O1 := As.mk (fun w => of_does a b w)
  have O2 := As.mk (fun w => of_does c d w)
  have O3 := As.mk (fun w => of_does e' f w)
  have HA := As.mk (fun w => alive_does w)
  have ha := bd_cl a; have hb := bd_cl b; have hc := bd_cl c; have hd := bd_cl d; have he := bd_cl e'; have hf := bd_cl f
  generalize cl a = A at *
  generalize cl b = B at *
  generalize cl c = C at *
  generalize cl d = D at *
  generalize cl e' = E at *
  generalize cl f = G at *
  obtain ⟨n1, h1⟩ : ∃ n, ap A C + ap B D = n := ⟨_, rfl⟩
  obtain ⟨n2, h2⟩ : ∃ n, ap A E + ap B G = n := ⟨_, rfl⟩
  obtain ⟨n3, h3⟩ : ∃ n, ap C E + ap D G = n := ⟨_, rfl⟩
  have F1 := As.mk (fun w => far_at ha hb hc hd n1 h1 w)
  have F2 := As.mk (fun w => far_at hc hd ha hb n1 (by rw [ap_comm C A, ap_comm D B]; exact h1) w)
  have F3 := As.mk (fun w => far_at ha hb he hf n2 h2 w)
  have F4 := As.mk (fun w => far_at hc hd he hf n3 h3 w)
  have t1 : decide (n2 ≤ n1 + n3) = true := decide_eq_true (by rw [← h1, ← h2, ← h3]; unfold ap; omega)
  have t2 : 0 ≤ n1 := by rw [← h1]; unfold ap; omega
  have t3 : n1 ≤ 10000000000000 := by rw [← h1]; unfold ap; unfold Bd at *; omega
  have t4 : 0 ≤ n3 := by rw [← h3]; unfold ap; omega
  have t5 : n3 ≤ 10000000000000 := by rw [← h3]; unfold ap; unfold Bd at *; omega
  have t6 : decide (0 ≤ n1) = true := decide_eq_true t2
  have key : ∃ x y : Bool, (n1 == 0) = (x && y) ∧ (FloatKind.f64.format.order (fb A) (fb C) == some Ordering.eq) = x ∧ (FloatKind.f64.format.order (fb B) (fb D) == some Ordering.eq) = y := by
    refine ⟨_, _, ?_, rfl, rfl⟩
    rw [fl_eq (fl_bd ha) (fl_bd hc), fl_eq (fl_bd hb) (fl_bd hd), Bool.eq_iff_iff]
    simp only [Bool.and_eq_true, decide_eq_true_eq, beq_iff_eq]
    rw [← h1]
    have z1 := ap_zero A C
    have z2 := ap_zero B D
    have p1 := ap_nn A C
    have p2 := ap_nn B D
    omega
  obtain ⟨x, y, k1, k2, k3⟩ := key
  clear ha hb hc hd he hf h1 h2 h3
  go_enter Try.func3, Try.ntmps3
  go_wp2_with fail
  refine (HA.out _).mono ?_
  rintro e w' ⟨rfl, rfl⟩
  go_wp2_with fail
  refine (O1.out _).mono ?_
  rintro e w' ⟨rfl, rfl⟩
  go_wp2_with fail
  refine (O2.out _).mono ?_
  rintro e w' ⟨rfl, rfl⟩
  go_wp2_with fail
  refine (O3.out _).mono ?_
  rintro e w' ⟨rfl, rfl⟩
  go_wp2_with fail
  refine (F1.out _).mono ?_
  rintro e w' ⟨rfl, rfl⟩
  go_wp2_with fail
  refine (F2.out _).mono ?_
  rintro e w' ⟨rfl, rfl⟩
  go_wp2_with fail
  refine (F1.out _).mono ?_
  rintro e w' ⟨rfl, rfl⟩
  go_wp2_with fail
  refine (F3.out _).mono ?_
  rintro e w' ⟨rfl, rfl⟩
  go_wp2_with fail
  refine (F1.out _).mono ?_
  rintro e w' ⟨rfl, rfl⟩
  go_wp2_with fail
  refine (F4.out _).mono ?_
  rintro e w' ⟨rfl, rfl⟩
  go_wp2_with fail
  refine (F1.out _).mono ?_
  rintro e w' ⟨rfl, rfl⟩
  go_wp2_with fail
  go_ret
  exact ⟨rfl, Below.refl _ _⟩
set_option maxHeartbeats 1600000 in
theorem near_walk (a b c d : Int) (w : World) : Calls Try.prog 7 #[.int .i64 a, .int .i64 b, .int .i64 c, .int .i64 d] w fun e w' => e = .returned (.bool true) ∧ Below w.heap.size w w' := by
  have O1 := As.mk (fun w => of_does a b w)
  have O2 := As.mk (fun w => of_does c d w)
  have HA := As.mk (fun w => alive_does w)
  have ha := bd_cl a; have hb := bd_cl b; have hc := bd_cl c; have hd := bd_cl d
  generalize cl a = A at *
  generalize cl b = B at *
  generalize cl c = C at *
  generalize cl d = D at *
  obtain ⟨s1, s2, s3⟩ := st_near A B C D
  obtain ⟨hx, hy⟩ := st_bd ha hb hc hd
  obtain ⟨n, h1⟩ : ∃ n, ap A C + ap B D = n := ⟨_, rfl⟩
  have nn : 0 ≤ n := by have := ap_nn A C; have := ap_nn B D; omega
  have nb : n ≤ 10000000000000 := by rw [← h1]; unfold ap; unfold Bd at *; omega
  have F1 := As.mk (fun w => far_at ha hb hc hd n h1 w)
  obtain ⟨x, ex⟩ : ∃ x, st1 A B C D = x := ⟨_, rfl⟩
  obtain ⟨y, ey⟩ : ∃ y, st2 A B C D = y := ⟨_, rfl⟩
  have S1 := As.mk (fun w => step_at ha hb hc hd x y ex ey w)
  rw [ex] at hx s1 s2 s3
  rw [ey] at hy s1 s2 s3
  obtain ⟨m, h2⟩ : ∃ m, ap x C + ap y D = m := ⟨_, rfl⟩
  obtain ⟨k, h3⟩ : ∃ k, ap A x + ap B y = k := ⟨_, rfl⟩
  have F2 := As.mk (fun w => far_at hx hy hc hd m h2 w)
  have F3 := As.mk (fun w => far_at ha hb hx hy k h3 w)
  rw [h1] at s1 s2
  rw [h2] at s2
  rw [h3] at s3
  have t1 : decide (k ≤ 1) = true := decide_eq_true s3
  by_cases h0 : n = 0
  · have hm : m = 0 := by
      obtain ⟨e1, e2⟩ := s1 h0
      rw [e1, e2, h1] at h2
      omega
    subst h0
    subst hm
    clear ha hb hc hd hx hy h1 h2 h3 ex ey s1 s2 s3
    go_enter Try.func7, Try.ntmps7
    go_wp2_with fail
    refine (HA.out _).mono ?_
    rintro e w' ⟨rfl, rfl⟩
    go_wp2_with fail
    refine (O1.out _).mono ?_
    rintro e w' ⟨rfl, rfl⟩
    go_wp2_with fail
    refine (O2.out _).mono ?_
    rintro e w' ⟨rfl, rfl⟩
    go_wp2_with fail
    refine (F1.out _).mono ?_
    rintro e w' ⟨rfl, rfl⟩
    go_wp2_with fail
    refine (S1.out _).mono ?_
    rintro e w' ⟨rfl, rfl⟩
    go_wp2_with fail
    refine (F2.out _).mono ?_
    rintro e w' ⟨rfl, rfl⟩
    go_wp2_with fail
    refine (S1.out _).mono ?_
    rintro e w' ⟨rfl, rfl⟩
    go_wp2_with fail
    refine (F3.out _).mono ?_
    rintro e w' ⟨rfl, rfl⟩
    go_wp2_with fail
    go_ret
    exact ⟨rfl, Below.refl _ _⟩
  · have hm : m = n - 1 := s2 (by omega)
    subst hm
    have t2 : (n == 0) = false := beq_eq_false_iff_ne.2 h0
    have HN := As.mk h0
    clear ha hb hc hd hx hy h1 h2 h3 ex ey s1 s2 s3 h0
    go_enter Try.func7, Try.ntmps7
    go_wp2_with fail
    refine (HA.out _).mono ?_
    rintro e w' ⟨rfl, rfl⟩
    go_wp2_with fail
    refine (O1.out _).mono ?_
    rintro e w' ⟨rfl, rfl⟩
    go_wp2_with fail
    refine (O2.out _).mono ?_
    rintro e w' ⟨rfl, rfl⟩
    go_wp2_with fail
    refine (F1.out _).mono ?_
    rintro e w' ⟨rfl, rfl⟩
    go_wp2_with fail
    refine (S1.out _).mono ?_
    rintro e w' ⟨rfl, rfl⟩
    go_wp2_with fail
    refine (F2.out _).mono ?_
    rintro e w' ⟨rfl, rfl⟩
    go_wp2_with fail
    refine (S1.out _).mono ?_
    rintro e w' ⟨rfl, rfl⟩
    go_wp2_with fail
    refine (F3.out _).mono ?_
    rintro e w' ⟨rfl, rfl⟩
    go_wp2_with fail
    go_ret
    exact ⟨rfl, Below.refl _ _⟩
end Go.Proofs.Ytheacpidchnigaa
