/- whole, Parts, apart, nearer, Far, Add, Sub, Step. -/
import Derived.Test.YtheacpidchnigaaA
namespace Go.Proofs.Ytheacpidchnigaa
open Go.RowKit
attribute [local go_sem] mx_two mn_two mx2_int mn2_int
def Bd (n : Int) : Prop := -1099511627776 ≤ n ∧ n ≤ 1099511627776
theorem fl_hi : Fl 4787326403894837248 1099511627776 := by
  have e : fb 1099511627776 = 4787326403894837248 := by decide +kernel
  rw [← e]; exact fb_fl _ (bd53 (by omega))
theorem fl_lo : Fl 14010698440749613056 (-1099511627776) := by
  have e : fb (-1099511627776) = 14010698440749613056 := by decide +kernel
  rw [← e]; exact fb_fl _ (bd53 (by omega))
theorem fl_bd {n : Int} (h : Bd n) : Fl (fb n) n := fb_fl n (bd53 h)
set_option maxHeartbeats 800000 in
theorem whole_does (x : Nat) (a : Int) (h : Fl x a) (hb : Bd a) (w : World) : Calls Try.prog 21 #[.float .f64 x] w fun e w' => e = .returned (.tuple #[.int .i64 a, .bool true]) ∧ w = w' := by
  have g1 := fl_ge h fl_lo hb.1
  have g2 := fl_le h fl_hi hb.2
  have g3 : (FloatKind.f64.format.order (floatOfInt .f64 a) x == some Ordering.eq) = true := by
    have := fl_eq (fl_bd hb) h
    rw [decide_eq_true rfl] at this
    exact this
  have k1 : ∀ w, (convert 31 3 (.float .f64 x)).run Try.prog w = .ok (.int .i64 a) w := fun w => run_convert_float_int w 31 3 .f64 .i64 x a (by rw [Try.underlying31]; rfl) Try.underlying3 (fl_int_of h (bd53 hb))
  clear h hb
  go_enter Try.func21, Try.ntmps21
  go_wp2
  go_ret2
  exact ⟨rfl, rfl⟩
set_option maxHeartbeats 800000 in
theorem parts_does (x y : Nat) (a b : Int) (hx : Fl x a) (hy : Fl y b) (ha : Bd a) (hb : Bd b) (w : World) : Calls Try.prog 18 #[.complex .f64 x y] w fun e w' => e = .returned (.tuple #[.int .i64 a, .int .i64 b, .bool true]) ∧ w = w' := by
  have H1 := As.mk (fun w => whole_does x a hx ha w)
  have H2 := As.mk (fun w => whole_does y b hy hb w)
  clear hx hy ha hb
  go_enter Try.func18, Try.ntmps18
  go_wp2_with fail
  refine (H1.out _).mono ?_
  rintro e w' ⟨rfl, rfl⟩
  go_wp2_with fail
  refine (H2.out _).mono ?_
  rintro e w' ⟨rfl, rfl⟩
  go_wp2_with fail
  go_ret3
  exact ⟨rfl, rfl⟩
def ap (a b : Int) : Int := ((a - b).natAbs : Int)
set_option maxHeartbeats 800000 in
theorem apart_does (a b : Int) (ha : Bd a) (hb : Bd b) (w : World) : Calls Try.prog 19 #[.int .i64 a, .int .i64 b] w fun e w' => e = .returned (.int .i64 (ap a b)) ∧ w = w' := by
  have HR : As ((a < b → ap a b = b - a) ∧ (b ≤ a → ap a b = a - b)) := ⟨by unfold ap; omega⟩
  generalize ap a b = r at HR
  obtain ⟨a1, a2⟩ := ha
  obtain ⟨b1, b2⟩ := hb
  by_cases h1 : a - b < b - a
  · go_enter Try.func19, Try.ntmps19
    go_wp2
    go_ret
    exact ⟨ret_i (HR.out.1 (by omega)).symm, rfl⟩
  · go_enter Try.func19, Try.ntmps19
    go_wp2
    go_ret
    exact ⟨ret_i (HR.out.2 (by omega)).symm, rfl⟩
def nr (a b : Int) : Int := a + cl3 (b - a) (-1) 1
theorem cl3_1 (n : Int) : -1 ≤ cl3 n (-1) 1 ∧ cl3 n (-1) 1 ≤ 1 := by unfold cl3; split <;> (try split) <;> omega
set_option maxHeartbeats 800000 in
theorem nearer_does (a b : Int) (ha : Bd a) (hb : Bd b) (w : World) : Calls Try.prog 20 #[.int .i64 a, .int .i64 b] w fun e w' => e = .returned (.int .i64 (nr a b)) ∧ w = w' := by
  have HC := As.mk (fun w => within_does (b - a) (-1) 1 (by omega) w)
  have hc := cl3_1 (b - a)
  unfold nr
  generalize cl3 (b - a) (-1) 1 = c at *
  obtain ⟨a1, a2⟩ := ha
  obtain ⟨b1, b2⟩ := hb
  obtain ⟨c1, c2⟩ := hc
  go_enter Try.func20, Try.ntmps20
  go_wp2_with fail
  refine (HC.out _).mono ?_
  rintro e w' ⟨rfl, rfl⟩
  go_wp2_with fail
  go_ret
  exact ⟨rfl, rfl⟩
theorem ap_bd {a b : Int} (ha : Bd a) (hb : Bd b) : 0 ≤ ap a b ∧ ap a b ≤ 2199023255552 := by unfold ap Bd at *; omega
set_option maxHeartbeats 1600000 in
theorem far_does (x y u v : Nat) (a b c d : Int) (hx : Fl x a) (hy : Fl y b) (hu : Fl u c) (hv : Fl v d) (ha : Bd a) (hb : Bd b) (hc : Bd c) (hd : Bd d) (w : World) : Calls Try.prog 11 #[.complex .f64 x y, .complex .f64 u v] w fun e w' => e = .returned (.int .i64 (ap a c + ap b d)) ∧ w = w' := by
  have H1 := As.mk (fun w => parts_does x y a b hx hy ha hb w)
  have H2 := As.mk (fun w => parts_does u v c d hu hv hc hd w)
  have H3 := As.mk (fun w => apart_does a c ha hc w)
  have H4 := As.mk (fun w => apart_does b d hb hd w)
  obtain ⟨p1, p2⟩ := ap_bd ha hc
  obtain ⟨q1, q2⟩ := ap_bd hb hd
  generalize ap a c = p at *
  generalize ap b d = q at *
  clear hx hy hu hv ha hb hc hd
  go_enter Try.func11, Try.ntmps11
  go_wp2_with fail
  refine (H1.out _).mono ?_
  rintro e w' ⟨rfl, rfl⟩
  go_wp2_with fail
  refine (H2.out _).mono ?_
  rintro e w' ⟨rfl, rfl⟩
  go_wp2_with fail
  refine (H3.out _).mono ?_
  rintro e w' ⟨rfl, rfl⟩
  go_wp2_with fail
  refine (H4.out _).mono ?_
  rintro e w' ⟨rfl, rfl⟩
  go_wp2_with fail
  go_ret
  exact ⟨rfl, rfl⟩
set_option maxHeartbeats 1600000 in
theorem add_does (x y u v : Nat) (a b c d : Int) (hx : Fl x a) (hy : Fl y b) (hu : Fl u c) (hv : Fl v d) (ha : Bd a) (hb : Bd b) (hc : Bd c) (hd : Bd d) (w : World) : Calls Try.prog 13 #[.complex .f64 x y, .complex .f64 u v] w fun e w' => e = .returned (.complex .f64 (fb (cl (a + c))) (fb (cl (b + d)))) ∧ w = w' := by
  have H1 := As.mk (fun w => parts_does x y a b hx hy ha hb w)
  have H2 := As.mk (fun w => parts_does u v c d hu hv hc hd w)
  have H3 := As.mk (fun w => of_does (a + c) (b + d) w)
  obtain ⟨a1, a2⟩ := ha
  obtain ⟨b1, b2⟩ := hb
  obtain ⟨c1, c2⟩ := hc
  obtain ⟨d1, d2⟩ := hd
  clear hx hy hu hv
  go_enter Try.func13, Try.ntmps13
  go_wp2_with fail
  refine (H1.out _).mono ?_
  rintro e w' ⟨rfl, rfl⟩
  go_wp2_with fail
  refine (H2.out _).mono ?_
  rintro e w' ⟨rfl, rfl⟩
  go_wp2_with fail
  refine (H3.out _).mono ?_
  rintro e w' ⟨rfl, rfl⟩
  go_wp2_with fail
  go_ret
  exact ⟨rfl, rfl⟩
set_option maxHeartbeats 1600000 in
theorem sub_does (x y u v : Nat) (a b c d : Int) (hx : Fl x a) (hy : Fl y b) (hu : Fl u c) (hv : Fl v d) (ha : Bd a) (hb : Bd b) (hc : Bd c) (hd : Bd d) (w : World) : Calls Try.prog 15 #[.complex .f64 x y, .complex .f64 u v] w fun e w' => e = .returned (.complex .f64 (fb (cl (a - c))) (fb (cl (b - d)))) ∧ w = w' := by
  have H1 := As.mk (fun w => parts_does x y a b hx hy ha hb w)
  have H2 := As.mk (fun w => parts_does u v c d hu hv hc hd w)
  have H3 := As.mk (fun w => of_does (a - c) (b - d) w)
  obtain ⟨a1, a2⟩ := ha
  obtain ⟨b1, b2⟩ := hb
  obtain ⟨c1, c2⟩ := hc
  obtain ⟨d1, d2⟩ := hd
  clear hx hy hu hv
  go_enter Try.func15, Try.ntmps15
  go_wp2_with fail
  refine (H1.out _).mono ?_
  rintro e w' ⟨rfl, rfl⟩
  go_wp2_with fail
  refine (H2.out _).mono ?_
  rintro e w' ⟨rfl, rfl⟩
  go_wp2_with fail
  refine (H3.out _).mono ?_
  rintro e w' ⟨rfl, rfl⟩
  go_wp2_with fail
  go_ret
  exact ⟨rfl, rfl⟩
def st1 (a b c d : Int) : Int := if ap b d ≤ ap a c then nr a c else a
def st2 (a b c d : Int) : Int := if ap b d ≤ ap a c then b else nr b d
theorem nr_bd {a b : Int} (ha : Bd a) (hb : Bd b) : Bd (nr a b) := by
  unfold nr cl3 Bd at *
  split
  · omega
  · split <;> omega
set_option maxHeartbeats 1600000 in
theorem step_does (x y u v : Nat) (a b c d : Int) (hx : Fl x a) (hy : Fl y b) (hu : Fl u c) (hv : Fl v d) (ha : Bd a) (hb : Bd b) (hc : Bd c) (hd : Bd d) (w : World) : Calls Try.prog 14 #[.complex .f64 x y, .complex .f64 u v] w fun e w' => e = .returned (.complex .f64 (fb (st1 a b c d)) (fb (st2 a b c d))) ∧ w = w' := by
  have H1 := As.mk (fun w => parts_does x y a b hx hy ha hb w)
  have H2 := As.mk (fun w => parts_does u v c d hu hv hc hd w)
  have H3 := As.mk (fun w => apart_does a c ha hc w)
  have H4 := As.mk (fun w => apart_does b d hb hd w)
  by_cases h : ap b d ≤ ap a c
  · have H5 := As.mk (fun w => nearer_does a c ha hc w)
    have H6 := As.mk (fun w => of_does (nr a c) b w)
    have e1 := cl_id (nr_bd ha hc).1 (nr_bd ha hc).2
    have e2 := cl_id hb.1 hb.2
    rw [e1, e2] at H6
    unfold st1 st2
    rw [if_pos h, if_pos h]
    generalize ap b d = q at *
    generalize ap a c = p at *
    generalize nr a c = r at *
    clear e1 e2 hx hy hu hv ha hb hc hd
    go_enter Try.func14, Try.ntmps14
    go_wp2_with fail
    refine (H1.out _).mono ?_
    rintro e w' ⟨rfl, rfl⟩
    go_wp2_with fail
    refine (H2.out _).mono ?_
    rintro e w' ⟨rfl, rfl⟩
    go_wp2_with fail
    refine (H3.out _).mono ?_
    rintro e w' ⟨rfl, rfl⟩
    go_wp2_with fail
    refine (H4.out _).mono ?_
    rintro e w' ⟨rfl, rfl⟩
    go_wp2_with fail
    refine (H5.out _).mono ?_
    rintro e w' ⟨rfl, rfl⟩
    go_wp2_with fail
    refine (H6.out _).mono ?_
    rintro e w' ⟨rfl, rfl⟩
    go_wp2_with fail
    go_ret
    exact ⟨rfl, rfl⟩
  · have H5 := As.mk (fun w => nearer_does b d hb hd w)
    have H6 := As.mk (fun w => of_does a (nr b d) w)
    have e1 := cl_id (nr_bd hb hd).1 (nr_bd hb hd).2
    have e2 := cl_id ha.1 ha.2
    rw [e1, e2] at H6
    unfold st1 st2
    rw [if_neg h, if_neg h]
    generalize ap b d = q at *
    generalize ap a c = p at *
    generalize nr b d = r at *
    clear e1 e2 hx hy hu hv ha hb hc hd
    go_enter Try.func14, Try.ntmps14
    go_wp2_with fail
    refine (H1.out _).mono ?_
    rintro e w' ⟨rfl, rfl⟩
    go_wp2_with fail
    refine (H2.out _).mono ?_
    rintro e w' ⟨rfl, rfl⟩
    go_wp2_with fail
    refine (H3.out _).mono ?_
    rintro e w' ⟨rfl, rfl⟩
    go_wp2_with fail
    refine (H4.out _).mono ?_
    rintro e w' ⟨rfl, rfl⟩
    go_wp2_with fail
    refine (H5.out _).mono ?_
    rintro e w' ⟨rfl, rfl⟩
    go_wp2_with fail
    refine (H6.out _).mono ?_
    rintro e w' ⟨rfl, rfl⟩
    go_wp2_with fail
    go_ret
    exact ⟨rfl, rfl⟩
end Go.Proofs.Ytheacpidchnigaa
