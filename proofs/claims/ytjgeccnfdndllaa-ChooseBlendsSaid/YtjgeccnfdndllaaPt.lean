/- The functions of points that a choice reaches: contracts. -/
import Derived.Test.YtjgeccnfdndllaaAt
import Derived.Test.YtjgeccnfdndllaaF
import Derived.Test.YtjgeccnfdndllaaB
import Derived.WalkLawsBesides
import Derived.Laws.Cover2
import Derived.Laws.Cover3
import Derived.IntWalk
namespace Go.Proofs.Ytjgeccnfdndllaa
open Go.RowKit
attribute [local go_sem] mx_two mn_two mx2_int mn2_int
/-- The bits of a whole number. -/
def fb (n : Int) : Nat := floatOfInt .f64 n
theorem fb_fl (n : Int) (h : n.natAbs < 2 ^ 53) : Fl (fb n) n := fl_int n h
theorem f64_order (x y : Nat) : FloatKind.f64.format.order x y = Ieee.double.order x y := rfl
theorem fl_eq {x y : Nat} {a b : Int} (hx : Fl x a) (hy : Fl y b) : (FloatKind.f64.format.order x y == some Ordering.eq) = decide (a = b) := by
  rw [f64_order, fl_order hx hy]
  rcases Int.lt_trichotomy a b with h | h | h
  · rw [Int.compare_eq_lt.2 h, decide_eq_false (by omega)]; rfl
  · subst h; rw [Int.compare_eq_eq.2 rfl]; simp
  · rw [Int.compare_eq_gt.2 h, decide_eq_false (by omega)]; rfl
theorem fl_le {x y : Nat} {a b : Int} (hx : Fl x a) (hy : Fl y b) (h : a ≤ b) : (FloatKind.f64.format.order x y == some Ordering.lt || FloatKind.f64.format.order x y == some Ordering.eq) = true := by
  rw [f64_order, fl_order hx hy]
  rcases Int.lt_trichotomy a b with h | h | h
  · rw [Int.compare_eq_lt.2 h]; rfl
  · subst h; rw [Int.compare_eq_eq.2 rfl]; rfl
  · omega
theorem fl_ge {x y : Nat} {a b : Int} (hx : Fl x a) (hy : Fl y b) (h : b ≤ a) : (FloatKind.f64.format.order x y == some Ordering.gt || FloatKind.f64.format.order x y == some Ordering.eq) = true := by
  rw [f64_order, fl_order hx hy]
  rcases Int.lt_trichotomy a b with h | h | h
  · omega
  · subst h; rw [Int.compare_eq_eq.2 rfl]; rfl
  · rw [Int.compare_eq_gt.2 h]; rfl
theorem fl_int_of {x : Nat} {a : Int} (hx : Fl x a) (h : a.natAbs < 2 ^ 53) : floatToIntVal .f64 x .i64 = some a := by
  unfold floatToIntVal
  have h1 : (FloatKind.f64.decode x).toInt .zero = some a := fl_toInt hx
  rw [h1]
  have h2 : a.natAbs < 9007199254740992 := Nat.lt_of_lt_of_le h x53
  have e1 : IntKind.i64.min = -9223372036854775808 := by decide
  have e2 : IntKind.i64.max = 9223372036854775807 := by decide
  simp only [e1, e2]
  rw [if_pos (by omega)]
/-- Cut to the greatest part. -/
def cl (n : Int) : Int := if n < -1099511627776 then -1099511627776 else if 1099511627776 < n then 1099511627776 else n
theorem cl_bd (n : Int) : -1099511627776 ≤ cl n ∧ cl n ≤ 1099511627776 := by unfold cl; split <;> (try split) <;> omega
theorem cl_id {n : Int} (h : -1099511627776 ≤ n) (h2 : n ≤ 1099511627776) : cl n = n := by unfold cl; rw [if_neg (by omega), if_neg (by omega)]
theorem bd53 {n : Int} (h : -1099511627776 ≤ n ∧ n ≤ 1099511627776) : n.natAbs < 2 ^ 53 := Nat.lt_of_lt_of_le (show n.natAbs < 4503599627370496 by omega) (by simp)
def cl3 (n lo hi : Int) : Int := if n < lo then lo else if hi < n then hi else n
theorem ret_i {k : IntKind} {a b : Int} (h : a = b) : Ending.returned (.int k a) = .returned (.int k b) := by rw [h]
def Bd (n : Int) : Prop := -1099511627776 ≤ n ∧ n ≤ 1099511627776
theorem fl_hi : Fl 4787326403894837248 1099511627776 := by
  have e : fb 1099511627776 = 4787326403894837248 := by decide +kernel
  rw [← e]; exact fb_fl _ (bd53 (by omega))
theorem fl_lo : Fl 14010698440749613056 (-1099511627776) := by
  have e : fb (-1099511627776) = 14010698440749613056 := by decide +kernel
  rw [← e]; exact fb_fl _ (bd53 (by omega))
theorem fl_bd {n : Int} (h : Bd n) : Fl (fb n) n := fb_fl n (bd53 h)

set_option maxHeartbeats 800000 in
theorem within_does (n lo hi : Int) (hlh : lo ≤ hi) (w : World) : Calls Try.prog 12 #[.int .i64 n, .int .i64 lo, .int .i64 hi] w fun e w' => e = .returned (.int .i64 (cl3 n lo hi)) ∧ w = w' := by
  have HR : As ((n < lo → cl3 n lo hi = lo) ∧ (¬ n < lo → hi < n → cl3 n lo hi = hi) ∧ (lo ≤ n → n ≤ hi → cl3 n lo hi = n)) := ⟨by unfold cl3; split <;> (try split) <;> omega⟩
  generalize cl3 n lo hi = r at HR
  have t0 : decide (hi < lo) = false := decide_eq_false (by omega)
  by_cases h1 : n < lo
  · have t1 : decide (n < lo) = true := decide_eq_true h1
    go_enter Try.func12, Try.ntmps12
    go_wp2
    go_ret
    exact ⟨ret_i (HR.out.1 h1).symm, rfl⟩
  · have t1 : decide (n < lo) = false := decide_eq_false h1
    by_cases h2 : hi < n
    · have t2 : decide (hi < n) = true := decide_eq_true h2
      have HR2 := As.mk (HR.out.2.1 h1 h2)
      clear h1
      go_enter Try.func12, Try.ntmps12
      go_wp2
      go_ret
      exact ⟨ret_i HR2.out.symm, rfl⟩
    · have t2 : decide (hi < n) = false := decide_eq_false h2
      have HR2 := As.mk (HR.out.2.2 (by omega) (by omega))
      clear h1 h2
      go_enter Try.func12, Try.ntmps12
      go_wp2
      go_ret
      exact ⟨ret_i HR2.out.symm, rfl⟩
set_option maxHeartbeats 800000 in
theorem point_does (x y : Int) (w : World) : Calls Try.prog 8 #[.int .i64 x, .int .i64 y] w fun e w' => e = .returned (.complex .f64 (fb (cl x)) (fb (cl y))) ∧ w = w' := by
  have HC : As (∀ (n : Int) (w : World), Calls Try.prog 12 #[.int .i64 n, .int .i64 (-1099511627776), .int .i64 1099511627776] w fun e w' => e = .returned (.int .i64 (cl n)) ∧ w = w') := ⟨fun n w => within_does n (-1099511627776) 1099511627776 (by omega) w⟩
  unfold fb
  go_enter Try.func8, Try.ntmps8
  go_wp2_with (go_at_call 12; refine (HC.out _ _).mono ?_; rintro e w' ⟨rfl, rfl⟩)
  go_ret
  exact ⟨rfl, rfl⟩
set_option maxHeartbeats 800000 in
theorem whole_does (x : Nat) (a : Int) (h : Fl x a) (hb : Bd a) (w : World) : Calls Try.prog 20 #[.float .f64 x] w fun e w' => e = .returned (.tuple #[.int .i64 a, .bool true]) ∧ w = w' := by
  have g1 := fl_ge h fl_lo hb.1
  have g2 := fl_le h fl_hi hb.2
  have g3 : (FloatKind.f64.format.order (floatOfInt .f64 a) x == some Ordering.eq) = true := by
    have := fl_eq (fl_bd hb) h
    rw [decide_eq_true rfl] at this
    exact this
  have k1 : ∀ w, (convert 36 3 (.float .f64 x)).run Try.prog w = .ok (.int .i64 a) w := fun w => run_convert_float_int w 36 3 .f64 .i64 x a (by rw [Try.underlying36]; rfl) Try.underlying3 (fl_int_of h (bd53 hb))
  clear h hb
  go_enter Try.func20, Try.ntmps20
  go_wp2
  go_ret2
  exact ⟨rfl, rfl⟩
set_option maxHeartbeats 800000 in
theorem part_does (x : Nat) (a : Int) (h : Fl x a) (hb : Bd a) (w : World) : Calls Try.prog 13 #[.float .f64 x] w fun e w' => e = .returned (.tuple #[.int .i64 a, .bool true]) ∧ w = w' := by
  have g1 := fl_ge h fl_lo hb.1
  have g2 := fl_le h fl_hi hb.2
  have g3 : (FloatKind.f64.format.order (floatOfInt .f64 a) x == some Ordering.eq) = true := by
    have := fl_eq (fl_bd hb) h
    rw [decide_eq_true rfl] at this
    exact this
  have k1 : ∀ w, (convert 36 3 (.float .f64 x)).run Try.prog w = .ok (.int .i64 a) w := fun w => run_convert_float_int w 36 3 .f64 .i64 x a (by rw [Try.underlying36]; rfl) Try.underlying3 (fl_int_of h (bd53 hb))
  clear h hb
  go_enter Try.func13, Try.ntmps13
  go_wp2
  go_ret2
  exact ⟨rfl, rfl⟩
set_option maxHeartbeats 800000 in
theorem parts_does (x y : Nat) (a b : Int) (hx : Fl x a) (hy : Fl y b) (ha : Bd a) (hb : Bd b) (w : World) : Calls Try.prog 14 #[.complex .f64 x y] w fun e w' => e = .returned (.tuple #[.int .i64 a, .int .i64 b, .bool true]) ∧ w = w' := by
  have H1 := As.mk (fun w => whole_does x a hx ha w)
  have H2 := As.mk (fun w => whole_does y b hy hb w)
  clear hx hy ha hb
  go_enter Try.func14, Try.ntmps14
  go_wp2_with fail
  refine (H1.out _).mono ?_
  rintro e w' ⟨rfl, rfl⟩
  go_wp2_with fail
  refine (H2.out _).mono ?_
  rintro e w' ⟨rfl, rfl⟩
  go_wp2_with fail
  go_ret3
  exact ⟨rfl, rfl⟩
set_option maxHeartbeats 800000 in
theorem rparts_does (x y : Nat) (a b : Int) (hx : Fl x a) (hy : Fl y b) (ha : Bd a) (hb : Bd b) (w : World) : Calls Try.prog 9 #[.complex .f64 x y] w fun e w' => e = .returned (.tuple #[.int .i64 a, .int .i64 b, .bool true]) ∧ w = w' := by
  have H1 := As.mk (fun w => part_does x a hx ha w)
  have H2 := As.mk (fun w => part_does y b hy hb w)
  clear hx hy ha hb
  go_enter Try.func9, Try.ntmps9
  go_wp2_with fail
  refine (H1.out _).mono ?_
  rintro e w' ⟨rfl, rfl⟩
  go_wp2_with fail
  refine (H2.out _).mono ?_
  rintro e w' ⟨rfl, rfl⟩
  go_wp2_with fail
  go_ret3
  exact ⟨rfl, rfl⟩
end Go.Proofs.Ytjgeccnfdndllaa
