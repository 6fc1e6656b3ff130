/- The functions of points: contracts. -/
import Derived.Test.YtheacpidchnigaaOwn
import Derived.Test.YtheacpidchnigaaF
import Derived.Test.YtheacpidchnigaaProg
import Derived.WalkLawsBesides
import Derived.Laws.Cover2
import Derived.Laws.Cover3
import Derived.IntWalk
namespace Go.Proofs.Ytheacpidchnigaa
open Go.RowKit
attribute [local go_sem] mx_two mn_two mx2_int mn2_int
/-- The bits of a whole number. -/
def fb (n : Int) : Nat := floatOfInt .f64 n
theorem fb_fl (n : Int) (h : n.natAbs < 2 ^ 53) : Fl (fb n) n := fl_int n h
theorem f64_order (x y : Nat) : FloatKind.f64.format.order x y = Ieee.double.order x y := rfl
theorem fl_eq {x y : Nat} {a b : Int} (hx : Fl x a) (hy : Fl y b) : (FloatKind.f64.format.order x y == some Ordering.eq) = decide (a = b) := by
  rw [f64_order, fl_order hx hy]
  rcases Int.lt_trichotomy a b with h | h | h
  · rw [Int.compare_eq_lt.2 h, decide_eq_false (by omega)]; rfl
  · subst h; rw [Int.compare_eq_eq.2 rfl]; simp
  · rw [Int.compare_eq_gt.2 h, decide_eq_false (by omega)]; rfl
theorem fl_le {x y : Nat} {a b : Int} (hx : Fl x a) (hy : Fl y b) (h : a ≤ b) : (FloatKind.f64.format.order x y == some Ordering.lt || FloatKind.f64.format.order x y == some Ordering.eq) = true := by
  rw [f64_order, fl_order hx hy]
  rcases Int.lt_trichotomy a b with h | h | h
  · rw [Int.compare_eq_lt.2 h]; rfl
  · subst h; rw [Int.compare_eq_eq.2 rfl]; rfl
  · omega
theorem fl_ge {x y : Nat} {a b : Int} (hx : Fl x a) (hy : Fl y b) (h : b ≤ a) : (FloatKind.f64.format.order x y == some Ordering.gt || FloatKind.f64.format.order x y == some Ordering.eq) = true := by
  rw [f64_order, fl_order hx hy]
  rcases Int.lt_trichotomy a b with h | h | h
  · omega
  · subst h; rw [Int.compare_eq_eq.2 rfl]; rfl
  · rw [Int.compare_eq_gt.2 h]; rfl
theorem fl_int_of {x : Nat} {a : Int} (hx : Fl x a) (h : a.natAbs < 2 ^ 53) : floatToIntVal .f64 x .i64 = some a := by
  unfold floatToIntVal
  have h1 : (FloatKind.f64.decode x).toInt .zero = some a := fl_toInt hx
  rw [h1]
  have h2 : a.natAbs < 9007199254740992 := Nat.lt_of_lt_of_le h x53
  have e1 : IntKind.i64.min = -9223372036854775808 := by decide
  have e2 : IntKind.i64.max = 9223372036854775807 := by decide
  simp only [e1, e2]
  rw [if_pos (by omega)]
/-- Cut to the greatest part. -/
def cl (n : Int) : Int := if n < -1099511627776 then -1099511627776 else if 1099511627776 < n then 1099511627776 else n
theorem cl_bd (n : Int) : -1099511627776 ≤ cl n ∧ cl n ≤ 1099511627776 := by unfold cl; split <;> (try split) <;> omega
theorem cl_id {n : Int} (h : -1099511627776 ≤ n) (h2 : n ≤ 1099511627776) : cl n = n := by unfold cl; rw [if_neg (by omega), if_neg (by omega)]
theorem bd53 {n : Int} (h : -1099511627776 ≤ n ∧ n ≤ 1099511627776) : n.natAbs < 2 ^ 53 := Nat.lt_of_lt_of_le (show n.natAbs < 4503599627370496 by omega) (by simp)
def cl3 (n lo hi : Int) : Int := if n < lo then lo else if hi < n then hi else n
theorem ret_i {k : IntKind} {a b : Int} (h : a = b) : Ending.returned (.int k a) = .returned (.int k b) := by rw [h]
set_option maxHeartbeats 800000 in
theorem within_does (n lo hi : Int) (hlh : lo ≤ hi) (w : World) : Calls Try.prog 17 #[.int .i64 n, .int .i64 lo, .int .i64 hi] w fun e w' => e = .returned (.int .i64 (cl3 n lo hi)) ∧ w = w' := by
  have HR : As ((n < lo → cl3 n lo hi = lo) ∧ (hi < n → cl3 n lo hi = hi) ∧ (lo ≤ n → n ≤ hi → cl3 n lo hi = n)) := ⟨by unfold cl3; split <;> (try split) <;> omega⟩
  generalize cl3 n lo hi = r at HR
  by_cases h1 : hi < n
  · by_cases h2 : lo < hi
    · go_enter Try.func17, Try.ntmps17
      go_wp2
      go_ret
      exact ⟨ret_i (HR.out.2.1 h1).symm, rfl⟩
    · obtain rfl : lo = hi := by omega
      go_enter Try.func17, Try.ntmps17
      go_wp2
      go_ret
      exact ⟨ret_i (HR.out.2.1 h1).symm, rfl⟩
  · by_cases h2 : lo < n
    · go_enter Try.func17, Try.ntmps17
      go_wp2
      go_ret
      exact ⟨ret_i (HR.out.2.2 (by omega) (by omega)).symm, rfl⟩
    · have HR2 : As (lo = r) := ⟨by
        by_cases h3 : n < lo
        · exact (HR.out.1 h3).symm
        · have := HR.out.2.2 (by omega) (by omega); omega⟩
      go_enter Try.func17, Try.ntmps17
      go_wp2
      go_ret
      exact ⟨ret_i HR2.out, rfl⟩
set_option maxHeartbeats 800000 in
theorem of1_does (n : Int) (w : World) : Calls Try.prog 16 #[.int .i64 n] w fun e w' => e = .returned (.float .f64 (fb (cl n))) ∧ w = w' := by
  have HC : As (∀ w, Calls Try.prog 17 #[.int .i64 n, .int .i64 (-1099511627776), .int .i64 1099511627776] w fun e w' => e = .returned (.int .i64 (cl n)) ∧ w = w') := ⟨fun w => within_does n (-1099511627776) 1099511627776 (by omega) w⟩
  unfold fb
  generalize cl n = c at *
  go_enter Try.func16, Try.ntmps16
  go_wp2_with (go_at_call 17; refine (HC.out _).mono ?_; rintro e w' ⟨rfl, rfl⟩)
  go_ret
  exact ⟨rfl, rfl⟩
set_option maxHeartbeats 800000 in
theorem of_does (x y : Int) (w : World) : Calls Try.prog 10 #[.int .i64 x, .int .i64 y] w fun e w' => e = .returned (.complex .f64 (fb (cl x)) (fb (cl y))) ∧ w = w' := by
  go_enter Try.func10, Try.ntmps10
  go_wp2_with (first | (go_at_call 16; refine (of1_does _ _).mono ?_; rintro e w' ⟨rfl, rfl⟩))
  go_ret
  exact ⟨rfl, rfl⟩
end Go.Proofs.Ytheacpidchnigaa
