/- Add and Mul of clamp: what they tell at small numbers. Plain laws over the printed functions. -/
import Derived.Test.YtjgeccnfdndllaaPChooseBlendsx
import Derived.Laws.MathBits
import Derived.OpenShut
set_option linter.unusedVariables false
namespace Go.Proofs.Ytjgeccnfdndllaa.Num
open Go.RowKit
open Go.Proofs.YtjgeccnfdndllaaW.PrintWords Go.Proofs.YtjgeccnfdndllaaW.PrintLast Go.Proofs.YtjgeccnfdndllaaW.PrintMore Go.Proofs.Ytjgeccnfdndllaa.PChooseBlends
/-- A whole number, cut to 64 bits. -/
def sat (x : Int) : Int := if x > 9223372036854775807 then 9223372036854775807 else if x < -9223372036854775808 then -9223372036854775808 else x
def In (x : Int) : Prop := -9223372036854775808 ≤ x ∧ x ≤ 9223372036854775807
theorem in_of_wf {x : Int} (h : (Lit.int .i64 x).wf = true) : In x := bounds_i64 h
theorem sat_in (x : Int) : In (sat x) := by unfold sat In; split <;> (try split) <;> omega
theorem sat_id {x : Int} (h : In x) : sat x = x := by unfold sat; unfold In at h; rw [if_neg (by omega), if_neg (by omega)]
theorem sat_mono {x y : Int} (h : x ≤ y) : sat x ≤ sat y := by unfold sat; split <;> (try split) <;> (try split) <;> (try split) <;> omega

theorem add_tells (k : Nat) (a b : Int) (ha : In a) (hb : In b) : clamp_Add.f (k + 1) a b = some (sat (a + b)) := by
  unfold In at ha hb
  have hr1 : b > 0 → wrap64 (9223372036854775807 - b) = 9223372036854775807 - b := by intro h; unfold wrap64; omega
  have hr2 : b < 0 → wrap64 ((-9223372036854775808) - b) = (-9223372036854775808) - b := by intro h; unfold wrap64; omega
  have hr3 : In (a + b) → wrap64 (a + b) = a + b := by intro h; unfold In at h; unfold wrap64; omega
  unfold clamp_Add.f
  simp only [clamp_Add.j0]
  by_cases h1 : b > 0
  · rw [if_pos h1, hr1 h1]
    by_cases h2 : a > 9223372036854775807 - b
    · rw [if_pos (by simpa using h2)]; unfold sat; rw [if_pos (by omega)]
    · rw [if_neg (by simpa using h2), if_neg (by omega), hr3 (by unfold In; omega), sat_id (by unfold In; omega)]
  · rw [if_neg h1, if_neg (by simp)]
    by_cases h2 : b < 0
    · rw [if_pos h2, hr2 h2]
      by_cases h3 : a < (-9223372036854775808) - b
      · rw [if_pos h3]; unfold sat; rw [if_neg (by omega), if_pos (by omega)]
      · rw [if_neg h3, hr3 (by unfold In; omega), sat_id (by unfold In; omega)]
    · rw [if_neg h2, hr3 (by unfold In; omega), sat_id (by unfold In; omega)]
theorem mul64_tells (x y : Int) (hx0 : 0 ≤ x) (hx : x < 18446744073709551616) (hy0 : 0 ≤ y) (hy : y < 18446744073709551616) :
    bits_Mul64.f x y = some (x * y / 18446744073709551616, x * y % 18446744073709551616) := by
  have h := mul64_arith x y hx0 hx hy0 hy
  unfold bits_Mul64.f
  simp only [IntKind.wrap_u64]
  rw [and_low32 x hx0 hx, and_low32 y hy0 hy, and_low32 _ (by omega) (by omega), h]
theorem size_tells (a : Int) (ha : In a) : clamp_size.f a = some (if a < 0 then -a else a) := by
  unfold In at ha
  unfold clamp_size.f
  simp only [IntKind.wrap_u64]
  by_cases h : a < 0
  · rw [if_pos h, if_pos h]; congr 1; omega
  · rw [if_neg h, if_neg h]; congr 1; omega
theorem signed_tells (k : Nat) (n : Int) (b : Bool) (h0 : 0 ≤ n) (h1 : n < 18446744073709551616) : clamp_signed.f (k + 1) n b = some (sat (if b = true then -n else n)) := by
  unfold clamp_signed.f
  simp only [clamp_signed.j0]
  cases b with
  | true =>
    simp only [if_true]
    by_cases h2 : n > 9223372036854775807
    · rw [if_pos (by simpa using h2)]
      congr 1; unfold sat; rw [if_neg (by omega)]
      by_cases h3 : -n < -9223372036854775808
      · rw [if_pos h3]
      · rw [if_neg h3]; omega
    · rw [if_neg (by simpa using h2), sat_id (by unfold In; omega)]
      congr 1; unfold wrap64; omega
  | false =>
    simp only [Bool.false_eq_true, if_false]
    by_cases h2 : n > 9223372036854775807
    · rw [if_pos h2]; congr 1; unfold sat; rw [if_pos h2]
    · rw [if_neg h2, sat_id (by unfold In; omega)]; congr 1; unfold wrap64; omega
theorem prod_sign (a b : Int) : a * b = if ((decide (a < 0)) != (decide (b < 0))) = true then -((if a < 0 then -a else a) * (if b < 0 then -b else b)) else (if a < 0 then -a else a) * (if b < 0 then -b else b) := by
  by_cases h1 : a < 0 <;> by_cases h2 : b < 0 <;> simp [h1, h2, Int.neg_mul, Int.mul_neg]
theorem mul_tells (k : Nat) (a b : Int) (ha : In a) (hb : In b) : clamp_Mul.f (k + 1) a b = some (sat (a * b)) := by
  have hs := prod_sign a b
  unfold clamp_Mul.f
  rw [size_tells a ha, size_tells b hb]
  unfold In at ha hb
  simp only [Option.bind_some]
  have bx : 0 ≤ (if a < 0 then -a else a) ∧ (if a < 0 then -a else a) ≤ 9223372036854775808 := by split <;> omega
  have by_ : 0 ≤ (if b < 0 then -b else b) ∧ (if b < 0 then -b else b) ≤ 9223372036854775808 := by split <;> omega
  generalize (if a < 0 then -a else a) = x at *
  generalize (if b < 0 then -b else b) = y at *
  rw [mul64_tells x y bx.1 (by omega) by_.1 (by omega)]
  have hp : 0 ≤ x * y := Int.mul_nonneg bx.1 by_.1
  generalize x * y = m at *
  generalize ((decide (a < 0)) != (decide (b < 0))) = s at *
  rw [hs]
  simp only [Option.bind_some]
  by_cases h : m / 18446744073709551616 > 0
  · rw [if_pos h, signed_tells k _ s (by omega) (by omega), Option.bind_some]
    congr 1
    unfold sat
    cases s <;> simp <;> omega
  · rw [if_neg h, signed_tells k _ s (by omega) (by omega), Option.bind_some]
    have : m % 18446744073709551616 = m := by omega
    rw [this]

theorem cmul_does (x : Int) (h1 : -1099511627776 ≤ x) (h2 : x ≤ 1099511627776) (w : World) : Calls Try.prog 16 #[.int .i64 x, .int .i64 10] w fun e w' => e = .returned (.int .i64 (x * 10)) ∧ Below w.heap.size w w' := by
  have h := mul_tells 0 x 10 (by unfold In; omega) (by unfold In; omega)
  rw [sat_id (by unfold In; omega)] at h
  exact (clamp_Mul.calls 1 x 10 _ w h).mono fun e w' h => ⟨h.1, h.2.below⟩
theorem cadd_does (x y : Int) (h1 : -10995116277760 ≤ x) (h2 : x ≤ 10995116277760) (h3 : -1099511627776 ≤ y) (h4 : y ≤ 1099511627776) (w : World) : Calls Try.prog 15 #[.int .i64 x, .int .i64 y] w fun e w' => e = .returned (.int .i64 (x + y)) ∧ Below w.heap.size w w' := by
  have h := add_tells 0 x y (by unfold In; omega) (by unfold In; omega)
  rw [sat_id (by unfold In; omega)] at h
  exact (clamp_Add.calls 1 x y _ w h).mono fun e w' h => ⟨h.1, h.2.below⟩
end Go.Proofs.Ytjgeccnfdndllaa.Num
