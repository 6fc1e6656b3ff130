/- Within is the reference's, lies within the limits and is idempotent; no conditions. -/
import Derived.Test.YtfmhhlcdggomgaaPClampWithinx1
import Derived.Laws.MathBits
import Derived.OpenShut
namespace Go.Proofs.Ytfmhhlcdggomgaa.Pure
open Go.RowKit Go.Proofs.Ytfmhhlcdggomgaa.PClampWithin Go.Proofs.YtfmhhlcdggomgaaW.PrintWords Go.Proofs.YtfmhhlcdggomgaaW.PrintLast

/-- A whole number, cut to 64 bits. -/
def sat (x : Int) : Int := if x > 9223372036854775807 then 9223372036854775807 else if x < -9223372036854775808 then -9223372036854775808 else x
def In (x : Int) : Prop := -9223372036854775808 ≤ x ∧ x ≤ 9223372036854775807
theorem in_of_wf {x : Int} (h : (Lit.int .i64 x).wf = true) : In x := bounds_i64 h
theorem sat_in (x : Int) : In (sat x) := by unfold sat In; split <;> (try split) <;> omega
theorem sat_id {x : Int} (h : In x) : sat x = x := by unfold sat; unfold In at h; rw [if_neg (by omega), if_neg (by omega)]
theorem sat_mono {x y : Int} (h : x ≤ y) : sat x ≤ sat y := by unfold sat; split <;> (try split) <;> (try split) <;> (try split) <;> omega

theorem add_tells (k : Nat) (a b : Int) (ha : In a) (hb : In b) : clamp_Add.f (k + 1) a b = some (sat (a + b)) := by
  unfold In at ha hb
  have hr1 : b > 0 → wrap64 (9223372036854775807 - b) = 9223372036854775807 - b := by intro h; unfold wrap64; omega
  have hr2 : b < 0 → wrap64 ((-9223372036854775808) - b) = (-9223372036854775808) - b := by intro h; unfold wrap64; omega
  have hr3 : In (a + b) → wrap64 (a + b) = a + b := by intro h; unfold In at h; unfold wrap64; omega
  unfold clamp_Add.f
  simp only [clamp_Add.j0]
  by_cases h1 : b > 0
  · rw [if_pos h1, hr1 h1]
    by_cases h2 : a > 9223372036854775807 - b
    · rw [if_pos (by simpa using h2)]; unfold sat; rw [if_pos (by omega)]
    · rw [if_neg (by simpa using h2), if_neg (by omega), hr3 (by unfold In; omega), sat_id (by unfold In; omega)]
  · rw [if_neg h1, if_neg (by simp)]
    by_cases h2 : b < 0
    · rw [if_pos h2, hr2 h2]
      by_cases h3 : a < (-9223372036854775808) - b
      · rw [if_pos h3]; unfold sat; rw [if_neg (by omega), if_pos (by omega)]
      · rw [if_neg h3, hr3 (by unfold In; omega), sat_id (by unfold In; omega)]
    · rw [if_neg h2, hr3 (by unfold In; omega), sat_id (by unfold In; omega)]

theorem mul64_tells (x y : Int) (hx0 : 0 ≤ x) (hx : x < 18446744073709551616) (hy0 : 0 ≤ y) (hy : y < 18446744073709551616) :
    bits_Mul64.f x y = some (x * y / 18446744073709551616, x * y % 18446744073709551616) := by
  have h := mul64_arith x y hx0 hx hy0 hy
  unfold bits_Mul64.f
  simp only [IntKind.wrap_u64]
  rw [and_low32 x hx0 hx, and_low32 y hy0 hy, and_low32 _ (by omega) (by omega), h]
theorem size_tells (a : Int) (ha : In a) : clamp_size.f a = some (if a < 0 then -a else a) := by
  unfold In at ha
  unfold clamp_size.f
  simp only [IntKind.wrap_u64]
  by_cases h : a < 0
  · rw [if_pos h, if_pos h]; congr 1; omega
  · rw [if_neg h, if_neg h]; congr 1; omega
theorem signed_tells (k : Nat) (n : Int) (b : Bool) (h0 : 0 ≤ n) (h1 : n < 18446744073709551616) : clamp_signed.f (k + 1) n b = some (sat (if b = true then -n else n)) := by
  unfold clamp_signed.f
  simp only [clamp_signed.j0]
  cases b with
  | true =>
    simp only [if_true]
    by_cases h2 : n > 9223372036854775807
    · rw [if_pos (by simpa using h2)]
      congr 1; unfold sat; rw [if_neg (by omega)]
      by_cases h3 : -n < -9223372036854775808
      · rw [if_pos h3]
      · rw [if_neg h3]; omega
    · rw [if_neg (by simpa using h2), sat_id (by unfold In; omega)]
      congr 1; unfold wrap64; omega
  | false =>
    simp only [Bool.false_eq_true, if_false]
    by_cases h2 : n > 9223372036854775807
    · rw [if_pos h2]; congr 1; unfold sat; rw [if_pos h2]
    · rw [if_neg h2, sat_id (by unfold In; omega)]; congr 1; unfold wrap64; omega
theorem prod_sign (a b : Int) : a * b = if ((decide (a < 0)) != (decide (b < 0))) = true then -((if a < 0 then -a else a) * (if b < 0 then -b else b)) else (if a < 0 then -a else a) * (if b < 0 then -b else b) := by
  by_cases h1 : a < 0 <;> by_cases h2 : b < 0 <;> simp [h1, h2, Int.neg_mul, Int.mul_neg]
theorem mul_tells (k : Nat) (a b : Int) (ha : In a) (hb : In b) : clamp_Mul.f (k + 1) a b = some (sat (a * b)) := by
  have hs := prod_sign a b
  unfold clamp_Mul.f
  rw [size_tells a ha, size_tells b hb]
  unfold In at ha hb
  simp only [Option.bind_some]
  have bx : 0 ≤ (if a < 0 then -a else a) ∧ (if a < 0 then -a else a) ≤ 9223372036854775808 := by split <;> omega
  have by_ : 0 ≤ (if b < 0 then -b else b) ∧ (if b < 0 then -b else b) ≤ 9223372036854775808 := by split <;> omega
  generalize (if a < 0 then -a else a) = x at *
  generalize (if b < 0 then -b else b) = y at *
  rw [mul64_tells x y bx.1 (by omega) by_.1 (by omega)]
  have hp : 0 ≤ x * y := Int.mul_nonneg bx.1 by_.1
  generalize x * y = m at *
  generalize ((decide (a < 0)) != (decide (b < 0))) = s at *
  rw [hs]
  simp only [Option.bind_some]
  by_cases h : m / 18446744073709551616 > 0
  · rw [if_pos h, signed_tells k _ s (by omega) (by omega), Option.bind_some]
    congr 1
    unfold sat
    cases s <;> simp <;> omega
  · rw [if_neg h, signed_tells k _ s (by omega) (by omega), Option.bind_some]
    have : m % 18446744073709551616 = m := by omega
    rw [this]

theorem alive_tells (k : Nat) : puppeteerlaw1_alive.f (k + 1) = some true := by
  unfold puppeteerlaw1_alive.f
  rw [add_tells k _ _ (by unfold In; omega) (by unfold In; omega), mul_tells k _ _ (by unfold In; omega) (by unfold In; omega)]
  rfl

theorem within_tells (n l h : Int) : clamp_Within.f n l h = some (if n < l ∨ h < l then l else if n > h then h else n) := by
  unfold clamp_Within.f
  congr 1
  unfold mx mn
  by_cases h1 : n < l ∨ h < l
  · rw [if_pos h1]; omega
  · rw [if_neg h1]
    by_cases h2 : n > h
    · rw [if_pos h2]; omega
    · rw [if_neg h2]; omega
theorem rwithin_tells (k : Nat) (n l h : Int) : puppeteerref1_Within.f (k + 1) n l h = some (if n < l ∨ h < l then l else if n > h then h else n) := by
  unfold puppeteerref1_Within.f
  simp only [puppeteerref1_Within.j0]
  by_cases h1 : n < l
  · rw [if_pos h1, if_pos (show n < l ∨ h < l from Or.inl h1)]; simp
  · rw [if_neg h1]
    by_cases h2 : h < l
    · rw [if_pos (by simpa using h2), if_pos (Or.inr h2)]
    · rw [if_neg (by simpa using h2), if_neg (show ¬ (n < l ∨ h < l) by omega)]
      split <;> rfl
theorem ClampWithin : puppeteerlaw1_ClampWithin.Pure := by
  intro n l h _ _ _
  refine ⟨10, ?_⟩
  unfold puppeteerlaw1_ClampWithin.f
  simp only [alive_tells 9, within_tells, rwithin_tells 9, Option.bind_some]
  have hm : ∀ m : Int, m = (if n < l ∨ h < l then l else if n > h then h else n) → m ≥ l ∧ (h < l ∨ m ≤ h) ∧ (if m < l ∨ h < l then l else if m > h then h else m) = m := by
    intro m hm
    by_cases h1 : n < l ∨ h < l
    · rw [if_pos h1] at hm; subst hm
      refine ⟨by omega, by omega, ?_⟩
      split
      · rfl
      · split <;> omega
    · rw [if_neg h1] at hm
      by_cases h2 : n > h
      · rw [if_pos h2] at hm; subst hm
        exact ⟨by omega, by omega, by rw [if_neg (by omega), if_neg (by omega)]⟩
      · rw [if_neg h2] at hm; subst hm
        exact ⟨by omega, by omega, by rw [if_neg (by omega), if_neg (by omega)]⟩
  obtain ⟨a, b, c⟩ := hm _ rfl
  generalize (if n < l ∨ h < l then l else if n > h then h else n) = m at *
  rw [if_pos trivial, if_pos trivial, if_pos a, c]
  rcases b with b | b
  · rw [if_pos b]; simp
  · simp [b]

end Go.Proofs.Ytfmhhlcdggomgaa.Pure
