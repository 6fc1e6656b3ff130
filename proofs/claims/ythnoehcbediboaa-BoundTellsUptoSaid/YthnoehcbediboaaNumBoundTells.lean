/- Add, Mul and Frames of the program: what they tell. Plain laws over the printed functions; no condition. -/
import Derived.Test.YthnoehcbediboaaTreeBoundTells
import Derived.Laws.MathBits
import Derived.OpenShut
set_option linter.unusedVariables false
namespace Go.Proofs.Ythnoehcbediboaa.OpenBoundTells
open Go.RowKit
open Go.Proofs.YthnoehcbediboaaW.PrintWords Go.Proofs.YthnoehcbediboaaW.PrintLast Go.Proofs.YthnoehcbediboaaW.PrintMore Go.Proofs.Ythnoehcbediboaa.PBoundTells
/-- A whole number, cut to 64 bits. -/
def sat (x : Int) : Int := if x > 9223372036854775807 then 9223372036854775807 else if x < -9223372036854775808 then -9223372036854775808 else x
def In (x : Int) : Prop := -9223372036854775808 ≤ x ∧ x ≤ 9223372036854775807
theorem in_of_wf {x : Int} (h : (Lit.int .i64 x).wf = true) : In x := bounds_i64 h
theorem sat_in (x : Int) : In (sat x) := by unfold sat In; split <;> (try split) <;> omega
theorem sat_id {x : Int} (h : In x) : sat x = x := by unfold sat; unfold In at h; rw [if_neg (by omega), if_neg (by omega)]
theorem sat_mono {x y : Int} (h : x ≤ y) : sat x ≤ sat y := by unfold sat; split <;> (try split) <;> (try split) <;> (try split) <;> omega

theorem add_tells (k : Nat) (a b : Int) (ha : In a) (hb : In b) : clamp_Add.f (k + 1) a b = some (sat (a + b)) := by
  unfold In at ha hb
  have hr1 : b > 0 → wrap64 (9223372036854775807 - b) = 9223372036854775807 - b := by intro h; unfold wrap64; omega
  have hr2 : b < 0 → wrap64 ((-9223372036854775808) - b) = (-9223372036854775808) - b := by intro h; unfold wrap64; omega
  have hr3 : In (a + b) → wrap64 (a + b) = a + b := by intro h; unfold In at h; unfold wrap64; omega
  unfold clamp_Add.f
  simp only [clamp_Add.j0]
  by_cases h1 : b > 0
  · rw [if_pos h1, hr1 h1]
    by_cases h2 : a > 9223372036854775807 - b
    · rw [if_pos (by simpa using h2)]; unfold sat; rw [if_pos (by omega)]
    · rw [if_neg (by simpa using h2), if_neg (by omega), hr3 (by unfold In; omega), sat_id (by unfold In; omega)]
  · rw [if_neg h1, if_neg (by simp)]
    by_cases h2 : b < 0
    · rw [if_pos h2, hr2 h2]
      by_cases h3 : a < (-9223372036854775808) - b
      · rw [if_pos h3]; unfold sat; rw [if_neg (by omega), if_pos (by omega)]
      · rw [if_neg h3, hr3 (by unfold In; omega), sat_id (by unfold In; omega)]
    · rw [if_neg h2, hr3 (by unfold In; omega), sat_id (by unfold In; omega)]
theorem mul64_tells (x y : Int) (hx0 : 0 ≤ x) (hx : x < 18446744073709551616) (hy0 : 0 ≤ y) (hy : y < 18446744073709551616) :
    bits_Mul64.f x y = some (x * y / 18446744073709551616, x * y % 18446744073709551616) := by
  have h := mul64_arith x y hx0 hx hy0 hy
  unfold bits_Mul64.f
  simp only [IntKind.wrap_u64]
  rw [and_low32 x hx0 hx, and_low32 y hy0 hy, and_low32 _ (by omega) (by omega), h]
theorem size_tells (a : Int) (ha : In a) : clamp_size.f a = some (if a < 0 then -a else a) := by
  unfold In at ha
  unfold clamp_size.f
  simp only [IntKind.wrap_u64]
  by_cases h : a < 0
  · rw [if_pos h, if_pos h]; congr 1; omega
  · rw [if_neg h, if_neg h]; congr 1; omega
theorem signed_tells (k : Nat) (n : Int) (b : Bool) (h0 : 0 ≤ n) (h1 : n < 18446744073709551616) : clamp_signed.f (k + 1) n b = some (sat (if b = true then -n else n)) := by
  unfold clamp_signed.f
  simp only [clamp_signed.j0]
  cases b with
  | true =>
    simp only [if_true]
    by_cases h2 : n > 9223372036854775807
    · rw [if_pos (by simpa using h2)]
      congr 1; unfold sat; rw [if_neg (by omega)]
      by_cases h3 : -n < -9223372036854775808
      · rw [if_pos h3]
      · rw [if_neg h3]; omega
    · rw [if_neg (by simpa using h2), sat_id (by unfold In; omega)]
      congr 1; unfold wrap64; omega
  | false =>
    simp only [Bool.false_eq_true, if_false]
    by_cases h2 : n > 9223372036854775807
    · rw [if_pos h2]; congr 1; unfold sat; rw [if_pos h2]
    · rw [if_neg h2, sat_id (by unfold In; omega)]; congr 1; unfold wrap64; omega
theorem prod_sign (a b : Int) : a * b = if ((decide (a < 0)) != (decide (b < 0))) = true then -((if a < 0 then -a else a) * (if b < 0 then -b else b)) else (if a < 0 then -a else a) * (if b < 0 then -b else b) := by
  by_cases h1 : a < 0 <;> by_cases h2 : b < 0 <;> simp [h1, h2, Int.neg_mul, Int.mul_neg]
theorem mul_tells (k : Nat) (a b : Int) (ha : In a) (hb : In b) : clamp_Mul.f (k + 1) a b = some (sat (a * b)) := by
  have hs := prod_sign a b
  unfold clamp_Mul.f
  rw [size_tells a ha, size_tells b hb]
  unfold In at ha hb
  simp only [Option.bind_some]
  have bx : 0 ≤ (if a < 0 then -a else a) ∧ (if a < 0 then -a else a) ≤ 9223372036854775808 := by split <;> omega
  have by_ : 0 ≤ (if b < 0 then -b else b) ∧ (if b < 0 then -b else b) ≤ 9223372036854775808 := by split <;> omega
  generalize (if a < 0 then -a else a) = x at *
  generalize (if b < 0 then -b else b) = y at *
  rw [mul64_tells x y bx.1 (by omega) by_.1 (by omega)]
  have hp : 0 ≤ x * y := Int.mul_nonneg bx.1 by_.1
  generalize x * y = m at *
  generalize ((decide (a < 0)) != (decide (b < 0))) = s at *
  rw [hs]
  simp only [Option.bind_some]
  by_cases h : m / 18446744073709551616 > 0
  · rw [if_pos h, signed_tells k _ s (by omega) (by omega), Option.bind_some]
    congr 1
    unfold sat
    cases s <;> simp <;> omega
  · rw [if_neg h, signed_tells k _ s (by omega) (by omega), Option.bind_some]
    have : m % 18446744073709551616 = m := by omega
    rw [this]
theorem frames_tells (k : Nat) (a s b : Int) (ha : 0 ≤ a) (ha2 : a ≤ 1048576) (hs : 0 ≤ s) (hs2 : s ≤ 1048576) (hb : 1 ≤ b) (hb2 : b ≤ 1099511627776) :
    bound_Frames.f (k + 1) a s b = some (a * s / b + (if a * s % b > 0 then 1 else 0) + 1) := by
  have hp : 0 ≤ a * s := Int.mul_nonneg ha hs
  have hp2 : a * s ≤ 1048576 * 1048576 := Int.mul_le_mul ha2 hs2 hs (by omega)
  have hx : mx 0 a = a := by unfold mx; omega
  have hy : mx 0 s = s := by unfold mx; omega
  unfold bound_Frames.f
  rw [if_neg (by omega), hx, hy, mul_tells k a s (by unfold In; omega) (by unfold In; omega), sat_id (by unfold In; omega)]
  simp only [Option.bind_some]
  rw [if_neg (by omega), Int.tmod_eq_emod_of_nonneg hp, Int.tdiv_eq_ediv_of_nonneg hp]
  have q0 : 0 ≤ a * s / b := Int.ediv_nonneg hp (by omega)
  have q1 : a * s / b ≤ a * s := Int.ediv_le_self b hp
  have w1 : wrap64 (a * s / b) = a * s / b := by unfold wrap64; omega
  have w2 : wrap64 (a * s / b + 1) = a * s / b + 1 := by unfold wrap64; omega
  rw [w1, w2]
  by_cases h : a * s % b > 0
  · rw [if_pos h, if_pos h, add_tells k _ _ (by unfold In; omega) (by unfold In; omega), sat_id (by unfold In; omega)]
    rfl
  · rw [if_neg h, if_neg h, add_tells k _ _ (by unfold In; omega) (by unfold In; omega), sat_id (by unfold In; omega)]
    simp
theorem alive_evt : Evt (fun k => puppeteerlaw23_alive.f k) true := Evt.succ 10 fun k hk => by
  obtain ⟨k, rfl⟩ : ∃ j, k = j + 3 := ⟨k - 3, by omega⟩
  unfold puppeteerlaw23_alive.f
  rw [frames_tells (k + 3) 1 5 2 (by omega) (by omega) (by omega) (by omega) (by omega) (by omega)]
  simp [bound_Steps.f, bound_Steps.j0, bound_Steps.l0]
end Go.Proofs.Ythnoehcbediboaa.OpenBoundTells
