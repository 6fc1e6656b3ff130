/- At the greatest and the least int the operations saturate as documented; no conditions. -/
import Derived.Test.YtfmhhlcdggomgaaPClampEndsx1
import Derived.Laws.MathBits
import Derived.OpenShut
namespace Go.Proofs.Ytfmhhlcdggomgaa.Pure
open Go.RowKit Go.Proofs.Ytfmhhlcdggomgaa.PClampEnds Go.Proofs.YtfmhhlcdggomgaaW.PrintWords Go.Proofs.YtfmhhlcdggomgaaW.PrintLast

/-- A whole number, cut to 64 bits. -/
def sat (x : Int) : Int := if x > 9223372036854775807 then 9223372036854775807 else if x < -9223372036854775808 then -9223372036854775808 else x
def In (x : Int) : Prop := -9223372036854775808 ≤ x ∧ x ≤ 9223372036854775807
theorem in_of_wf {x : Int} (h : (Lit.int .i64 x).wf = true) : In x := bounds_i64 h
theorem sat_in (x : Int) : In (sat x) := by unfold sat In; split <;> (try split) <;> omega
theorem sat_id {x : Int} (h : In x) : sat x = x := by unfold sat; unfold In at h; rw [if_neg (by omega), if_neg (by omega)]
theorem sat_mono {x y : Int} (h : x ≤ y) : sat x ≤ sat y := by unfold sat; split <;> (try split) <;> (try split) <;> (try split) <;> omega

theorem add_tells (k : Nat) (a b : Int) (ha : In a) (hb : In b) : clamp_Add.f (k + 1) a b = some (sat (a + b)) := by
  unfold In at ha hb
  have hr1 : b > 0 → wrap64 (9223372036854775807 - b) = 9223372036854775807 - b := by intro h; unfold wrap64; omega
  have hr2 : b < 0 → wrap64 ((-9223372036854775808) - b) = (-9223372036854775808) - b := by intro h; unfold wrap64; omega
  have hr3 : In (a + b) → wrap64 (a + b) = a + b := by intro h; unfold In at h; unfold wrap64; omega
  unfold clamp_Add.f
  simp only [clamp_Add.j0]
  by_cases h1 : b > 0
  · rw [if_pos h1, hr1 h1]
    by_cases h2 : a > 9223372036854775807 - b
    · rw [if_pos (by simpa using h2)]; unfold sat; rw [if_pos (by omega)]
    · rw [if_neg (by simpa using h2), if_neg (by omega), hr3 (by unfold In; omega), sat_id (by unfold In; omega)]
  · rw [if_neg h1, if_neg (by simp)]
    by_cases h2 : b < 0
    · rw [if_pos h2, hr2 h2]
      by_cases h3 : a < (-9223372036854775808) - b
      · rw [if_pos h3]; unfold sat; rw [if_neg (by omega), if_pos (by omega)]
      · rw [if_neg h3, hr3 (by unfold In; omega), sat_id (by unfold In; omega)]
    · rw [if_neg h2, hr3 (by unfold In; omega), sat_id (by unfold In; omega)]

theorem sub_tells (k : Nat) (a b : Int) (ha : In a) (hb : In b) : clamp_Sub.f (k + 1) a b = some (sat (a - b)) := by
  unfold In at ha hb
  have hr1 : b < 0 → wrap64 (9223372036854775807 + b) = 9223372036854775807 + b := by intro h; unfold wrap64; omega
  have hr2 : b > 0 → wrap64 ((-9223372036854775808) + b) = (-9223372036854775808) + b := by intro h; unfold wrap64; omega
  have hr3 : In (a - b) → wrap64 (a - b) = a - b := by intro h; unfold In at h; unfold wrap64; omega
  unfold clamp_Sub.f
  simp only [clamp_Sub.j0]
  by_cases h1 : b < 0
  · rw [if_pos h1, hr1 h1]
    by_cases h2 : a > 9223372036854775807 + b
    · rw [if_pos (by simpa using h2)]; unfold sat; rw [if_pos (by omega)]
    · rw [if_neg (by simpa using h2), if_neg (by omega), hr3 (by unfold In; omega), sat_id (by unfold In; omega)]
  · rw [if_neg h1, if_neg (by simp)]
    by_cases h2 : b > 0
    · rw [if_pos h2, hr2 h2]
      by_cases h3 : a < (-9223372036854775808) + b
      · rw [if_pos h3]; unfold sat; rw [if_neg (by omega), if_pos (by omega)]
      · rw [if_neg h3, hr3 (by unfold In; omega), sat_id (by unfold In; omega)]
    · rw [if_neg h2, hr3 (by unfold In; omega), sat_id (by unfold In; omega)]

theorem mul64_tells (x y : Int) (hx0 : 0 ≤ x) (hx : x < 18446744073709551616) (hy0 : 0 ≤ y) (hy : y < 18446744073709551616) :
    bits_Mul64.f x y = some (x * y / 18446744073709551616, x * y % 18446744073709551616) := by
  have h := mul64_arith x y hx0 hx hy0 hy
  unfold bits_Mul64.f
  simp only [IntKind.wrap_u64]
  rw [and_low32 x hx0 hx, and_low32 y hy0 hy, and_low32 _ (by omega) (by omega), h]
theorem size_tells (a : Int) (ha : In a) : clamp_size.f a = some (if a < 0 then -a else a) := by
  unfold In at ha
  unfold clamp_size.f
  simp only [IntKind.wrap_u64]
  by_cases h : a < 0
  · rw [if_pos h, if_pos h]; congr 1; omega
  · rw [if_neg h, if_neg h]; congr 1; omega
theorem signed_tells (k : Nat) (n : Int) (b : Bool) (h0 : 0 ≤ n) (h1 : n < 18446744073709551616) : clamp_signed.f (k + 1) n b = some (sat (if b = true then -n else n)) := by
  unfold clamp_signed.f
  simp only [clamp_signed.j0]
  cases b with
  | true =>
    simp only [if_true]
    by_cases h2 : n > 9223372036854775807
    · rw [if_pos (by simpa using h2)]
      congr 1; unfold sat; rw [if_neg (by omega)]
      by_cases h3 : -n < -9223372036854775808
      · rw [if_pos h3]
      · rw [if_neg h3]; omega
    · rw [if_neg (by simpa using h2), sat_id (by unfold In; omega)]
      congr 1; unfold wrap64; omega
  | false =>
    simp only [Bool.false_eq_true, if_false]
    by_cases h2 : n > 9223372036854775807
    · rw [if_pos h2]; congr 1; unfold sat; rw [if_pos h2]
    · rw [if_neg h2, sat_id (by unfold In; omega)]; congr 1; unfold wrap64; omega
theorem prod_sign (a b : Int) : a * b = if ((decide (a < 0)) != (decide (b < 0))) = true then -((if a < 0 then -a else a) * (if b < 0 then -b else b)) else (if a < 0 then -a else a) * (if b < 0 then -b else b) := by
  by_cases h1 : a < 0 <;> by_cases h2 : b < 0 <;> simp [h1, h2, Int.neg_mul, Int.mul_neg]
theorem mul_tells (k : Nat) (a b : Int) (ha : In a) (hb : In b) : clamp_Mul.f (k + 1) a b = some (sat (a * b)) := by
  have hs := prod_sign a b
  unfold clamp_Mul.f
  rw [size_tells a ha, size_tells b hb]
  unfold In at ha hb
  simp only [Option.bind_some]
  have bx : 0 ≤ (if a < 0 then -a else a) ∧ (if a < 0 then -a else a) ≤ 9223372036854775808 := by split <;> omega
  have by_ : 0 ≤ (if b < 0 then -b else b) ∧ (if b < 0 then -b else b) ≤ 9223372036854775808 := by split <;> omega
  generalize (if a < 0 then -a else a) = x at *
  generalize (if b < 0 then -b else b) = y at *
  rw [mul64_tells x y bx.1 (by omega) by_.1 (by omega)]
  have hp : 0 ≤ x * y := Int.mul_nonneg bx.1 by_.1
  generalize x * y = m at *
  generalize ((decide (a < 0)) != (decide (b < 0))) = s at *
  rw [hs]
  simp only [Option.bind_some]
  by_cases h : m / 18446744073709551616 > 0
  · rw [if_pos h, signed_tells k _ s (by omega) (by omega), Option.bind_some]
    congr 1
    unfold sat
    cases s <;> simp <;> omega
  · rw [if_neg h, signed_tells k _ s (by omega) (by omega), Option.bind_some]
    have : m % 18446744073709551616 = m := by omega
    rw [this]

theorem wrap_in {x : Int} (h : In x) : wrap64 x = x := by unfold In at h; unfold wrap64; omega
theorem quo_bound (a b : Int) (ha : In a) (hb : In b) (h0 : b ≠ 0) (h : ¬ (a = -9223372036854775808 ∧ b = -1)) : In (a.tdiv b) := by
  have hn : (a.tdiv b).natAbs = a.natAbs / b.natAbs := Int.natAbs_tdiv a b
  have hle : a.natAbs / b.natAbs ≤ a.natAbs := Nat.div_le_self _ _
  unfold In at *
  by_cases hm : (a.tdiv b).natAbs = 9223372036854775808
  · have hb1 : b.natAbs = 1 := by
      rcases Nat.lt_or_ge b.natAbs 2 with h2 | h2
      · omega
      · have : a.natAbs / b.natAbs ≤ a.natAbs / 2 := Nat.div_le_div_left h2 (by omega)
        omega
    have : b = 1 := by omega
    subst this
    rw [Int.tdiv_one]; exact ha
  · omega

theorem quo_sign (a b : Int) : a.tdiv b = if ((decide (a < 0)) != (decide (b < 0))) = true then -((if a < 0 then -a else a).tdiv (if b < 0 then -b else b)) else (if a < 0 then -a else a).tdiv (if b < 0 then -b else b) := by
  by_cases h1 : a < 0 <;> by_cases h2 : b < 0 <;> simp [h1, h2, Int.neg_tdiv, Int.tdiv_neg]
theorem div_tells (k : Nat) (a b : Int) (ha : In a) (hb : In b) : clamp_Div.f (k + 1) a b = some (if b = 0 then 0 else sat (a.tdiv b)) := by
  have hs := quo_sign a b
  unfold clamp_Div.f
  by_cases h0 : b = 0
  · rw [if_pos h0, if_pos h0]
  rw [if_neg h0, if_neg h0, size_tells a ha, size_tells b hb]
  unfold In at ha hb
  simp only [Option.bind_some]
  have bx : 0 ≤ (if a < 0 then -a else a) ∧ (if a < 0 then -a else a) ≤ 9223372036854775808 := by split <;> omega
  have by_ : 1 ≤ (if b < 0 then -b else b) ∧ (if b < 0 then -b else b) ≤ 9223372036854775808 := by split <;> omega
  generalize (if a < 0 then -a else a) = x at *
  generalize (if b < 0 then -b else b) = y at *
  generalize ((decide (a < 0)) != (decide (b < 0))) = s at *
  have e : x.tdiv y = x / y := Int.tdiv_eq_ediv_of_nonneg bx.1
  have q0 : 0 ≤ x / y := Int.ediv_nonneg bx.1 (by omega)
  have q1 : x / y ≤ x := Int.ediv_le_self y bx.1
  have ew : IntKind.u64.wrap (x.tdiv y) = x / y := by rw [IntKind.wrap_u64, e]; omega
  rw [if_neg (by omega), ew, signed_tells k _ s q0 (by omega), Option.bind_some, hs, e]

theorem alive_tells (k : Nat) : puppeteerlaw1_alive.f (k + 1) = some true := by
  unfold puppeteerlaw1_alive.f
  rw [add_tells k _ _ (by unfold In; omega) (by unfold In; omega), mul_tells k _ _ (by unfold In; omega) (by unfold In; omega)]
  rfl

theorem ClampEnds : puppeteerlaw1_ClampEnds.Pure := by
  intro n wn
  have hn := in_of_wf wn
  refine ⟨10, ?_⟩
  unfold puppeteerlaw1_ClampEnds.f
  rw [alive_tells 9]
  simp only [Option.bind_some, if_true]
  by_cases h : n < 1
  · rw [decide_eq_true h]; rfl
  rw [decide_eq_false h]
  simp only [puppeteerlaw1_ClampEnds.j0]
  unfold In at hn
  have hw : wrap64 (-n) = -n := by unfold wrap64; omega
  have H1 : In 9223372036854775807 := by unfold In; omega
  have H2 : In (-9223372036854775808) := by unfold In; omega
  have H3 : In n := hn
  have H4 : In (-n) := by unfold In; omega
  have H5 : In (-1) := by unfold In; omega
  have H6 : In 0 := by unfold In; omega
  have sm : ∀ {x : Int}, 9223372036854775807 ≤ x → sat x = 9223372036854775807 := by intro x h; unfold sat; split <;> (try split) <;> omega
  have sl : ∀ {x : Int}, x ≤ -9223372036854775808 → sat x = -9223372036854775808 := by intro x h; unfold sat; split <;> (try split) <;> omega
  rw [if_neg (by simp), hw, add_tells 8 _ _ H1 H3, sub_tells 8 _ _ H2 H3, add_tells 8 _ _ H2 H4, sub_tells 8 _ _ H1 H4, div_tells 8 _ _ H2 H5, mul_tells 8 _ _ H2 H4, mul_tells 8 _ _ H2 H3, sub_tells 8 _ _ H6 H2, div_tells 8 _ _ H3 H6]
  simp only [Option.bind_some]
  have e1 : sat (9223372036854775807 + n) = 9223372036854775807 := sm (by omega)
  have e2 : sat (-9223372036854775808 - n) = -9223372036854775808 := sl (by omega)
  have e3 : sat (-9223372036854775808 + -n) = -9223372036854775808 := sl (by omega)
  have e4 : sat (9223372036854775807 - -n) = 9223372036854775807 := sm (by omega)
  have e5 : sat ((-9223372036854775808 : Int).tdiv (-1)) = 9223372036854775807 := sm (by rw [Int.tdiv_neg, Int.tdiv_one]; omega)
  have e6 : sat (-9223372036854775808 * -n) = 9223372036854775807 := sm (by omega)
  have e7 : sat (-9223372036854775808 * n) = -9223372036854775808 := sl (by omega)
  have e8 : sat (0 - -9223372036854775808) = 9223372036854775807 := sm (by omega)
  have e9 : ¬ (-1 : Int) = 0 := by omega
  rw [e1, e2, e3, e4, if_neg e9, e5, e6, e7, e8]
  simp

end Go.Proofs.Ytfmhhlcdggomgaa.Pure
