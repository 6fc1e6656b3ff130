/- The remainder after Div is less than the divisor and has the dividend's sign; no conditions. -/
import Derived.Test.YtfmhhlcdggomgaaPClampPartsx1
import Derived.Laws.MathBits
import Derived.OpenShut
namespace Go.Proofs.Ytfmhhlcdggomgaa.Pure
open Go.RowKit Go.Proofs.Ytfmhhlcdggomgaa.PClampParts Go.Proofs.YtfmhhlcdggomgaaW.PrintWords Go.Proofs.YtfmhhlcdggomgaaW.PrintLast

/-- A whole number, cut to 64 bits. -/
def sat (x : Int) : Int := if x > 9223372036854775807 then 9223372036854775807 else if x < -9223372036854775808 then -9223372036854775808 else x
def In (x : Int) : Prop := -9223372036854775808 ≤ x ∧ x ≤ 9223372036854775807
theorem in_of_wf {x : Int} (h : (Lit.int .i64 x).wf = true) : In x := bounds_i64 h
theorem sat_in (x : Int) : In (sat x) := by unfold sat In; split <;> (try split) <;> omega
theorem sat_id {x : Int} (h : In x) : sat x = x := by unfold sat; unfold In at h; rw [if_neg (by omega), if_neg (by omega)]
theorem sat_mono {x y : Int} (h : x ≤ y) : sat x ≤ sat y := by unfold sat; split <;> (try split) <;> (try split) <;> (try split) <;> omega

theorem add_tells (k : Nat) (a b : Int) (ha : In a) (hb : In b) : clamp_Add.f (k + 1) a b = some (sat (a + b)) := by
  unfold In at ha hb
  have hr1 : b > 0 → wrap64 (9223372036854775807 - b) = 9223372036854775807 - b := by intro h; unfold wrap64; omega
  have hr2 : b < 0 → wrap64 ((-9223372036854775808) - b) = (-9223372036854775808) - b := by intro h; unfold wrap64; omega
  have hr3 : In (a + b) → wrap64 (a + b) = a + b := by intro h; unfold In at h; unfold wrap64; omega
  unfold clamp_Add.f
  simp only [clamp_Add.j0]
  by_cases h1 : b > 0
  · rw [if_pos h1, hr1 h1]
    by_cases h2 : a > 9223372036854775807 - b
    · rw [if_pos (by simpa using h2)]; unfold sat; rw [if_pos (by omega)]
    · rw [if_neg (by simpa using h2), if_neg (by omega), hr3 (by unfold In; omega), sat_id (by unfold In; omega)]
  · rw [if_neg h1, if_neg (by simp)]
    by_cases h2 : b < 0
    · rw [if_pos h2, hr2 h2]
      by_cases h3 : a < (-9223372036854775808) - b
      · rw [if_pos h3]; unfold sat; rw [if_neg (by omega), if_pos (by omega)]
      · rw [if_neg h3, hr3 (by unfold In; omega), sat_id (by unfold In; omega)]
    · rw [if_neg h2, hr3 (by unfold In; omega), sat_id (by unfold In; omega)]

theorem sub_tells (k : Nat) (a b : Int) (ha : In a) (hb : In b) : clamp_Sub.f (k + 1) a b = some (sat (a - b)) := by
  unfold In at ha hb
  have hr1 : b < 0 → wrap64 (9223372036854775807 + b) = 9223372036854775807 + b := by intro h; unfold wrap64; omega
  have hr2 : b > 0 → wrap64 ((-9223372036854775808) + b) = (-9223372036854775808) + b := by intro h; unfold wrap64; omega
  have hr3 : In (a - b) → wrap64 (a - b) = a - b := by intro h; unfold In at h; unfold wrap64; omega
  unfold clamp_Sub.f
  simp only [clamp_Sub.j0]
  by_cases h1 : b < 0
  · rw [if_pos h1, hr1 h1]
    by_cases h2 : a > 9223372036854775807 + b
    · rw [if_pos (by simpa using h2)]; unfold sat; rw [if_pos (by omega)]
    · rw [if_neg (by simpa using h2), if_neg (by omega), hr3 (by unfold In; omega), sat_id (by unfold In; omega)]
  · rw [if_neg h1, if_neg (by simp)]
    by_cases h2 : b > 0
    · rw [if_pos h2, hr2 h2]
      by_cases h3 : a < (-9223372036854775808) + b
      · rw [if_pos h3]; unfold sat; rw [if_neg (by omega), if_pos (by omega)]
      · rw [if_neg h3, hr3 (by unfold In; omega), sat_id (by unfold In; omega)]
    · rw [if_neg h2, hr3 (by unfold In; omega), sat_id (by unfold In; omega)]

theorem mul64_tells (x y : Int) (hx0 : 0 ≤ x) (hx : x < 18446744073709551616) (hy0 : 0 ≤ y) (hy : y < 18446744073709551616) :
    bits_Mul64.f x y = some (x * y / 18446744073709551616, x * y % 18446744073709551616) := by
  have h := mul64_arith x y hx0 hx hy0 hy
  unfold bits_Mul64.f
  simp only [IntKind.wrap_u64]
  rw [and_low32 x hx0 hx, and_low32 y hy0 hy, and_low32 _ (by omega) (by omega), h]
theorem size_tells (a : Int) (ha : In a) : clamp_size.f a = some (if a < 0 then -a else a) := by
  unfold In at ha
  unfold clamp_size.f
  simp only [IntKind.wrap_u64]
  by_cases h : a < 0
  · rw [if_pos h, if_pos h]; congr 1; omega
  · rw [if_neg h, if_neg h]; congr 1; omega
theorem signed_tells (k : Nat) (n : Int) (b : Bool) (h0 : 0 ≤ n) (h1 : n < 18446744073709551616) : clamp_signed.f (k + 1) n b = some (sat (if b = true then -n else n)) := by
  unfold clamp_signed.f
  simp only [clamp_signed.j0]
  cases b with
  | true =>
    simp only [if_true]
    by_cases h2 : n > 9223372036854775807
    · rw [if_pos (by simpa using h2)]
      congr 1; unfold sat; rw [if_neg (by omega)]
      by_cases h3 : -n < -9223372036854775808
      · rw [if_pos h3]
      · rw [if_neg h3]; omega
    · rw [if_neg (by simpa using h2), sat_id (by unfold In; omega)]
      congr 1; unfold wrap64; omega
  | false =>
    simp only [Bool.false_eq_true, if_false]
    by_cases h2 : n > 9223372036854775807
    · rw [if_pos h2]; congr 1; unfold sat; rw [if_pos h2]
    · rw [if_neg h2, sat_id (by unfold In; omega)]; congr 1; unfold wrap64; omega
theorem prod_sign (a b : Int) : a * b = if ((decide (a < 0)) != (decide (b < 0))) = true then -((if a < 0 then -a else a) * (if b < 0 then -b else b)) else (if a < 0 then -a else a) * (if b < 0 then -b else b) := by
  by_cases h1 : a < 0 <;> by_cases h2 : b < 0 <;> simp [h1, h2, Int.neg_mul, Int.mul_neg]
theorem mul_tells (k : Nat) (a b : Int) (ha : In a) (hb : In b) : clamp_Mul.f (k + 1) a b = some (sat (a * b)) := by
  have hs := prod_sign a b
  unfold clamp_Mul.f
  rw [size_tells a ha, size_tells b hb]
  unfold In at ha hb
  simp only [Option.bind_some]
  have bx : 0 ≤ (if a < 0 then -a else a) ∧ (if a < 0 then -a else a) ≤ 9223372036854775808 := by split <;> omega
  have by_ : 0 ≤ (if b < 0 then -b else b) ∧ (if b < 0 then -b else b) ≤ 9223372036854775808 := by split <;> omega
  generalize (if a < 0 then -a else a) = x at *
  generalize (if b < 0 then -b else b) = y at *
  rw [mul64_tells x y bx.1 (by omega) by_.1 (by omega)]
  have hp : 0 ≤ x * y := Int.mul_nonneg bx.1 by_.1
  generalize x * y = m at *
  generalize ((decide (a < 0)) != (decide (b < 0))) = s at *
  rw [hs]
  simp only [Option.bind_some]
  by_cases h : m / 18446744073709551616 > 0
  · rw [if_pos h, signed_tells k _ s (by omega) (by omega), Option.bind_some]
    congr 1
    unfold sat
    cases s <;> simp <;> omega
  · rw [if_neg h, signed_tells k _ s (by omega) (by omega), Option.bind_some]
    have : m % 18446744073709551616 = m := by omega
    rw [this]

theorem wrap_in {x : Int} (h : In x) : wrap64 x = x := by unfold In at h; unfold wrap64; omega
theorem quo_bound (a b : Int) (ha : In a) (hb : In b) (h0 : b ≠ 0) (h : ¬ (a = -9223372036854775808 ∧ b = -1)) : In (a.tdiv b) := by
  have hn : (a.tdiv b).natAbs = a.natAbs / b.natAbs := Int.natAbs_tdiv a b
  have hle : a.natAbs / b.natAbs ≤ a.natAbs := Nat.div_le_self _ _
  unfold In at *
  by_cases hm : (a.tdiv b).natAbs = 9223372036854775808
  · have hb1 : b.natAbs = 1 := by
      rcases Nat.lt_or_ge b.natAbs 2 with h2 | h2
      · omega
      · have : a.natAbs / b.natAbs ≤ a.natAbs / 2 := Nat.div_le_div_left h2 (by omega)
        omega
    have : b = 1 := by omega
    subst this
    rw [Int.tdiv_one]; exact ha
  · omega

theorem quo_sign (a b : Int) : a.tdiv b = if ((decide (a < 0)) != (decide (b < 0))) = true then -((if a < 0 then -a else a).tdiv (if b < 0 then -b else b)) else (if a < 0 then -a else a).tdiv (if b < 0 then -b else b) := by
  by_cases h1 : a < 0 <;> by_cases h2 : b < 0 <;> simp [h1, h2, Int.neg_tdiv, Int.tdiv_neg]
theorem div_tells (k : Nat) (a b : Int) (ha : In a) (hb : In b) : clamp_Div.f (k + 1) a b = some (if b = 0 then 0 else sat (a.tdiv b)) := by
  have hs := quo_sign a b
  unfold clamp_Div.f
  by_cases h0 : b = 0
  · rw [if_pos h0, if_pos h0]
  rw [if_neg h0, if_neg h0, size_tells a ha, size_tells b hb]
  unfold In at ha hb
  simp only [Option.bind_some]
  have bx : 0 ≤ (if a < 0 then -a else a) ∧ (if a < 0 then -a else a) ≤ 9223372036854775808 := by split <;> omega
  have by_ : 1 ≤ (if b < 0 then -b else b) ∧ (if b < 0 then -b else b) ≤ 9223372036854775808 := by split <;> omega
  generalize (if a < 0 then -a else a) = x at *
  generalize (if b < 0 then -b else b) = y at *
  generalize ((decide (a < 0)) != (decide (b < 0))) = s at *
  have e : x.tdiv y = x / y := Int.tdiv_eq_ediv_of_nonneg bx.1
  have q0 : 0 ≤ x / y := Int.ediv_nonneg bx.1 (by omega)
  have q1 : x / y ≤ x := Int.ediv_le_self y bx.1
  have ew : IntKind.u64.wrap (x.tdiv y) = x / y := by rw [IntKind.wrap_u64, e]; omega
  rw [if_neg (by omega), ew, signed_tells k _ s q0 (by omega), Option.bind_some, hs, e]

theorem alive_tells (k : Nat) : puppeteerlaw1_alive.f (k + 1) = some true := by
  unfold puppeteerlaw1_alive.f
  rw [add_tells k _ _ (by unfold In; omega) (by unfold In; omega), mul_tells k _ _ (by unfold In; omega) (by unfold In; omega)]
  rfl

theorem rest_tells (a b : Int) (ha : In a) (hb : In b) (h0 : b ≠ 0) (ha1 : a ≠ -9223372036854775808) : sat (a - sat (sat (a.tdiv b) * b)) = a.tmod b := by
  have hd := Int.mul_tdiv_add_tmod a b
  have hq := quo_bound a b ha hb h0 (fun h => ha1 h.1)
  have hr : (a.tmod b).natAbs ≤ a.natAbs := by rw [Int.natAbs_tmod]; exact Nat.mod_le _ _
  have hs : 0 ≤ a → 0 ≤ a.tmod b := fun h => Int.tmod_nonneg b h
  have hs2 : a ≤ 0 → a.tmod b ≤ 0 := fun h => by
    have := Int.tmod_nonneg b (show 0 ≤ -a by omega)
    rw [Int.neg_tmod] at this; omega
  unfold In at ha hb
  rw [sat_id hq, Int.mul_comm (a.tdiv b) b]
  generalize b * a.tdiv b = m at *
  generalize a.tmod b = r at *
  have hm : In m := by unfold In; omega
  rw [sat_id hm, sat_id (by unfold In; omega)]
  omega
theorem j0_tells (k : Nat) (a b : Int) (ha : In a) (hb : In b) (h0 : b ≠ 0) (ha1 : a ≠ -9223372036854775808) (hb1 : b ≠ -9223372036854775808) : puppeteerlaw1_ClampParts.j0 (k + 2) a b true false = some true := by
  have hr := rest_tells a b ha hb h0 ha1
  have hlt : (a.tmod b).natAbs < b.natAbs := by rw [Int.natAbs_tmod]; exact Nat.mod_lt _ (by omega)
  have hs : 0 ≤ a → 0 ≤ a.tmod b := fun h => Int.tmod_nonneg b h
  have hs2 : a ≤ 0 → a.tmod b ≤ 0 := fun h => by
    have := Int.tmod_nonneg b (show 0 ≤ -a by omega)
    rw [Int.neg_tmod] at this; omega
  simp only [puppeteerlaw1_ClampParts.j0]
  rw [if_neg (by simp), div_tells k a b ha hb, if_neg h0]
  simp only [Option.bind_some]
  rw [mul_tells k _ b (sat_in _) hb]
  simp only [Option.bind_some]
  rw [sub_tells k a _ ha (sat_in _)]
  simp only [Option.bind_some]
  rw [hr]
  generalize a.tmod b = r at *
  unfold In at ha hb
  have hw : wrap64 (-b) = -b := by unfold wrap64; omega
  have hw2 : wrap64 (-(-b)) = b := by unfold wrap64; omega
  have hend : r ≠ 0 → ((decide (r < 0)) == (decide (a < 0))) = true := by
    intro h
    by_cases h1 : a < 0
    · rw [decide_eq_true h1, decide_eq_true (by omega)]; rfl
    · rw [decide_eq_false h1, decide_eq_false (by omega)]; rfl
  rw [hw, hw2]
  by_cases h1 : b < 0
  · rw [if_pos h1, if_pos (by omega), if_pos (by omega)]
    by_cases h2 : r = 0
    · rw [if_pos h2]
    · rw [if_neg h2, hend h2]
  · rw [if_neg h1, if_pos (by omega), if_pos (by omega)]
    by_cases h2 : r = 0
    · rw [if_pos h2]
    · rw [if_neg h2, hend h2]
theorem ClampParts : puppeteerlaw1_ClampParts.Pure := by
  intro a b wa wb
  have ha := in_of_wf wa
  have hb := in_of_wf wb
  refine ⟨10, ?_⟩
  unfold puppeteerlaw1_ClampParts.f
  rw [alive_tells 9]
  simp only [Option.bind_some, if_true]
  by_cases h0 : b = 0
  · rw [if_pos h0]; rfl
  rw [if_neg h0]
  by_cases h1 : a = -9223372036854775808
  · rw [if_pos h1]; rfl
  rw [if_neg h1]
  by_cases h2 : b = -9223372036854775808
  · rw [beq_iff_eq.2 h2]; rfl
  rw [beq_eq_false_iff_ne.2 h2]
  exact j0_tells 8 a b ha hb h0 h1 h2

end Go.Proofs.Ytfmhhlcdggomgaa.Pure
