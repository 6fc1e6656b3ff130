/- Turn. -/
import Derived.Test.YtheacpidchnigaaB
namespace Go.Proofs.Ytheacpidchnigaa
open Go.RowKit
theorem fl_zero : Fl 0 0 := by
  have e : fb 0 = 0 := by decide +kernel
  have := fb_fl 0 (by simp)
  rwa [e] at this
theorem fl_one : Fl 4607182418800017408 1 := by
  have e : fb 1 = 4607182418800017408 := by decide +kernel
  have := fb_fl 1 (bd53 (by omega))
  rwa [e] at this
theorem and3 (n : Int) : bits .and .i64 n 3 = n % 4 := by
  have h127 : (BitVec.ofInt 64 3).toNat = 2 ^ 2 - 1 := by decide
  have key : (BitVec.ofInt 64 n &&& BitVec.ofInt 64 3).toNat = (n % ((2 ^ 64 : Nat) : Int)).toNat % 2 ^ 2 := by
    rw [BitVec.toNat_and, BitVec.toNat_ofInt, h127, Nat.and_two_pow_sub_one_eq_mod]
  show IntKind.i64.wrap ((BitVec.ofInt 64 n &&& BitVec.ofInt 64 3).toNat : Nat) = n % 4
  rw [key, IntKind.wrap_i64]
  omega
/-- Turned to the left k times. -/
def rot : Nat → Int × Int → Int × Int
  | 0, p => p
  | k + 1, p => (-(rot k p).2, (rot k p).1)
theorem rot_bd {p : Int × Int} (h1 : Bd p.1) (h2 : Bd p.2) : ∀ k, Bd (rot k p).1 ∧ Bd (rot k p).2
  | 0 => ⟨h1, h2⟩
  | k + 1 => by
    obtain ⟨a, b⟩ := rot_bd h1 h2 k
    refine ⟨?_, a⟩
    unfold Bd at *
    simp only [rot]
    omega
theorem mul_i {x y : Nat} {a b : Int} (hx : Fl x a) (hy : Fl y b) (ha : Bd a) (hb : Bd b) : ∃ re im, cMulBits x y 0 4607182418800017408 = some (re, im) ∧ Fl re (-b) ∧ Fl im a := by
  have bd : ∀ {n : Int}, Bd n → n.natAbs < 2 ^ 53 := fun h => bd53 h
  obtain ⟨ac, h1, f1⟩ := fl_mul hx fl_zero (by rw [Int.mul_zero]; exact bd ⟨by omega, by omega⟩)
  obtain ⟨bd', h2, f2⟩ := fl_mul hy fl_one (by rw [Int.mul_one]; exact bd hb)
  obtain ⟨re, h3, f3⟩ := fl_sub f1 f2 (by rw [Int.mul_zero, Int.mul_one, Int.zero_sub]; exact bd (by unfold Bd at *; omega))
  obtain ⟨ad, h4, f4⟩ := fl_mul hx fl_one (by rw [Int.mul_one]; exact bd ha)
  obtain ⟨bc, h5, f5⟩ := fl_mul hy fl_zero (by rw [Int.mul_zero]; exact bd ⟨by omega, by omega⟩)
  obtain ⟨im, h6, f6⟩ := fl_add f4 f5 (by rw [Int.mul_zero, Int.mul_one, Int.add_zero]; exact bd ha)
  rw [Int.mul_zero, Int.mul_one, Int.zero_sub] at f3
  rw [Int.mul_zero, Int.mul_one, Int.add_zero] at f6
  refine ⟨re, im, ?_, f3, f6⟩
  have g1 : floatBits .mul .f64 x 0 = some ac := h1
  have g2 : floatBits .mul .f64 y 4607182418800017408 = some bd' := h2
  have g3 : floatBits .sub .f64 ac bd' = some re := h3
  have g4 : floatBits .mul .f64 x 4607182418800017408 = some ad := h4
  have g5 : floatBits .mul .f64 y 0 = some bc := h5
  have g6 : floatBits .add .f64 ad bc = some im := h6
  unfold cMulBits
  rw [g1, g2, g4, g5]
  simp only [Option.bind_some]
  rw [g3, g6]
  simp only [Option.bind_some]
set_option maxHeartbeats 1600000 in
theorem turn_does (x y : Nat) (a b n : Int) (hx : Fl x a) (hy : Fl y b) (ha : Bd a) (hb : Bd b) (w : World) : Calls Try.prog 12 #[.complex .f64 x y, .int .i64 n] w fun e w' => e = .returned (.complex .f64 (fb (rot (n % 4).toNat (a, b)).1) (fb (rot (n % 4).toNat (a, b)).2)) ∧ w = w' := by
  have H1 := As.mk (fun w => parts_does x y a b hx hy ha hb w)
  have H2 := As.mk (fun w => of_does a b w)
  rw [cl_id ha.1 ha.2, cl_id hb.1 hb.2] at H2
  have HF := As.mk (⟨fl_bd ha, fl_bd hb⟩ : Fl (fb a) (rot 0 (a, b)).1 ∧ Fl (fb b) (rot 0 (a, b)).2)
  have HB := As.mk (rot_bd (p := (a, b)) ha hb)
  obtain ⟨k, hk⟩ : ∃ k : Nat, (n % 4).toNat = k := ⟨_, rfl⟩
  have hk2 : bits .and .i64 n 3 = (k : Int) := by rw [and3]; omega
  have hk3 : k < 4 := by omega
  rw [hk]
  clear hx hy ha hb hk
  go_enter Try.func12, Try.ntmps12
  go_wp2_with fail
  refine (H1.out _).mono ?_
  rintro e w' ⟨rfl, rfl⟩
  go_wp2_with fail
  refine (H2.out _).mono ?_
  rintro e w' ⟨rfl, rfl⟩
  go_wp2_with fail
  go_loop [8, 20] (fun zv iv => ∃ (i re im : Nat), i ≤ k ∧ iv = .int .i64 i ∧ zv = .complex .f64 re im ∧ As (Fl re (rot i (a, b)).1 ∧ Fl im (rot i (a, b)).2)) (fun _ iv => k - (intOf iv).toNat)
  case atStart => exact ⟨0, _, _, by omega, rfl, rfl, HF⟩
  case round =>
    obtain ⟨i, re, im, hi, rfl, rfl, hf⟩ := hrel
    by_cases hlt : i < k
    · obtain ⟨re2, im2, hm, f1, f2⟩ := mul_i hf.out.1 hf.out.2 (HB.out i).1 (HB.out i).2
      have HF2 : As (Fl re2 (rot (i + 1) (a, b)).1 ∧ Fl im2 (rot (i + 1) (a, b)).2) := ⟨f1, f2⟩
      have k1 : ∀ w, (binOp .mul 23 (.complex .f64 re im) (.complex .f64 0 4607182418800017408)).run Try.prog w = .ok (.complex .f64 re2 im2) w := fun w => run_complex_mul w 23 _ _ _ _ _ _ hm
      clear hm f1 f2 hf
      go_wp2_with fail
      go_round
      case rel => exact ⟨i + 1, re2, im2, by omega, by go_num, rfl, HF2⟩
      case measure => simp [intOf]; omega
    · obtain rfl : i = k := by omega
      have H3 := As.mk (fun w => parts_does re im _ _ hf.out.1 hf.out.2 (HB.out i).1 (HB.out i).2 w)
      have H4 := As.mk (fun w => of_does (rot i (a, b)).1 (rot i (a, b)).2 w)
      rw [cl_id (HB.out i).1.1 (HB.out i).1.2, cl_id (HB.out i).2.1 (HB.out i).2.2] at H4
      clear hf HF HB
      go_wp2_with fail
      refine (H3.out _).mono ?_
      rintro e w' ⟨rfl, rfl⟩
      go_wp2_with fail
      refine (H4.out _).mono ?_
      rintro e w' ⟨rfl, rfl⟩
      go_wp2_with fail
      go_ret
      exact ⟨rfl, rfl⟩
end Go.Proofs.Ytheacpidchnigaa
