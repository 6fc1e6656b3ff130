/- The reference's Frames for small numbers. -/
import Derived.Test.YtkfkacdiekpkfaaFairP
namespace Go.Proofs.Ytkfkacdiekpkfaa
open Go.RowKit
set_option maxHeartbeats 1600000 in
theorem mul_small (a b p : Int) (ha : 1 ≤ a) (ha2 : a ≤ 12) (hb : 1 ≤ b) (hb2 : b ≤ 64) (hp : a * b = p) (w : World) : Calls Try.prog 23 #[.int .i64 a, .int .i64 b] w fun e w' => e = .returned (.int .i64 p) ∧ w = w' := by
  have h1 : 0 ≤ a * b := Int.mul_nonneg (by omega) (by omega)
  have h2 : a * b ≤ 12 * 64 := Int.mul_le_mul ha2 hb2 (by omega) (by omega)
  have h3 : p / b = a := by rw [← hp]; exact Int.mul_ediv_cancel a (by omega)
  have h4 : p.tdiv b = a := by rw [← hp]; exact Int.mul_tdiv_cancel a (by omega)
  rw [hp] at h1 h2
  have h5 : p ≤ 768 := h2
  have t1 : (a == 0) = false := beq_eq_false_iff_ne.2 (by omega)
  have t2 : (b == 0) = false := beq_eq_false_iff_ne.2 (by omega)
  have t3 : (a == -1) = false := beq_eq_false_iff_ne.2 (by omega)
  have t4 : (b == -1) = false := beq_eq_false_iff_ne.2 (by omega)
  have t5 : IntKind.i64.wrap p = p := IntWalk.i64_in _ (by omega)
  have t6 : IntKind.i64.wrap a = a := IntWalk.i64_in _ (by omega)
  clear h2
  go_enter Try.func23, Try.ntmps23
  go_wp2
  go_ret
  exact ⟨rfl, rfl⟩
set_option maxHeartbeats 1600000 in
theorem add_small (a : Int) (ha : 0 ≤ a) (ha2 : a ≤ 100000) (w : World) : Calls Try.prog 24 #[.int .i64 a, .int .i64 1] w fun e w' => e = .returned (.int .i64 (a + 1)) ∧ w = w' := by
  go_enter Try.func24, Try.ntmps24
  go_wp2
  all_goals first | (exfalso; omega) | skip
  go_ret
  exact ⟨rfl, rfl⟩
set_option maxHeartbeats 1600000 in
theorem frames_does (n m b : Int) (hn : 1 ≤ n) (hn2 : n ≤ 12) (hm : 1 ≤ m) (hm2 : m ≤ 64) (hb : 1 ≤ b) (hb2 : b ≤ 1000) (w : World) :
    Calls Try.prog 12 #[.int .i64 n, .int .i64 m, .int .i64 b] w fun e w' => ∃ F : Int, e = .returned (.int .i64 F) ∧ 0 ≤ F ∧ F ≤ 1000 ∧ n * m ≤ F * b ∧ w = w' := by
  obtain ⟨p, hp⟩ : ∃ p, n * m = p := ⟨_, rfl⟩
  have HC := As.mk (fun w => mul_small n m p hn hn2 hm hm2 hp w)
  have h1 : 0 ≤ n * m := Int.mul_nonneg (by omega) (by omega)
  have h2 : n * m ≤ 12 * 64 := Int.mul_le_mul hn2 hm2 (by omega) (by omega)
  rw [hp] at h1 h2
  have h2 : p ≤ 768 := h2
  have HP := As.mk hp
  clear hp
  obtain ⟨q, hq⟩ : ∃ q, p / b = q := ⟨_, rfl⟩
  obtain ⟨r, hr⟩ : ∃ r, p % b = r := ⟨_, rfl⟩
  have h3 : b * q + r = p := by rw [← hq, ← hr]; exact Int.mul_ediv_add_emod p b
  have h4 : 0 ≤ r := by rw [← hr]; exact Int.emod_nonneg _ (by omega)
  have h5 : r < b := by rw [← hr]; exact Int.emod_lt_of_pos _ (by omega)
  have h6 : 0 ≤ q := by rw [← hq]; exact Int.ediv_nonneg h1 (by omega)
  have h7 : q ≤ 768 := by rw [← hq]; exact Int.le_trans (Int.ediv_le_self b h1) h2
  have k1 : p.tdiv b = q := by rw [Int.tdiv_eq_ediv_of_nonneg h1]; exact hq
  have k2 : p.tmod b = r := by rw [Int.tmod_eq_emod_of_nonneg h1]; exact hr
  have H3 := As.mk h3
  have e1 : (q + 1) * b = b * q + b := by rw [Int.add_mul, Int.mul_comm, Int.one_mul]
  have HE := As.mk e1
  clear h3 e1
  by_cases hz : 0 < r
  · have t0 : decide (0 < r) = true := decide_eq_true hz
    have HA := As.mk (fun w => add_small (q + 1) (by omega) (by omega) w)
    go_enter Try.func12, Try.ntmps12
    go_wp2_with fail
    refine (HC.out _).mono ?_
    rintro e w' ⟨rfl, rfl⟩
    go_wp2_with fail
    refine (HA.out _).mono ?_
    rintro e w' ⟨rfl, rfl⟩
    go_wp2_with fail
    go_ret
    refine ⟨q + 1 + 1, rfl, by omega, by omega, ?_, rfl⟩
    have i1 := HP.out
    have i2 := H3.out
    have i3 := HE.out
    rw [Int.add_mul (q + 1), i3, i1]
    omega
  · have t0 : decide (0 < r) = false := decide_eq_false hz
    have HA := As.mk (fun w => add_small q (by omega) (by omega) w)
    go_enter Try.func12, Try.ntmps12
    go_wp2_with fail
    refine (HC.out _).mono ?_
    rintro e w' ⟨rfl, rfl⟩
    go_wp2_with fail
    refine (HA.out _).mono ?_
    rintro e w' ⟨rfl, rfl⟩
    go_wp2_with fail
    go_ret
    refine ⟨q + 1, rfl, by omega, by omega, ?_, rfl⟩
    have i1 := HP.out
    have i2 := H3.out
    have i3 := HE.out
    rw [i3, i1]
    omega
/-! bits -/
def low (x : Int) : Int := bits BinOp.and IntKind.i64 x 63
theorem low_le (x : Int) : 0 ≤ low x ∧ low x ≤ 63 := by
  have h1 : (BitVec.ofInt IntKind.i64.bits x &&& BitVec.ofInt IntKind.i64.bits 63).toNat ≤ 63 := by
    rw [BitVec.toNat_and]
    exact Nat.le_trans Nat.and_le_right (by decide)
  have e : low x = IntKind.i64.wrap (((BitVec.ofInt IntKind.i64.bits x &&& BitVec.ofInt IntKind.i64.bits 63).toNat : Nat) : Int) := rfl
  rw [e, IntWalk.i64_in _ (by omega)]
  omega
/-! a row of zeros -/
theorem rw_made {α : Type} (w : World) (e : TypeId) (z : Value) (n : Nat) (enc : α → List Value) (x : α) (hx : enc x = [z]) (hn : n ≤ maxLen) :
    Rw (w.alloc (.cells (madeCells #[z] n) e)) e 1 enc (.slice (some ⟨w.heap.size, 0, none⟩) n n) (tab n fun _ => x) := by
  have e1 : (tab n fun _ => x).flatMap enc = List.replicate n z := by
    unfold tab
    rw [List.flatMap_map]
    simp only [hx]
    induction n with
    | zero => rfl
    | succ n ih => rw [List.range_succ, List.flatMap_append, ih (by omega)]; simp [List.replicate_succ']
  refine ⟨by rw [e1, tab_len]; simp, .inr ⟨w.heap.size, n, _, by rw [tab_len], Nat.zero_le _, heap_alloc_new w _, by rw [tab_len]; exact Nat.le_refl _, hn, by simp [madeCells], ?_⟩⟩
  rw [e1, tab_len]
  apply List.ext_getElem?
  intro i
  simp only [madeCells]
  by_cases hi : i < n
  · rw [List.getElem?_take, if_pos (by omega)]
    simp [hi, Nat.mod_one]
  · rw [List.getElem?_eq_none (by simp; omega), List.getElem?_eq_none (by simp; omega)]
end Go.Proofs.Ytkfkacdiekpkfaa
