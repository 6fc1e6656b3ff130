/- BoardScopes answers true: for all keys' and ids' values. -/
import Derived.Test.YtdbdijicicbhfaaBG
set_option linter.unusedVariables false
set_option linter.unusedSimpArgs false
namespace Go.Proofs.Ytdbdijicicbhfaa
open Go.RowKit
attribute [local go_sem high] eqId
def kS (sh : Bool) : KeyM := ⟨⟨#[107]⟩, 0, sh⟩
theorem knowsS (sh : Bool) : Knows [kS sh] ⟨#[107]⟩ (kS sh) := ⟨by decide, ⟨0, by cases sh <;> decide +kernel, rfl⟩, rfl⟩
theorem newS (sh : Bool) : newE [kS sh] = 0 := by cases sh <;> decide +kernel
theorem scopes_plain (sh : Bool) (x1 x2 : Int × Int) (n m : Int) (hne : x1 ≠ x2) :
    (sh = true → (cellOf (wF (fun _ => none) (plOf (kS sh) x1 ⟨#[107]⟩) n 0) (plOf (kS sh) x2 ⟨#[107]⟩)).1 = n ∧
      (cellOf (wF (wF (fun _ => none) (plOf (kS sh) x1 ⟨#[107]⟩) n 0) (plOf (kS sh) x2 ⟨#[107]⟩) m (wN (fun _ => none) (plOf (kS sh) x1 ⟨#[107]⟩) n 0)) (plOf (kS sh) x1 ⟨#[107]⟩)).1 = m) ∧
    (sh = false → (cellOf (wF (fun _ => none) (plOf (kS sh) x1 ⟨#[107]⟩) n 0) (plOf (kS sh) x2 ⟨#[107]⟩)).1 = 0 ∧
      (cellOf (wF (wF (fun _ => none) (plOf (kS sh) x1 ⟨#[107]⟩) n 0) (plOf (kS sh) x2 ⟨#[107]⟩) m (wN (fun _ => none) (plOf (kS sh) x1 ⟨#[107]⟩) n 0)) (plOf (kS sh) x1 ⟨#[107]⟩)).1 = n) := by
  constructor
  · intro h
    subst h
    have e : ∀ x, plOf (kS true) x ⟨#[107]⟩ = ((0, 0), ⟨#[107]⟩, true) := fun x => rfl
    rw [e, e]
    exact ⟨wF_val _ _ _ _, wF_val _ _ _ _⟩
  · intro h
    subst h
    have e : ∀ x, plOf (kS false) x ⟨#[107]⟩ = (x, ⟨#[107]⟩, false) := fun x => rfl
    rw [e, e]
    have hq : ((x2, ⟨#[107]⟩, false) : PK) ≠ (x1, ⟨#[107]⟩, false) := fun h => hne (by injection h with h _; exact h.symm)
    rw [wF_other _ _ _ _ _ hq, wF_other _ _ _ _ _ hq.symm]
    exact ⟨rfl, wF_val _ _ _ _⟩
set_option maxRecDepth 100000 in
set_option maxHeartbeats 12800000 in
theorem scopes_walk (sh : Bool) (v1 : Value) (x1 : Int × Int) (v2 : Value) (x2 : Int × Int) (n m : Int) (w : World) (h1 : IsId v1 x1) (h2 : IsId v2 x2) :
    Calls Try.prog 3 #[.bool sh, v1, v2, .int .i64 n, .int .i64 m] w fun e w' => e = .returned (.bool true) ∧ Below w.heap.size w w' := by
  obtain ⟨rfl, ok1⟩ := h1
  obtain ⟨rfl, ok2⟩ := h2
  have HW1 := As.mk (fun p => write_tells p [kS sh] 0 (fun _ => none) 0 x1 ⟨#[107]⟩ (kS sh) n (knowsS sh) ok1 ⟨by decide, by decide⟩)
  have hb := wN_bounds (fun _ => none) (plOf (kS sh) x1 ⟨#[107]⟩) n 0
  have HR1 := As.mk (fun p => read_does p [kS sh] (wC (fun _ => none) (plOf (kS sh) x1 ⟨#[107]⟩) n 0) (wF (fun _ => none) (plOf (kS sh) x1 ⟨#[107]⟩) n 0) (wN (fun _ => none) (plOf (kS sh) x1 ⟨#[107]⟩) n 0) x2 ⟨#[107]⟩ (kS sh) (knowsS sh) ok2)
  have HP : As (x1 ≠ x2 → _) := ⟨scopes_plain sh x1 x2 n m⟩
  generalize wC (fun _ => none) (plOf (kS sh) x1 ⟨#[107]⟩) n 0 = n1 at *
  generalize wF (fun _ => none) (plOf (kS sh) x1 ⟨#[107]⟩) n 0 = f1 at *
  generalize wN (fun _ => none) (plOf (kS sh) x1 ⟨#[107]⟩) n 0 = t1 at *
  have HW2 := As.mk (fun p => write_tells p [kS sh] n1 f1 t1 x2 ⟨#[107]⟩ (kS sh) m (knowsS sh) ok2 ⟨by omega, by omega⟩)
  have HR2 := As.mk (fun p => read_does p [kS sh] (wC f1 (plOf (kS sh) x2 ⟨#[107]⟩) m n1) (wF f1 (plOf (kS sh) x2 ⟨#[107]⟩) m t1) (wN f1 (plOf (kS sh) x2 ⟨#[107]⟩) m t1) x1 ⟨#[107]⟩ (kS sh) (knowsS sh) ok1)
  generalize wC f1 (plOf (kS sh) x2 ⟨#[107]⟩) m n1 = n2 at *
  generalize wF f1 (plOf (kS sh) x2 ⟨#[107]⟩) m t1 = f2 at *
  generalize wN f1 (plOf (kS sh) x2 ⟨#[107]⟩) m t1 = t2 at *
  generalize (cellOf f1 (plOf (kS sh) x2 ⟨#[107]⟩)).1 = X at *
  generalize (cellOf f2 (plOf (kS sh) x1 ⟨#[107]⟩)).1 = Y at *
  obtain ⟨a, b⟩ := x1
  obtain ⟨c, d⟩ := x2
  clear hb ok1 ok2
  simp only at HW1 HR1 HW2 HR2
  have hS := At.start0 (Below.refl w.heap.size w)
  have hS := hS.alloc #[.int .i64 a, .int .i64 b] 23
  obtain ⟨q0, hq0⟩ : ∃ q, q = w.heap.size := ⟨_, rfl⟩
  obtain ⟨W0, hW0⟩ : ∃ V, V = w.alloc (.cells #[.int .i64 a, .int .i64 b] 23) := ⟨_, rfl⟩
  rw [← hq0, ← hW0] at hS
  have hS := hS.alloc #[.int .i64 c, .int .i64 d] 23
  obtain ⟨q1, hq1⟩ : ∃ q, q = W0.heap.size := ⟨_, rfl⟩
  obtain ⟨W1, hW1⟩ : ∃ V, V = W0.alloc (.cells #[.int .i64 c, .int .i64 d] 23) := ⟨_, rfl⟩
  rw [← hq1, ← hW1] at hS
  have Hq : As (w.alloc (.cells #[.int .i64 a, .int .i64 b] 23) = W0 ∧ w.heap.size = q0 ∧ W0.alloc (.cells #[.int .i64 c, .int .i64 d] 23) = W1 ∧ q0 + 1 = q1) := ⟨hW0.symm, hq0.symm, hW1.symm, by rw [hq1, hW0, hq0]; simp⟩
  clear hq0 hW0 hq1 hW1
  go_enter Try.func3, Try.ntmps3
  go_upto_region 1 with fail
  rw [Hq.out.1, Hq.out.2.1, Hq.out.2.2.1, Hq.out.2.2.2]
  have hw := Hq.out.2.1
  clear Hq
  go_wp2_with fail
  refine (hS.beside (alive_does _)).mono ?_
  rintro e w1 ⟨rfl, hS1⟩
  clear hS
  go_upto_region 2 with fail
  have hS2 := hS1.alloc #[.string ⟨#[107]⟩, .int .i64 0, .bool sh] 30
  have HC := As.mk (bnew_does (.slice (some ⟨w1.heap.size, 0, none⟩) 1 1) [kS sh] _ (rd_blk [kS sh] encKey_len (hS2.blkAt 0 rfl) (by simp)) (by intro x hx; simp at hx; subst hx; simp only [kS]; decide) (newS sh))
  go_wp2_with fail
  refine HC.out.mono ?_
  rintro e w2 ⟨p, rfl, hSn⟩
  have hS3 := hS2.also hSn
  clear hS1 hS2 hSn HC
  have hS3 : At (fun _ => False) w w2 (Hp.seps [isBd p [kS sh] 0 (fun _ => none) 0, Hp.blk w1.heap.size #[.string ⟨#[107]⟩, .int .i64 0, .bool sh] 30, Hp.blk q1 #[.int .i64 c, .int .i64 d] 23, Hp.blk q0 #[.int .i64 a, .int .i64 b] 23]) := hS3
  have u0 := (hS3.cellAt 2 rfl 0).trans rfl
  have u1 := (hS3.cellAt 2 rfl 1).trans rfl
  have v0 := (hS3.cellAt 3 rfl 0).trans rfl
  have v1 := (hS3.cellAt 3 rfl 1).trans rfl
  go_wp2_with fail
  refine (num_does _ _).mono ?_
  rintro e w3 ⟨rfl, rfl⟩
  by_cases hq : a = c ∧ b = d
  · obtain ⟨rfl, rfl⟩ := hq
    have t0 : (a == a) = true := by simp
    have t1 : (b == b) = true := by simp
    go_wp2_with fail
    go_ret
    exact ⟨rfl, hw ▸ hS3.bl⟩
  · have hne : (a, b) ≠ (c, d) := fun h => hq (by injection h with h1 h2; exact ⟨h1, h2⟩)
    have t0 : (a == c && (b == d)) = false := by
      by_cases h1 : a = c
      · have h2 : b ≠ d := fun h => hq ⟨h1, h⟩
        simp [h2]
      · simp [h1]
    have HP2 := As.mk (HP.out hne)
    clear hq hne HP
    go_upto_region 5 with fail
    go_wp2_with fail
    refine (hS3.callAt 0 rfl (HW1.out p)).mono ?_
    rintro e w4 ⟨B, ⟨rfl, rfl⟩, hS4⟩
    have hS4 : At (fun _ => False) w w4 (Hp.seps [isBd p [kS sh] n1 f1 t1, Hp.blk w1.heap.size #[.string ⟨#[107]⟩, .int .i64 0, .bool sh] 30, Hp.blk q1 #[.int .i64 c, .int .i64 d] 23, Hp.blk q0 #[.int .i64 a, .int .i64 b] 23]) := hS4
    clear hS3 HW1 u0 u1 v0 v1 t0
    have u0 := (hS4.cellAt 2 rfl 0).trans rfl
    have u1 := (hS4.cellAt 2 rfl 1).trans rfl
    have v0 := (hS4.cellAt 3 rfl 0).trans rfl
    have v1 := (hS4.cellAt 3 rfl 1).trans rfl
    go_wp2_with fail
    refine (hS4.callAt 0 rfl (HR1.out p)).mono ?_
    rintro e w5 ⟨B, ⟨rfl, rfl⟩, hS5⟩
    have hS5 : At (fun _ => False) w w5 (Hp.seps [isBd p [kS sh] n1 f1 t1, Hp.blk w1.heap.size #[.string ⟨#[107]⟩, .int .i64 0, .bool sh] 30, Hp.blk q1 #[.int .i64 c, .int .i64 d] 23, Hp.blk q0 #[.int .i64 a, .int .i64 b] 23]) := hS5
    clear hS4 HR1 u0 u1 v0 v1
    have hS5 := hS5.alloc #[.int .i64 0, .int .i64 X, .int .i64 0, .string ⟨#[]⟩, .complex .f64 0 0] 36
    obtain ⟨r0, hr0⟩ : ∃ q, q = w5.heap.size := ⟨_, rfl⟩
    obtain ⟨R0, hR0⟩ : ∃ V, V = w5.alloc (.cells #[.int .i64 0, .int .i64 X, .int .i64 0, .string ⟨#[]⟩, .complex .f64 0 0] 36) := ⟨_, rfl⟩
    rw [← hr0, ← hR0] at hS5
    have Hr : As (w5.alloc (.cells #[.int .i64 0, .int .i64 X, .int .i64 0, .string ⟨#[]⟩, .complex .f64 0 0] 36) = R0 ∧ w5.heap.size = r0) := ⟨hR0.symm, hr0.symm⟩
    clear hr0 hR0
    go_upto_region 7 with fail
    rw [Hr.out.1, Hr.out.2]
    clear Hr
    have u0 := (hS5.cellAt 3 rfl 0).trans rfl
    have u1 := (hS5.cellAt 3 rfl 1).trans rfl
    have v0 := (hS5.cellAt 4 rfl 0).trans rfl
    have v1 := (hS5.cellAt 4 rfl 1).trans rfl
    go_wp2_with fail
    refine (hS5.callAt 1 rfl (HW2.out p)).mono ?_
    rintro e w6 ⟨B, ⟨rfl, rfl⟩, hS6⟩
    have hS6 : At (fun _ => False) w w6 (Hp.seps [Hp.blk r0 #[.int .i64 0, .int .i64 X, .int .i64 0, .string ⟨#[]⟩, .complex .f64 0 0] 36, isBd p [kS sh] n2 f2 t2, Hp.blk w1.heap.size #[.string ⟨#[107]⟩, .int .i64 0, .bool sh] 30, Hp.blk q1 #[.int .i64 c, .int .i64 d] 23, Hp.blk q0 #[.int .i64 a, .int .i64 b] 23]) := hS6
    clear hS5 HW2 u0 u1 v0 v1
    have u0 := (hS6.cellAt 3 rfl 0).trans rfl
    have u1 := (hS6.cellAt 3 rfl 1).trans rfl
    have v0 := (hS6.cellAt 4 rfl 0).trans rfl
    have v1 := (hS6.cellAt 4 rfl 1).trans rfl
    go_wp2_with fail
    refine (hS6.callAt 1 rfl (HR2.out p)).mono ?_
    rintro e w7 ⟨B, ⟨rfl, rfl⟩, hS7⟩
    have hS7 : At (fun _ => False) w w7 (Hp.seps [Hp.blk r0 #[.int .i64 0, .int .i64 X, .int .i64 0, .string ⟨#[]⟩, .complex .f64 0 0] 36, isBd p [kS sh] n2 f2 t2, Hp.blk w1.heap.size #[.string ⟨#[107]⟩, .int .i64 0, .bool sh] 30, Hp.blk q1 #[.int .i64 c, .int .i64 d] 23, Hp.blk q0 #[.int .i64 a, .int .i64 b] 23]) := hS7
    clear hS6 HR2 u0 u1 v0 v1
    have hS7 := hS7.alloc #[.int .i64 0, .int .i64 Y, .int .i64 0, .string ⟨#[]⟩, .complex .f64 0 0] 36
    obtain ⟨t0, ht0⟩ : ∃ q, q = w7.heap.size := ⟨_, rfl⟩
    obtain ⟨T0, hT0⟩ : ∃ V, V = w7.alloc (.cells #[.int .i64 0, .int .i64 Y, .int .i64 0, .string ⟨#[]⟩, .complex .f64 0 0] 36) := ⟨_, rfl⟩
    rw [← ht0, ← hT0] at hS7
    have Ht : As (w7.alloc (.cells #[.int .i64 0, .int .i64 Y, .int .i64 0, .string ⟨#[]⟩, .complex .f64 0 0] 36) = T0 ∧ w7.heap.size = t0) := ⟨hT0.symm, ht0.symm⟩
    clear ht0 hT0
    go_upto_region 9 with fail
    rw [Ht.out.1, Ht.out.2]
    clear Ht
    have g0 := (hS7.cellAt 0 rfl 0).trans rfl
    have g1 := (hS7.cellAt 0 rfl 1).trans rfl
    have g2 := (hS7.cellAt 0 rfl 2).trans rfl
    have g3 := (hS7.cellAt 0 rfl 3).trans rfl
    have g4 := (hS7.cellAt 0 rfl 4).trans rfl
    have k0 := (hS7.cellAt 1 rfl 0).trans rfl
    have k1 := (hS7.cellAt 1 rfl 1).trans rfl
    have k2 := (hS7.cellAt 1 rfl 2).trans rfl
    have k3 := (hS7.cellAt 1 rfl 3).trans rfl
    have k4 := (hS7.cellAt 1 rfl 4).trans rfl
    cases sh with
    | true =>
      obtain ⟨rfl, rfl⟩ := HP2.out.1 rfl
      have z0 : (X == X) = true := by simp
      have z1 : (Y == Y) = true := by simp
      go_wp2_with fail
      go_ret
      exact ⟨rfl, hw ▸ hS7.bl⟩
    | false =>
      obtain ⟨rfl, rfl⟩ := HP2.out.2 rfl
      have z1 : (Y == Y) = true := by simp
      go_wp2_with fail
      go_ret
      exact ⟨rfl, hw ▸ hS7.bl⟩
end Go.Proofs.Ytdbdijicicbhfaa
