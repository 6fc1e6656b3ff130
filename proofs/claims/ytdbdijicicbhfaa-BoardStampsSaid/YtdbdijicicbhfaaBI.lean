/- BoardForgets answers true: for all ids and values. -/
import Derived.Test.YtdbdijicicbhfaaBG
set_option linter.unusedVariables false
set_option linter.unusedSimpArgs false
namespace Go.Proofs.Ytdbdijicicbhfaa
open Go.RowKit
attribute [local go_sem high] eqId
def kF : KeyM := ⟨⟨#[107]⟩, 0, false⟩
def kG : KeyM := ⟨⟨#[115]⟩, 0, true⟩
theorem knowsF : Knows [kF, kG] ⟨#[107]⟩ kF := ⟨by decide, ⟨0, by decide +kernel, rfl⟩, rfl⟩
theorem knowsG : Knows [kF, kG] ⟨#[115]⟩ kG := ⟨by decide, ⟨1, by decide +kernel, rfl⟩, rfl⟩
theorem newFG : newE [kF, kG] = 0 := by decide +kernel
theorem nmsFG : nms false [kF, kG] = [⟨#[107]⟩] := by rfl
theorem plF (x : Int × Int) : plOf kF x ⟨#[107]⟩ = (x, ⟨#[107]⟩, false) := rfl
theorem plG (x : Int × Int) : plOf kG x ⟨#[115]⟩ = ((0, 0), ⟨#[115]⟩, true) := rfl
theorem cell_put (f : PF) (q r : PK) (y : Option (Int × Int)) (h : r ≠ q) : cellOf (fput f q y) r = cellOf f r := by simp [cellOf, fput, h]
theorem forgets_plain (x1 x2 : Int × Int) (n t0 t1 t2 : Int) (hne : x1 ≠ x2) (f1 f2 f3 : PF) (h1 : f1 = wF (fun _ => none) (plOf kF x1 ⟨#[107]⟩) n t0) (h2 : f2 = wF f1 (plOf kF x2 ⟨#[107]⟩) n t1) (h3 : f3 = wF f2 (plOf kG x1 ⟨#[115]⟩) n t2) :
    cellOf (forF f3 x1 [⟨#[107]⟩]) (plOf kF x1 ⟨#[107]⟩) = (0, 0) ∧ (cellOf (forF f3 x1 [⟨#[107]⟩]) (plOf kF x2 ⟨#[107]⟩)).1 = n ∧ (cellOf (forF f3 x1 [⟨#[107]⟩]) (plOf kG x1 ⟨#[115]⟩)).1 = n := by
  have e : forF f3 x1 [⟨#[107]⟩] = fput f3 (x1, ⟨#[107]⟩, false) none := rfl
  rw [e, plF, plF, plG]
  have hq : ((x2, ⟨#[107]⟩, false) : PK) ≠ (x1, ⟨#[107]⟩, false) := fun h => hne (by injection h with h _; exact h.symm)
  have hg : (((0, 0), ⟨#[115]⟩, true) : PK) ≠ (x1, ⟨#[107]⟩, false) := fun h => by injection h with _ h; injection h with _ h; cases h
  have hg2 : ((x2, ⟨#[107]⟩, false) : PK) ≠ ((0, 0), ⟨#[115]⟩, true) := fun h => by injection h with _ h; injection h with _ h; cases h
  refine ⟨by simp [cellOf, fput], ?_, ?_⟩
  · rw [cell_put _ _ _ _ hq, h3, plG, wF_other _ _ _ _ _ hg2, h2, plF]
    exact wF_val _ _ _ _
  · rw [cell_put _ _ _ _ hg, h3, plG]
    exact wF_val _ _ _ _
set_option maxRecDepth 100000 in
set_option maxHeartbeats 12800000 in
theorem forgets_walk (v1 : Value) (x1 : Int × Int) (v2 : Value) (x2 : Int × Int) (n : Int) (w : World) (h1 : IsId v1 x1) (h2 : IsId v2 x2) :
    Calls Try.prog 5 #[v1, v2, .int .i64 n] w fun e w' => e = .returned (.bool true) ∧ Below w.heap.size w w' := by
  obtain ⟨rfl, ok1⟩ := h1
  obtain ⟨rfl, ok2⟩ := h2
  have b1 := wN_bounds (fun _ => none) (plOf kF x1 ⟨#[107]⟩) n 0
  have HW1 := As.mk (fun p => write_tells p [kF, kG] 0 (fun _ => none) 0 x1 ⟨#[107]⟩ kF n knowsF ok1 ⟨by decide, by decide⟩)
  obtain ⟨f1, hf1⟩ : ∃ f, f = wF (fun _ => none) (plOf kF x1 ⟨#[107]⟩) n 0 := ⟨_, rfl⟩
  rw [← hf1] at HW1
  generalize wN (fun _ => none) (plOf kF x1 ⟨#[107]⟩) n 0 = t1 at *
  generalize wC (fun _ => none) (plOf kF x1 ⟨#[107]⟩) n 0 = n1 at *
  have b2 := wN_bounds f1 (plOf kF x2 ⟨#[107]⟩) n t1
  have HW2 := As.mk (fun p => write_tells p [kF, kG] n1 f1 t1 x2 ⟨#[107]⟩ kF n knowsF ok2 ⟨by omega, by omega⟩)
  obtain ⟨f2, hf2⟩ : ∃ f, f = wF f1 (plOf kF x2 ⟨#[107]⟩) n t1 := ⟨_, rfl⟩
  rw [← hf2] at HW2
  generalize wN f1 (plOf kF x2 ⟨#[107]⟩) n t1 = t2 at *
  generalize wC f1 (plOf kF x2 ⟨#[107]⟩) n n1 = n2 at *
  have HW3 := As.mk (fun p => write_tells p [kF, kG] n2 f2 t2 x1 ⟨#[115]⟩ kG n knowsG ok1 ⟨by omega, by omega⟩)
  obtain ⟨f3, hf3⟩ : ∃ f, f = wF f2 (plOf kG x1 ⟨#[115]⟩) n t2 := ⟨_, rfl⟩
  rw [← hf3] at HW3
  generalize wN f2 (plOf kG x1 ⟨#[115]⟩) n t2 = t3 at *
  generalize wC f2 (plOf kG x1 ⟨#[115]⟩) n n2 = n3 at *
  have HF := As.mk (fun p => forget_does p [kF, kG] n3 f3 t3 x1 ok1 (by decide) (by rw [nmsFG]; intro s hs; simp at hs; subst hs; decide))
  rw [nmsFG] at HF
  have HP : As (x1 ≠ x2 → _) := ⟨fun h => forgets_plain x1 x2 n 0 t1 t2 h f1 f2 f3 hf1 hf2 hf3⟩
  generalize forF f3 x1 [⟨#[107]⟩] = f4 at *
  have HR1 := As.mk (fun p => read_does p [kF, kG] n3 f4 t3 x1 ⟨#[107]⟩ kF knowsF ok1)
  have HR2 := As.mk (fun p => read_does p [kF, kG] n3 f4 t3 x2 ⟨#[107]⟩ kF knowsF ok2)
  have HR3 := As.mk (fun p => read_does p [kF, kG] n3 f4 t3 x1 ⟨#[115]⟩ kG knowsG ok1)
  have HT := As.mk (fun p => stamp_does p [kF, kG] n3 f4 t3 x1 ⟨#[107]⟩ kF knowsF ok1)
  clear hf1 hf2 hf3 b1 b2
  by_cases hq : x1.1 = x2.1 ∧ x1.2 = x2.2
  · obtain ⟨a, b⟩ := x1
    obtain ⟨c, d⟩ := x2
    simp only at hq HW1 HW2 HW3 HR1 HR2 HR3 HT HF
    obtain ⟨rfl, rfl⟩ := hq
    clear HP HW1 HW2 HW3 HR1 HR2 HR3 HT HF ok1 ok2
    have hS := At.start0 (Below.refl w.heap.size w)
    have hS := hS.alloc #[.int .i64 a, .int .i64 b] 23
    obtain ⟨q0, hq0⟩ : ∃ q, q = w.heap.size := ⟨_, rfl⟩
    obtain ⟨W0, hW0⟩ : ∃ V, V = w.alloc (.cells #[.int .i64 a, .int .i64 b] 23) := ⟨_, rfl⟩
    rw [← hq0, ← hW0] at hS
    have hS := hS.alloc #[.int .i64 a, .int .i64 b] 23
    obtain ⟨q1, hq1⟩ : ∃ q, q = W0.heap.size := ⟨_, rfl⟩
    obtain ⟨W1, hW1⟩ : ∃ V, V = W0.alloc (.cells #[.int .i64 a, .int .i64 b] 23) := ⟨_, rfl⟩
    rw [← hq1, ← hW1] at hS
    have Hq : As (w.alloc (.cells #[.int .i64 a, .int .i64 b] 23) = W0 ∧ w.heap.size = q0 ∧ W0.alloc (.cells #[.int .i64 a, .int .i64 b] 23) = W1 ∧ q0 + 1 = q1) := ⟨hW0.symm, hq0.symm, hW1.symm, by rw [hq1, hW0, hq0]; simp⟩
    clear hq0 hW0 hq1 hW1
    go_enter Try.func5, Try.ntmps5
    go_upto_region 1 with fail
    rw [Hq.out.1, Hq.out.2.1, Hq.out.2.2.1, Hq.out.2.2.2]
    have hw := Hq.out.2.1
    clear Hq
    go_wp2_with fail
    refine (hS.beside (alive_does _)).mono ?_
    rintro e w1 ⟨rfl, hS1⟩
    clear hS
    go_upto_region 2 with fail
    have hS2 := hS1.alloc #[.string ⟨#[107]⟩, .int .i64 0, .bool false, .string ⟨#[115]⟩, .int .i64 0, .bool true] 30
    have HC := As.mk (bnew_does (.slice (some ⟨w1.heap.size, 0, none⟩) 2 2) [kF, kG] _ (rd_blk [kF, kG] encKey_len (hS2.blkAt 0 rfl) (by simp)) (by intro x hx; simp at hx; rcases hx with rfl | rfl <;> decide) newFG)
    go_wp2_with fail
    refine HC.out.mono ?_
    rintro e w2 ⟨p, rfl, hSn⟩
    have hS3 := hS2.also hSn
    clear hS1 hS2 hSn HC
    have u0 := (hS3.cellAt 2 rfl 0).trans rfl
    have u1 := (hS3.cellAt 2 rfl 1).trans rfl
    have v0 := (hS3.cellAt 3 rfl 0).trans rfl
    have v1 := (hS3.cellAt 3 rfl 1).trans rfl
    go_wp2_with fail
    refine (num_does _ _).mono ?_
    rintro e w3 ⟨rfl, rfl⟩
    have t0 : (a == a) = true := by simp
    have t1 : (b == b) = true := by simp
    go_wp2_with fail
    go_ret
    exact ⟨rfl, hw ▸ hS3.bl⟩
  · have hne : x1 ≠ x2 := fun h => hq (by rw [h]; exact ⟨rfl, rfl⟩)
    obtain ⟨g1, g2, g3⟩ := HP.out hne
    rw [g1] at HR1 HT
    rw [g2] at HR2
    rw [g3] at HR3
    obtain ⟨a, b⟩ := x1
    obtain ⟨c, d⟩ := x2
    simp only at hq HW1 HW2 HW3 HR1 HR2 HR3 HT HF
    have t0 : (a == c && (b == d)) = false := by
      by_cases h1 : a = c
      · have h2 : b ≠ d := fun h => hq ⟨h1, h⟩
        simp [h2]
      · simp [h1]
    clear HP g1 g2 g3 hq hne ok1 ok2
    have hS := At.start0 (Below.refl w.heap.size w)
    have hS := hS.alloc #[.int .i64 a, .int .i64 b] 23
    obtain ⟨q0, hq0⟩ : ∃ q, q = w.heap.size := ⟨_, rfl⟩
    obtain ⟨W0, hW0⟩ : ∃ V, V = w.alloc (.cells #[.int .i64 a, .int .i64 b] 23) := ⟨_, rfl⟩
    rw [← hq0, ← hW0] at hS
    have hS := hS.alloc #[.int .i64 c, .int .i64 d] 23
    obtain ⟨q1, hq1⟩ : ∃ q, q = W0.heap.size := ⟨_, rfl⟩
    obtain ⟨W1, hW1⟩ : ∃ V, V = W0.alloc (.cells #[.int .i64 c, .int .i64 d] 23) := ⟨_, rfl⟩
    rw [← hq1, ← hW1] at hS
    have Hq : As (w.alloc (.cells #[.int .i64 a, .int .i64 b] 23) = W0 ∧ w.heap.size = q0 ∧ W0.alloc (.cells #[.int .i64 c, .int .i64 d] 23) = W1 ∧ q0 + 1 = q1) := ⟨hW0.symm, hq0.symm, hW1.symm, by rw [hq1, hW0, hq0]; simp⟩
    clear hq0 hW0 hq1 hW1
    go_enter Try.func5, Try.ntmps5
    go_upto_region 1 with fail
    rw [Hq.out.1, Hq.out.2.1, Hq.out.2.2.1, Hq.out.2.2.2]
    have hw := Hq.out.2.1
    clear Hq
    go_wp2_with fail
    refine (hS.beside (alive_does _)).mono ?_
    rintro e w1 ⟨rfl, hS1⟩
    clear hS
    go_upto_region 2 with fail
    have hS2 := hS1.alloc #[.string ⟨#[107]⟩, .int .i64 0, .bool false, .string ⟨#[115]⟩, .int .i64 0, .bool true] 30
    have HC := As.mk (bnew_does (.slice (some ⟨w1.heap.size, 0, none⟩) 2 2) [kF, kG] _ (rd_blk [kF, kG] encKey_len (hS2.blkAt 0 rfl) (by simp)) (by intro x hx; simp at hx; rcases hx with rfl | rfl <;> decide) newFG)
    go_wp2_with fail
    refine HC.out.mono ?_
    rintro e w2 ⟨p, rfl, hSn⟩
    have hS3 := hS2.also hSn
    clear hS1 hS2 hSn HC
    have hS3 : At (fun _ => False) w w2 (Hp.seps [isBd p [kF, kG] 0 (fun _ => none) 0, Hp.blk w1.heap.size #[.string ⟨#[107]⟩, .int .i64 0, .bool false, .string ⟨#[115]⟩, .int .i64 0, .bool true] 30, Hp.blk q1 #[.int .i64 c, .int .i64 d] 23, Hp.blk q0 #[.int .i64 a, .int .i64 b] 23]) := hS3
    have u0 := (hS3.cellAt 2 rfl 0).trans rfl
    have u1 := (hS3.cellAt 2 rfl 1).trans rfl
    have v0 := (hS3.cellAt 3 rfl 0).trans rfl
    have v1 := (hS3.cellAt 3 rfl 1).trans rfl
    go_wp2_with fail
    refine (num_does _ _).mono ?_
    rintro e w3 ⟨rfl, rfl⟩
    have hS3 := hS3.alloc #[.int .i64 0, .int .i64 n, .int .i64 0, .string ⟨#[]⟩, .complex .f64 0 0] 36
    obtain ⟨r0, hr0⟩ : ∃ q, q = w2.heap.size := ⟨_, rfl⟩
    obtain ⟨R0, hR0⟩ : ∃ V, V = w2.alloc (.cells #[.int .i64 0, .int .i64 n, .int .i64 0, .string ⟨#[]⟩, .complex .f64 0 0] 36) := ⟨_, rfl⟩
    rw [← hr0, ← hR0] at hS3
    have Hr : As (w2.alloc (.cells #[.int .i64 0, .int .i64 n, .int .i64 0, .string ⟨#[]⟩, .complex .f64 0 0] 36) = R0 ∧ w2.heap.size = r0) := ⟨hR0.symm, hr0.symm⟩
    clear hr0 hR0
    go_upto_region 8 with fail
    rw [Hr.out.1, Hr.out.2]
    clear Hr u0 u1 v0 v1 t0
    have u0 := (hS3.cellAt 3 rfl 0).trans rfl
    have u1 := (hS3.cellAt 3 rfl 1).trans rfl
    have v0 := (hS3.cellAt 4 rfl 0).trans rfl
    have v1 := (hS3.cellAt 4 rfl 1).trans rfl
    have z0 := (hS3.cellAt 0 rfl 0).trans rfl
    have z1 := (hS3.cellAt 0 rfl 1).trans rfl
    have z2 := (hS3.cellAt 0 rfl 2).trans rfl
    have z3 := (hS3.cellAt 0 rfl 3).trans rfl
    have z4 := (hS3.cellAt 0 rfl 4).trans rfl
    go_wp2_with fail
    refine (hS3.callAt 1 rfl (HW1.out p)).mono ?_
    rintro e w4 ⟨B, ⟨rfl, rfl⟩, hS4⟩
    have hS4 : At (fun _ => False) w w4 (Hp.seps [Hp.blk r0 #[.int .i64 0, .int .i64 n, .int .i64 0, .string ⟨#[]⟩, .complex .f64 0 0] 36, isBd p [kF, kG] n1 f1 t1, Hp.blk w1.heap.size #[.string ⟨#[107]⟩, .int .i64 0, .bool false, .string ⟨#[115]⟩, .int .i64 0, .bool true] 30, Hp.blk q1 #[.int .i64 c, .int .i64 d] 23, Hp.blk q0 #[.int .i64 a, .int .i64 b] 23]) := hS4
    clear hS3 HW1 u0 u1 v0 v1 z0 z1 z2 z3 z4
    have u0 := (hS4.cellAt 3 rfl 0).trans rfl
    have u1 := (hS4.cellAt 3 rfl 1).trans rfl
    have v0 := (hS4.cellAt 4 rfl 0).trans rfl
    have v1 := (hS4.cellAt 4 rfl 1).trans rfl
    have z0 := (hS4.cellAt 0 rfl 0).trans rfl
    have z1 := (hS4.cellAt 0 rfl 1).trans rfl
    have z2 := (hS4.cellAt 0 rfl 2).trans rfl
    have z3 := (hS4.cellAt 0 rfl 3).trans rfl
    have z4 := (hS4.cellAt 0 rfl 4).trans rfl
    go_wp2_with fail
    refine (hS4.callAt 1 rfl (HW2.out p)).mono ?_
    rintro e w5 ⟨B, ⟨rfl, rfl⟩, hS5⟩
    have hS5 : At (fun _ => False) w w5 (Hp.seps [Hp.blk r0 #[.int .i64 0, .int .i64 n, .int .i64 0, .string ⟨#[]⟩, .complex .f64 0 0] 36, isBd p [kF, kG] n2 f2 t2, Hp.blk w1.heap.size #[.string ⟨#[107]⟩, .int .i64 0, .bool false, .string ⟨#[115]⟩, .int .i64 0, .bool true] 30, Hp.blk q1 #[.int .i64 c, .int .i64 d] 23, Hp.blk q0 #[.int .i64 a, .int .i64 b] 23]) := hS5
    clear hS4 HW2 u0 u1 v0 v1 z0 z1 z2 z3 z4
    have u0 := (hS5.cellAt 3 rfl 0).trans rfl
    have u1 := (hS5.cellAt 3 rfl 1).trans rfl
    have v0 := (hS5.cellAt 4 rfl 0).trans rfl
    have v1 := (hS5.cellAt 4 rfl 1).trans rfl
    have z0 := (hS5.cellAt 0 rfl 0).trans rfl
    have z1 := (hS5.cellAt 0 rfl 1).trans rfl
    have z2 := (hS5.cellAt 0 rfl 2).trans rfl
    have z3 := (hS5.cellAt 0 rfl 3).trans rfl
    have z4 := (hS5.cellAt 0 rfl 4).trans rfl
    go_wp2_with fail
    refine (hS5.callAt 1 rfl (HW3.out p)).mono ?_
    rintro e w6 ⟨B, ⟨rfl, rfl⟩, hS6⟩
    have hS6 : At (fun _ => False) w w6 (Hp.seps [Hp.blk r0 #[.int .i64 0, .int .i64 n, .int .i64 0, .string ⟨#[]⟩, .complex .f64 0 0] 36, isBd p [kF, kG] n3 f3 t3, Hp.blk w1.heap.size #[.string ⟨#[107]⟩, .int .i64 0, .bool false, .string ⟨#[115]⟩, .int .i64 0, .bool true] 30, Hp.blk q1 #[.int .i64 c, .int .i64 d] 23, Hp.blk q0 #[.int .i64 a, .int .i64 b] 23]) := hS6
    clear hS5 HW3 u0 u1 v0 v1 z0 z1 z2 z3 z4
    go_wp2_with fail
    refine (hS6.callAt 1 rfl (now_does p [kF, kG] n3 f3 t3)).mono ?_
    rintro e w7 ⟨B, ⟨rfl, rfl⟩, hS7⟩
    have hS7 : At (fun _ => False) w w7 (Hp.seps [Hp.blk r0 #[.int .i64 0, .int .i64 n, .int .i64 0, .string ⟨#[]⟩, .complex .f64 0 0] 36, isBd p [kF, kG] n3 f3 t3, Hp.blk w1.heap.size #[.string ⟨#[107]⟩, .int .i64 0, .bool false, .string ⟨#[115]⟩, .int .i64 0, .bool true] 30, Hp.blk q1 #[.int .i64 c, .int .i64 d] 23, Hp.blk q0 #[.int .i64 a, .int .i64 b] 23]) := hS7
    clear hS6
    have u0 := (hS7.cellAt 3 rfl 0).trans rfl
    have u1 := (hS7.cellAt 3 rfl 1).trans rfl
    have v0 := (hS7.cellAt 4 rfl 0).trans rfl
    have v1 := (hS7.cellAt 4 rfl 1).trans rfl
    have z0 := (hS7.cellAt 0 rfl 0).trans rfl
    have z1 := (hS7.cellAt 0 rfl 1).trans rfl
    have z2 := (hS7.cellAt 0 rfl 2).trans rfl
    have z3 := (hS7.cellAt 0 rfl 3).trans rfl
    have z4 := (hS7.cellAt 0 rfl 4).trans rfl
    go_wp2_with fail
    refine (hS7.callAt 1 rfl (HF.out p)).mono ?_
    rintro e w8 ⟨B, ⟨rfl, rfl⟩, hS8⟩
    have hS8 : At (fun _ => False) w w8 (Hp.seps [Hp.blk r0 #[.int .i64 0, .int .i64 n, .int .i64 0, .string ⟨#[]⟩, .complex .f64 0 0] 36, isBd p [kF, kG] n3 f4 t3, Hp.blk w1.heap.size #[.string ⟨#[107]⟩, .int .i64 0, .bool false, .string ⟨#[115]⟩, .int .i64 0, .bool true] 30, Hp.blk q1 #[.int .i64 c, .int .i64 d] 23, Hp.blk q0 #[.int .i64 a, .int .i64 b] 23]) := hS8
    clear hS7 HF u0 u1 v0 v1 z0 z1 z2 z3 z4
    have u0 := (hS8.cellAt 3 rfl 0).trans rfl
    have u1 := (hS8.cellAt 3 rfl 1).trans rfl
    have v0 := (hS8.cellAt 4 rfl 0).trans rfl
    have v1 := (hS8.cellAt 4 rfl 1).trans rfl
    have z0 := (hS8.cellAt 0 rfl 0).trans rfl
    have z1 := (hS8.cellAt 0 rfl 1).trans rfl
    have z2 := (hS8.cellAt 0 rfl 2).trans rfl
    have z3 := (hS8.cellAt 0 rfl 3).trans rfl
    have z4 := (hS8.cellAt 0 rfl 4).trans rfl
    go_wp2_with fail
    refine (hS8.callAt 1 rfl (HR1.out p)).mono ?_
    rintro e w9 ⟨B, ⟨rfl, rfl⟩, hS9⟩
    have hS9 : At (fun _ => False) w w9 (Hp.seps [Hp.blk r0 #[.int .i64 0, .int .i64 n, .int .i64 0, .string ⟨#[]⟩, .complex .f64 0 0] 36, isBd p [kF, kG] n3 f4 t3, Hp.blk w1.heap.size #[.string ⟨#[107]⟩, .int .i64 0, .bool false, .string ⟨#[115]⟩, .int .i64 0, .bool true] 30, Hp.blk q1 #[.int .i64 c, .int .i64 d] 23, Hp.blk q0 #[.int .i64 a, .int .i64 b] 23]) := hS9
    clear hS8 HR1 u0 u1 v0 v1 z0 z1 z2 z3 z4
    have hS9 := hS9.alloc #[.int .i64 0, .int .i64 0, .int .i64 0, .string ⟨#[]⟩, .complex .f64 0 0] 36
    obtain ⟨s0, hs0⟩ : ∃ q, q = w9.heap.size := ⟨_, rfl⟩
    obtain ⟨S0, hS0⟩ : ∃ V, V = w9.alloc (.cells #[.int .i64 0, .int .i64 0, .int .i64 0, .string ⟨#[]⟩, .complex .f64 0 0] 36) := ⟨_, rfl⟩
    rw [← hs0, ← hS0] at hS9
    have Hs : As (w9.alloc (.cells #[.int .i64 0, .int .i64 0, .int .i64 0, .string ⟨#[]⟩, .complex .f64 0 0] 36) = S0 ∧ w9.heap.size = s0) := ⟨hS0.symm, hs0.symm⟩
    clear hs0 hS0
    go_upto_region 14 with fail
    rw [Hs.out.1, Hs.out.2]
    clear Hs
    have u0 := (hS9.cellAt 4 rfl 0).trans rfl
    have u1 := (hS9.cellAt 4 rfl 1).trans rfl
    have v0 := (hS9.cellAt 5 rfl 0).trans rfl
    have v1 := (hS9.cellAt 5 rfl 1).trans rfl
    have z0 := (hS9.cellAt 1 rfl 0).trans rfl
    have z1 := (hS9.cellAt 1 rfl 1).trans rfl
    have z2 := (hS9.cellAt 1 rfl 2).trans rfl
    have z3 := (hS9.cellAt 1 rfl 3).trans rfl
    have z4 := (hS9.cellAt 1 rfl 4).trans rfl
    go_wp2_with fail
    refine (hS9.callAt 2 rfl (HR2.out p)).mono ?_
    rintro e w10 ⟨B, ⟨rfl, rfl⟩, hS10⟩
    have hS10 : At (fun _ => False) w w10 (Hp.seps [Hp.blk s0 #[.int .i64 0, .int .i64 0, .int .i64 0, .string ⟨#[]⟩, .complex .f64 0 0] 36, Hp.blk r0 #[.int .i64 0, .int .i64 n, .int .i64 0, .string ⟨#[]⟩, .complex .f64 0 0] 36, isBd p [kF, kG] n3 f4 t3, Hp.blk w1.heap.size #[.string ⟨#[107]⟩, .int .i64 0, .bool false, .string ⟨#[115]⟩, .int .i64 0, .bool true] 30, Hp.blk q1 #[.int .i64 c, .int .i64 d] 23, Hp.blk q0 #[.int .i64 a, .int .i64 b] 23]) := hS10
    clear hS9 HR2 u0 u1 v0 v1 z0 z1 z2 z3 z4
    have hS10 := hS10.alloc #[.int .i64 0, .int .i64 n, .int .i64 0, .string ⟨#[]⟩, .complex .f64 0 0] 36
    obtain ⟨x0, hx0⟩ : ∃ q, q = w10.heap.size := ⟨_, rfl⟩
    obtain ⟨T0, hT0⟩ : ∃ V, V = w10.alloc (.cells #[.int .i64 0, .int .i64 n, .int .i64 0, .string ⟨#[]⟩, .complex .f64 0 0] 36) := ⟨_, rfl⟩
    rw [← hx0, ← hT0] at hS10
    have Hx : As (w10.alloc (.cells #[.int .i64 0, .int .i64 n, .int .i64 0, .string ⟨#[]⟩, .complex .f64 0 0] 36) = T0 ∧ w10.heap.size = x0) := ⟨hT0.symm, hx0.symm⟩
    clear hx0 hT0
    go_upto_region 15 with fail
    rw [Hx.out.1, Hx.out.2]
    clear Hx
    have u0 := (hS10.cellAt 5 rfl 0).trans rfl
    have u1 := (hS10.cellAt 5 rfl 1).trans rfl
    have v0 := (hS10.cellAt 6 rfl 0).trans rfl
    have v1 := (hS10.cellAt 6 rfl 1).trans rfl
    have z0 := (hS10.cellAt 2 rfl 0).trans rfl
    have z1 := (hS10.cellAt 2 rfl 1).trans rfl
    have z2 := (hS10.cellAt 2 rfl 2).trans rfl
    have z3 := (hS10.cellAt 2 rfl 3).trans rfl
    have z4 := (hS10.cellAt 2 rfl 4).trans rfl
    go_wp2_with fail
    refine (hS10.callAt 3 rfl (HR3.out p)).mono ?_
    rintro e w11 ⟨B, ⟨rfl, rfl⟩, hS11⟩
    have hS11 : At (fun _ => False) w w11 (Hp.seps [Hp.blk x0 #[.int .i64 0, .int .i64 n, .int .i64 0, .string ⟨#[]⟩, .complex .f64 0 0] 36, Hp.blk s0 #[.int .i64 0, .int .i64 0, .int .i64 0, .string ⟨#[]⟩, .complex .f64 0 0] 36, Hp.blk r0 #[.int .i64 0, .int .i64 n, .int .i64 0, .string ⟨#[]⟩, .complex .f64 0 0] 36, isBd p [kF, kG] n3 f4 t3, Hp.blk w1.heap.size #[.string ⟨#[107]⟩, .int .i64 0, .bool false, .string ⟨#[115]⟩, .int .i64 0, .bool true] 30, Hp.blk q1 #[.int .i64 c, .int .i64 d] 23, Hp.blk q0 #[.int .i64 a, .int .i64 b] 23]) := hS11
    clear hS10 HR3 u0 u1 v0 v1 z0 z1 z2 z3 z4
    have hS11 := hS11.alloc #[.int .i64 0, .int .i64 n, .int .i64 0, .string ⟨#[]⟩, .complex .f64 0 0] 36
    obtain ⟨y0, hy0⟩ : ∃ q, q = w11.heap.size := ⟨_, rfl⟩
    obtain ⟨U0, hU0⟩ : ∃ V, V = w11.alloc (.cells #[.int .i64 0, .int .i64 n, .int .i64 0, .string ⟨#[]⟩, .complex .f64 0 0] 36) := ⟨_, rfl⟩
    rw [← hy0, ← hU0] at hS11
    have Hy : As (w11.alloc (.cells #[.int .i64 0, .int .i64 n, .int .i64 0, .string ⟨#[]⟩, .complex .f64 0 0] 36) = U0 ∧ w11.heap.size = y0) := ⟨hU0.symm, hy0.symm⟩
    clear hy0 hU0
    go_upto_region 16 with fail
    rw [Hy.out.1, Hy.out.2]
    clear Hy
    have u0 := (hS11.cellAt 6 rfl 0).trans rfl
    have u1 := (hS11.cellAt 6 rfl 1).trans rfl
    have v0 := (hS11.cellAt 7 rfl 0).trans rfl
    have v1 := (hS11.cellAt 7 rfl 1).trans rfl
    have z0 := (hS11.cellAt 3 rfl 0).trans rfl
    have z1 := (hS11.cellAt 3 rfl 1).trans rfl
    have z2 := (hS11.cellAt 3 rfl 2).trans rfl
    have z3 := (hS11.cellAt 3 rfl 3).trans rfl
    have z4 := (hS11.cellAt 3 rfl 4).trans rfl
    go_wp2_with fail
    refine (hS11.callAt 4 rfl (HT.out p)).mono ?_
    rintro e w12 ⟨B, ⟨rfl, rfl⟩, hS12⟩
    have hS12 : At (fun _ => False) w w12 (Hp.seps [Hp.blk y0 #[.int .i64 0, .int .i64 n, .int .i64 0, .string ⟨#[]⟩, .complex .f64 0 0] 36, Hp.blk x0 #[.int .i64 0, .int .i64 n, .int .i64 0, .string ⟨#[]⟩, .complex .f64 0 0] 36, Hp.blk s0 #[.int .i64 0, .int .i64 0, .int .i64 0, .string ⟨#[]⟩, .complex .f64 0 0] 36, Hp.blk r0 #[.int .i64 0, .int .i64 n, .int .i64 0, .string ⟨#[]⟩, .complex .f64 0 0] 36, isBd p [kF, kG] n3 f4 t3, Hp.blk w1.heap.size #[.string ⟨#[107]⟩, .int .i64 0, .bool false, .string ⟨#[115]⟩, .int .i64 0, .bool true] 30, Hp.blk q1 #[.int .i64 c, .int .i64 d] 23, Hp.blk q0 #[.int .i64 a, .int .i64 b] 23]) := hS12
    clear hS11 HT u0 u1 v0 v1 z0 z1 z2 z3 z4
    have z0 : (n == n) = true := by simp
    have z1 : (t3 == t3) = true := by simp
    have i0 := (hS12.cellAt 0 rfl 0).trans rfl
    have i1 := (hS12.cellAt 0 rfl 1).trans rfl
    have i2 := (hS12.cellAt 0 rfl 2).trans rfl
    have i3 := (hS12.cellAt 0 rfl 3).trans rfl
    have i4 := (hS12.cellAt 0 rfl 4).trans rfl
    have j0 := (hS12.cellAt 1 rfl 0).trans rfl
    have j1 := (hS12.cellAt 1 rfl 1).trans rfl
    have j2 := (hS12.cellAt 1 rfl 2).trans rfl
    have j3 := (hS12.cellAt 1 rfl 3).trans rfl
    have j4 := (hS12.cellAt 1 rfl 4).trans rfl
    have k0 := (hS12.cellAt 2 rfl 0).trans rfl
    have k1 := (hS12.cellAt 2 rfl 1).trans rfl
    have k2 := (hS12.cellAt 2 rfl 2).trans rfl
    have k3 := (hS12.cellAt 2 rfl 3).trans rfl
    have k4 := (hS12.cellAt 2 rfl 4).trans rfl
    go_wp2_with fail
    refine (hS12.callAt 4 rfl (now_does p [kF, kG] n3 f4 t3)).mono ?_
    rintro e w13 ⟨B, ⟨rfl, rfl⟩, hS13⟩
    go_wp2_with fail
    go_ret
    exact ⟨rfl, hw ▸ hS13.bl⟩
end Go.Proofs.Ytdbdijicicbhfaa
