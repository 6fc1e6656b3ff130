/- node: a row's node without its Kids, in memory of its own. For expressions of bounded size; no other condition. -/
import Derived.Test.YtfgpdpccfpilaaaLaidFlatOrder
import Derived.Test.YtfgpdpccfpilaaaBack1FlatOrder
set_option linter.unusedVariables false
namespace Go.Proofs.Ytfgpdpccfpilaaa.OpenFlatOrder
open Go.RowKit Go.Deep
open Go.Proofs.YtfgpdpccfpilaaaW.PrintWords Go.Proofs.YtfgpdpccfpilaaaW.PrintLast Go.Proofs.YtfgpdpccfpilaaaW.PrintMore Go.Proofs.Ytfgpdpccfpilaaa.PFlatOrder
set_option maxRecDepth 100000 in
set_option maxHeartbeats 12800000 in
theorem node_does (w : World) (y : S39) (A : Option Addr) (c : Nat) (B : Option Addr) (d : Nat) (h6 : szE y.f6 ≤ 2097152) (h7 : szEs y.f7 ≤ 2097152) (hA : y.f6.f3.length ≤ c) (gA : k24.C w A y.f6.f3.length y.f6.f3) (hB : y.f7.length ≤ d) (gB : k24.C w B y.f7.length y.f7) :
    Calls Try.prog 20 #[.agg #[.int .i64 y.f0, .int .i64 y.f1, .int .i64 y.f2, .int .i64 y.f3, .int .i64 y.f4, .string y.f5, .int .i64 y.f6.f0, .int .i64 y.f6.f1, .string y.f6.f2, .slice A y.f6.f3.length c, .slice B y.f7.length d]] w fun e w' => ∃ A' c' B' d', e = .returned (.agg #[.int .i64 y.f0, .int .i64 y.f1, .int .i64 y.f2, .string y.f5, .int .i64 y.f6.f0, .int .i64 y.f6.f1, .string y.f6.f2, .slice A' y.f6.f3.length c', .slice none 0 0, .slice B' y.f7.length d']) ∧ Below w.heap.size w w' ∧
      k24.R 24 w' w.heap.size tt (.slice A' y.f6.f3.length c') y.f6.f3 ∧ k24.R 24 w' w.heap.size tt (.slice B' y.f7.length d') y.f7 := by
  obtain ⟨a0, a1, a2, a3, a4, s5, ⟨e0, e1, e2, e3⟩, ws⟩ := y
  simp only at h6 h7 hA gA hB gB ⊢
  have hS := ((At.start0 (Below.refl w.heap.size w)).alloc #[.int .i64 a0, .int .i64 a1, .int .i64 a2, .int .i64 a3, .int .i64 a4, .string s5, .int .i64 e0, .int .i64 e1, .string e2, .slice A e3.length c, .slice B ws.length d] 39).alloc #[.int .i64 0, .int .i64 0, .int .i64 0, .string ⟨#[]⟩, .int .i64 0, .int .i64 0, .string ⟨#[]⟩, .slice none 0 0, .slice none 0 0, .slice none 0 0] 27
  obtain ⟨W, hW⟩ : ∃ W, W = (w.alloc (.cells #[.int .i64 a0, .int .i64 a1, .int .i64 a2, .int .i64 a3, .int .i64 a4, .string s5, .int .i64 e0, .int .i64 e1, .string e2, .slice A e3.length c, .slice B ws.length d] 39)).alloc (.cells #[.int .i64 0, .int .i64 0, .int .i64 0, .string ⟨#[]⟩, .int .i64 0, .int .i64 0, .string ⟨#[]⟩, .slice none 0 0, .slice none 0 0, .slice none 0 0] 27) := ⟨_, rfl⟩
  obtain ⟨p, hp⟩ : ∃ p, p = w.heap.size := ⟨_, rfl⟩
  obtain ⟨q, hq⟩ : ∃ q, q = w.heap.size + 1 := ⟨_, rfl⟩
  have hS : At (fun _ => False) w W (Hp.seps [Hp.blk q #[.int .i64 0, .int .i64 0, .int .i64 0, .string ⟨#[]⟩, .int .i64 0, .int .i64 0, .string ⟨#[]⟩, .slice none 0 0, .slice none 0 0, .slice none 0 0] 27, Hp.blk p #[.int .i64 a0, .int .i64 a1, .int .i64 a2, .int .i64 a3, .int .i64 a4, .string s5, .int .i64 e0, .int .i64 e1, .string e2, .slice A e3.length c, .slice B ws.length d] 39]) := by
    rw [hW, hp, hq]
    simpa using hS
  have hpb := hS.blkAt 1 rfl
  have hqb := hS.blkAt 0 rfl
  have hpq : p ≠ q := by omega
  have hqw : w.heap.size ≤ q := by omega
  have HW := As.mk (⟨hW.symm, hp.symm, hq.symm⟩ : _ ∧ _ ∧ _)
  have HQ := As.mk hqw
  have HBW := As.mk hS.bl
  have HC1 := As.mk (fun (V : World) (hb : Below W.heap.size W V) => (copy_all 2097152 (by omega)).2 ⟨e0, e1, e2, e3⟩ A c V h6 (Kd.C_below gA (HBW.out.trans (Below.mono hb HBW.out.size))) hA)
  have HC2 := As.mk (fun (V : World) (hb : Below W.heap.size W V) => (copy_all 2097152 (by omega)).1 ws B d V h7 (Kd.C_below gB (HBW.out.trans (Below.mono hb HBW.out.size))) hB)
  have hpl := blk_lt hpb
  have hql := blk_lt hqb
  have HSp : As (∀ V : World, V.heap[p]? = W.heap[p]? → (V.cell? ⟨p, 0, none⟩ = some (.int .i64 a0) ∧ V.cell? ⟨p, 1, none⟩ = some (.int .i64 a1) ∧ V.cell? ⟨p, 2, none⟩ = some (.int .i64 a2) ∧ V.cell? ⟨p, 5, none⟩ = some (.string s5) ∧ V.cell? ⟨p, 6, none⟩ = some (.int .i64 e0) ∧ V.cell? ⟨p, 7, none⟩ = some (.int .i64 e1) ∧ V.cell? ⟨p, 8, none⟩ = some (.string e2) ∧ V.cell? ⟨p, 9, none⟩ = some (.slice A e3.length c) ∧ V.cell? ⟨p, 10, none⟩ = some (.slice B ws.length d))) := ⟨fun V hV => by
    have h := hV.trans hpb
    exact ⟨cell_of_blk h 0, cell_of_blk h 1, cell_of_blk h 2, cell_of_blk h 5, cell_of_blk h 6, cell_of_blk h 7, cell_of_blk h 8, cell_of_blk h 9, cell_of_blk h 10⟩⟩
  have HSh : As (∀ V : World, Below W.heap.size W V → V.heap[p]? = W.heap[p]?) := ⟨fun V hV => hV.block p hpl⟩
  have HSb : As (∀ V : World, Below W.heap.size W V → (V.cell? ⟨p, 0, none⟩ = some (.int .i64 a0) ∧ V.cell? ⟨p, 1, none⟩ = some (.int .i64 a1) ∧ V.cell? ⟨p, 2, none⟩ = some (.int .i64 a2) ∧ V.cell? ⟨p, 5, none⟩ = some (.string s5) ∧ V.cell? ⟨p, 6, none⟩ = some (.int .i64 e0) ∧ V.cell? ⟨p, 7, none⟩ = some (.int .i64 e1) ∧ V.cell? ⟨p, 8, none⟩ = some (.string e2) ∧ V.cell? ⟨p, 9, none⟩ = some (.slice A e3.length c) ∧ V.cell? ⟨p, 10, none⟩ = some (.slice B ws.length d))) := ⟨fun V hV => HSp.out V (HSh.out V hV)⟩
  have HQb : As (∀ V : World, Below W.heap.size W V → V.heap[q]? = some (.cells #[.int .i64 0, .int .i64 0, .int .i64 0, .string ⟨#[]⟩, .int .i64 0, .int .i64 0, .string ⟨#[]⟩, .slice none 0 0, .slice none 0 0, .slice none 0 0] 27 (0, 0))) := ⟨fun V hV => (hV.block q hql).trans hqb⟩
  clear h6 h7 hA gA hB gB hS hpb hqb hW hp hq hqw
  go_enter Try.func20, Try.ntmps20
  go_upto_region 1 with fail
  rw [HW.out.1, HW.out.2.2, HW.out.2.1]
  clear HW
  go_region_held3 (fun V => V.cell? ⟨p, 0, none⟩ = some (.int .i64 a0) ∧ V.cell? ⟨p, 1, none⟩ = some (.int .i64 a1) ∧ V.cell? ⟨p, 2, none⟩ = some (.int .i64 a2) ∧ V.cell? ⟨p, 5, none⟩ = some (.string s5) ∧ V.cell? ⟨p, 6, none⟩ = some (.int .i64 e0) ∧ V.cell? ⟨p, 7, none⟩ = some (.int .i64 e1) ∧ V.cell? ⟨p, 8, none⟩ = some (.string e2) ∧ V.cell? ⟨p, 9, none⟩ = some (.slice A e3.length c) ∧ V.cell? ⟨p, 10, none⟩ = some (.slice B ws.length d))
    (first | (with_reducible refine HSp.out _ ?_; rw [blk_setCell_far hpq, blk_setCell_far hpq, blk_setCell_far hpq, blk_setCell_far hpq, blk_setCell_far hpq, blk_setCell_far hpq, blk_setCell_far hpq, blk_setCell_far hpq, blk_setCell_far hpq, blk_setCell_far hpq]; first | with_reducible exact HSh.out _ HB26.out | with_reducible exact HSh.out _ HB27.out) | with_reducible exact HSb.out _ (Below.drew (Below.refl _ _)) | with_reducible exact HSb.out _ HB26.out | with_reducible exact HSb.out _ HB27.out)
    (first
      | (go_at_call 26; (first | (have hV := HB27.out) | (have hV := Below.drew (Below.refl W.heap.size W))); refine (HC1.out _ hV).mono ?_; rintro e w1 ⟨v1, rfl, hb1, hR1⟩; obtain ⟨A1', c1', rfl⟩ := Kd.R_slice hR1; have HB26 := As.mk (hV.trans (Below.mono hb1 hV.size)); have HL26 := As.mk hb1; have HA1 := As.mk (fun (V : World) (h : Below w1.heap.size w1 V) => Kd.R_below (Kd.R_lower (Kd.R_mono (Kd.R_bound hR1) (ok' := fun k => W.heap.size ≤ k) (fun k hk => Nat.le_trans hV.size hk.2.1)) (Nat.le_trans HBW.out.size hV.size)) h); clear hV hb1 hR1; have hqc := HQb.out _ HB26.out; (try clear q0 q1 q2 q3 q4 q5 q6 q7 q8 q9 f0 f1 f2 f3 f4 f5 f6 f7 f8 f9); have q0 := (cell_of_blk hqc 0).trans rfl; have q1 := (cell_of_blk hqc 1).trans rfl; have q2 := (cell_of_blk hqc 2).trans rfl; have q3 := (cell_of_blk hqc 3).trans rfl; have q4 := (cell_of_blk hqc 4).trans rfl; have q5 := (cell_of_blk hqc 5).trans rfl; have q6 := (cell_of_blk hqc 6).trans rfl; have q7 := (cell_of_blk hqc 7).trans rfl; have q8 := (cell_of_blk hqc 8).trans rfl; have q9 := (cell_of_blk hqc 9).trans rfl; have f0 := frozen_of_blk hqc 0; have f1 := frozen_of_blk hqc 1; have f2 := frozen_of_blk hqc 2; have f3 := frozen_of_blk hqc 3; have f4 := frozen_of_blk hqc 4; have f5 := frozen_of_blk hqc 5; have f6 := frozen_of_blk hqc 6; have f7 := frozen_of_blk hqc 7; have f8 := frozen_of_blk hqc 8; have f9 := frozen_of_blk hqc 9;  clear hqc)
      | (go_at_call 27; (first | (have hV := HB26.out) | (have hV := Below.drew (Below.refl W.heap.size W))); refine (HC2.out _ hV).mono ?_; rintro e w2 ⟨v2, rfl, hb2, hR2⟩; obtain ⟨A2', c2', rfl⟩ := Kd.R_slice hR2; have HB27 := As.mk (hV.trans (Below.mono hb2 hV.size)); have HL27 := As.mk hb2; have HA2 := As.mk (fun (V : World) (h : Below w2.heap.size w2 V) => Kd.R_below (Kd.R_lower (Kd.R_mono (Kd.R_bound hR2) (ok' := fun k => W.heap.size ≤ k) (fun k hk => Nat.le_trans hV.size hk.2.1)) (Nat.le_trans HBW.out.size hV.size)) h); clear hV hb2 hR2; have hqc := HQb.out _ HB27.out; (try clear q0 q1 q2 q3 q4 q5 q6 q7 q8 q9 f0 f1 f2 f3 f4 f5 f6 f7 f8 f9); have q0 := (cell_of_blk hqc 0).trans rfl; have q1 := (cell_of_blk hqc 1).trans rfl; have q2 := (cell_of_blk hqc 2).trans rfl; have q3 := (cell_of_blk hqc 3).trans rfl; have q4 := (cell_of_blk hqc 4).trans rfl; have q5 := (cell_of_blk hqc 5).trans rfl; have q6 := (cell_of_blk hqc 6).trans rfl; have q7 := (cell_of_blk hqc 7).trans rfl; have q8 := (cell_of_blk hqc 8).trans rfl; have q9 := (cell_of_blk hqc 9).trans rfl; have f0 := frozen_of_blk hqc 0; have f1 := frozen_of_blk hqc 1; have f2 := frozen_of_blk hqc 2; have f3 := frozen_of_blk hqc 3; have f4 := frozen_of_blk hqc 4; have f5 := frozen_of_blk hqc 5; have f6 := frozen_of_blk hqc 6; have f7 := frozen_of_blk hqc 7; have f8 := frozen_of_blk hqc 8; have f9 := frozen_of_blk hqc 9;  clear hqc))
  all_goals (go_wp2_with fail)
  · refine bodyPost_ret (v := .agg #[.int .i64 a0, .int .i64 a1, .int .i64 a2, .string s5, .int .i64 e0, .int .i64 e1, .string e2, .slice A1' e3.length c1', .slice none 0 0, .slice A2' ws.length c2']) (by simp [results, Try.results20, go_sem, q0, q1, q2, q3, q4, q5, q6, q7, q8, q9]) rfl ?_
    refine ⟨A1', c1', A2', c2', rfl, ?_, ?_, ?_⟩
    · exact bl_set (bl_set (bl_set (bl_set (bl_set (bl_set (bl_set (bl_set (bl_set (bl_set (HBW.out.trans (Below.mono HB27.out HBW.out.size)) HQ.out _) HQ.out _) HQ.out _) HQ.out _) HQ.out _) HQ.out _) HQ.out _) HQ.out _) HQ.out _) HQ.out _
    · refine Kd.R_mono (Kd.R_step (w := w2) (HA1.out _ HL27.out) (fun k hk hk2 => ?_)) (fun _ _ => trivial)
      have h : k ≠ q := by have : W.heap.size ≤ k := hk; omega
      rw [blk_setCell_far h, blk_setCell_far h, blk_setCell_far h, blk_setCell_far h, blk_setCell_far h, blk_setCell_far h, blk_setCell_far h, blk_setCell_far h, blk_setCell_far h, blk_setCell_far h]
    · refine Kd.R_mono (Kd.R_step (w := w2) (HA2.out _ (Below.refl _ _)) (fun k hk hk2 => ?_)) (fun _ _ => trivial)
      have h : k ≠ q := by have : W.heap.size ≤ k := hk; omega
      rw [blk_setCell_far h, blk_setCell_far h, blk_setCell_far h, blk_setCell_far h, blk_setCell_far h, blk_setCell_far h, blk_setCell_far h, blk_setCell_far h, blk_setCell_far h, blk_setCell_far h]
theorem node_all : NodeDoes := node_does
end Go.Proofs.Ytfgpdpccfpilaaa.OpenFlatOrder
