/- Make: a tree laid from nothing. -/
import Derived.Test.YtfgpdpccfpilaaaLaidFlatOrder
set_option linter.unusedVariables false
namespace Go.Proofs.Ytfgpdpccfpilaaa.OpenFlatOrder
open Go.RowKit Go.Deep
open Go.Proofs.YtfgpdpccfpilaaaW.PrintWords Go.Proofs.YtfgpdpccfpilaaaW.PrintLast Go.Proofs.YtfgpdpccfpilaaaW.PrintMore Go.Proofs.Ytfgpdpccfpilaaa.PFlatOrder
set_option maxHeartbeats 3200000 in
theorem make_does (w : World) (x : S27) (A7 : Option Addr) (c7 : Nat) (A8 : Option Addr) (c8 : Nat) (A9 : Option Addr) (c9 : Nat) (hsz : szN x ≤ 2097152) (hN : NodeIn w x A7 c7 A8 c8 A9 c9) :
    Calls Try.prog 10 #[nodeV x A7 c7 A8 c8 A9 c9] w fun e w' => ∃ A' c', e = .returned (.slice A' (lay x (-1) []).length c') ∧ k39.R 39 w' w.heap.size tt (.slice A' (lay x (-1) []).length c') (lay x (-1) []) ∧ Below w.heap.size w w' := by
  obtain ⟨LY, hLY⟩ : ∃ r, r = lay x (-1) [] := ⟨_, rfl⟩
  obtain ⟨W, hW⟩ : ∃ W, W = w.alloc (.cells #[.int .i64 x.f0, .int .i64 x.f1, .int .i64 x.f2, .string x.f3, .int .i64 x.f4.f0, .int .i64 x.f4.f1, .string x.f4.f2, .slice A7 x.f4.f3.length c7, .slice A8 x.f5.length c8, .slice A9 x.f6.length c9] 27) := ⟨_, rfl⟩
  have hbW : Below w.heap.size w W := by rw [hW]; exact (Below.refl _ _).alloc (Nat.le_refl _) _
  have hC := laid_all 2097152 (Nat.le_refl _) w x A7 c7 A8 c8 A9 c9 W none 0 [] (-1) hsz hN hbW (Kd.R_nil _ _ _ _ _) (by simp only [List.length_nil]; omega)
  rw [← hLY] at hC ⊢
  unfold nodeV at hC ⊢
  have HC := As.mk hC
  have HW := As.mk hW.symm
  have HB := As.mk hbW
  obtain ⟨p, hp⟩ : ∃ p, p = w.heap.size := ⟨_, rfl⟩
  have hpb : W.heap[p]? = some (.cells #[.int .i64 x.f0, .int .i64 x.f1, .int .i64 x.f2, .string x.f3, .int .i64 x.f4.f0, .int .i64 x.f4.f1, .string x.f4.f2, .slice A7 x.f4.f3.length c7, .slice A8 x.f5.length c8, .slice A9 x.f6.length c9] 27 (0, 0)) := by rw [hW, hp]; exact ((At.start0 (Below.refl w.heap.size w)).alloc _ 27).blkAt 0 rfl
  obtain ⟨p0, p1, p2, p3, p4, p5, p6, p7, p8, p9⟩ := pcells hpb
  have HPp := As.mk hp.symm
  obtain ⟨z0, z1, z2, z3, ⟨z4, z5, z6, z7⟩, z8, z9⟩ := x
  simp only at p0 p1 p2 p3 p4 p5 p6 p7 p8 p9 HC HW ⊢
  clear hC hW hbW hpb hp hN hsz hLY
  go_enter Try.func10, Try.ntmps10
  go_upto_region 1 with fail
  rw [HW.out, HPp.out]
  go_wp2_with fail
  refine HC.out.mono ?_
  rintro e w1 ⟨A', c', rfl, hG⟩
  have HG := As.mk (⟨hG.R, hG.bl HB.out (Kd.R_nil _ _ _ _ _)⟩ : _ ∧ _)
  clear hG
  go_wp2_with fail
  go_ret
  exact ⟨A', c', rfl, HG.out.1, HG.out.2⟩
end Go.Proofs.Ytfgpdpccfpilaaa.OpenFlatOrder
