/- Pop. -/
import Derived.Test.YthnojjlaicajhaaF
namespace Go.Proofs.Ythnojjlaicajhaa
open Go.RowKit
theorem hp_openL {F0 : Nat → Prop} {w0 w : World} {t p : Nat} {xs : List Item} {l : List Hp} (h : At F0 w0 w (Hp.seps (isHp t p xs :: l))) : ∃ A c, xs.length ≤ c ∧ xs.length ≤ 9223372036854775807 ∧ At F0 w0 w (Hp.seps (Hp.blk p #[.slice A xs.length c] t :: Hp.row 32 3 encItem (.slice A xs.length c) xs :: l)) := by
  obtain ⟨sv, h⟩ := h.openAt (f := fun sv => [Hp.blk p #[sv] t, Hp.row 32 3 encItem sv xs]) 0 rfl
  obtain ⟨A, c, rfl, h1, h2⟩ := (h.rowAt 1 rfl).shape
  exact ⟨A, c, h1, h2, h⟩
theorem hp_closeL {F0 : Nat → Prop} {w0 w : World} {t p : Nat} {xs : List Item} {l : List Hp} {sv : Value} (h : At F0 w0 w (Hp.seps (Hp.blk p #[sv] t :: Hp.row 32 3 encItem sv xs :: l))) : At F0 w0 w (Hp.seps (isHp t p xs :: l)) :=
  At.closeL (f := fun sv => [Hp.blk p #[sv] t, Hp.row 32 3 encItem sv xs]) sv h
set_option maxHeartbeats 3200000 in
theorem pop_nil (p : Nat) : Does Try.prog 11 #[.pointer (some ⟨p, 0, none⟩)] (isHp 40 p []) (fun e B => e = .returned (.tuple #[.agg #[.int .i64 0, .int .i64 0, .int .i64 0], .bool false]) ∧ B = isHp 40 p []) := by
  refine Does.of fun w F hS => ?_
  have hS := hS.toL.alloc #[.int .i64 0, .int .i64 0, .int .i64 0] 32
  go_enter Try.func11, Try.ntmps11
  go_wp2_with (go_at_call 9; refine (hS.callAt 1 rfl (peek_nil p)).mono ?_; rintro e w1 ⟨B, ⟨rfl, rfl⟩, hS1⟩; have r0 := (hS1.cellAt 0 rfl 0).trans rfl; have r1 := (hS1.cellAt 0 rfl 1).trans rfl; have r2 := (hS1.cellAt 0 rfl 2).trans rfl; have f0 := hS1.frozenAt 0 rfl 0; have f1 := hS1.frozenAt 0 rfl 1; have f2 := hS1.frozenAt 0 rfl 2; have hlt := hS1.ltAt 0 rfl)
  have h2 := (((hS1.setBlkAt 0 rfl 0 (.int .i64 0)).setBlkAt 0 rfl 1 (.int .i64 0)).setBlkAt 0 rfl 2 (.int .i64 0)).alloc #[.int .i64 0, .int .i64 0, .int .i64 0] 32
  have e0 := (h2.cellAt 1 rfl 0).trans rfl
  have e1 := (h2.cellAt 1 rfl 1).trans rfl
  have e2 := (h2.cellAt 1 rfl 2).trans rfl
  refine bodyPost_ret (v := .tuple #[.agg #[.int .i64 0, .int .i64 0, .int .i64 0], .bool false]) (by simp [results, Try.results11, go_sem, e0, e1, e2]) rfl ?_
  exact At.post (h2.one 2 rfl) ⟨rfl, rfl⟩
set_option maxHeartbeats 6400000 in
theorem pop_one (p : Nat) (x : Item) : Does Try.prog 11 #[.pointer (some ⟨p, 0, none⟩)] (isHp 40 p [x])
    (fun e B => e = .returned (.tuple #[x.val, .bool true]) ∧ B = isHp 40 p []) := by
  refine Does.of fun w F hS => ?_
  have hS := hS.toL.alloc #[.int .i64 0, .int .i64 0, .int .i64 0] 32
  have HP := As.mk (peek_cons p x [])
  obtain ⟨x1, x2, x3⟩ := x
  unfold Item.val at *
  go_enter Try.func11, Try.ntmps11
  go_wp2_with fail
  refine (hS.callAt 1 rfl HP.out).mono ?_
  rintro e w1 ⟨B, ⟨rfl, rfl⟩, hS1⟩
  have hS1 : At F w w1 (Hp.seps [isHp 40 p [⟨x1, x2, x3⟩], Hp.blk w.heap.size #[.int .i64 0, .int .i64 0, .int .i64 0] 32]) := hS1.map fun _ _ h => Hp.swap h
  obtain ⟨sA, sc, hsc, hn, hS1⟩ := hp_openL hS1
  obtain ⟨gs, rfl, hgs⟩ := row_ptr (hS1.rowAt 1 rfl) 0 _ rfl
  have h0 : w1.cell? ⟨p, 0, none⟩ = some (.slice (some ⟨gs, 0, none⟩) 1 sc) := (hS1.cellAt 0 rfl 0).trans rfl
  have hp := hS1.ltAt 0 rfl
  clear hS HP hsc
  go_wp2
  have hS2 := hS1.alloc #[.int .i64 x1, .int .i64 x2, .int .i64 x3] 32
  obtain ⟨r, hr⟩ : ∃ r, r = w1.heap.size := ⟨_, rfl⟩
  obtain ⟨W, hW⟩ : ∃ W, W = w1.alloc (.cells #[.int .i64 x1, .int .i64 x2, .int .i64 x3] 32) := ⟨_, rfl⟩
  rw [← hW, ← hr] at hS2
  rw [← hW, ← hr]
  clear hW hr h0 hp hS1
  obtain ⟨c0, c1, c2, f0, f1, f2⟩ := item_cells (hS2.rowAt 2 rfl) 0 _ rfl
  have h0 : W.cell? ⟨p, 0, none⟩ = some (.slice (some ⟨gs, 0, none⟩) 1 sc) := (hS2.cellAt 1 rfl 0).trans rfl
  have z0 := hS2.frozenAt 1 rfl 0
  have y0 := (hS2.cellAt 0 rfl 0).trans rfl
  have y1 := (hS2.cellAt 0 rfl 1).trans rfl
  have y2 := (hS2.cellAt 0 rfl 2).trans rfl
  have q0 := (hS2.cellAt 3 rfl 0).trans rfl
  have q1 := (hS2.cellAt 3 rfl 1).trans rfl
  have q2 := (hS2.cellAt 3 rfl 2).trans rfl
  have qf0 := hS2.frozenAt 3 rfl 0
  have qf1 := hS2.frozenAt 3 rfl 1
  have qf2 := hS2.frozenAt 3 rfl 2
  have qlt := hS2.ltAt 3 rfl
  have n01 := hS2.neBB 0 1 rfl rfl (by decide)
  have n01' := n01.symm
  have n02 := (hS2.neGB 2 0 rfl rfl (by decide)).symm
  have n02' := n02.symm
  have n03 := hS2.neBB 0 3 rfl rfl (by decide)
  have n03' := n03.symm
  have n12 := (hS2.neGB 2 1 rfl rfl (by decide)).symm
  have n12' := n12.symm
  have n13 := hS2.neBB 1 3 rfl rfl (by decide)
  have n13' := n13.symm
  have n23 := hS2.neGB 2 3 rfl rfl (by decide)
  have n23' := n23.symm
  simp only [Nat.zero_mul, Nat.zero_add] at c0 c1 c2 f0 f1 f2
  go_still_tail 12, (by kernel_rfl)
  go_wp2
  have h3 := ((item_set 2 hS2 rfl 0 ⟨x1, x2, x3⟩ ⟨x1, x2, x3⟩ rfl).setBlkAt 1 rfl 0 (.slice (some ⟨gs, 0, none⟩) 0 sc)).takeAt 2 0 rfl encItem_len (by simp)
  have h4 := (((h3.setBlkAt 3 rfl 0 (.int .i64 x1)).setBlkAt 3 rfl 1 (.int .i64 x2)).setBlkAt 3 rfl 2 (.int .i64 x3)).drew
  have e0 := (h4.cellAt 3 rfl 0).trans rfl
  have e1 := (h4.cellAt 3 rfl 1).trans rfl
  have e2 := (h4.cellAt 3 rfl 2).trans rfl
  refine bodyPost_ret (v := .tuple #[.agg #[.int .i64 x1, .int .i64 x2, .int .i64 x3], .bool true]) (by simp [results, Try.results11, go_sem, e0, e1, e2]) rfl ?_
  have h5 : At F w _ (Hp.seps [Hp.blk p #[.slice (some ⟨gs, 0, none⟩) 0 sc] 40, Hp.row 32 3 encItem (.slice (some ⟨gs, 0, none⟩) 0 sc) [], Hp.blk w.heap.size #[.int .i64 x1, .int .i64 x2, .int .i64 x3] 32]) := h4.tail
  exact At.post ((hp_closeL h5).one 0 rfl) ⟨rfl, rfl⟩
end Go.Proofs.Ythnojjlaicajhaa
