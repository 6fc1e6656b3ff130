/- The places of ids: Drop and New. -/
import Derived.Test.YtkebkmbfglodlaaDoorId2
import Derived.Deep.RegionLaw
set_option maxRecDepth 100000
namespace Go.Proofs.YtkebkmbfglodlaaDoor.I
open Go.RowKit

set_option maxHeartbeats 800000 in
theorem drop_stale (p : Nat) (i g room : Int) (slots : List (Int × Bool)) (free : List Int) (hh : hasB slots i g = false) :
    Does Tryd.prog 30 #[.pointer (some ⟨p, 0, none⟩), .agg #[.int .i64 i, .int .i64 g]] (isIds p room slots free) (fun e B => e = .returned (.int .i64 11) ∧ B = isIds p room slots free) := by
  intro w F hS
  have HS := As.mk hS
  have HH := As.mk hh
  clear hS hh
  go_enter Tryd.func30, Tryd.ntmps30
  go_wp2_with fail
  refine (has_does p i g room slots free _ F (Hp.below HS.out (by repeat (first | exact Below.refl _ _ | refine bl_drewN ?_ _ | refine Below.drew ?_ | refine bl_alloc ?_ _ | refine bl_set ?_ (by first | (simp; done) | omega | (simp; omega)) _)))).mono ?_
  rw [HH.out]
  rintro e w1 ⟨B, F1, ⟨rfl, rfl⟩, hB, hE, hN⟩
  have HB := As.mk hB
  have HE := As.mk hE
  have HN := As.mk hN
  clear hB hE hN
  go_wp2
  go_ret
  exact Post.after (by repeat (first | exact Below.refl _ _ | refine bl_drewN ?_ _ | refine Below.drew ?_ | refine bl_alloc ?_ _ | refine bl_set ?_ (by first | (simp; done) | omega | (simp; omega)) _)) HE.out HN.out (Post.same HB.out (by repeat (first | exact Below.refl _ _ | refine bl_drewN ?_ _ | refine Below.drew ?_ | refine bl_alloc ?_ _ | refine bl_set ?_ (by first | (simp; done) | omega | (simp; omega)) _)) ⟨rfl, rfl⟩)

theorem one_int (x : Int) : ∀ u ∈ encInt x, u.oneCell' = true := by
  intro u hu
  simp only [encInt, List.mem_singleton] at hu
  subst hu
  rfl
theorem hasB_at {slots : List (Int × Bool)} {i g : Int} (h : hasB slots i g = true) : 0 ≤ i ∧ i < slots.length ∧ slots[i.toNat]? = some (g, true) := by
  unfold hasB at h
  simp only [Bool.and_eq_true, decide_eq_true_eq, beq_iff_eq] at h
  obtain ⟨⟨h1, h2⟩, h3, h4⟩ := h
  refine ⟨h1, h2, ?_⟩
  rw [List.getD_eq_getElem?_getD, List.getElem?_eq_getElem (by omega)] at h3 h4
  rw [List.getElem?_eq_getElem (by omega)]
  simp only [Option.getD_some] at h3 h4
  rw [← h3, ← h4]

set_option maxHeartbeats 1600000 in
theorem drop_ok (p : Nat) (i g room : Int) (slots : List (Int × Bool)) (free : List Int) (hh : hasB slots i g = true) (hm : free.length ≤ 1000000) :
    Does Tryd.prog 30 #[.pointer (some ⟨p, 0, none⟩), .agg #[.int .i64 i, .int .i64 g]] (isIds p room slots free) (fun e B => e = .returned (.int .i64 0) ∧ B = isIds p room (slots.set i.toNat (g, false)) (free ++ [i])) := by
  intro w F hS
  have hR := Hp.not_foot hS (Nat.le_refl _)
  obtain ⟨hi0, hi1, hx⟩ := hasB_at hh
  have HS := As.mk hS
  have HH := As.mk hh
  have HX := As.mk hx
  clear hS hh hx
  go_enter Tryd.func30, Tryd.ntmps30
  go_wp2_with fail
  refine (has_does p i g room slots free _ F (Hp.below HS.out (by repeat (first | exact Below.refl _ _ | refine bl_drewN ?_ _ | refine Below.drew ?_ | refine bl_alloc ?_ _ | refine bl_set ?_ (by first | (simp; done) | omega | (simp; omega)) _)))).mono ?_
  rw [HH.out]
  rintro e w1 ⟨B, F1, ⟨rfl, rfl⟩, hB, hE, hN⟩
  have hRb : w1.heap[w.heap.size]? = some (.cells #[.int .i64 i, .int .i64 g] 31 (0, 0)) := (hE.block _ (by simp) hR).trans (blk_alloc_new w _)
  have hR1 : ¬ F1 w.heap.size := fun h => (hN _ h).elim hR (fun h => by simp at h; omega)
  have HE := As.mk hE
  have HN := As.mk hN
  obtain ⟨sv, fv, hb, hs, hf, hFp, hFs, hFf, hFl⟩ := hB
  obtain ⟨sA, sc, rfl, hsc, hn⟩ := hs.shape
  obtain ⟨fA, fc, rfl, hfc, hfn⟩ := hf.shape
  have hp := lt_of_blk hb
  obtain ⟨gs, rfl, hgs, hcs⟩ := hs.cell encSlot_len i.toNat _ HX.out
  have hps : p ≠ gs := fun e => hs.ne_typed hb (by decide) (by simp [Value.ownBlock, e])
  have hsp := hps.symm
  have hpR : p ≠ w.heap.size := fun e => hR1 (e ▸ hFp)
  have hRp := hpR.symm
  have hsR : gs ≠ w.heap.size := fun e => hR1 (e ▸ hFs gs rfl)
  have hRs := hsR.symm
  have h1 : w1.cell? ⟨p, 1, none⟩ = some (.slice (some ⟨gs, 0, none⟩) slots.length sc) := (cell_of_blk hb 1).trans rfl
  have h2 : w1.cell? ⟨p, 2, none⟩ = some (.slice fA free.length fc) := (cell_of_blk hb 2).trans rfl
  have z2 := frozen_of_blk hb 2
  have r0 : w1.cell? ⟨w.heap.size, 0, none⟩ = some (.int .i64 i) := (cell_of_blk hRb 0).trans rfl
  obtain ⟨c1, z1⟩ := hcs 1 (by omega)
  simp only [encSlot, List.getElem?_cons_zero, List.getElem?_cons_succ] at c1 z1
  have HB := As.mk hb
  have HSl := As.mk hs
  have HF := As.mk hf
  have HFp := As.mk hFp
  have HFs := As.mk hFs
  have HFf := As.mk hFf
  have HFl := As.mk hFl
  have ne_fs : As ((Value.slice fA free.length fc).ownBlock ≠ some gs) := ⟨hf.ne_typed (hs.typed gs rfl).choose_spec (by decide)⟩
  have ne_fp : As ((Value.slice fA free.length fc).ownBlock ≠ some p) := ⟨hf.ne_typed hb (by decide)⟩
  clear hb hs hf hcs hFp hFs hFf hFl hE hN hRb hR hR1 hsc hfc
  go_wp2
  go_still_tail 8, (by kernel_rfl)
  go_wp2
  go_region_law (refine rw_append_step rfl (.tmp 21) (.tmp 24) 63 3 1 encInt (.int .i64 0) 8 rfl Tryd.underlying63 Tryd.info3 rfl (by decide) (.slice fA free.length fc) free i rfl _ rfl (by first | exact blk_new (by simp) | exact blk_new_drew (by simp) | exact (blk_new_drew (by simp))) ?_ encInt_len ?_ ?_ ?_ ?_; (exact ((HF.out.far (g := gs) (i := i.toNat * 2 + 1) ne_fs.out (.bool false)).alloc _)); (exact one_int i); (simp only [maxLen]; omega); omega; intro v1 w2 hA; obtain ⟨g2, cap2, rfl⟩ := hA.form; have k2 : w2.heap[p]? = some (.cells #[.int .i64 room, .slice (some ⟨gs, 0, none⟩) slots.length sc, .slice fA free.length fc] 115 (0, 0)) := grown_blk hA.grown ((blk_alloc_far (by rw [size_setCell]; exact hp) _).trans ((blk_setCell_far hps _).trans HB.out)) ne_fp.out; have j2 : w2.cell? ⟨p, 2, none⟩ = some (.slice fA free.length fc) := (cell_of_blk k2 2).trans rfl; have y2 := frozen_of_blk k2 2; have K2 := As.mk k2; have HA := As.mk hA; clear hA k2)
  all_goals
    go_wp2
    go_ret
    have hFp := HFp.out
    have hFg := HFs.out gs rfl
    have hE2 := (((((Evo.refl w1 F1).setCell (p := ⟨gs, i.toNat * 2 + 1, none⟩) (.inl hFg) (.bool false)).alloc (.cells #[.int .i64 i] 3)).drew.drew).grown HA.out.grown (fun k hk => .inl (HFf.out k hk))).setCell (p := ⟨p, 2, none⟩) (.inl hFp) (.slice (some ⟨g2, 0, none⟩) (free.length + 1) cap2)
    have hg2p : (Value.slice (some ⟨g2, 0, none⟩) (free.length + 1) cap2).ownBlock ≠ some p := HA.out.row.ne_typed K2.out (by decide)
    refine Post.after (by repeat (first | exact Below.refl _ _ | refine bl_drewN ?_ _ | refine Below.drew ?_ | refine bl_alloc ?_ _ | refine bl_set ?_ (by first | (simp; done) | omega | (simp; omega)) _)) HE.out HN.out (Post.new _ ⟨rfl, rfl⟩ ⟨.slice (some ⟨gs, 0, none⟩) slots.length sc, .slice (some ⟨g2, 0, none⟩) (free.length + 1) cap2, ?_, ?_, ?_, .inl hFp, fun k hk => .inl (HFs.out k hk), ?_, foot_lt HFl.out hE2.size⟩ hE2)
    · exact blk_setCell_same K2.out 2 _
    · have h1 := HSl.out.set encSlot_len i.toNat 1 (g, true) (g, false) (.bool false) HX.out (by omega) rfl
      exact ((((h1.alloc _).drew.drew).grown HA.out.grown (fun k hk e => ne_fs.out (e.trans hk.symm)))).far (fun e => hps (by simpa [Value.ownBlock] using e.symm)) _
    · exact HA.out.row.far hg2p _
    · refine foot_own HFf.out (HA.out.lies.imp id (fun h => ⟨_, h, by simp [World.drew]⟩)) (fun k hk => ?_)
      rw [size_setCell]
      exact HA.out.row.lt k hk
end Go.Proofs.YtkebkmbfglodlaaDoor.I
