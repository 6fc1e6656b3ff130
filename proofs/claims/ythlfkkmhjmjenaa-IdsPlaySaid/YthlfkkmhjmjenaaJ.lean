/- The reference's places: Drop and All; SameIds. -/
import Derived.Test.YthlfkkmhjmjenaaI
namespace Go.Proofs.Ythlfkkmhjmjenaa
open Go.RowKit
theorem set_fst {slots : List (Int × Bool)} {i : Nat} {g : Int} {b : Bool} (h : slots[i]? = some (g, b)) : (slots.map (·.1)).set i g = slots.map (·.1) := by
  apply List.ext_getElem?
  intro j
  by_cases hj : i = j
  · subst hj
    have := map1_get h
    rw [List.getElem?_set_self (List.getElem?_eq_some_iff.1 this).1, this]
  · rw [List.getElem?_set_ne hj]
set_option maxHeartbeats 800000 in
theorem rdrop_stale (p : Nat) (i g room : Int) (slots : List (Int × Bool)) (free : List Int) (hh : hasB slots i g = false) :
    Does Try.prog 13 #[.pointer (some ⟨p, 0, none⟩), .agg #[.int .i64 i, .int .i64 g]] (isRef p room slots free) (fun e B => e = .returned (.int .i64 11) ∧ B = isRef p room slots free) := by
  intro w F hS
  have HS := As.mk hS
  have HH := As.mk hh
  clear hS hh
  go_enter Try.func13, Try.ntmps13
  go_wp2_with fail
  refine (rhas_does p i g room slots free _ F (Hp.below HS.out (by repeat (first | exact Below.refl _ _ | refine bl_drewN ?_ _ | refine Below.drew ?_ | refine bl_alloc ?_ _ | refine bl_set ?_ (by first | (simp; done) | omega | (simp; omega)) _)))).mono ?_
  rw [HH.out]
  rintro e w1 ⟨B, F1, ⟨rfl, rfl⟩, hB, hE, hN⟩
  have HB := As.mk hB
  have HE := As.mk hE
  have HN := As.mk hN
  clear hB hE hN
  go_wp2
  go_ret
  exact Post.after (by repeat (first | exact Below.refl _ _ | refine bl_drewN ?_ _ | refine Below.drew ?_ | refine bl_alloc ?_ _ | refine bl_set ?_ (by first | (simp; done) | omega | (simp; omega)) _)) HE.out HN.out (Post.same HB.out (by repeat (first | exact Below.refl _ _ | refine bl_drewN ?_ _ | refine Below.drew ?_ | refine bl_alloc ?_ _ | refine bl_set ?_ (by first | (simp; done) | omega | (simp; omega)) _)) ⟨rfl, rfl⟩)

set_option maxHeartbeats 1600000 in
theorem rdrop_ok (p : Nat) (i g room : Int) (slots : List (Int × Bool)) (free : List Int) (hh : hasB slots i g = true) (hm : free.length ≤ 1000000) :
    Does Try.prog 13 #[.pointer (some ⟨p, 0, none⟩), .agg #[.int .i64 i, .int .i64 g]] (isRef p room slots free) (fun e B => e = .returned (.int .i64 0) ∧ B = isRef p room (slots.set i.toNat (g, false)) (free ++ [i])) := by
  intro w F hS
  have hR := Hp.not_foot hS (Nat.le_refl _)
  obtain ⟨hi0, hi1, hx⟩ := hasB_at hh
  have HS := As.mk hS
  have HH := As.mk hh
  have HX := As.mk hx
  clear hS hh hx
  go_enter Try.func13, Try.ntmps13
  go_wp2_with fail
  refine (rhas_does p i g room slots free _ F (Hp.below HS.out (by repeat (first | exact Below.refl _ _ | refine bl_drewN ?_ _ | refine Below.drew ?_ | refine bl_alloc ?_ _ | refine bl_set ?_ (by first | (simp; done) | omega | (simp; omega)) _)))).mono ?_
  rw [HH.out]
  rintro e w1 ⟨B, F1, ⟨rfl, rfl⟩, hB, hE, hN⟩
  have hRb : w1.heap[w.heap.size]? = some (.cells #[.int .i64 i, .int .i64 g] 26 (0, 0)) := (hE.block _ (by simp) hR).trans (blk_alloc_new w _)
  have hR1 : ¬ F1 w.heap.size := fun h => (hN _ h).elim hR (fun h => by simp at h; omega)
  have HE := As.mk hE
  have HN := As.mk hN
  obtain ⟨gv, lv, fv, hb, hg, hl, hf, hFp, hFg, hFl, hFf, hgf, hFF⟩ := hB
  obtain ⟨lA, lc, rfl, _, hn⟩ := hl.shape
  obtain ⟨fA, fc, rfl, _, _⟩ := hf.shape
  simp only [List.length_map] at hn hb hl hFl
  have hp := lt_of_blk hb
  obtain ⟨gl, rfl, hgl, hcl⟩ := hl.cell encBool_len i.toNat _ (map2_get HX.out)
  have hpl : p ≠ gl := fun e => hl.ne_typed hb (by decide) (by simp [Value.ownBlock, e])
  have hlp := hpl.symm
  have hpR : p ≠ w.heap.size := fun e => hR1 (e ▸ hFp)
  have hRp := hpR.symm
  have hlR : gl ≠ w.heap.size := fun e => hR1 (e ▸ hFl gl rfl)
  have hRl := hlR.symm
  have h2 : w1.cell? ⟨p, 2, none⟩ = some (.slice (some ⟨gl, 0, none⟩) slots.length lc) := (cell_of_blk hb 2).trans rfl
  have h3 : w1.cell? ⟨p, 3, none⟩ = some (.slice fA free.length fc) := (cell_of_blk hb 3).trans rfl
  have r0 : w1.cell? ⟨w.heap.size, 0, none⟩ = some (.int .i64 i) := (cell_of_blk hRb 0).trans rfl
  obtain ⟨c1, z1⟩ := hcl 0 (by omega)
  simp only [encBool, List.getElem?_cons_zero, Nat.mul_one, Nat.add_zero] at c1 z1
  have HB := As.mk hb
  have HG := As.mk hg
  have HL := As.mk hl
  have HF := As.mk hf
  have HFp := As.mk hFp
  have HFg := As.mk hFg
  have HFl := As.mk hFl
  have HFf := As.mk hFf
  have HFF := As.mk hFF
  have Hgf := As.mk hgf
  have ne_fl : As ((Value.slice fA free.length fc).ownBlock ≠ some gl) := ⟨fun e => hl.ne_typed (hf.typed gl e).choose_spec (by decide) rfl⟩
  have ne_fp : As ((Value.slice fA free.length fc).ownBlock ≠ some p) := ⟨hf.ne_typed hb (by decide)⟩
  have ne_gp : As (gv.ownBlock ≠ some p) := ⟨hg.ne_typed hb (by decide)⟩
  have ne_gl : As (gv.ownBlock ≠ some gl) := ⟨hg.ne_typed (hl.typed gl rfl).choose_spec (by decide)⟩
  clear hb hg hl hf hcl hFp hFg hFl hFf hE hN hRb hR hR1 hgf hFF
  go_wp2
  go_still_tail 7, (by kernel_rfl)
  go_wp2
  go_region_law (refine rw_append_step rfl (.tmp 20) (.tmp 23) 46 3 1 encInt (.int .i64 0) 8 rfl Try.underlying46 Try.info3 rfl (by decide) (.slice fA free.length fc) free i rfl _ rfl (by first | exact blk_new (by simp) | exact blk_new_drew (by simp)) ?_ encInt_len ?_ ?_ ?_ ?_; (exact ((HF.out.far (g := gl) (i := i.toNat) ne_fl.out (.bool false)).alloc _)); (exact one_int i); (simp only [maxLen]; omega); omega; intro v1 w2 hA; obtain ⟨g2, cap2, rfl⟩ := hA.form; have k2 : w2.heap[p]? = some (.cells #[.int .i64 room, gv, .slice (some ⟨gl, 0, none⟩) slots.length lc, .slice fA free.length fc] 57 (0, 0)) := grown_blk hA.grown ((blk_alloc_far (by rw [size_setCell]; exact hp) _).trans ((blk_setCell_far hpl _).trans HB.out)) ne_fp.out; have j3 : w2.cell? ⟨p, 3, none⟩ = some (.slice fA free.length fc) := (cell_of_blk k2 3).trans rfl; have y3 := frozen_of_blk k2 3; have K2 := As.mk k2; have HA := As.mk hA; clear hA k2)
  all_goals
    go_wp2
    go_ret
    have hFp := HFp.out
    have hFg := HFl.out gl rfl
    have hE2 := (((((Evo.refl w1 F1).setCell (p := ⟨gl, i.toNat, none⟩) (.inl hFg) (.bool false)).alloc (.cells #[.int .i64 i] 3)).drew.drew).grown HA.out.grown (fun k hk => .inl (HFf.out k hk))).setCell (p := ⟨p, 3, none⟩) (.inl hFp) (.slice (some ⟨g2, 0, none⟩) (free.length + 1) cap2)
    have hg2p : (Value.slice (some ⟨g2, 0, none⟩) (free.length + 1) cap2).ownBlock ≠ some p := HA.out.row.ne_typed K2.out (by decide)
    refine Post.after (by repeat (first | exact Below.refl _ _ | refine bl_drewN ?_ _ | refine Below.drew ?_ | refine bl_alloc ?_ _ | refine bl_set ?_ (by first | (simp; done) | omega | (simp; omega)) _)) HE.out HN.out (Post.new _ ⟨rfl, rfl⟩ ⟨gv, .slice (some ⟨gl, 0, none⟩) slots.length lc, .slice (some ⟨g2, 0, none⟩) (free.length + 1) cap2, ?_, ?_, ?_, ?_, .inl hFp, fun k hk => .inl (HFg.out k hk), fun k hk => .inl (HFl.out k hk), ?_, ?_, foot_lt HFF.out hE2.size⟩ hE2)
    · exact blk_setCell_same K2.out 3 _
    · rw [List.map_set, set_fst HX.out]
      exact ((((HG.out.far ne_gl.out _).alloc _).drew.drew).grown HA.out.grown (fun k hk e => Hgf.out k hk e)).far ne_gp.out _
    · have h1 := HL.out.set encBool_len i.toNat 0 true false (.bool false) (map2_get HX.out) (by omega) rfl
      rw [Nat.mul_one, Nat.add_zero] at h1
      rw [List.map_set]
      exact ((((h1.alloc _).drew.drew).grown HA.out.grown (fun k hk e => ne_fl.out (e.trans hk.symm)))).far (fun e => hpl (by simpa [Value.ownBlock] using e.symm)) _
    · exact HA.out.row.far hg2p _
    · refine foot_own HFf.out (HA.out.lies.imp id (fun h => ⟨_, h, by simp [World.drew]⟩)) (fun k hk => ?_)
      rw [size_setCell]
      exact HA.out.row.lt k hk
    · intro k hk e
      rcases HA.out.lies with h | h
      · exact Hgf.out k hk (h ▸ e)
      · have := HG.out.lt k hk
        rw [h] at e
        simp [World.drew] at e
        omega
end Go.Proofs.Ythlfkkmhjmjenaa
