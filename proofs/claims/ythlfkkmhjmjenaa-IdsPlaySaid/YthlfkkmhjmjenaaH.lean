/- The reference's places: the contracts of Make, Drop and All. -/
import Derived.Test.YthlfkkmhjmjenaaG
namespace Go.Proofs.Ythlfkkmhjmjenaa
open Go.RowKit
theorem len1 (slots : List (Int × Bool)) : (slots.map (·.1)).length = slots.length := List.length_map _
theorem len2 (slots : List (Int × Bool)) : (slots.map (·.2)).length = slots.length := List.length_map _

set_option maxHeartbeats 800000 in
theorem rmake_full (p : Nat) (slots : List (Int × Bool)) :
    Does Try.prog 14 #[.pointer (some ⟨p, 0, none⟩)] (isRef p slots.length slots []) (fun e B => e = .returned (.tuple #[.agg #[.int .i64 0, .int .i64 0], .int .i64 10]) ∧ B = isRef p slots.length slots []) := by
  intro w F hS
  obtain ⟨gv, lv, fv, hb, hg, hl, hf, _⟩ := id hS
  obtain ⟨gA, gc, rfl, _, hn⟩ := hg.shape
  obtain ⟨fA, fc, rfl, _, _⟩ := hf.shape
  simp only [List.length_map] at hn hb
  have hp := lt_of_blk hb
  have h0 : w.cell? ⟨p, 0, none⟩ = some (.int .i64 slots.length) := (cell_of_blk hb 0).trans rfl
  have h1 : w.cell? ⟨p, 1, none⟩ = some (.slice gA slots.length gc) := (cell_of_blk hb 1).trans rfl
  have h3 : w.cell? ⟨p, 3, none⟩ = some (.slice fA 0 fc) := (cell_of_blk hb 3).trans rfl
  have HS := As.mk hS
  clear hb hg hl hf hS
  go_enter Try.func14, Try.ntmps14
  go_wp2
  exact bodyPost_ret (v := .tuple #[.agg #[.int .i64 0, .int .i64 0], .int .i64 10]) (by simp [results, Try.results14, go_sem]) rfl (Post.same HS.out (by repeat (first | exact Below.refl _ _ | refine bl_drewN ?_ _ | refine Below.drew ?_ | refine bl_alloc ?_ _ | refine bl_set ?_ (by first | (simp; done) | omega | (simp; omega)) _)) ⟨rfl, rfl⟩)

set_option maxHeartbeats 1600000 in
theorem rmake_pop (p : Nat) (room : Int) (slots : List (Int × Bool)) (f0 : List Int) (i : Int) (x : Int × Bool) (hi : 0 ≤ i) (hx : slots[i.toNat]? = some x) :
    Does Try.prog 14 #[.pointer (some ⟨p, 0, none⟩)] (isRef p room slots (f0 ++ [i])) (fun e B => e = .returned (.tuple #[.agg #[.int .i64 i, .int .i64 (wrap64 (x.1 + 1))], .int .i64 0]) ∧ B = isRef p room (slots.set i.toNat (wrap64 (x.1 + 1), true)) f0) := by
  intro w F hS
  obtain ⟨gv, lv, fv, hb, hg, hl, hf, hFp, hFg, hFl, hFf, hgf, hFF⟩ := hS
  obtain ⟨gA, gc, rfl, _, hn⟩ := hg.shape
  obtain ⟨lA, lc, rfl, _, _⟩ := hl.shape
  obtain ⟨fA, fc, rfl, hfc, hfn⟩ := hf.shape
  have hp := lt_of_blk hb
  have hlen : (f0 ++ [i]).length = f0.length + 1 := by simp
  have hil : i.toNat < slots.length := (List.getElem?_eq_some_iff.1 hx).1
  simp only [List.length_map] at hn hb hg hl hFg hFl hgf
  rw [hlen] at hb hf hFf hfc hfn hgf
  obtain ⟨gg, rfl, hgg, hcg⟩ := hg.cell encInt_len i.toNat _ (map1_get hx)
  obtain ⟨gl, rfl, hgl, hcl⟩ := hl.cell encBool_len i.toNat _ (map2_get hx)
  obtain ⟨gf, rfl, hgf0, hcf⟩ := hf.cell encInt_len f0.length i (by simp)
  have npg : p ≠ gg := fun e => hg.ne_typed hb (by decide) (by simp [Value.ownBlock, e])
  have npl : p ≠ gl := fun e => hl.ne_typed hb (by decide) (by simp [Value.ownBlock, e])
  have npf : p ≠ gf := fun e => hf.ne_typed hb (by decide) (by simp [Value.ownBlock, e])
  have ngl : gg ≠ gl := fun e => hg.ne_typed (hl.typed gl rfl).choose_spec (by decide) (by simp [Value.ownBlock, e])
  have ngf : gg ≠ gf := fun e => hgf gg rfl (by simp [Value.ownBlock, e])
  have nlf : gl ≠ gf := fun e => hl.ne_typed (hf.typed gf rfl).choose_spec (by decide) (by simp [Value.ownBlock, e])
  have npg' := npg.symm
  have npl' := npl.symm
  have npf' := npf.symm
  have ngl' := ngl.symm
  have ngf' := ngf.symm
  have nlf' := nlf.symm
  have h0 : w.cell? ⟨p, 0, none⟩ = some (.int .i64 room) := (cell_of_blk hb 0).trans rfl
  have h1 : w.cell? ⟨p, 1, none⟩ = some (.slice (some ⟨gg, 0, none⟩) slots.length gc) := (cell_of_blk hb 1).trans rfl
  have h2 : w.cell? ⟨p, 2, none⟩ = some (.slice (some ⟨gl, 0, none⟩) slots.length lc) := (cell_of_blk hb 2).trans rfl
  have h3 : w.cell? ⟨p, 3, none⟩ = some (.slice (some ⟨gf, 0, none⟩) (f0.length + 1) fc) := (cell_of_blk hb 3).trans rfl
  have z3 := frozen_of_blk hb 3
  obtain ⟨c0, z0⟩ := hcg 0 (by omega)
  obtain ⟨c1, z1⟩ := hcl 0 (by omega)
  have cf := (hcf 0 (by omega)).1
  obtain ⟨x1, x2⟩ := x
  simp only [encInt, encBool, List.getElem?_cons_zero, Nat.add_zero, Nat.mul_one] at c0 c1 z0 z1 cf
  clear hcg hcl hcf
  have HB := As.mk hb
  have HG := As.mk hg
  have HL := As.mk hl
  have HF := As.mk hf
  have HX := As.mk hx
  have HLn := As.mk hlen
  have HFp := As.mk hFp
  have HFg := As.mk hFg
  have HFl := As.mk hFl
  have HFf := As.mk hFf
  have HFF := As.mk hFF
  clear hb hg hl hf hx hlen hFp hFg hFl hFf hFF hgf
  have d0 : decide (0 ≤ i) = true := decide_eq_true hi
  go_enter Try.func14, Try.ntmps14
  go_wp2
  go_quiet (fail)
  go_wp2
  go_region
  go_wp2
  have npR : p ≠ w.heap.size := by omega
  have ngR : gg ≠ w.heap.size := by omega
  have nlR : gl ≠ w.heap.size := by omega
  have nfR : gf ≠ w.heap.size := by omega
  have hE0 := ((Evo.refl w F).alloc (.cells #[.int .i64 0, .int .i64 0] 26)).drewN (nq + 1)
  have hE1 := hE0.setCell (p := ⟨p, 3, none⟩) (.inl HFp.out) (.slice (some ⟨gf, 0, none⟩) f0.length fc)
  have hE1b := hE1.setCell (p := ⟨gg, i.toNat, none⟩) (.inl (HFg.out gg rfl)) (.int .i64 (wrap64 (x1 + 1)))
  have hE2 := hE1b.setCell (p := ⟨gl, i.toNat, none⟩) (.inl (HFl.out gl rfl)) (.bool true)
  have hE3 := (hE2.setCell (p := ⟨w.heap.size, 0, none⟩) (.inr (Nat.le_refl _)) (.int .i64 i)).setCell (p := ⟨w.heap.size, 1, none⟩) (.inr (Nat.le_refl _)) (.int .i64 (wrap64 (x1 + 1)))
  refine bodyPost_ret (v := .tuple #[.agg #[.int .i64 i, .int .i64 (wrap64 (x1 + 1))], .int .i64 0]) (by simp [results, Try.results14, go_sem]) rfl (Post.new _ ⟨rfl, rfl⟩ ⟨.slice (some ⟨gg, 0, none⟩) slots.length gc, .slice (some ⟨gl, 0, none⟩) slots.length lc, .slice (some ⟨gf, 0, none⟩) f0.length fc, ?_, ?_, ?_, ?_, .inl HFp.out, fun k hk => .inl (HFg.out k hk), fun k hk => .inl (HFl.out k hk), fun k hk => .inl (HFf.out k hk), ?_, foot_lt HFF.out hE3.size⟩ hE3)
  · rw [blk_setCell_far npR, blk_setCell_far npR, blk_setCell_far npl, blk_setCell_far npg]
    exact blk_setCell_same ((blk_alloc_far hp _).trans HB.out) 3 _
  · have h1 := (((HG.out.alloc (.cells #[.int .i64 0, .int .i64 0] 26)).drewN (nq + 1)).far (g := p) (i := 3) (by simp [Value.ownBlock]; exact npg') (.slice (some ⟨gf, 0, none⟩) f0.length fc)).set encInt_len i.toNat 0 x1 (wrap64 (x1 + 1)) (.int .i64 (wrap64 (x1 + 1))) (map1_get HX.out) (by omega) rfl
    rw [Nat.mul_one, Nat.add_zero] at h1
    have ne : ∀ g, gg ≠ g → (Value.slice (some ⟨gg, 0, none⟩) slots.length gc).ownBlock ≠ some g := fun g h e => h (by simpa [Value.ownBlock] using e)
    rw [List.map_set]
    exact ((h1.far (ne _ ngl) _).far (ne _ ngR) _).far (ne _ ngR) _
  · have ne : ∀ g, gl ≠ g → (Value.slice (some ⟨gl, 0, none⟩) slots.length lc).ownBlock ≠ some g := fun g h e => h (by simpa [Value.ownBlock] using e)
    have h1 := ((((HL.out.alloc (.cells #[.int .i64 0, .int .i64 0] 26)).drewN (nq + 1)).far (g := p) (i := 3) (ne _ npl') (.slice (some ⟨gf, 0, none⟩) f0.length fc)).far (g := gg) (i := i.toNat) (ne _ ngl') (.int .i64 (wrap64 (x1 + 1)))).set encBool_len i.toNat 0 x2 true (.bool true) (map2_get HX.out) (by omega) rfl
    rw [Nat.mul_one, Nat.add_zero] at h1
    rw [List.map_set]
    exact (h1.far (ne _ nlR) _).far (ne _ nlR) _
  · have ne : ∀ g, gf ≠ g → (Value.slice (some ⟨gf, 0, none⟩) f0.length fc).ownBlock ≠ some g := fun g h e => h (by simpa [Value.ownBlock] using e)
    have h1 := HF.out.take encInt_len (m := f0.length) (by rw [HLn.out]; omega)
    rw [List.take_left' rfl] at h1
    exact (((((((h1.alloc _).drewN _).far (ne _ npf') _).far (ne _ ngf') _).far (ne _ nlf') _).far (ne _ nfR) _).far (ne _ nfR) _)
  · intro k hk e
    have e1 : gg = k := by simpa [Value.ownBlock] using hk
    have e2 : gf = k := by simpa [Value.ownBlock] using e
    exact ngf (e1.trans e2.symm)
end Go.Proofs.Ythlfkkmhjmjenaa
