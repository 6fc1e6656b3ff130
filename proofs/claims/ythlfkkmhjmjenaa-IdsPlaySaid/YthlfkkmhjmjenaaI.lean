/- The reference's places: Make of a new place. -/
import Derived.Test.YthlfkkmhjmjenaaH
namespace Go.Proofs.Ythlfkkmhjmjenaa
open Go.RowKit
set_option maxHeartbeats 3200000 in
theorem rmake_more (p : Nat) (room : Int) (slots : List (Int × Bool)) (hr : (slots.length : Int) < room) (hm : slots.length ≤ 1000000) :
    Does Try.prog 14 #[.pointer (some ⟨p, 0, none⟩)] (isRef p room slots []) (fun e B => e = .returned (.tuple #[.agg #[.int .i64 slots.length, .int .i64 1], .int .i64 0]) ∧ B = isRef p room (slots ++ [(1, true)]) []) := by
  intro w F hS
  obtain ⟨gv, lv, fv, hb, hg, hl, hf, hFp, hFg, hFl, hFf, hgf, hFF⟩ := hS
  obtain ⟨gA, gc, rfl, _, hn⟩ := hg.shape
  obtain ⟨lA, lc, rfl, _, _⟩ := hl.shape
  obtain ⟨fA, fc, rfl, hfc, hfn⟩ := hf.shape
  have hp := lt_of_blk hb
  simp only [List.length_map, List.length_nil] at hn hb hg hl hf hFg hFl hFf hgf
  have hgp : (Value.slice gA slots.length gc).ownBlock ≠ some p := hg.ne_typed hb (by decide)
  have hlp : (Value.slice lA slots.length lc).ownBlock ≠ some p := hl.ne_typed hb (by decide)
  have hfp : (Value.slice fA 0 fc).ownBlock ≠ some p := hf.ne_typed hb (by decide)
  have hlg : ∀ k, (Value.slice lA slots.length lc).ownBlock = some k → (Value.slice gA slots.length gc).ownBlock ≠ some k := fun k hk => hg.ne_typed (hl.typed k hk).choose_spec (by decide)
  have hfl : ∀ k, (Value.slice fA 0 fc).ownBlock = some k → (Value.slice lA slots.length lc).ownBlock ≠ some k := fun k hk => hl.ne_typed (hf.typed k hk).choose_spec (by decide)
  have hfg : ∀ k, (Value.slice fA 0 fc).ownBlock = some k → (Value.slice gA slots.length gc).ownBlock ≠ some k := fun k hk h => hgf k h hk
  have h0 : w.cell? ⟨p, 0, none⟩ = some (.int .i64 room) := (cell_of_blk hb 0).trans rfl
  have h1 : w.cell? ⟨p, 1, none⟩ = some (.slice gA slots.length gc) := (cell_of_blk hb 1).trans rfl
  have h3 : w.cell? ⟨p, 3, none⟩ = some (.slice fA 0 fc) := (cell_of_blk hb 3).trans rfl
  have HB := As.mk hb
  have HG := As.mk hg
  have HL := As.mk hl
  have HF := As.mk hf
  have HFp := As.mk hFp
  have HFg := As.mk hFg
  have HFl := As.mk hFl
  have HFf := As.mk hFf
  have HFF := As.mk hFF
  have Hgp := As.mk hgp
  have Hlp := As.mk hlp
  have Hfp := As.mk hfp
  have Hlg := As.mk hlg
  have Hfl := As.mk hfl
  have Hfg := As.mk hfg
  have dr : decide (room ≤ ((slots.length : Nat) : Int)) = false := decide_eq_false (by omega)
  clear hb hg hl hf hFp hFg hFl hFf hFF hgf hgp hlp hfp hlg hfl hfg hfc hfn hr
  go_enter Try.func14, Try.ntmps14
  go_wp2_with (at_builtin; refine rw_append rfl (.tmp 14) (.tmp 15) 46 3 1 encInt (.int .i64 0) 8 rfl Try.underlying46 Try.info3 rfl (by decide) (.slice gA slots.length gc) (slots.map (·.1)) 0 rfl _ rfl ?c0 ((HG.out.alloc _).alloc _) encInt_len ?c1 ?c2 ?c3 ?c4)
  case c0 => exact blk_new (by simp)
  case c1 => intro u hu; simp [encInt] at hu; subst hu; rfl
  case c2 => rw [len1]; simp only [maxLen]; omega
  case c3 => rw [len1]; omega
  case c4 =>
    intro v1 w1 hA
    obtain ⟨g1, cap1, hv⟩ := hA.form
    rw [len1] at hv
    subst hv
    have k1 : w1.heap[p]? = some (.cells #[.int .i64 room, .slice gA slots.length gc, .slice lA slots.length lc, .slice fA 0 fc] 57 (0, 0)) := grown_blk hA.grown ((blk_alloc_far (by simp; omega) _).trans ((blk_alloc_far hp _).trans HB.out)) Hgp.out
    have hb1 : w1.heap[w.heap.size]? = some (.cells #[.int .i64 0, .int .i64 0] 26 (0, 0)) := grown_blk hA.grown ((blk_alloc_far (by simp) _).trans (blk_alloc_new w _)) (fun h => by have := HG.out.lt _ h; omega)
    have hl1 := ((HL.out.alloc (.cells #[.int .i64 0, .int .i64 0] 26)).alloc (.cells (encInt 0).toArray 3)).grown hA.grown Hlg.out
    have hf1 := ((HF.out.alloc (.cells #[.int .i64 0, .int .i64 0] 26)).alloc (.cells (encInt 0).toArray 3)).grown hA.grown Hfg.out
    have hE1 : Evo w w1 F := (((Evo.refl w F).alloc _).alloc _).grown hA.grown (fun k hk => .inl (HFg.out k hk))
    have hR1 : w.heap.size < w1.heap.size := lt_of_blk hb1
    have hg1p : g1 ≠ p := fun e => hA.row.ne_typed k1 (by decide) (by simp [Value.ownBlock, e])
    have hg1R : g1 ≠ w.heap.size := fun e => hA.row.ne_typed hb1 (by decide) (by simp [Value.ownBlock, e])
    have hg1f : As (∀ k, (Value.slice fA 0 fc).ownBlock = some k → g1 ≠ k) := ⟨fun k hk e => by
      rcases hA.lies with h | h
      · exact Hfg.out k hk (by rw [← h, e.symm]; rfl)
      · have := HF.out.lt k hk
        have : g1 = k := e
        simp [Value.ownBlock] at h
        omega⟩
    have hg1F : F g1 ∨ w.heap.size ≤ g1 := by
      rcases hA.lies with h | h
      · exact .inl (HFg.out g1 (by rw [← h]; rfl))
      · simp [Value.ownBlock] at h; omega
    have j0 : w1.cell? ⟨p, 0, none⟩ = some (.int .i64 room) := (cell_of_blk k1 0).trans rfl
    have j1 : w1.cell? ⟨p, 1, none⟩ = some (.slice gA slots.length gc) := (cell_of_blk k1 1).trans rfl
    have j2 : w1.cell? ⟨p, 2, none⟩ = some (.slice lA slots.length lc) := (cell_of_blk k1 2).trans rfl
    have y1 := frozen_of_blk k1 1
    have K1 := As.mk k1
    have HB1 := As.mk hb1
    have HA1 := As.mk hA.row
    have HL1 := As.mk hl1
    have HF1 := As.mk hf1
    have HE1 := As.mk hE1
    have hp1 := lt_of_blk k1
    have hgl1 : (Value.slice lA slots.length lc).ownBlock ≠ some p := Hlp.out
    have Hg1F := As.mk hg1F
    clear k1 hb1 hl1 hf1 hE1 h0 h1 h3 hA hgl1 hg1F
    have npR : p ≠ w.heap.size := by omega
    have npR' := npR.symm
    have hg1p' := hg1p.symm
    go_wp2_with (at_builtin; refine rw_append rfl (.tmp 23) (.tmp 24) 47 4 1 encBool (.bool false) 1 rfl Try.underlying47 Try.info4 rfl (by decide) (.slice lA slots.length lc) (slots.map (·.2)) false rfl _ rfl ?d0 ((HL1.out.far Hlp.out _).alloc _) encBool_len ?d1 ?d2 ?d3 ?d4)
    case d0 => exact blk_new (by simp)
    case d1 => intro u hu; simp [encBool] at hu; subst hu; rfl
    case d2 => rw [len2]; simp only [maxLen]; omega
    case d3 => rw [len2]; omega
    case d4 =>
      intro v2 w2 hA
      obtain ⟨g2, cap2, hv⟩ := hA.form
      rw [len2] at hv
      subst hv
      have k2 : w2.heap[p]? = some (.cells #[.int .i64 room, .slice (some ⟨g1, 0, none⟩) (slots.length + 1) cap1, .slice lA slots.length lc, .slice fA 0 fc] 57 (0, 0)) := grown_blk hA.grown ((blk_alloc_far (by rw [size_setCell]; exact hp1) _).trans (blk_setCell_same K1.out 1 _)) Hlp.out
      have hb2 : w2.heap[w.heap.size]? = some (.cells #[.int .i64 0, .int .i64 0] 26 (0, 0)) := grown_blk hA.grown ((blk_alloc_far (by rw [size_setCell]; exact hR1) _).trans ((blk_setCell_far npR' _).trans HB1.out)) (fun h => by have := HL.out.lt _ h; omega)
      have hg2 : Rw w2 3 1 encInt (.slice (some ⟨g1, 0, none⟩) (slots.length + 1) cap1) (slots.map (·.1) ++ [0]) := ((HA1.out.far (g := p) (i := 1) (fun e => hg1p (by simpa [Value.ownBlock] using e)) (.slice (some ⟨g1, 0, none⟩) (slots.length + 1) cap1)).alloc (.cells (encBool false).toArray 4)).grown hA.grown (fun k hk => HL1.out.ne_typed (HA1.out.typed k hk).choose_spec (by decide))
      have hf2 := ((HF1.out.far (g := p) (i := 1) Hfp.out (.slice (some ⟨g1, 0, none⟩) (slots.length + 1) cap1)).alloc (.cells (encBool false).toArray 4)).grown hA.grown Hfl.out
      have hE2 : Evo w w2 F := ((HE1.out.setCell (p := ⟨p, 1, none⟩) (.inl HFp.out) (.slice (some ⟨g1, 0, none⟩) (slots.length + 1) cap1)).alloc _).grown hA.grown (fun k hk => .inl (HFl.out k hk))
      have hg2p : g2 ≠ p := fun e => hA.row.ne_typed k2 (by decide) (by simp [Value.ownBlock, e])
      have hg2R : g2 ≠ w.heap.size := fun e => hA.row.ne_typed hb2 (by decide) (by simp [Value.ownBlock, e])
      have hg21 : g2 ≠ g1 := fun e => hA.row.ne_typed (hg2.typed g1 rfl).choose_spec (by decide) (by simp [Value.ownBlock, e])
      have hg2F : F g2 ∨ w.heap.size ≤ g2 := by
        rcases hA.lies with h | h
        · exact .inl (HFl.out g2 (by rw [← h]; rfl))
        · simp [Value.ownBlock] at h; omega
      have hfx : As (∀ k, (Value.slice fA 0 fc).ownBlock = some k → g2 ≠ k) := ⟨fun k hk e => hA.row.ne_typed (hf2.typed k hk).choose_spec (by decide) (by rw [← e]; rfl)⟩
      obtain ⟨c0, z0⟩ := hg2.at_ encInt_len slots.length 0 (by rw [← len1 slots]; simp) 0 (by omega)
      obtain ⟨c1, z1⟩ := hA.row.at_ encBool_len slots.length false (by rw [← len2 slots]; simp) 0 (by omega)
      simp only [encInt, encBool, List.getElem?_cons_zero, Nat.add_zero, Nat.mul_one] at c0 c1 z0 z1
      have j1 : w2.cell? ⟨p, 1, none⟩ = some (.slice (some ⟨g1, 0, none⟩) (slots.length + 1) cap1) := (cell_of_blk k2 1).trans rfl
      have j2 : w2.cell? ⟨p, 2, none⟩ = some (.slice lA slots.length lc) := (cell_of_blk k2 2).trans rfl
      have y2 := frozen_of_blk k2 2
      have r0 : w2.cell? ⟨w.heap.size, 0, none⟩ = some (.int .i64 0) := (cell_of_blk hb2 0).trans rfl
      have r1 : w2.cell? ⟨w.heap.size, 1, none⟩ = some (.int .i64 0) := (cell_of_blk hb2 1).trans rfl
      have q0 := frozen_of_blk hb2 0
      have q1 := frozen_of_blk hb2 1
      have K2 := As.mk k2
      have HA2 := As.mk hA.row
      have HG2 := As.mk hg2
      have HF2 := As.mk hf2
      have HE2 := As.mk hE2
      have Hg2F := As.mk hg2F
      have hg1R' := hg1R.symm
      have hg2p' := hg2p.symm
      have hg2R' := hg2R.symm
      have hg12 := hg21.symm
      have hgl1 : g1 < w2.heap.size := HG2.out.lt g1 rfl
      have hgl2 : g2 < w2.heap.size := HA2.out.lt g2 rfl
      clear k2 hb2 hA hg2 hf2 hE2 hg2F
      go_wp2
      have hV : (Value.slice (some ⟨g2, 0, none⟩) (slots.length + 1) cap2).ownBlock = some g2 := rfl
      have hE3 := HE2.out.setCell (p := ⟨p, 2, none⟩) (.inl HFp.out) (.slice (some ⟨g2, 0, none⟩) (slots.length + 1) cap2)
      have hE4 := hE3.setCell (p := ⟨g1, slots.length, none⟩) Hg1F.out (.int .i64 1)
      have hE5 := hE4.setCell (p := ⟨g2, slots.length, none⟩) Hg2F.out (.bool true)
      have hE6 := hE5.setCell (p := ⟨w.heap.size, 0, none⟩) (.inr (Nat.le_refl _)) (.int .i64 slots.length)
      have hE7 := hE6.setCell (p := ⟨w.heap.size, 1, none⟩) (.inr (Nat.le_refl _)) (.int .i64 1)
      have ne1 : ∀ g, g1 ≠ g → (Value.slice (some ⟨g1, 0, none⟩) (slots.length + 1) cap1).ownBlock ≠ some g := fun g h e => h (by simpa [Value.ownBlock] using e)
      have ne2 : ∀ g, g2 ≠ g → (Value.slice (some ⟨g2, 0, none⟩) (slots.length + 1) cap2).ownBlock ≠ some g := fun g h e => h (by simpa [Value.ownBlock] using e)
      refine bodyPost_ret (v := .tuple #[.agg #[.int .i64 slots.length, .int .i64 1], .int .i64 0]) (by simp [results, Try.results14, go_sem, r0, r1]) rfl (Post.new _ ⟨rfl, rfl⟩ ⟨.slice (some ⟨g1, 0, none⟩) (slots.length + 1) cap1, .slice (some ⟨g2, 0, none⟩) (slots.length + 1) cap2, .slice fA 0 fc, ?_, ?_, ?_, ?_, .inl HFp.out, ?_, ?_, fun k hk => .inl (HFf.out k hk), ?_, foot_lt HFF.out hE7.size⟩ hE7)
      · rw [blk_setCell_far npR, blk_setCell_far npR, blk_setCell_far hg2p', blk_setCell_far hg1p']
        exact blk_setCell_same K2.out 2 _
      · have h1 := (HG2.out.far (i := 2) (ne1 p hg1p) (.slice (some ⟨g2, 0, none⟩) (slots.length + 1) cap2)).set encInt_len slots.length 0 0 1 (.int .i64 1) (by rw [← len1 slots]; simp) (by omega) rfl
        rw [Nat.mul_one, Nat.add_zero, ← len1 slots, List.set_append_right _ _ (Nat.le_refl _), Nat.sub_self, List.set_cons_zero, len1] at h1
        rw [List.map_append]
        exact ((h1.far (ne1 g2 hg12) _).far (ne1 _ hg1R) _).far (ne1 _ hg1R) _
      · have h1 := ((HA2.out.far (i := 2) (ne2 p hg2p) (.slice (some ⟨g2, 0, none⟩) (slots.length + 1) cap2)).far (i := slots.length) (ne2 g1 hg21) (.int .i64 1)).set encBool_len slots.length 0 false true (.bool true) (by rw [← len2 slots]; simp) (by omega) rfl
        rw [Nat.mul_one, Nat.add_zero, ← len2 slots, List.set_append_right _ _ (Nat.le_refl _), Nat.sub_self, List.set_cons_zero, len2] at h1
        rw [List.map_append]
        exact (h1.far (ne2 _ hg2R) _).far (ne2 _ hg2R) _
      · have neF : ∀ g, g = p ∨ g = g1 ∨ g = g2 ∨ g = w.heap.size → (Value.slice fA 0 fc).ownBlock ≠ some g := by
          rintro g (rfl | rfl | rfl | rfl) he
          · exact Hfp.out he
          · exact hg1f.out _ he rfl
          · exact hfx.out _ he rfl
          · have := HF.out.lt _ he; omega
        exact ((((HF2.out.far (neF p (by simp)) _).far (neF g1 (by simp)) _).far (neF g2 (by simp)) _).far (neF _ (by simp)) _).far (neF _ (by simp)) _
      · intro k hk
        have : g1 = k := by simpa [Value.ownBlock] using hk
        subst this
        exact Hg1F.out.imp id (fun h => ⟨h, by simp; exact hgl1⟩)
      · intro k hk
        have : g2 = k := by simpa [Value.ownBlock] using hk
        subst this
        exact Hg2F.out.imp id (fun h => ⟨h, by simp; exact hgl2⟩)
      · intro k hk e
        have : g1 = k := by simpa [Value.ownBlock] using hk
        exact hg1f.out k e this
end Go.Proofs.Ythlfkkmhjmjenaa
