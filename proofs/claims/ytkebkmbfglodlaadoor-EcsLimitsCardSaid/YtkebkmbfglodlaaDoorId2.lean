/- The places of ids: Make without free places; New; Drop. -/
import Derived.Test.YtkebkmbfglodlaaDoorId1
namespace Go.Proofs.YtkebkmbfglodlaaDoor.I
open Go.RowKit
theorem Tryd.info3 : (Tryd.prog.info? 3).map (fun i => (i.zero, i.size, i.bytes)) = some (some (.int .i64 0), 1, 8) := by kernel_rfl

set_option maxHeartbeats 800000 in
theorem make_full (p : Nat) (slots : List (Int × Bool)) :
    Does Tryd.prog 28 #[.pointer (some ⟨p, 0, none⟩)] (isIds p slots.length slots []) (fun e B => e = .returned (.tuple #[.agg #[.int .i64 0, .int .i64 0], .int .i64 10]) ∧ B = isIds p slots.length slots []) := by
  intro w F hS
  obtain ⟨sv, fv, hb, hs, hf, hFp, hFs, hFf, hFl⟩ := id hS
  obtain ⟨sA, sc, rfl, hsc, hn⟩ := hs.shape
  obtain ⟨fA, fc, rfl, hfc, hfn⟩ := hf.shape
  have hp := lt_of_blk hb
  have h0 : w.cell? ⟨p, 0, none⟩ = some (.int .i64 slots.length) := (cell_of_blk hb 0).trans rfl
  have h1 : w.cell? ⟨p, 1, none⟩ = some (.slice sA slots.length sc) := (cell_of_blk hb 1).trans rfl
  have h2 : w.cell? ⟨p, 2, none⟩ = some (.slice fA 0 fc) := (cell_of_blk hb 2).trans rfl
  have HS := As.mk hS
  clear hb hs hf hFp hFs hFf hFl hS hsc hfc hfn
  go_enter Tryd.func28, Tryd.ntmps28
  go_wp2
  exact bodyPost_ret (v := .tuple #[.agg #[.int .i64 0, .int .i64 0], .int .i64 10]) (by simp [results, Tryd.results28, go_sem]) rfl (Post.same HS.out (by repeat (first | exact Below.refl _ _ | refine bl_drewN ?_ _ | refine Below.drew ?_ | refine bl_alloc ?_ _ | refine bl_set ?_ (by first | (simp; done) | omega | (simp; omega)) _)) ⟨rfl, rfl⟩)

set_option maxHeartbeats 1600000 in
theorem make_more (p : Nat) (room : Int) (slots : List (Int × Bool)) (hr : (slots.length : Int) ≠ room) (hm : slots.length ≤ 1000000) :
    Does Tryd.prog 28 #[.pointer (some ⟨p, 0, none⟩)] (isIds p room slots []) (fun e B => e = .returned (.tuple #[.agg #[.int .i64 slots.length, .int .i64 1], .int .i64 0]) ∧ B = isIds p room (slots ++ [(1, true)]) []) := by
  intro w F hS
  obtain ⟨sv, fv, hb, hs, hf, hFp, hFs, hFf, hFl⟩ := hS
  obtain ⟨sA, sc, rfl, hsc, hn⟩ := hs.shape
  obtain ⟨fA, fc, rfl, hfc, hfn⟩ := hf.shape
  have hp := lt_of_blk hb
  have h0 : w.cell? ⟨p, 0, none⟩ = some (.int .i64 room) := (cell_of_blk hb 0).trans rfl
  have h1 : w.cell? ⟨p, 1, none⟩ = some (.slice sA slots.length sc) := (cell_of_blk hb 1).trans rfl
  have h2 : w.cell? ⟨p, 2, none⟩ = some (.slice fA 0 fc) := (cell_of_blk hb 2).trans rfl
  have hsp : (Value.slice sA slots.length sc).ownBlock ≠ some p := hs.ne_typed hb (by decide)
  have hfp : (Value.slice fA 0 fc).ownBlock ≠ some p := hf.ne_typed hb (by decide)
  have hsf : ∀ k, (Value.slice fA 0 fc).ownBlock = some k → (Value.slice sA slots.length sc).ownBlock ≠ some k := fun k hk => hs.ne_typed (hf.typed k hk).choose_spec (by decide)
  have HB := As.mk hb
  have HS := As.mk hs
  have HF := As.mk hf
  have HFp := As.mk hFp
  have HFs := As.mk hFs
  have HFf := As.mk hFf
  have HFl := As.mk hFl
  have Hsp := As.mk hsp
  have Hfp := As.mk hfp
  have Hsf := As.mk hsf
  have Hr := As.mk hr
  have dr : (((slots.length : Nat) : Int) == room) = false := beq_eq_false_iff_ne.2 hr
  clear hb hs hf hFp hFs hFf hFl hsp hfp hsf hsc hfc hfn hr
  go_enter Tryd.func28, Tryd.ntmps28
  go_wp2_with (at_builtin; refine rw_append rfl (.tmp 22) (.tmp 24) 113 117 2 encSlot (.agg #[.int .i64 0, .bool false]) 16 rfl Tryd.underlying113 Tryd.info117 rfl (by decide) _ slots (0, false) rfl _ rfl ?c0 ((HS.out.alloc _).alloc _) encSlot_len ?c1 ?c2 ?c3 ?c4)
  case c0 => exact blk_new (by simp)
  case c1 => intro u hu; simp [encSlot] at hu; rcases hu with rfl | rfl <;> rfl
  case c2 => simp only [maxLen]; omega
  case c3 => omega
  case c4 =>
    intro v1 w1 hA
    obtain ⟨g1, cap1, rfl⟩ := hA.form
    have HA := As.mk hA
    have k1 : w1.heap[p]? = some (.cells #[.int .i64 room, .slice sA slots.length sc, .slice fA 0 fc] 115 (0, 0)) := grown_blk hA.grown ((blk_alloc_far (by simp; omega) _).trans ((blk_alloc_far hp _).trans HB.out)) Hsp.out
    have hb2 : w1.heap[w.heap.size]? = some (.cells #[.int .i64 0, .int .i64 0] 31 (0, 0)) := grown_blk hA.grown ((blk_alloc_far (by simp) _).trans (blk_alloc_new w _)) (fun h => by have := HS.out.lt _ h; omega)
    obtain ⟨g1', e1, hg1, hc1⟩ := hA.row.cell encSlot_len slots.length (0, false) (by simp)
    obtain rfl : g1 = g1' := by injection e1 with e1; injection e1
    obtain ⟨c0, z0⟩ := hc1 0 (by omega)
    obtain ⟨c1, z1⟩ := hc1 1 (by omega)
    simp only [encSlot, List.getElem?_cons_zero, List.getElem?_cons_succ, Nat.add_zero] at c0 c1 z0 z1
    clear hc1 e1
    have n1 : g1 ≠ p := fun e => hA.row.ne_typed k1 (by decide) (by simp [Value.ownBlock, e])
    have n2 : g1 ≠ w.heap.size := fun e => hA.row.ne_typed hb2 (by decide) (by simp [Value.ownBlock, e])
    have n3 : p ≠ w.heap.size := by omega
    have n1' := n1.symm
    have n2' := n2.symm
    have n3' := n3.symm
    have j0 : w1.cell? ⟨p, 0, none⟩ = some (.int .i64 room) := (cell_of_blk k1 0).trans rfl
    have j1 : w1.cell? ⟨p, 1, none⟩ = some (.slice sA slots.length sc) := (cell_of_blk k1 1).trans rfl
    have y1 := frozen_of_blk k1 1
    have r0 : w1.cell? ⟨w.heap.size, 0, none⟩ = some (.int .i64 0) := (cell_of_blk hb2 0).trans rfl
    have r1 : w1.cell? ⟨w.heap.size, 1, none⟩ = some (.int .i64 0) := (cell_of_blk hb2 1).trans rfl
    have q0 := frozen_of_blk hb2 0
    have q1 := frozen_of_blk hb2 1
    have K1 := As.mk k1
    have HB2 := As.mk hb2
    clear k1 hb2 h0 h1 h2 hA
    go_wp2
    have hFp := HFp.out
    have hlies : (Value.slice (some ⟨g1, 0, none⟩) (slots.length + 1) cap1).ownBlock = (Value.slice sA slots.length sc).ownBlock ∨ ∃ b, (Value.slice (some ⟨g1, 0, none⟩) (slots.length + 1) cap1).ownBlock = some b ∧ w.heap.size ≤ b := HA.out.lies.imp id (fun h => ⟨_, h, by simp; omega⟩)
    have hFg : F g1 ∨ w.heap.size ≤ g1 := by
      rcases hlies with h | ⟨b, h, hb⟩
      · exact .inl (HFs.out g1 (by rw [← h]; rfl))
      · right
        have : g1 = b := by simpa [Value.ownBlock] using h
        omega
    have hE : Evo w w1 F := (((Evo.refl w F).alloc _).alloc _).grown HA.out.grown (fun k hk => .inl (HFs.out k hk))
    have hE2 := ((((hE.setCell (p := ⟨p, 1, none⟩) (.inl hFp) (.slice (some ⟨g1, 0, none⟩) (slots.length + 1) cap1)).setCell (p := ⟨g1, slots.length * 2, none⟩) hFg (.int .i64 1)).setCell (p := ⟨g1, slots.length * 2 + 1, none⟩) hFg (.bool true)).setCell (p := ⟨w.heap.size, 0, none⟩) (.inr (Nat.le_refl _)) (.int .i64 slots.length)).setCell (p := ⟨w.heap.size, 1, none⟩) (.inr (Nat.le_refl _)) (.int .i64 1)
    refine bodyPost_ret (v := .tuple #[.agg #[.int .i64 slots.length, .int .i64 1], .int .i64 0]) (by simp [results, Tryd.results28, go_sem, r0, r1]) rfl (Post.new _ ⟨rfl, rfl⟩ ⟨.slice (some ⟨g1, 0, none⟩) (slots.length + 1) cap1, .slice fA 0 fc, ?_, ?_, ?_, .inl hFp, ?_, fun k hk => .inl (HFf.out k hk), foot_lt HFl.out hE2.size⟩ hE2)
    · rw [blk_setCell_far n3, blk_setCell_far n3, blk_setCell_far n1', blk_setCell_far n1']
      exact blk_setCell_same K1.out 1 _
    · have ne : ∀ g, g1 ≠ g → (Value.slice (some ⟨g1, 0, none⟩) (slots.length + 1) cap1).ownBlock ≠ some g := fun g h e => h (by simpa [Value.ownBlock] using e)
      have h1 := ((HA.out.row.far (ne p n1) (i := 1) (.slice (some ⟨g1, 0, none⟩) (slots.length + 1) cap1)).set encSlot_len slots.length 0 (0, false) (1, false) (.int .i64 1) (by simp) (by omega) rfl).set encSlot_len slots.length 1 (1, false) (1, true) (.bool true) (by rw [List.getElem?_set_self (by simp)]) (by omega) rfl
      rw [List.set_set, List.set_append_right _ _ (Nat.le_refl _), Nat.sub_self, List.set_cons_zero] at h1
      exact (h1.far (ne _ n2) _).far (ne _ n2) _
    · have h1 := ((HF.out.alloc _).alloc _).grown HA.out.grown Hsf.out
      have ne : ∀ g, g = p ∨ g = g1 ∨ g = w.heap.size → (Value.slice fA 0 fc).ownBlock ≠ some g := by
        rintro g (rfl | rfl | rfl) he
        · exact Hfp.out he
        · exact HA.out.row.ne_typed (h1.typed _ he).choose_spec (by decide) rfl
        · have := HF.out.lt _ he; omega
      exact ((((h1.far (ne p (by simp)) _).far (ne g1 (by simp)) _).far (ne g1 (by simp)) _).far (ne _ (by simp)) _).far (ne _ (by simp)) _
    · exact foot_own HFs.out hlies (fun k hk => by have : g1 = k := (by simpa [Value.ownBlock] using hk); subst this; simp; exact hg1)
end Go.Proofs.YtkebkmbfglodlaaDoor.I
