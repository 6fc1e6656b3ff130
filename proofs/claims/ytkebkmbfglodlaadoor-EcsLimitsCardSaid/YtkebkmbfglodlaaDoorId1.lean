/- The places of ids: the contract of Make. -/
import Derived.Test.YtkebkmbfglodlaaDoorId0
namespace Go.Proofs.YtkebkmbfglodlaaDoor.I
open Go.RowKit
theorem Tryd.info117 : (Tryd.prog.info? 117).map (fun i => (i.zero, i.size, i.bytes)) = some (some (.agg #[.int .i64 0, .bool false]), 2, 16) := by kernel_rfl

set_option maxHeartbeats 800000 in
theorem make_pop (p : Nat) (room : Int) (slots : List (Int × Bool)) (f0 : List Int) (i : Int) (x : Int × Bool) (hi : 0 ≤ i) (hx : slots[i.toNat]? = some x) :
    Does Tryd.prog 28 #[.pointer (some ⟨p, 0, none⟩)] (isIds p room slots (f0 ++ [i])) (fun e B => e = .returned (.tuple #[.agg #[.int .i64 i, .int .i64 (wrap64 (x.1 + 1))], .int .i64 0]) ∧ B = isIds p room (slots.set i.toNat (wrap64 (x.1 + 1), true)) f0) := by
  intro w F hS
  obtain ⟨sv, fv, hb, hs, hf, hFp, hFs, hFf, hFl⟩ := hS
  obtain ⟨sA, sc, rfl, hsc, hn⟩ := hs.shape
  obtain ⟨fA, fc, rfl, hfc, hfn⟩ := hf.shape
  have hp := lt_of_blk hb
  have hlen : (f0 ++ [i]).length = f0.length + 1 := by simp
  have hil : i.toNat < slots.length := (List.getElem?_eq_some_iff.1 hx).1
  rw [hlen] at hb hf hFf hfc hfn
  obtain ⟨gs, rfl, hgs, hcs⟩ := hs.cell encSlot_len i.toNat x hx
  obtain ⟨gf, rfl, hgf, hcf⟩ := hf.cell encInt_len f0.length i (by simp)
  have hps : p ≠ gs := fun e => hs.ne_typed hb (by decide) (by simp [Value.ownBlock, e])
  have hpf : p ≠ gf := fun e => hf.ne_typed hb (by decide) (by simp [Value.ownBlock, e])
  have hsp := hps.symm
  have hfp := hpf.symm
  have h0 : w.cell? ⟨p, 0, none⟩ = some (.int .i64 room) := (cell_of_blk hb 0).trans rfl
  have h1 : w.cell? ⟨p, 1, none⟩ = some (.slice (some ⟨gs, 0, none⟩) slots.length sc) := (cell_of_blk hb 1).trans rfl
  have h2 : w.cell? ⟨p, 2, none⟩ = some (.slice (some ⟨gf, 0, none⟩) (f0.length + 1) fc) := (cell_of_blk hb 2).trans rfl
  have z2 := frozen_of_blk hb 2
  obtain ⟨c0, z0⟩ := hcs 0 (by omega)
  obtain ⟨c1, z1⟩ := hcs 1 (by omega)
  have cf := (hcf 0 (by omega)).1
  obtain ⟨x1, x2⟩ := x
  simp only [encSlot, encInt, List.getElem?_cons_zero, List.getElem?_cons_succ, Nat.add_zero, Nat.mul_one] at c0 c1 z0 z1 cf
  clear hcs hcf
  have HB := As.mk hb
  have HS := As.mk hs
  have HF := As.mk hf
  have HX := As.mk hx
  have HL := As.mk hlen
  have HFp := As.mk hFp
  have HFs := As.mk hFs
  have HFf := As.mk hFf
  have HFl := As.mk hFl
  clear hb hs hf hx hlen hFp hFs hFf hFl
  have d0 : decide (0 ≤ i) = true := decide_eq_true hi
  go_enter Tryd.func28, Tryd.ntmps28
  go_wp2
  have hFp := HFp.out
  have hFg := HFs.out gs rfl
  refine bodyPost_ret (v := .tuple #[.agg #[.int .i64 i, .int .i64 (wrap64 (x1 + 1))], .int .i64 0]) (by simp [results, Tryd.results28, go_sem]) rfl (Post.new _ ⟨rfl, rfl⟩ ⟨.slice (some ⟨gs, 0, none⟩) slots.length sc, .slice (some ⟨gf, 0, none⟩) f0.length fc, ?_, ?_, ?_, .inl hFp, fun k hk => .inl (HFs.out k hk), fun k hk => .inl (HFf.out k hk), foot_lt HFl.out (by simp)⟩ ?_)
  · rw [blk_alloc_far (by simp; exact hp), blk_setCell_far hps, blk_setCell_far hps]
    exact blk_setCell_same HB.out 2 _
  · have h1 := ((HS.out.far (g := p) (i := 2) (by simp [Value.ownBlock]; exact hsp) (.slice (some ⟨gf, 0, none⟩) f0.length fc)).set encSlot_len i.toNat 0 (x1, x2) (wrap64 (x1 + 1), x2) (.int .i64 (wrap64 (x1 + 1))) HX.out (by omega) rfl).set encSlot_len i.toNat 1 (wrap64 (x1 + 1), x2) (wrap64 (x1 + 1), true) (.bool true) (by rw [List.getElem?_set_self hil]) (by omega) rfl
    rw [List.set_set] at h1
    exact h1.alloc _
  · have h1 := HF.out.take encInt_len (m := f0.length) (by rw [HL.out]; omega)
    rw [List.take_left'  rfl] at h1
    have ne : ∀ g, g = p ∨ g = gs → (Value.slice (some ⟨gf, 0, none⟩) f0.length fc).ownBlock ≠ some g := by
      rintro g (rfl | rfl) he
      · exact hfp (by simpa [Value.ownBlock] using he)
      · exact HF.out.ne_typed (HS.out.typed g rfl).choose_spec (by decide) he
    exact (((h1.far (ne p (.inl rfl)) _).far (ne gs (.inr rfl)) _).far (ne gs (.inr rfl)) _).alloc _
  · exact ((((Evo.refl _ _).setCell (.inl hFp) _).setCell (.inl hFg) _).setCell (.inl hFg) _).alloc _
end Go.Proofs.YtkebkmbfglodlaaDoor.I
