/- A store: Despawn. No condition but bounded sizes. -/
import Derived.Test.YtkebkmbfglodlaaDoorEs6
set_option linter.unusedVariables false
set_option linter.unusedSimpArgs false
set_option maxRecDepth 100000
namespace Go.Proofs.YtkebkmbfglodlaaDoor
open Go.RowKit
/-- What holds of a store: each entity stands in just the table of its mask. -/
structure WF (sl : List (Int × Bool)) (D : List TD) (M : Int × Int → Option Nat) (n : Nat) : Prop where
  nd : (masksOf D).Nodup
  lt : ∀ m ∈ masksOf D, m < 65536
  ent : ∀ id m, M id = some m → ∃ (i p : Nat) (R : List TRow) (k : Nat) (f : Int → Int), D[i]? = some (m, p, R) ∧ R[k]? = some (id, f)
  back : ∀ (i m p : Nat) (R : List TRow), D[i]? = some (m, p, R) → ∀ x ∈ idsOf R, M x = some m
  rnd : ∀ (i m p : Nat) (R : List TRow), D[i]? = some (m, p, R) → (idsOf R).Nodup
  len : ∀ (i m p : Nat) (R : List TRow), D[i]? = some (m, p, R) → R.length ≤ n
  alive : ∀ id, (M id).isSome = hasI sl id
  ok : ∀ id m, M id = some m → okId id
theorem WF.at_ {sl : List (Int × Bool)} {D : List TD} {M : Int × Int → Option Nat} {n : Nat} (h : WF sl D M n) {id : Int × Int} (hh : hasI sl id = true) : ∃ (m i p k : Nat) (R : List TRow) (f : Int → Int), M id = some m ∧ m < 65536 ∧ D[i]? = some (m, p, R) ∧ R[k]? = some (id, f) := by
  have h1 := h.alive id
  rw [hh] at h1
  obtain ⟨m, hm⟩ := Option.isSome_iff_exists.1 h1
  obtain ⟨i, p, R, k, f, hi, hk⟩ := h.ent id m hm
  exact ⟨m, i, p, k, R, f, hm, h.lt m (List.mem_map.2 ⟨_, List.mem_of_getElem? hi, rfl⟩), hi, hk⟩
section
variable {w0 w : World} {q pi bt bm : Nat} {most room : Int} {nm : Nat} {sl : List (Int × Bool)} {fr : List Int} {D : List TD} {M : Int × Int → Option Nat} {r : List Hp}
set_option maxHeartbeats 12800000 in
theorem desp_stale (hS : At (fun _ => False) w0 w (Hp.seps (stL q pi bt bm most room nm sl fr D M r))) (id : Int × Int) (hh : hasI sl id = false) :
    Calls Tryd.prog 12 #[.pointer (some ⟨q, 0, none⟩), .agg #[.int .i64 id.1, .int .i64 id.2]] w fun e w' => e = .returned (.int .i64 11) ∧ At (fun _ => False) w0 w' (Hp.seps (stL q pi bt bm most room nm sl fr D M r)) := by
  obtain ⟨a1, a2⟩ := id
  have hS1 := (hS.alloc #[.int .i64 a1, .int .i64 a2] 31).stIn
  obtain ⟨x, hxx⟩ : ∃ x, x = w.heap.size := ⟨_, rfl⟩
  obtain ⟨W, hW⟩ : ∃ W, W = w.alloc (.cells #[.int .i64 a1, .int .i64 a2] 31) := ⟨_, rfl⟩
  rw [← hW, ← hxx] at hS1
  have HW := As.mk (⟨hW.symm, hxx.symm⟩ : _ ∧ _)
  have HAK : As (∀ V, At (fun _ => False) w0 V (Hp.seps (stL q pi bt bm most room nm sl fr D M (Hp.blk x #[.int .i64 a1, .int .i64 a2] 31 :: r))) → (V.cell? ⟨q, 0, none⟩ = some (.pointer (some ⟨pi, 0, none⟩)) ∧ V.cell? ⟨x, 0, none⟩ = some (.int .i64 a1) ∧ V.cell? ⟨x, 1, none⟩ = some (.int .i64 a2))) := ⟨fun V h => ⟨(h.cellAt 0 rfl 0).trans rfl, (h.cellAt 5 rfl 0).trans rfl, (h.cellAt 5 rfl 1).trans rfl⟩⟩
  have HKp : As (∀ V, Below W.heap.size W V → (V.cell? ⟨q, 0, none⟩ = some (.pointer (some ⟨pi, 0, none⟩)) ∧ V.cell? ⟨x, 0, none⟩ = some (.int .i64 a1) ∧ V.cell? ⟨x, 1, none⟩ = some (.int .i64 a2))) := ⟨fun V hb => HAK.out V (hS1.below hb)⟩
  have HC : As (Calls Tryd.prog 30 #[.pointer (some ⟨pi, 0, none⟩), .agg #[.int .i64 a1, .int .i64 a2]] W.drew fun e w' => e = .returned (.int .i64 11) ∧ At (fun _ => False) w0 w' (Hp.seps (stL q pi bt bm most room nm sl fr D M (Hp.blk x #[.int .i64 a1, .int .i64 a2] 31 :: r)))) := ⟨(hS1.drew.callAt 1 rfl (I.drop_stale pi a1 a2 room sl fr hh)).mono fun e w' ⟨B, ⟨h1, h2⟩, h3⟩ => ⟨h1, by subst h2; exact h3⟩⟩
  clear hS hS1 hW hxx hh
  go_enter Tryd.func12, Tryd.ntmps12
  go_upto_region 1 with fail
  rw [HW.out.1, HW.out.2]
  go_region_held3 (fun V => V.cell? ⟨q, 0, none⟩ = some (.pointer (some ⟨pi, 0, none⟩)) ∧ V.cell? ⟨x, 0, none⟩ = some (.int .i64 a1) ∧ V.cell? ⟨x, 1, none⟩ = some (.int .i64 a2)) (first | with_reducible exact HAK.out _ HS3.out | exact HKp.out _ (by repeat (first | exact Below.refl _ _ | refine bl_drewN ?_ _ | refine Below.drew ?_ | refine bl_alloc ?_ _ | refine bl_set ?_ (by first | (simp; done) | omega | (simp; omega)) _))) (first | (go_at_call 30; refine HC.out.mono ?_; rintro e w3 ⟨rfl, hS3⟩; have HS3 := As.mk hS3; clear hS3))
  go_wp2_with fail
  refine bodyPost_ret (v := .int .i64 11) (by simp [results, Tryd.results12, go_sem]) rfl ⟨rfl, At.stDrop HS3.out⟩
set_option maxHeartbeats 12800000 in
theorem desp_ok {n : Nat} (hWF : WF sl D M n) (hn : n ≤ 100000) (hf : fr.length ≤ 1000000) (hS : At (fun _ => False) w0 w (Hp.seps (stL q pi bt bm most room nm sl fr D M r))) (id : Int × Int) (hh : hasI sl id = true) (m i p k : Nat) (R : List TRow) (f : Int → Int) (hM : M id = some m) (hi : D[i]? = some (m, p, R)) (hk : R[k]? = some (id, f)) :
    Calls Tryd.prog 12 #[.pointer (some ⟨q, 0, none⟩), .agg #[.int .i64 id.1, .int .i64 id.2]] w fun e w' => e = .returned (.int .i64 0) ∧ At (fun _ => False) w0 w' (Hp.seps (stL q pi bt bm most room nm (sl.set id.1.toNat (id.2, false)) (fr ++ [id.1]) (D.set i (m, p, swp R k)) (fput M id none) r)) := by
  have hid := hWF.ok id m hM
  obtain ⟨a1, a2⟩ := id
  obtain ⟨kl, hkl⟩ := key_ok (a1, a2) hid
  have hS1 := (hS.alloc #[.int .i64 a1, .int .i64 a2] 31).stIn
  obtain ⟨x, hxx⟩ : ∃ x, x = w.heap.size := ⟨_, rfl⟩
  obtain ⟨W, hW⟩ : ∃ W, W = w.alloc (.cells #[.int .i64 a1, .int .i64 a2] 31) := ⟨_, rfl⟩
  rw [← hW, ← hxx] at hS1
  have HW := As.mk (⟨hW.symm, hxx.symm⟩ : _ ∧ _)
  have HKp : As (∀ V, Below W.heap.size W V → (V.cell? ⟨q, 0, none⟩ = some (.pointer (some ⟨pi, 0, none⟩)) ∧ V.cell? ⟨x, 0, none⟩ = some (.int .i64 a1) ∧ V.cell? ⟨x, 1, none⟩ = some (.int .i64 a2))) := ⟨fun V hb => by
    have h := hS1.below hb
    exact ⟨(h.cellAt 0 rfl 0).trans rfl, (h.cellAt 5 rfl 0).trans rfl, (h.cellAt 5 rfl 1).trans rfl⟩⟩
  have HAK : As (∀ V, At (fun _ => False) w0 V (Hp.seps (stL q pi bt bm most room nm (sl.set a1.toNat (a2, false)) (fr ++ [a1]) D M (Hp.blk x #[.int .i64 a1, .int .i64 a2] 31 :: r))) → (V.cell? ⟨q, 0, none⟩ = some (.pointer (some ⟨pi, 0, none⟩)) ∧ V.cell? ⟨x, 0, none⟩ = some (.int .i64 a1) ∧ V.cell? ⟨x, 1, none⟩ = some (.int .i64 a2))) := ⟨fun V h => ⟨(h.cellAt 0 rfl 0).trans rfl, (h.cellAt 5 rfl 0).trans rfl, (h.cellAt 5 rfl 1).trans rfl⟩⟩
  have HC : As (Calls Tryd.prog 30 #[.pointer (some ⟨pi, 0, none⟩), .agg #[.int .i64 a1, .int .i64 a2]] W.drew fun e w' => e = .returned (.int .i64 0) ∧ At (fun _ => False) w0 w' (Hp.seps (stL q pi bt bm most room nm (sl.set a1.toNat (a2, false)) (fr ++ [a1]) D M (Hp.blk x #[.int .i64 a1, .int .i64 a2] 31 :: r)))) := ⟨(hS1.drew.callAt 1 rfl (I.drop_ok pi a1 a2 room sl fr hh hf)).mono fun e w' ⟨B, ⟨h1, h2⟩, h3⟩ => ⟨h1, by subst h2; exact h3⟩⟩
  have HO := As.mk (fun V h => out_does (F0 := fun _ => False) (w0 := w0) (w := V) (q := q) (pi := pi) (bt := bt) (bm := bm) (most := most) (room := room) (nm := nm) (sl := sl.set a1.toNat (a2, false)) (fr := fr ++ [a1]) (D := D) (M := M) (r := Hp.blk x #[.int .i64 a1, .int .i64 a2] 31 :: r) h hWF.nd (a1, a2) hid m (hWF.lt m (List.mem_map.2 ⟨_, List.mem_of_getElem? hi, rfl⟩)) hM i p k R f hi hk (hWF.rnd i m p R hi) (fun y hy => hWF.ok y m (hWF.back i m p R hi y hy)) (by have := hWF.len i m p R hi; omega))
  have HKl := As.mk hkl
  simp only
  clear hS hS1 hW hxx hh hWF hM hi hk hid hkl
  go_enter Tryd.func12, Tryd.ntmps12
  go_upto_region 1 with fail
  rw [HW.out.1, HW.out.2]
  go_region_held3 (fun V => V.cell? ⟨q, 0, none⟩ = some (.pointer (some ⟨pi, 0, none⟩)) ∧ V.cell? ⟨x, 0, none⟩ = some (.int .i64 a1) ∧ V.cell? ⟨x, 1, none⟩ = some (.int .i64 a2)) (first | with_reducible exact HAK.out _ HS3.out | exact HKp.out _ (by repeat (first | exact Below.refl _ _ | refine bl_drewN ?_ _ | refine Below.drew ?_ | refine bl_alloc ?_ _ | refine bl_set ?_ (by first | (simp; done) | omega | (simp; omega)) _))) (first | (go_at_call 30; refine HC.out.mono ?_; rintro e w3 ⟨rfl, hS3⟩; have HS3 := As.mk hS3; clear hS3))
  have HC1 := As.mk (HO.out _ HS3.out)
  have x0 := (HAK.out _ HS3.out).2.1
  have x1 := (HAK.out _ HS3.out).2.2
  clear HC HKp HAK HO
  go_wp2_with fail
  refine HC1.out.mono ?_
  rintro e w4 ⟨v, rfl, hS⟩
  clear HC1 x0 x1
  have d3 : w4.cell? ⟨q, 3, none⟩ = some (.map (some bm)) := (hS.cellAt 0 rfl 3).trans rfl
  have x0 : w4.cell? ⟨x, 0, none⟩ = some (.int .i64 a1) := (hS.cellAt 6 rfl 0).trans rfl
  have x1 : w4.cell? ⟨x, 1, none⟩ = some (.int .i64 a2) := (hS.cellAt 6 rfl 1).trans rfl
  go_upto_region 5 with fail
  go_still_tail 5, (by kernel_rfl)
  refine rw_mapDelete rfl (.tmp 21) (.tmp 22) 68 rfl 35 Klaw encK_inj Tryd.underlying68 rfl (hS.drew.mpAt 3 rfl) (a1, a2) _ rfl HKl.out ?c1
  case c1 =>
    intro w5 hM5 hg5
    have hS5 := hS.drew.mpGrown 3 rfl hM5 hg5
    clear hM5 hg5 hS d3 x0 x1
    go_wp2_with fail
    refine bodyPost_ret (v := .int .i64 0) (by simp [results, Tryd.results12, go_sem]) rfl ⟨rfl, ?_⟩
    exact At.stDrop (At.stDrop hS5)
end
end Go.Proofs.YtkebkmbfglodlaaDoor
