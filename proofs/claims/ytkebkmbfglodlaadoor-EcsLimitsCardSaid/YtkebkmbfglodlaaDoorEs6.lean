/- A store: put. No condition but bounded sizes. -/
import Derived.Test.YtkebkmbfglodlaaDoorEs5
set_option linter.unusedVariables false
set_option linter.unusedSimpArgs false
set_option maxRecDepth 100000
namespace Go.Proofs.YtkebkmbfglodlaaDoor
open Go.RowKit
/-- A call of a Go function whose answer is known only behind it, in a region that draws. -/
theorem rw_call_stepX {P : Program} {ops : Array Oper} {o : Oper} {a : Act} {Q : Exit → Act → World → Prop} {K : Act → World → Prop} {V : World} {E : Prop} (hgd : o.guard = none) (f : FuncId) (args : Array Value)
    (hx : (execOp a.eval o).run P V = .ok (.enter f args) V) {R : Value → World → Prop} (h : Calls P f args V (fun e w' => ∃ v, e = .returned v ∧ R v w')) (hK : ∀ v w', R v w' → K (a.put o.dst v) w') : if Region.wanted o (yielded ops a.tmps) = true then o.wp P a V K Q else E := by
  rw [if_pos (by simp [Region.wanted, hgd])]
  unfold Oper.wp
  rw [hx, Oper.upon_enter]
  refine h.mono ?_
  rintro e w' ⟨v, rfl, hr⟩
  exact hK v w' hr
def PutD (D : List TD) (m : Nat) (id : Int × Int) (cells : List (Int × Int)) (D' : List TD) : Prop :=
  (∃ (i p : Nat) (R : List TRow), D[i]? = some (m, p, R) ∧ D' = D.set i (m, p, addR (bitsN m) R id cells)) ∨ (tf D m = none ∧ ∃ p, D' = D ++ [(m, p, addR (bitsN m) [] id cells)])
section
variable {w0 w : World} {q pi bt bm : Nat} {most room : Int} {nm : Nat} {sl : List (Int × Bool)} {fr : List Int} {D : List TD} {M : Int × Int → Option Nat} {r : List Hp}
theorem At.tabNew {F0 : Nat → Prop} {m p9 : Nat} (hf : tf D m = none) (h : At F0 w0 w (Hp.seps (isTb p9 (bitsN m) [] :: (stL q pi bt bm most room nm sl fr D M r).set 2 (Hp.mp Tryd.prog 35 bt (D.length + 1) encM evP (fput (tf D) m (some p9)))))) : At F0 w0 w (Hp.seps (stL q pi bt bm most room nm sl fr (D ++ [(m, p9, [])]) M r)) := by
  have h5 := At.manyAdd (g := tbH) (L := D) (x := (m, p9, [])) 4 h rfl
  have e1 : tf (D ++ [(m, p9, [])]) = fput (tf D) m (some p9) := tf_snoc hf
  have e2 : (D ++ [(m, p9, ([] : List TRow))]).length = D.length + 1 := by simp
  unfold stL
  rw [e1, e2]
  exact h5
theorem masks_snoc {m p : Nat} {R : List TRow} (hn : (masksOf D).Nodup) (hf : tf D m = none) : (masksOf (D ++ [(m, p, R)])).Nodup := by
  unfold masksOf
  rw [List.map_append]
  exact List.nodup_append.2 ⟨hn, by simp, fun a ha b hb => by simp at hb; subst hb; exact fun e => (tf_none.1 hf) (e ▸ ha)⟩
set_option maxHeartbeats 25600000 in
theorem put_does (hT : GTab w0) (hS : At (fun _ => False) w0 w (Hp.seps (stL q pi bt bm most room nm sl fr D M r))) (hnd : (masksOf D).Nodup) (id : Int × Int) (hid : okId id) (m : Nat) (hm : m < 65536)
    (hx : ∀ (i p : Nat) (R : List TRow), D[i]? = some (m, p, R) → ixF (idsOf R) id = none ∧ R.length ≤ 100000) (cv : Value) (cells : List (Int × Int)) (hRd : ∀ w' L', At (fun _ => False) w0 w' (Hp.seps (L' ++ r)) → Rd w' 2 encId cv cells) :
    Calls Tryd.prog 29 #[.pointer (some ⟨q, 0, none⟩), .agg #[.int .i64 id.1, .int .i64 id.2], .int .u16 (m : Nat), cv] w fun e w' => e = .returned (.tuple #[]) ∧ ∃ D', PutD D m id cells D' ∧ At (fun _ => False) w0 w' (Hp.seps (stL q pi bt bm most room (nm + 1) sl fr D' (fput M id (some m)) r)) := by
  obtain ⟨a1, a2⟩ := id
  obtain ⟨kl, hkl⟩ := key_ok (a1, a2) hid
  obtain ⟨kl2, hkl2⟩ := keyU_ok m hm
  have HKl := As.mk (⟨hkl, hkl2⟩ : _ ∧ _)
  have hS1 := (hS.alloc #[.int .i64 a1, .int .i64 a2] 31).stIn
  obtain ⟨x, hxx⟩ : ∃ x, x = w.heap.size := ⟨_, rfl⟩
  obtain ⟨W, hW⟩ : ∃ W, W = w.alloc (.cells #[.int .i64 a1, .int .i64 a2] 31) := ⟨_, rfl⟩
  rw [← hW, ← hxx] at hS1
  have HW := As.mk (⟨hW.symm, hxx.symm⟩ : _ ∧ _)
  have c2 : W.cell? ⟨q, 2, none⟩ = some (.map (some bt)) := (hS1.cellAt 0 rfl 2).trans rfl
  have hl1 : (Instr.lookup 67 (.map (some bt)) (.int .u16 (m : Nat)) false).run Tryd.prog W = .ok (match tf D m with | some p => .pointer (some ⟨p, 0, none⟩) | none => .pointer none) W := look_tab (hS1.mpAt 2 rfl) hm 0
  have HS := As.mk hS1
  have HX := As.mk hx
  have HRd := As.mk hRd
  have HND := As.mk (⟨hnd, hm⟩ : _ ∧ _)
  have HT := As.mk hT
  have HID := As.mk hid
  simp only
  clear hS hS1 hW hxx hx hRd hnd hT hkl hkl2 hm hid
  go_enter Tryd.func29, Tryd.ntmps29
  go_upto_region 1 with fail
  rw [HW.out.1, HW.out.2]
  go_cut [14] (fun tv wz => tv = .bool ((tf D m).isNone) ∧ wz = W)
  case first =>
    cases hf : tf D m with
    | some p =>
      rw [hf] at hl1
      have HF := As.mk hf
      simp only at hl1
      clear hf
      go_wp2_with fail
      go_meet
      exact ⟨by rw [HF.out]; rfl, rfl⟩
    | none =>
      rw [hf] at hl1
      have HF := As.mk hf
      simp only at hl1
      clear hf
      go_wp2_with fail
      go_meet
      exact ⟨by rw [HF.out]; rfl, rfl⟩
  case rest =>
  obtain ⟨rfl, rfl⟩ := hcut
  clear hl1
  go_upto_if 14 with fail
  go_cut [] (fun wz => ∃ (D1 : List TD) (i p : Nat) (R : List TRow), D1[i]? = some (m, p, R) ∧ (masksOf D1).Nodup ∧ As (ixF (idsOf R) (a1, a2) = none ∧ R.length ≤ 100000 ∧ PutD D m (a1, a2) cells (D1.set i (m, p, addR (bitsN m) R (a1, a2) cells))) ∧ At (fun _ => False) w0 wz (Hp.seps (stL q pi bt bm most room nm sl fr D1 M (Hp.blk x #[.int .i64 a1, .int .i64 a2] 31 :: r))))
  case first =>
    cases hf : tf D m with
    | some p =>
      obtain ⟨i, R, hi⟩ := tf_some hf
      clear hf
      simp only [Option.isNone_some]
      go_wp2_with fail
      go_meet
      exact ⟨D, i, p, R, hi, HND.out.1, ⟨(HX.out i p R hi).1, (HX.out i p R hi).2, .inl ⟨i, p, R, hi, rfl⟩⟩, HS.out⟩
    | none =>
      have HF := As.mk hf
      have HN : As (∀ V, At (fun _ => False) w0 V (Hp.seps (stL q pi bt bm most room nm sl fr D M (Hp.blk x #[.int .i64 a1, .int .i64 a2] 31 :: r))) → Calls Tryd.prog 59 #[.int .u16 (m : Nat)] V fun e w' => ∃ v, e = .returned v ∧ ∃ p, v = .pointer (some ⟨p, 0, none⟩) ∧ At (fun _ => False) w0 w' (Hp.seps (isTb p (bitsN m) [] :: stL q pi bt bm most room nm sl fr D M (Hp.blk x #[.int .i64 a1, .int .i64 a2] 31 :: r)))) := ⟨fun V h => (new_does V (HT.out.below h.bl) m HND.out.2).mono fun e w' ⟨p, h1, h2⟩ => ⟨_, h1, p, rfl, h.also h2⟩⟩
      clear hf
      simp only [Option.isNone_none]
      go_wp2_with fail
      go_region_law (refine rw_call_stepX rfl 59 #[.int .u16 (m : Nat)] (by go_simp) (HN.out _ (HS.out.below (by repeat (first | exact Below.refl _ _ | refine bl_drewN ?_ _ | refine Below.drew ?_ | refine bl_alloc ?_ _ | refine bl_set ?_ (by first | (simp; done) | omega | (simp; omega)) _)))) ?_; rintro v9 w9 ⟨p9, rfl, hS9⟩; have z2 := (hS9.cellAt 1 rfl 2).trans rfl; obtain ⟨w10, hrun, hM10, hg10⟩ := (hS9.mpAt 3 rfl).update (t := 67) (e := 79) KlawU encM_inj Tryd.underlying67 (y := p9) HKl.out.2; have hS10 := hS9.mpGrown 3 rfl hM10 hg10; have hrun : (Instr.mapUpdate 67 (.map (some bt)) (.int .u16 (m : Nat)) (.pointer (some ⟨p9, 0, none⟩))).run Tryd.prog w9 = .ok () w10 := hrun; clear hM10 hg10 hS9)
      all_goals (clear hrun z2)
      all_goals (go_wp2_with fail)
      all_goals (go_meet)
      all_goals (exact ⟨D ++ [(m, p9, [])], D.length, p9, [], by simp, masks_snoc HND.out.1 HF.out, ⟨rfl, by simp, .inr ⟨HF.out, p9, by simp⟩⟩, At.tabNew HF.out hS10⟩)
  case rest =>
    obtain ⟨D1, i, p, R, hi, hnd, HP, hS⟩ := hcut
    have c2 : wc.cell? ⟨q, 2, none⟩ = some (.map (some bt)) := (hS.cellAt 0 rfl 2).trans rfl
    have hl0 := look_tab (hS.mpAt 2 rfl) HND.out.2
    rw [tf_at hnd hi] at hl0
    simp only at hl0
    have HLk : As (∀ V, Below wc.heap.size wc V → (V.cell? ⟨q, 2, none⟩ = some (.map (some bt)) ∧ V.cell? ⟨x, 0, none⟩ = some (.int .i64 a1) ∧ V.cell? ⟨x, 1, none⟩ = some (.int .i64 a2) ∧ (Instr.lookup 67 (.map (some bt)) (.int .u16 (m : Nat)) false).run Tryd.prog V = .ok (.pointer (some ⟨p, 0, none⟩)) V)) := ⟨fun V hb => by
      have h := hS.below hb
      have hl := look_tab (h.mpAt 2 rfl) HND.out.2 0
      rw [tf_at hnd hi] at hl
      exact ⟨(h.cellAt 0 rfl 2).trans rfl, (h.cellAt 5 rfl 0).trans rfl, (h.cellAt 5 rfl 1).trans rfl, hl⟩⟩
    have HAK : As (∀ V, At (fun _ => False) w0 V (Hp.seps (stL q pi bt bm most room nm sl fr (D1.set i (m, p, addR (bitsN m) R (a1, a2) cells)) M (Hp.blk x #[.int .i64 a1, .int .i64 a2] 31 :: r))) → (V.cell? ⟨q, 2, none⟩ = some (.map (some bt)) ∧ V.cell? ⟨x, 0, none⟩ = some (.int .i64 a1) ∧ V.cell? ⟨x, 1, none⟩ = some (.int .i64 a2) ∧ (Instr.lookup 67 (.map (some bt)) (.int .u16 (m : Nat)) false).run Tryd.prog V = .ok (.pointer (some ⟨p, 0, none⟩)) V)) := ⟨fun V h => by
      have hl := look_tab (h.mpAt 2 rfl) HND.out.2 0
      rw [tf_set hi, tf_at hnd hi] at hl
      exact ⟨(h.cellAt 0 rfl 2).trans rfl, (h.cellAt 5 rfl 0).trans rfl, (h.cellAt 5 rfl 1).trans rfl, hl⟩⟩
    have HC : As (Calls Tryd.prog 60 #[.pointer (some ⟨p, 0, none⟩), .agg #[.int .i64 a1, .int .i64 a2], cv] wc.drew fun e w' => e = .returned (.int .i64 (R.length : Nat)) ∧ At (fun _ => False) w0 w' (Hp.seps (stL q pi bt bm most room nm sl fr (D1.set i (m, p, addR (bitsN m) R (a1, a2) cells)) M (Hp.blk x #[.int .i64 a1, .int .i64 a2] 31 :: r)))) := ⟨(add_new p (bitsN m) (bitsN_nodup m) R (a1, a2) cv cells HID.out HP.out.1 HP.out.2.1 (fun w' L' h => HRd.out w' (L' ++ [Hp.blk q #[.pointer (some ⟨pi, 0, none⟩), .int .i64 most, .map (some bt), .map (some bm)] 70, I.isIds pi room sl fr, Hp.mp Tryd.prog 35 bt D1.length encM evP (tf D1), Hp.mp Tryd.prog 31 bm nm encK encM M, Hp.many tbH (D1.eraseIdx i), Hp.blk x #[.int .i64 a1, .int .i64 a2] 31]) (by rw [List.append_assoc]; exact h)) (hS.drew.tabOut i m p R hi)).mono fun e w' ⟨h1, h2⟩ => ⟨h1, At.tabIn i m p R _ hi [] h2⟩⟩
    clear hS c2 hl0 hi hnd
    go_upto_region 3 with fail
    go_region_held3 (fun V => V.cell? ⟨q, 2, none⟩ = some (.map (some bt)) ∧ V.cell? ⟨x, 0, none⟩ = some (.int .i64 a1) ∧ V.cell? ⟨x, 1, none⟩ = some (.int .i64 a2) ∧ (Instr.lookup 67 (.map (some bt)) (.int .u16 (m : Nat)) false).run Tryd.prog V = .ok (.pointer (some ⟨p, 0, none⟩)) V) (first | with_reducible exact HAK.out _ HS3.out | exact HLk.out _ (by repeat (first | exact Below.refl _ _ | refine bl_drewN ?_ _ | refine Below.drew ?_ | refine bl_alloc ?_ _ | refine bl_set ?_ (by first | (simp; done) | omega | (simp; omega)) _))) (first | (go_at_call 60; refine HC.out.mono ?_; rintro e w3 ⟨rfl, hS3⟩; have HS3 := As.mk hS3; clear hS3))
    have hS := HS3.out
    have HP2 := As.mk HP.out.2.2
    clear HLk HAK HC HS3
    go_upto_region 4 with fail
    have d3 : w3.cell? ⟨q, 3, none⟩ = some (.map (some bm)) := (hS.cellAt 0 rfl 3).trans rfl
    have x0 : w3.cell? ⟨x, 0, none⟩ = some (.int .i64 a1) := (hS.cellAt 5 rfl 0).trans rfl
    have x1 : w3.cell? ⟨x, 1, none⟩ = some (.int .i64 a2) := (hS.cellAt 5 rfl 1).trans rfl
    go_still_tail 6, (by kernel_rfl)
    go_wp2_with (at_mapUpdate; refine rw_mapUpdate rfl (.tmp 34) (.tmp 35) (.tmp 36) 68 rfl 35 Klaw encK_inj Tryd.underlying68 rfl (hS.drew.mpAt 3 rfl) (a1, a2) m _ rfl rfl HKl.out.1 ?c1)
    case c1 =>
      intro w4 hM4 hg4
      have hS4 := hS.drew.mpGrown 3 rfl hM4 hg4
      clear hM4 hg4 hS d3 x0 x1
      go_wp2_with fail
      go_end0
      exact ⟨rfl, _, HP2.out, At.stDrop hS4⟩
end
end Go.Proofs.YtkebkmbfglodlaaDoor
