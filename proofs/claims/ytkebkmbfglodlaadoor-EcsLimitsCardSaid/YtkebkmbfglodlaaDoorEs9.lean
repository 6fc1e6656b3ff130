/- A store: Put of a component more. No condition but bounded sizes. -/
import Derived.Test.YtkebkmbfglodlaaDoorEs8
set_option linter.unusedVariables false
set_option linter.unusedSimpArgs false
set_option maxRecDepth 100000
namespace Go.Proofs.YtkebkmbfglodlaaDoor
open Go.RowKit
section
variable {w0 w : World} {q pi bt bm : Nat} {most room : Int} {nm : Nat} {sl : List (Int × Bool)} {fr : List Int} {D : List TD} {M : Int × Int → Option Nat} {r : List Hp}
theorem or_ne {m c : Nat} (h : m.testBit c = false) : m ||| 2 ^ c ≠ m := by
  intro e
  have h1 := congrArg (fun x => x.testBit c) e
  simp [Nat.testBit_or, Nat.testBit_two_pow, h] at h1
theorem ix_none {R : List TRow} {id : Int × Int} (h : id ∉ idsOf R) : ixF (idsOf R) id = none := by
  unfold ixF
  rw [List.findIdx?_eq_none_iff]
  intro x hx
  rw [decide_eq_false_iff_not]
  rintro rfl
  exact h hx
/-- Where an entity may be put: into no table that has it. -/
theorem WF.free {n : Nat} (hW : WF sl D M n) {id : Int × Int} {m m' i p : Nat} {R R' : List TRow} (hM : M id = some m) (hne : m' ≠ m) (hi : D[i]? = some (m, p, R)) : ∀ (j p' : Nat) (Q : List TRow), (D.set i (m, p, R'))[j]? = some (m', p', Q) → ixF (idsOf Q) id = none ∧ Q.length ≤ n := by
  intro j p' Q hj
  rw [List.getElem?_set] at hj
  split at hj
  · rename_i e
    split at hj
    · injection hj with hj
      injection hj with h1
      exact absurd h1.symm hne
    · cases hj
  · refine ⟨ix_none fun hx => ?_, hW.len j m' p' Q hj⟩
    have := hW.back j m' p' Q hj id hx
    rw [hM] at this
    injection this with this
    exact hne this.symm
set_option maxHeartbeats 12800000 in
theorem put_move {n : Nat} (hT : GTab w0) (hWF : WF sl D M n) (hn : n ≤ 100000) (hS : At (fun _ => False) w0 w (Hp.seps (stL q pi bt bm most room nm sl fr D M r))) (id : Int × Int) (hid : okId id) (c m : Nat) (v : Int) (hc : c < 16) (hm : m < 65536) (hh : hasI sl id = true) (hM : M id = some m) (ht : m.testBit c = false) (hfu : fullB most D (m ||| 2 ^ c) = false) (i p k : Nat) (R : List TRow) (f : Int → Int) (hi : D[i]? = some (m, p, R)) (hk : R[k]? = some (id, f)) :
    Calls Tryd.prog 13 #[.pointer (some ⟨q, 0, none⟩), .agg #[.int .i64 id.1, .int .i64 id.2], .agg #[.int .i64 (c : Nat), .int .i64 v]] w fun e w' => e = .returned (.int .i64 0) ∧ ∃ D', PutD (D.set i (m, p, swp R k)) (m ||| 2 ^ c) id (cellsOf (bitsN m) (id, f) ++ [((c : Int), v)]) D' ∧ At (fun _ => False) w0 w' (Hp.seps (stL q pi bt bm most room (nm + 1) sl fr D' (fput M id (some (m ||| 2 ^ c))) r)) := by
  obtain ⟨a1, a2⟩ := id
  have hS := hS.alloc #[.int .i64 a1, .int .i64 a2] 31
  obtain ⟨x0, hx0⟩ : ∃ q, q = w.heap.size := ⟨_, rfl⟩
  obtain ⟨W0, hW0⟩ : ∃ V, V = w.alloc (.cells #[.int .i64 a1, .int .i64 a2] 31) := ⟨_, rfl⟩
  rw [← hx0, ← hW0] at hS
  have hS := hS.alloc #[.int .i64 (c : Nat), .int .i64 v] 33
  obtain ⟨x1, hx1⟩ : ∃ q, q = W0.heap.size := ⟨_, rfl⟩
  obtain ⟨W1, hW1⟩ : ∃ V, V = W0.alloc (.cells #[.int .i64 (c : Nat), .int .i64 v] 33) := ⟨_, rfl⟩
  rw [← hx1, ← hW1] at hS
  have Hx : As (w.alloc (.cells #[.int .i64 a1, .int .i64 a2] 31) = W0 ∧ w.heap.size = x0 ∧ W0.alloc (.cells #[.int .i64 (c : Nat), .int .i64 v] 33) = W1 ∧ x0 + 1 = x1) := ⟨hW0.symm, hx0.symm, hW1.symm, by rw [hx1, hW0, hx0]; simp⟩
  clear hx0 hW0 hx1 hW1
  have hS1 := hS.stIn2
  have x00 : W1.cell? ⟨x0, 0, none⟩ = some (.int .i64 a1) := (hS1.cellAt 6 rfl 0).trans rfl
  have x01 : W1.cell? ⟨x0, 1, none⟩ = some (.int .i64 a2) := (hS1.cellAt 6 rfl 1).trans rfl
  have x10 : W1.cell? ⟨x1, 0, none⟩ = some (.int .i64 (c : Nat)) := (hS1.cellAt 5 rfl 0).trans rfl
  have x11 : W1.cell? ⟨x1, 1, none⟩ = some (.int .i64 v) := (hS1.cellAt 5 rfl 1).trans rfl
  have HC := As.mk (look_does hS1 (a1, a2) hid (c : Nat))
  rw [lookS_ok hh hc hM] at HC
  obtain ⟨pw, hpw⟩ : ∃ pw, pw = 2 ^ c := ⟨_, rfl⟩
  obtain ⟨an, han⟩ : ∃ an, an = m &&& 2 ^ c := ⟨_, rfl⟩
  have a0 : bits .and .u16 (m : Int) (pw : Int) = (an : Int) := by rw [hpw, and_ne m c hm hc, han]
  have a1' : ((an : Int) == 0) = true := by
    rw [beq_iff_eq, han, (testBit_and m c).2 ht]; rfl
  have hpl : pw < 65536 := by rw [hpw]; exact Nat.lt_of_lt_of_le (Nat.pow_lt_pow_right (by decide) hc) (by decide)
  obtain ⟨on, hon⟩ : ∃ on, on = m ||| pw := ⟨_, rfl⟩
  have o0 : bits .or .u16 (m : Int) (pw : Int) = (on : Int) := by rw [u16_or_nat m pw hm hpl, hon]
  have hol : on < 65536 := by rw [hon]; exact Nat.or_lt_two_pow (n := 16) hm hpl
  rw [← hpw] at HC
  have hne : on ≠ m := by rw [hon, hpw]; exact or_ne ht
  have hmD : masksOf (D.set i (m, p, swp R k)) = masksOf D := masks_set hi
  have HO := As.mk (fun (r' : List Hp) V h => out_does (F0 := fun _ => False) (w0 := w0) (w := V) (q := q) (pi := pi) (bt := bt) (bm := bm) (most := most) (room := room) (nm := nm) (sl := sl) (fr := fr) (D := D) (M := M) (r := r') h hWF.nd (a1, a2) hid m hm hM i p k R f hi hk (hWF.rnd i m p R hi) (fun y hy => hWF.ok y m (hWF.back i m p R hi y hy)) (by have := hWF.len i m p R hi; omega))
  have HP := As.mk (fun (r' : List Hp) (V : World) (cv : Value) (h : At (fun _ => False) w0 V (Hp.seps (stL q pi bt bm most room nm sl fr (D.set i (m, p, swp R k)) M (Hp.row 33 2 encId cv (cellsOf (bitsN m) ((a1, a2), f) ++ [((c : Int), v)]) :: r')))) => put_does (w0 := w0) (w := V) (q := q) (pi := pi) (bt := bt) (bm := bm) (most := most) (room := room) (nm := nm) (sl := sl) (fr := fr) (D := D.set i (m, p, swp R k)) (M := M) (r := Hp.row 33 2 encId cv (cellsOf (bitsN m) ((a1, a2), f) ++ [((c : Int), v)]) :: r') hT h (by rw [hmD]; exact hWF.nd) (a1, a2) hid on hol (fun j p' Q hj => by have h := hWF.free hM hne hi j p' Q hj; exact ⟨h.1, by omega⟩) cv (cellsOf (bitsN m) ((a1, a2), f) ++ [((c : Int), v)]) (fun w' L' h => ((h.rowAt L'.length (by rw [List.getElem?_append_right (Nat.le_refl _), Nat.sub_self]; rfl)).rd encId_len)))
  rw [← hpw, ← hon] at hfu ⊢
  have HN := As.mk (⟨hWF.nd, hfu, hol⟩ : _ ∧ _ ∧ _)
  have HLn : As ((cellsOf (bitsN m) ((a1, a2), f)).length ≤ 16) := ⟨by have := bitsN_len m; simpa [cellsOf] using this⟩
  clear hS hS1 hid hh hM ht hpw han hon hfu hol hWF hT hi hk hne hmD
  simp only
  go_enter Tryd.func13, Tryd.ntmps13
  go_upto_region 1 with fail
  rw [Hx.out.1, Hx.out.2.1, Hx.out.2.2.1, Hx.out.2.2.2]
  go_wp2_with fail
  refine HC.out.mono ?_
  rintro e w1 ⟨rfl, hS⟩
  clear HC x00 x01 x10 x11
  have HF := As.mk (full_does HN.out.1 hS on HN.out.2.2)
  rw [HN.out.2.1] at HF
  clear hS
  go_wp2_with fail
  refine HF.out.mono ?_
  rintro e w2 ⟨rfl, hS⟩
  clear HF
  have x00 : w2.cell? ⟨x0, 0, none⟩ = some (.int .i64 a1) := (hS.cellAt 6 rfl 0).trans rfl
  have x01 : w2.cell? ⟨x0, 1, none⟩ = some (.int .i64 a2) := (hS.cellAt 6 rfl 1).trans rfl
  have x10 : w2.cell? ⟨x1, 0, none⟩ = some (.int .i64 (c : Nat)) := (hS.cellAt 5 rfl 0).trans rfl
  have x11 : w2.cell? ⟨x1, 1, none⟩ = some (.int .i64 v) := (hS.cellAt 5 rfl 1).trans rfl
  have hSB : At (fun _ => False) w0 (w2.alloc (.cells #[.int .i64 (c : Nat), .int .i64 v] 33)).drew (Hp.seps (stL q pi bt bm most room nm sl fr D M (Hp.blk x1 #[.int .i64 (c : Nat), .int .i64 v] 33 :: Hp.blk x0 #[.int .i64 a1, .int .i64 a2] 31 :: Hp.blk w2.heap.size #[.int .i64 (c : Nat), .int .i64 v] 33 :: r))) := (hS.alloc #[.int .i64 (c : Nat), .int .i64 v] 33).drew.perm ((List.perm_middle (l₁ := [Hp.blk q #[.pointer (some ⟨pi, 0, none⟩), .int .i64 most, .map (some bt), .map (some bm)] 70, I.isIds pi room sl fr, Hp.mp Tryd.prog 35 bt D.length encM evP (tf D), Hp.mp Tryd.prog 31 bm nm encK encM M, Hp.many tbH D, Hp.blk x1 #[.int .i64 (c : Nat), .int .i64 v] 33, Hp.blk x0 #[.int .i64 a1, .int .i64 a2] 31]) (l₂ := r) (a := Hp.blk w2.heap.size #[.int .i64 (c : Nat), .int .i64 v] 33)).symm)
  have x0lt := hS.ltAt 6 rfl
  have x1lt := hS.ltAt 5 rfl
  go_upto_region 10 with fail
  go_region_law (first
    | (refine rw_call_stepX rfl 31 #[.pointer (some ⟨q, 0, none⟩), .agg #[.int .i64 a1, .int .i64 a2]] ?_ (HO.out _ _ (by with_reducible exact hSB)) ?_; (· first | (go_simp; done) | (simp [execOp, resolve, Act.eval, Act.put]; done)); rintro v9 w9 hS9; obtain ⟨D9, n9, cc9, rfl⟩ := (hS9.rowAt 5 rfl).slice; have y00 := (hS9.cellAt 7 rfl 0).trans rfl; have y01 := (hS9.cellAt 7 rfl 1).trans rfl; have y10 := (hS9.cellAt 6 rfl 0).trans rfl; have y11 := (hS9.cellAt 6 rfl 1).trans rfl; have y0lt := hS9.ltAt 7 rfl; have y1lt := hS9.ltAt 6 rfl)
    | (refine rw_call_stepX rfl 31 #[.pointer (some ⟨q, 0, none⟩), .agg #[.int .i64 a1, .int .i64 a2]] ?_ (HO.out _ _ (hS.below (by repeat (first | exact Below.refl _ _ | refine bl_drewN ?_ _ | refine Below.drew ?_ | refine bl_alloc ?_ _ | refine bl_set ?_ (by first | (simp; done) | omega | (simp; omega)) _)))) ?_; (· first | (go_simp; done) | (simp [execOp, resolve, Act.eval, Act.put]; done)); rintro v9 w9 hS9; obtain ⟨D9, n9, cc9, rfl⟩ := (hS9.rowAt 5 rfl).slice; have y00 := (hS9.cellAt 7 rfl 0).trans rfl; have y01 := (hS9.cellAt 7 rfl 1).trans rfl; have y10 := (hS9.cellAt 6 rfl 0).trans rfl; have y11 := (hS9.cellAt 6 rfl 1).trans rfl; have y0lt := hS9.ltAt 7 rfl; have y1lt := hS9.ltAt 6 rfl)
    | (refine rw_append_step rfl (.tmp 57) (.tmp 59) 34 33 2 encId (.agg #[.int .i64 0, .int .i64 0]) 16 rfl Tryd.underlying34 Tryd.infoC rfl (by decide) (.slice D9 n9 cc9) (cellsOf (bitsN m) ((a1, a2), f)) ((c : Int), v) rfl _ rfl (by first | exact blk_new (by simp) | exact blk_new_drew (by simp) | exact (blk_new_drewN (by simp)) | exact hS9.blkAt 8 rfl) ((hS9.below (by repeat (first | exact Below.refl _ _ | refine bl_drewN ?_ _ | refine Below.drew ?_ | refine bl_alloc ?_ _ | refine bl_set ?_ (by first | (simp; done) | omega | (simp; omega)) _))).rowAt 5 rfl) encId_len (one_id _) ?_ ?_ ?_; (have := HLn.out; simp only [maxLen]; omega); (have := HLn.out; omega); intro v1 w10 hA; obtain ⟨D1, n1, cc1, rfl⟩ := hA.row.slice; have hS10 := At.appendAt 5 hA hS9 rfl (by repeat (first | exact Below.refl _ _ | refine bl_drewN ?_ _ | refine Below.drew ?_ | refine bl_alloc ?_ _ | refine bl_set ?_ (by first | (simp; done) | omega | (simp; omega)) _)); clear hA; have z00 := (hS10.cellAt 7 rfl 0).trans rfl; have z01 := (hS10.cellAt 7 rfl 1).trans rfl)
    | (refine rw_call_step rfl 29 #[.pointer (some ⟨q, 0, none⟩), .agg #[.int .i64 a1, .int .i64 a2], .int .u16 (on : Nat), .slice D1 n1 cc1] ?_ (HP.out _ _ (.slice D1 n1 cc1) (hS10.below (by repeat (first | exact Below.refl _ _ | refine bl_drewN ?_ _ | refine Below.drew ?_ | refine bl_alloc ?_ _ | refine bl_set ?_ (by first | (simp; done) | omega | (simp; omega)) _)))) ?_; (· first | (go_simp; done) | (simp [execOp, resolve, Act.eval, Act.put]; done)); rintro w11 ⟨D', hD', hS11⟩))
  all_goals (clear hSB)
  all_goals (go_wp2_with fail)
  all_goals (refine bodyPost_ret (v := .int .i64 0) (by simp [results, Tryd.results13, go_sem]) rfl ⟨rfl, D', hD', ?_⟩)
  all_goals (first | exact At.stDrop (At.stDrop (At.stDrop (At.stDrop hS11))) | exact At.stDrop (At.stDrop (At.stDrop hS11)))
end
end Go.Proofs.YtkebkmbfglodlaaDoor
