/- The reference's table: Add. -/
import Derived.Test.YthbmfinaoejheaaDoorR3
import Derived.Deep.MidRow
import Derived.Deep.RegionHeldLaw
set_option linter.unusedVariables false
namespace Go.Proofs.YthbmfinaoejheaaDoor
open Go.RowKit
def stepF (cs : List Int) (f : Int → Int) (x : Int × Int) : Int → Int := if x.1 ∈ cs then upd f x.1 x.2 else f
def pf (cs : List Int) (f : Int → Int) (l : List (Int × Int)) : Int → Int := l.foldl (stepF cs) f
theorem pf_snoc (cs : List Int) (f : Int → Int) (l : List (Int × Int)) (x : Int × Int) : pf cs f (l ++ [x]) = stepF cs (pf cs f l) x := by simp [pf]
theorem putR_last (cs : List Int) (R : List TRow) (id : Int × Int) : ∀ (l : List (Int × Int)) (f : Int → Int), putR cs (R ++ [(id, f)]) R.length l = R ++ [(id, pf cs f l)]
  | [], f => rfl
  | x :: l, f => by
    have h1 : setR cs (R ++ [(id, f)]) R.length x.1 x.2 = R ++ [(id, stepF cs f x)] := by
      unfold setR stepF
      by_cases hc : x.1 ∈ cs
      · have hh : hasR cs (R ++ [(id, f)]) R.length x.1 = true := by simp [hasR, hc]; omega
        rw [hh, if_pos rfl, if_pos hc, Int.toNat_natCast, modify_set (R ++ [(id, f)]) R.length (id, f) (by simp) _]
        simp
      · have hh : hasR cs (R ++ [(id, f)]) R.length x.1 = false := by simp [hasR, hc]
        rw [hh, if_neg hc]
        rfl
    have h2 := putR_last cs R id l (stepF cs f x)
    have h3 : putR cs (R ++ [(id, f)]) R.length (x :: l) = putR cs (setR cs (R ++ [(id, f)]) R.length x.1 x.2) R.length l := rfl
    rw [h3, h1, h2]
    rfl
theorem addR_eq (cs : List Int) (R : List TRow) (id : Int × Int) (l : List (Int × Int)) : addR cs R id l = R ++ [(id, pf cs (fun _ => 0) l)] := putR_last cs R id l _
theorem Tryd.infoW : (Tryd.prog.info? 70).map (fun i => (i.zero, i.size, i.bytes)) = some (some (.agg #[.int .i64 0, .int .i64 0, .int .i64 0, .int .i64 0, .int .i64 0, .int .i64 0, .int .i64 0, .int .i64 0, .int .i64 0, .int .i64 0, .int .i64 0, .int .i64 0, .int .i64 0, .int .i64 0, .int .i64 0, .int .i64 0, .int .i64 0, .int .i64 0]), 18, 144) := by kernel_rfl
def fillA (cs : Array Value) : Nat → List Value → Array Value
  | _, [] => cs
  | o, v :: r => fillA (cs.setIfInBounds o v) (o + 1) r
theorem fillA_list : ∀ (E : List Value) (k : Nat) (Z : Array Value), Z.size = k + E.length → (fillA Z k E).toList = Z.toList.take k ++ E
  | [], k, Z, h => by
    simp only [List.length_nil, Nat.add_zero] at h
    show Z.toList = _
    rw [List.append_nil, List.take_of_length_le (by simp; omega)]
  | v :: E, k, Z, h => by
    simp only [List.length_cons] at h
    show (fillA (Z.setIfInBounds k v) (k + 1) E).toList = _
    rw [fillA_list E (k + 1) _ (by simp; omega), Array.toList_setIfInBounds]
    have h1 : (Z.toList.set k v).take (k + 1) = Z.toList.take k ++ [v] := by
      rw [List.take_succ_eq_append_getElem (by simp; omega), List.take_set_of_le (Nat.le_refl _)]
      simp
    rw [h1]
    simp
theorem fold_fillA : ∀ (E : List Value) (k : Nat) (Z : Array Value), (E.zipIdx k).foldl (fun cs p => cs.setIfInBounds p.2 p.1) Z = fillA Z k E
  | [], _, _ => rfl
  | v :: E, k, Z => by
    rw [List.zipIdx_cons, List.foldl_cons]
    exact fold_fillA E (k + 1) _
theorem build_one (E : Array Value) (hE : E.size = 18) (w : World) : (Instr.buildSlice 65 1 #[(0, .agg E)]).run Tryd.prog w = .ok (.slice (some ⟨w.heap.size, 0, none⟩) 1 1) (w.alloc (.cells E 70)) := by
  have hz : (zeroValue 70).run Tryd.prog w = .ok (.agg #[.int .i64 0, .int .i64 0, .int .i64 0, .int .i64 0, .int .i64 0, .int .i64 0, .int .i64 0, .int .i64 0, .int .i64 0, .int .i64 0, .int .i64 0, .int .i64 0, .int .i64 0, .int .i64 0, .int .i64 0, .int .i64 0, .int .i64 0, .int .i64 0]) w := by kernel_rfl
  have hs : (sizeOf 70).run Tryd.prog w = .ok 18 w := by kernel_rfl
  have hf : ∀ Z : Array Value, Z.size = 18 → Array.foldl (fun cs (x : Value × Nat) => cs.setIfInBounds x.2 x.1) Z E.zipIdx 0 18 = E := by
    intro Z hZ
    have h1 : E.zipIdx.foldl (fun cs (x : Value × Nat) => cs.setIfInBounds x.2 x.1) Z = E := by
      rw [← Array.foldl_toList, Array.toList_zipIdx, fold_fillA]
      apply Array.toList_inj.1
      rw [fillA_list _ _ _ (by simp; omega)]
      simp
    rw [show E.zipIdx.size = 18 by simp [hE]] at h1
    exact h1
  unfold Instr.buildSlice
  simp [run_underlying Tryd.underlying65, hs, Instr.fill, Value.cells, hE]
  rw [hf _ (by simp)]
  rfl
section
variable {P : Program} {ops : Array Oper} {rest : List Oper} {op : Oper} {a : Act} {w w' : World} {Q : Exit → Act → World → Prop} {v : Value}
theorem wpList_build (hgd : op.guard = none) (t : TypeId) (parts : Array (Nat × Operand)) (ho : op.op = .build t parts) (parts' : Array (Nat × Value)) (hp : (parts.map fun (i, x) => (i, a.eval x)) = parts') (hr : (Instr.build t parts').run P w = .ok v w)
    (h : wpList P ops Q rest (a.put op.dst v) w) : wpList P ops Q (op :: rest) a w :=
  wpList_plain hgd fun _ hK => by
    unfold Oper.wp execOp
    simp only [ho, hp, Sem.run_bind, hr, Sem.run_pure, Result.andThen_ok]
    exact hK _ _ h
theorem wpList_alloc (hgd : op.guard = none) (t : TypeId) (ho : op.op = .alloc t) (hr : (Instr.alloc t true (.tuple #[])).run P w = .ok v w')
    (h : wpList P ops Q rest (a.put op.dst v) w') : wpList P ops Q (op :: rest) a w :=
  wpList_plain hgd fun _ hK => by
    unfold Oper.wp execOp
    simp only [ho, Sem.run_bind, hr, Sem.run_pure, Result.andThen_ok]
    exact hK _ _ h
end
theorem build_rowt (w : World) (a1 a2 : Int) : (Instr.build 70 #[(0, .agg #[.int .i64 a1, .int .i64 a2])]).run Tryd.prog w = .ok (.agg #[.int .i64 a1, .int .i64 a2, .int .i64 0, .int .i64 0, .int .i64 0, .int .i64 0, .int .i64 0, .int .i64 0, .int .i64 0, .int .i64 0, .int .i64 0, .int .i64 0, .int .i64 0, .int .i64 0, .int .i64 0, .int .i64 0, .int .i64 0, .int .i64 0]) w := by kernel_rfl
theorem alloc_rowt (w : World) : (Instr.alloc 70 true (.tuple #[])).run Tryd.prog w = .ok (.pointer (some ⟨w.heap.size, 0, none⟩)) (w.alloc (.cells #[.int .i64 0, .int .i64 0, .int .i64 0, .int .i64 0, .int .i64 0, .int .i64 0, .int .i64 0, .int .i64 0, .int .i64 0, .int .i64 0, .int .i64 0, .int .i64 0, .int .i64 0, .int .i64 0, .int .i64 0, .int .i64 0, .int .i64 0, .int .i64 0] 70)) := by kernel_rfl
theorem At.setCellsBlk {F0 : Nat → Prop} {w0 : World} {l : List Hp} {g t : Nat} (n : Nat) : ∀ {w : World} {cs : Array Value} (h : At F0 w0 w (Hp.seps l)) (ha : l[n]? = some (Hp.blk g cs t)) (vs : List Value) (o : Nat), At F0 w0 (w.setCells g o vs) (Hp.seps (l.set n (Hp.blk g (fillA cs o vs) t)))
  | w, cs, h, ha, [], o => by
    have h3 : l.set n (Hp.blk g cs t) = l := by
      have := (List.getElem?_eq_some_iff.1 ha).2
      rw [← this]
      exact List.set_getElem_self (At.idx_lt ha)
    show At F0 w0 w (Hp.seps (l.set n (Hp.blk g cs t)))
    rw [h3]
    exact h
  | w, cs, h, ha, v :: vs, o => by
    have h1 := h.setBlkAt n ha o v
    have h2 := At.setCellsBlk (l := l.set n (Hp.blk g (cs.setIfInBounds o v) t)) n h1 (by rw [List.getElem?_set_self (At.idx_lt ha)]) vs (o + 1)
    rw [List.set_set] at h2
    exact h2
theorem rowI_none {R : List TRow} {id : Int × Int} (h : ixF (idsOf R) id = none) : rowI R id = -1 := by unfold rowI; rw [h]
set_option maxHeartbeats 12800000 in
theorem radd_old {F0 : Nat → Prop} {w0 w : World} {l : List Hp} (q m : Nat) (R : List TRow) (id : Int × Int) (cv : Value) (hi : ∃ i, ixF (idsOf R) id = some i) (hS : At F0 w0 w (Hp.seps (isRt q m R :: l))) :
    Calls Tryd.prog 15 #[.pointer (some ⟨q, 0, none⟩), .agg #[.int .i64 id.1, .int .i64 id.2], cv] w (fun e w' => e = .returned (.int .i64 (-1)) ∧ At F0 w0 w' (Hp.seps (isRt q m R :: l))) := by
  obtain ⟨i, hx⟩ := hi
  obtain ⟨a1, a2⟩ := id
  have HR := As.mk (rrow_does q m R (a1, a2))
  have e1 : rowI R (a1, a2) = (i : Nat) := by unfold rowI; rw [hx]
  rw [e1] at HR
  have hS := hS.alloc #[.int .i64 a1, .int .i64 a2] 29
  obtain ⟨g, hg⟩ : ∃ g, g = w.heap.size := ⟨_, rfl⟩
  obtain ⟨W, hW⟩ : ∃ W, W = w.alloc (.cells #[.int .i64 a1, .int .i64 a2] 29) := ⟨_, rfl⟩
  rw [← hW, ← hg] at hS
  have HW := As.mk hW
  have HQ := As.mk hg
  simp only
  clear hW hg hx e1
  go_enter Tryd.func15, Tryd.ntmps15
  go_wp2_with fail
  rw [← HW.out, ← HQ.out]
  have g0 := (hS.cellAt 0 rfl 0).trans rfl
  have g1 := (hS.cellAt 0 rfl 1).trans rfl
  clear HW HQ
  go_wp2_with fail
  refine (hS.callAt 1 rfl HR.out).mono ?_
  rintro e w1 ⟨B, ⟨rfl, rfl⟩, hS1⟩
  have hS2 : At F0 w0 w1 (Hp.seps (isRt q m R :: l)) := hS1.tail
  clear hS hS1 HR
  go_wp2_with fail
  go_ret
  exact ⟨rfl, hS2⟩
set_option maxRecDepth 100000 in
set_option maxHeartbeats 12800000 in
theorem radd_new {F0 : Nat → Prop} {w0 w : World} {l : List Hp} (q m : Nat) (hm : m < 65536) (R : List TRow) (id : Int × Int) (cv : Value) (cells : List (Int × Int)) (hx : ixF (idsOf R) id = none) (hl : R.length ≤ 100000)
    (hR : ∀ w' L', At F0 w0 w' (Hp.seps (L' ++ l)) → Rd w' 2 encId cv cells) (hS : At F0 w0 w (Hp.seps (isRt q m R :: l))) :
    Calls Tryd.prog 15 #[.pointer (some ⟨q, 0, none⟩), .agg #[.int .i64 id.1, .int .i64 id.2], cv] w (fun e w' => e = .returned (.int .i64 (R.length : Nat)) ∧ At F0 w0 w' (Hp.seps (isRt q m (addR (bitsN m) R id cells) :: l))) := by
  obtain ⟨Dc, cn, rfl, hcn, hcm⟩ := (hR w [isRt q m R] hS).shape
  obtain ⟨a1, a2⟩ := id
  have HRw := As.mk (rrow_does q m R (a1, a2))
  rw [rowI_none hx] at HRw
  have HRd := As.mk hR
  have hS := hS.alloc #[.int .i64 a1, .int .i64 a2] 29
  obtain ⟨g, hg⟩ : ∃ g, g = w.heap.size := ⟨_, rfl⟩
  obtain ⟨W, hW⟩ : ∃ W, W = w.alloc (.cells #[.int .i64 a1, .int .i64 a2] 29) := ⟨_, rfl⟩
  rw [← hW, ← hg] at hS
  have HW := As.mk hW
  have HQ := As.mk hg
  simp only
  rw [addR_eq]
  obtain ⟨cs, hcs⟩ : ∃ cs, cs = bitsN m := ⟨_, rfl⟩
  have HCs := As.mk hcs
  rw [← hcs]
  clear hW hg hx hR hcs
  go_enter Tryd.func15, Tryd.ntmps15
  go_wp2_with fail
  rw [← HW.out, ← HQ.out]
  have g0 := (hS.cellAt 0 rfl 0).trans rfl
  have g1 := (hS.cellAt 0 rfl 1).trans rfl
  clear HW HQ
  go_wp2_with fail
  refine (hS.callAt 1 rfl HRw.out).mono ?_
  rintro e w1 ⟨B, ⟨rfl, rfl⟩, hS1⟩
  clear hS HRw g0 g1
  have g0 := (hS1.cellAt 0 rfl 0).trans rfl
  have g1 := (hS1.cellAt 0 rfl 1).trans rfl
  have hS2 := hS1.alloc #[.int .i64 0, .int .i64 0, .int .i64 0, .int .i64 0, .int .i64 0, .int .i64 0, .int .i64 0, .int .i64 0, .int .i64 0, .int .i64 0, .int .i64 0, .int .i64 0, .int .i64 0, .int .i64 0, .int .i64 0, .int .i64 0, .int .i64 0, .int .i64 0] 70
  have hth : (w1.alloc (.cells #[.int .i64 0, .int .i64 0, .int .i64 0, .int .i64 0, .int .i64 0, .int .i64 0, .int .i64 0, .int .i64 0, .int .i64 0, .int .i64 0, .int .i64 0, .int .i64 0, .int .i64 0, .int .i64 0, .int .i64 0, .int .i64 0, .int .i64 0, .int .i64 0] 70)).there w1.heap.size 0 18 := fun j hj => by
    rw [Nat.zero_add, hS2.cellAt 0 rfl j]
    exact ⟨by simp; omega, hS2.frozenAt 0 rfl j⟩
  have hrg : w1.rangeAt g 0 [.int .i64 a1, .int .i64 a2] := fun j v hv => by
    rw [Nat.zero_add, hS1.cellAt 0 rfl j]
    simpa using hv
  go_upto_region 3 with fail
  apply wp_region_lit
  refine wpList_load_mid rfl 29 (.tmp 4) rfl g 0 rfl _ _ hrg Tryd.underlying29 rfl (by kernel_rfl) ?_
  refine wpList_build rfl 70 _ rfl #[(0, .agg #[.int .i64 a1, .int .i64 a2])] (by go_simp) (build_rowt w1 a1 a2) ?_
  refine wpList_alloc rfl 70 rfl (alloc_rowt w1) ?_
  refine wpList_store_mid rfl 70 (.tmp 7) (.tmp 14) rfl w1.heap.size 0 #[.int .i64 a1, .int .i64 a2, .int .i64 0, .int .i64 0, .int .i64 0, .int .i64 0, .int .i64 0, .int .i64 0, .int .i64 0, .int .i64 0, .int .i64 0, .int .i64 0, .int .i64 0, .int .i64 0, .int .i64 0, .int .i64 0, .int .i64 0, .int .i64 0] rfl rfl hth (by kernel_rfl) (by simp [Value.oneCell']) ?_
  have hS2' := hS2.setCellsBlk 0 rfl [.int .i64 a1, .int .i64 a2, .int .i64 0, .int .i64 0, .int .i64 0, .int .i64 0, .int .i64 0, .int .i64 0, .int .i64 0, .int .i64 0, .int .i64 0, .int .i64 0, .int .i64 0, .int .i64 0, .int .i64 0, .int .i64 0, .int .i64 0, .int .i64 0] 0
  have hfa : fillA #[.int .i64 0, .int .i64 0, .int .i64 0, .int .i64 0, .int .i64 0, .int .i64 0, .int .i64 0, .int .i64 0, .int .i64 0, .int .i64 0, .int .i64 0, .int .i64 0, .int .i64 0, .int .i64 0, .int .i64 0, .int .i64 0, .int .i64 0, .int .i64 0] 0 [.int .i64 a1, .int .i64 a2, .int .i64 0, .int .i64 0, .int .i64 0, .int .i64 0, .int .i64 0, .int .i64 0, .int .i64 0, .int .i64 0, .int .i64 0, .int .i64 0, .int .i64 0, .int .i64 0, .int .i64 0, .int .i64 0, .int .i64 0, .int .i64 0] = (encRow ((a1, a2), pf cs (fun _ => 0) (cells.take 0))).toArray := Array.toList_inj.1 (by rw [fillA_list _ _ _ rfl]; rfl)
  rw [hfa] at hS2'
  obtain ⟨r, hr⟩ : ∃ r, r = w1.heap.size := ⟨_, rfl⟩
  obtain ⟨W3, hW3⟩ : ∃ W3, W3 = (w1.alloc (.cells #[.int .i64 0, .int .i64 0, .int .i64 0, .int .i64 0, .int .i64 0, .int .i64 0, .int .i64 0, .int .i64 0, .int .i64 0, .int .i64 0, .int .i64 0, .int .i64 0, .int .i64 0, .int .i64 0, .int .i64 0, .int .i64 0, .int .i64 0, .int .i64 0] 70)).setCells w1.heap.size 0 [.int .i64 a1, .int .i64 a2, .int .i64 0, .int .i64 0, .int .i64 0, .int .i64 0, .int .i64 0, .int .i64 0, .int .i64 0, .int .i64 0, .int .i64 0, .int .i64 0, .int .i64 0, .int .i64 0, .int .i64 0, .int .i64 0, .int .i64 0, .int .i64 0] := ⟨_, rfl⟩
  rw [← hW3, ← hr] at hS2'
  rw [← hW3, ← hr]
  have hS3 : At F0 w0 W3 (Hp.seps (Hp.blk r (encRow ((a1, a2), pf cs (fun _ => 0) (cells.take 0))).toArray 70 :: Hp.blk g #[.int .i64 a1, .int .i64 a2] 29 :: isRt q m R :: l)) := hS2'
  clear hS1 hS2 hS2' hfa hth hrg hW3 hr g0 g1
  go_wp2_with fail
  go_loopg [8] cells.length (fun g0 iv wr => ∃ k : Nat, k + g0 = cells.length ∧ iv = .int .i64 k ∧ At F0 w0 wr (Hp.seps (Hp.blk r (encRow ((a1, a2), pf cs (fun _ => 0) (cells.take k))).toArray 70 :: Hp.blk g #[.int .i64 a1, .int .i64 a2] 29 :: isRt q m R :: l)))
  case atStart => exact ⟨0, by omega, rfl, hS3⟩
  case round =>
    clear hS3
    obtain ⟨k, hk, rfl, hS⟩ := hrel
    have HK := As.mk hk
    by_cases hlt : k < cells.length
    · obtain ⟨x, hx⟩ : ∃ x, cells[k]? = some x := ⟨_, List.getElem?_eq_getElem hlt⟩
      have HRk := As.mk (fun w' (h : At F0 w0 w' (Hp.seps (Hp.blk r (encRow ((a1, a2), pf cs (fun _ => 0) (cells.take k))).toArray 70 :: Hp.blk g #[.int .i64 a1, .int .i64 a2] 29 :: isRt q m R :: l))) => (HRd.out w' [_, _, _] h).cells _ _ _ rfl k x hx)
      obtain ⟨bk, off, rfl, hbk, hcell⟩ := HRk.out _ hS
      have c0 := hcell 0 (by omega)
      have c1 := hcell 1 (by omega)
      have HT := As.mk (take_snoc hx)
      have HP := As.mk (pf_snoc cs (fun _ => 0) (cells.take k) x)
      rw [HT.out] at HP
      obtain ⟨fk, hfk⟩ : ∃ fk, fk = pf cs (fun _ => 0) (cells.take k) := ⟨_, rfl⟩
      rw [← hfk] at hS HP
      clear hfk HRk
      obtain ⟨x1, x2⟩ := x
      simp only [encId, List.getElem?_cons_zero, List.getElem?_cons_succ, Nat.add_zero] at c0 c1
      obtain ⟨A, c, _, _, hO⟩ := rt_open (hS.sel [2, 0, 0])
      have q0 := (hO.cellAt 0 rfl 0).trans rfl
      have HH := As.mk (has_blk q m hm x1 _ q0)
      rw [← HCs.out] at HH
      have hm0 : (k : Int) < (cells.length : Int) := by omega
      have HC := As.mk (And.intro c0 c1)
      have HBk := As.mk hbk
      clear hk hcell hx hO q0
      go_wp2_with fail
      refine HH.out.mono ?_
      rintro e w2 ⟨rfl, hb⟩
      have hS4 := hS.below hb
      have c0 := (hb.cell (p := ⟨bk, off + k * 2, none⟩) HBk.out).trans HC.out.1
      have c1 := (hb.cell (p := ⟨bk, off + k * 2 + 1, none⟩) HBk.out).trans HC.out.2
      clear hS hb HH
      by_cases hcc : x1 ∈ cs
      · have hb := (mem_bitsN m x1).1 (by rw [← HCs.out]; exact hcc)
        obtain ⟨j, rfl⟩ : ∃ j : Nat, x1 = (j : Int) := ⟨x1.toNat, by omega⟩
        have m1 : (j : Int) < 16 := hb.2.1
        have HJ : As (j < 16) := ⟨by omega⟩
        have HST : As (stepF cs fk ((j : Int), x2) = upd fk j x2) := ⟨by unfold stepF; rw [if_pos hcc]⟩
        have rf := hS4.frozenAt 0 rfl (2 + j)
        have rlt := hS4.ltAt 0 rfl
        have rc : w2.cell? ⟨r, 2 + j, none⟩ = some (.int .i64 (fk j)) := (hS4.cellAt 0 rfl (2 + j)).trans (by rw [List.getElem?_toArray]; exact encRow_at ((a1, a2), fk) j HJ.out)
        rw [decide_eq_true hcc]
        clear hcc hb
        go_wp2_with fail
        go_still_tail 12, (by kernel_rfl)
        go_wp2_with fail
        have hS5 : At F0 w0 (w2.setCell ⟨r, 2 + j, none⟩ (.int .i64 x2)).drew (Hp.seps (Hp.blk r (encRow ((a1, a2), pf cs (fun _ => 0) (cells.take (k + 1)))).toArray 70 :: Hp.blk g #[.int .i64 a1, .int .i64 a2] 29 :: isRt q m R :: l)) := by
          rw [HP.out, HST.out, encRow_set (a1, a2) fk j HJ.out x2]
          have h := (hS4.setBlkAt 0 rfl (2 + j) (.int .i64 x2)).drew
          rw [List.setIfInBounds_toArray] at h
          exact h
        clear hS4 c0 c1 rf rlt rc
        go_roundg (gk - 1)
        case measure => have := HK.out; omega
        case rel => exact ⟨k + 1, by have := HK.out; omega, by first | rfl | go_num, hS5⟩
      · have HST : As (stepF cs fk (x1, x2) = fk) := ⟨by unfold stepF; rw [if_neg hcc]⟩
        rw [decide_eq_false hcc]
        have hS5 : At F0 w0 w2 (Hp.seps (Hp.blk r (encRow ((a1, a2), pf cs (fun _ => 0) (cells.take (k + 1)))).toArray 70 :: Hp.blk g #[.int .i64 a1, .int .i64 a2] 29 :: isRt q m R :: l)) := by rw [HP.out, HST.out]; exact hS4
        clear hcc hS4 c0 c1
        go_wp2_with fail
        go_roundg (gk - 1)
        case measure => have := HK.out; omega
        case rel => exact ⟨k + 1, by have := HK.out; omega, by go_num, hS5⟩
    · obtain rfl : k = cells.length := by omega
      rw [List.take_length] at hS
      obtain ⟨fz, hfz⟩ : ∃ fz, fz = pf cs (fun _ => 0) cells := ⟨_, rfl⟩
      rw [← hfz] at hS
      have HFz := As.mk hfz
      obtain ⟨sv, hO⟩ := hS.openAt (f := fun sv => [Hp.blk q #[.int .u16 (m : Nat), sv] 67, Hp.row 70 18 encRow sv R]) 2 rfl
      have hO : At F0 w0 wr (Hp.seps (Hp.blk q #[.int .u16 (m : Nat), sv] 67 :: Hp.row 70 18 encRow sv R :: Hp.blk r (encRow ((a1, a2), fz)).toArray 70 :: Hp.blk g #[.int .i64 a1, .int .i64 a2] 29 :: l)) := hO
      obtain ⟨A, c, rfl, hc1, hc2⟩ := (hO.rowAt 1 rfl).shape
      have q0 := (hO.cellAt 0 rfl 0).trans rfl
      have q1 := (hO.cellAt 0 rfl 1).trans rfl
      have qlt := hO.ltAt 0 rfl
      have rlt := hO.ltAt 2 rfl
      have r0 : wr.cell? ⟨r, 0, none⟩ = some (.int .i64 (a1)) := (hO.cellAt 2 rfl 0).trans rfl
      have r1 : wr.cell? ⟨r, 1, none⟩ = some (.int .i64 (a2)) := (hO.cellAt 2 rfl 1).trans rfl
      have r2 : wr.cell? ⟨r, 2, none⟩ = some (.int .i64 (fz 0)) := (hO.cellAt 2 rfl 2).trans rfl
      have r3 : wr.cell? ⟨r, 3, none⟩ = some (.int .i64 (fz 1)) := (hO.cellAt 2 rfl 3).trans rfl
      have r4 : wr.cell? ⟨r, 4, none⟩ = some (.int .i64 (fz 2)) := (hO.cellAt 2 rfl 4).trans rfl
      have r5 : wr.cell? ⟨r, 5, none⟩ = some (.int .i64 (fz 3)) := (hO.cellAt 2 rfl 5).trans rfl
      have r6 : wr.cell? ⟨r, 6, none⟩ = some (.int .i64 (fz 4)) := (hO.cellAt 2 rfl 6).trans rfl
      have r7 : wr.cell? ⟨r, 7, none⟩ = some (.int .i64 (fz 5)) := (hO.cellAt 2 rfl 7).trans rfl
      have r8 : wr.cell? ⟨r, 8, none⟩ = some (.int .i64 (fz 6)) := (hO.cellAt 2 rfl 8).trans rfl
      have r9 : wr.cell? ⟨r, 9, none⟩ = some (.int .i64 (fz 7)) := (hO.cellAt 2 rfl 9).trans rfl
      have r10 : wr.cell? ⟨r, 10, none⟩ = some (.int .i64 (fz 8)) := (hO.cellAt 2 rfl 10).trans rfl
      have r11 : wr.cell? ⟨r, 11, none⟩ = some (.int .i64 (fz 9)) := (hO.cellAt 2 rfl 11).trans rfl
      have r12 : wr.cell? ⟨r, 12, none⟩ = some (.int .i64 (fz 10)) := (hO.cellAt 2 rfl 12).trans rfl
      have r13 : wr.cell? ⟨r, 13, none⟩ = some (.int .i64 (fz 11)) := (hO.cellAt 2 rfl 13).trans rfl
      have r14 : wr.cell? ⟨r, 14, none⟩ = some (.int .i64 (fz 12)) := (hO.cellAt 2 rfl 14).trans rfl
      have r15 : wr.cell? ⟨r, 15, none⟩ = some (.int .i64 (fz 13)) := (hO.cellAt 2 rfl 15).trans rfl
      have r16 : wr.cell? ⟨r, 16, none⟩ = some (.int .i64 (fz 14)) := (hO.cellAt 2 rfl 16).trans rfl
      have r17 : wr.cell? ⟨r, 17, none⟩ = some (.int .i64 (fz 15)) := (hO.cellAt 2 rfl 17).trans rfl
      clear hk hlt hS hfz HK hc1 HRd hcm hcn
      go_wp2_with fail
      go_cut [] (fun wc => ∃ A1 n1 c1, At F0 w0 wc (Hp.seps (Hp.blk q #[.int .u16 (m : Nat), .slice A1 n1 c1] 67 :: Hp.row 70 18 encRow (.slice A1 n1 c1) (R ++ [((a1, a2), fz)]) :: Hp.blk r (encRow ((a1, a2), fz)).toArray 70 :: Hp.blk g #[.int .i64 a1, .int .i64 a2] 29 :: l)))
      case first =>
        go_region_law (refine rw_append_step rfl (.tmp 44) (.tmp 46) 65 70 18 encRow (.agg #[.int .i64 0, .int .i64 0, .int .i64 0, .int .i64 0, .int .i64 0, .int .i64 0, .int .i64 0, .int .i64 0, .int .i64 0, .int .i64 0, .int .i64 0, .int .i64 0, .int .i64 0, .int .i64 0, .int .i64 0, .int .i64 0, .int .i64 0, .int .i64 0]) 144 rfl Tryd.underlying65 Tryd.infoW rfl (by decide) (.slice A R.length c) R ((a1, a2), fz) rfl _ rfl (by first | exact blk_new (by simp) | exact blk_new_drew (by simp) | exact (blk_new_drewN (by simp))) ((hO.below (by repeat (first | exact Below.refl _ _ | refine bl_drewN ?_ _ | refine Below.drew ?_ | refine bl_alloc ?_ _ | refine bl_set ?_ (by first | (simp; done) | omega | (simp; omega)) _))).rowAt 1 rfl) encRow_len (one_row _) ?_ ?_ ?_; (simp only [maxLen]; omega); omega; intro v1 w2 hA; obtain ⟨A1, n1, c1, rfl⟩ := hA.row.slice; have hS3 := At.appendAt 1 hA hO rfl (by repeat (first | exact Below.refl _ _ | refine bl_drewN ?_ _ | refine Below.drew ?_ | refine bl_alloc ?_ _ | refine bl_set ?_ (by first | (simp; done) | omega | (simp; omega)) _)); clear hA; have z2 := (hS3.cellAt 0 rfl 1).trans rfl; have zf := hS3.frozenAt 0 rfl 1; have zlt := hS3.ltAt 0 rfl)
        all_goals
          have hS4 := hS3.setBlkAt 0 rfl 1 (.slice A1 n1 c1)
          go_wp2_with fail
          go_meet
          exact ⟨_, _, _, hS4⟩
      case rest =>
        clear hO q0 q1 qlt rlt r0 r1 r2 r3 r4 r5 r6 r7 r8 r9 r10 r11 r12 r13 r14 r15 r16 r17
        obtain ⟨A1, n1, c1, hS⟩ := hcut
        have hn1 : n1 = (R ++ [((a1, a2), fz)]).length := by obtain ⟨A', c', h1, _, _⟩ := (hS.rowAt 1 rfl).shape; injection h1
        rw [List.length_append, List.length_singleton] at hn1
        subst hn1
        have q0 := (hS.cellAt 0 rfl 0).trans rfl
        have q1 := (hS.cellAt 0 rfl 1).trans rfl
        go_wp2_with fail
        go_ret
        rw [← HFz.out]
        exact ⟨rfl, ((rt_close hS).dropAt 1 (by simp)).dropAt 1 (by simp)⟩
end Go.Proofs.YthbmfinaoejheaaDoor
