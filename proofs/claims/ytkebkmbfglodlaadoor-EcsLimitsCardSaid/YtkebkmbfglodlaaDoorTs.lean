/- A table: Get, Set, Row. -/
import Derived.Test.YtkebkmbfglodlaaDoorTr
set_option linter.unusedVariables false
namespace Go.Proofs.YtkebkmbfglodlaaDoor
open Go.RowKit
open Go.Maps (Keyed)
def hasR (cs : List Int) (R : List TRow) (row comp : Int) : Bool := decide (comp ∈ cs ∧ 0 ≤ row ∧ row < (R.length : Int))
def valR (R : List TRow) (row comp : Int) : Int := match R[row.toNat]? with | some r => r.2 comp | none => 0
def getV (cs : List Int) (R : List TRow) (row comp : Int) : Int := if hasR cs R row comp then valR R row comp else 0
def rowI (R : List TRow) (k : Int × Int) : Int := match ixF (idsOf R) k with | some i => (i : Nat) | none => -1
def upd (f : Int → Int) (c v : Int) : Int → Int := fun z => if z = c then v else f z
def setR (cs : List Int) (R : List TRow) (row comp v : Int) : List TRow := if hasR cs R row comp then R.modify row.toNat (fun r => (r.1, upd r.2 comp v)) else R
theorem hasR_false {cs : List Int} {R : List TRow} {row comp : Int} (h : hasR cs R row comp = false) : pos cs comp < 0 ∨ row < 0 ∨ (R.length : Int) ≤ row := by
  simp only [hasR, decide_eq_false_iff_not] at h
  rcases pos_spec cs comp with ⟨h1, h2⟩ | ⟨i, h1, h2, _⟩
  · exact .inl (by omega)
  · refine .inr ?_
    have : comp ∈ cs := List.mem_of_getElem? h2
    by_cases h3 : 0 ≤ row
    · exact .inr (by by_cases h4 : row < (R.length : Int) <;> simp_all <;> omega)
    · exact .inl (by omega)
theorem hasR_true {cs : List Int} {R : List TRow} {row comp : Int} (h : hasR cs R row comp = true) : ∃ i q : Nat, ∃ r, pos cs comp = i ∧ cs[i]? = some comp ∧ row = q ∧ R[q]? = some r := by
  simp only [hasR, decide_eq_true_eq] at h
  obtain ⟨h1, h2, h3⟩ := h
  rcases pos_spec cs comp with ⟨h4, _⟩ | ⟨i, h4, h5, _⟩
  · exact absurd h1 h4
  · exact ⟨i, row.toNat, _, h4, h5, by omega, List.getElem?_eq_getElem (by omega)⟩
theorem colOf_get {R : List TRow} {q : Nat} {r : TRow} (h : R[q]? = some r) (c : Int) : (colOf R c)[q]? = some (r.2 c) := by simp [colOf, h]
theorem colOf_len (R : List TRow) (c : Int) : (colOf R c).length = R.length := by simp [colOf]
theorem colOf_set (R : List TRow) (q : Nat) (r : TRow) (h : R[q]? = some r) (c x v : Int) : colOf (R.modify q (fun r => (r.1, upd r.2 c v))) x = if x = c then (colOf R x).set q v else colOf R x := by
  apply List.ext_getElem?
  intro j
  have hl := (List.getElem?_eq_some_iff.1 h).1
  by_cases hx : x = c
  · subst hx
    rw [if_pos rfl]
    simp only [colOf, List.getElem?_map, List.getElem?_modify, List.getElem?_set]
    by_cases hj : q = j
    · subst hj
      simp [upd, hl]
    · simp [hj]
  · rw [if_neg hx]
    simp only [colOf, List.getElem?_map, List.getElem?_modify]
    by_cases hj : q = j
    · subst hj
      simp [h, upd, hx]
    · simp [hj]
theorem idsOf_set (R : List TRow) (q : Nat) (c v : Int) : idsOf (R.modify q (fun r => (r.1, upd r.2 c v))) = idsOf R := by
  apply List.ext_getElem?
  intro j
  simp only [idsOf, List.getElem?_map, List.getElem?_modify]
  by_cases hj : q = j
  · subst hj
    cases R[q]? <;> simp
  · simp [hj]
set_option maxHeartbeats 1600000 in
theorem get_does (p : Nat) (cs : List Int) (R : List TRow) (row comp : Int) : Does Tryd.prog 35 #[.pointer (some ⟨p, 0, none⟩), .int .i64 row, .int .i64 comp] (isTb p cs R) (fun e B => e = .returned (.tuple #[.int .i64 (getV cs R row comp), .bool (hasR cs R row comp)]) ∧ B = isTb p cs R) := by
  refine Does.of fun w F hS => ?_
  obtain ⟨Ac, cc, Ak, ck, Ai, ci, b, n, L, h⟩ := tb_open hS.toL
  clear hS
  have HT := As.mk h
  obtain ⟨V, hV⟩ : ∃ V, getV cs R row comp = V := ⟨_, rfl⟩
  rw [hV]
  cases hb : hasR cs R row comp with
  | false =>
    have HC := As.mk (at_none h row comp (hasR_false hb))
    obtain rfl : V = 0 := by rw [← hV]; unfold getV; rw [hb]; rfl
    clear hV
    clear h hb
    go_enter Tryd.func35, Tryd.ntmps35
    go_wp2_with fail
    refine HC.out.mono ?_
    rintro e w1 ⟨rfl, hb⟩
    have HT1 := As.mk (HT.out.below hb)
    clear hb HT HC
    go_wp2
    go_ret2
    exact At.post HT1.out.close.ofL ⟨rfl, rfl⟩
  | true =>
    obtain ⟨i, q, x, h1, h2, rfl, h3⟩ := hasR_true hb
    have hi := (List.getElem?_eq_some_iff.1 h2).1
    have hq := (List.getElem?_eq_some_iff.1 h3).1
    obtain ⟨gk, A, c, y, rfl, hy, hL, hcc, _, _, _, hrw⟩ := tb_col h i hi
    rw [h2] at hy
    injection hy with hy
    subst hy
    obtain ⟨g, rfl, hg, hcell⟩ := hrw.cell encI_len q (x.2 comp) (colOf_get h3 comp)
    have hc0 := (hcell 0 (by decide)).1
    simp only [encI, Nat.mul_one, Nat.add_zero, List.getElem?_cons_zero] at hc0
    have HC := As.mk (at_some h q i comp h1 hi hq g c _ hL)
    obtain rfl : V = x.2 comp := by rw [← hV]; unfold getV valR; rw [hb]; simp [h3]
    clear hV
    have HK := As.mk hc0
    clear h hb h1 h2 h3 hi hq hL hrw hcell hc0 hcc
    go_enter Tryd.func35, Tryd.ntmps35
    go_wp2_with fail
    refine HC.out.mono ?_
    rintro e w1 ⟨rfl, hb⟩
    have HT1 := As.mk (HT.out.below hb)
    have c0 := (hb.cell (p := ⟨g, q, none⟩) hg).trans HK.out
    clear hb HT HC
    go_wp2
    go_ret2
    exact At.post HT1.out.close.ofL ⟨rfl, rfl⟩
set_option maxHeartbeats 1600000 in
theorem set_does (p : Nat) (cs : List Int) (hcs : cs.Nodup) (R : List TRow) (row comp v : Int) : Does Tryd.prog 33 #[.pointer (some ⟨p, 0, none⟩), .int .i64 row, .int .i64 comp, .int .i64 v] (isTb p cs R) (fun e B => e = .returned (.bool (hasR cs R row comp)) ∧ B = isTb p cs (setR cs R row comp v)) := by
  refine Does.of fun w F hS => ?_
  obtain ⟨Ac, cc, Ak, ck, Ai, ci, b, n, L, h⟩ := tb_open hS.toL
  clear hS
  have HT := As.mk h
  cases hb : hasR cs R row comp with
  | false =>
    have HC := As.mk (at_none h row comp (hasR_false hb))
    have HV : As (setR cs R row comp v = R) := ⟨by unfold setR; rw [hb]; rfl⟩
    clear h hb hcs
    go_enter Tryd.func33, Tryd.ntmps33
    go_wp2_with fail
    refine HC.out.mono ?_
    rintro e w1 ⟨rfl, hb⟩
    have HT1 := As.mk (HT.out.below hb)
    clear hb HT HC
    go_wp2
    go_ret
    exact At.post HT1.out.close.ofL ⟨rfl, by rw [HV.out]⟩
  | true =>
    obtain ⟨i, q, x, h1, h2, rfl, h3⟩ := hasR_true hb
    have hi := (List.getElem?_eq_some_iff.1 h2).1
    have hq := (List.getElem?_eq_some_iff.1 h3).1
    obtain ⟨gk, A, c, y, rfl, hy, hL, hcc, _, _, _, hrw⟩ := tb_col h i hi
    rw [h2] at hy
    injection hy with hy
    subst hy
    obtain ⟨g, rfl, hg, hcell⟩ := hrw.cell encI_len q (x.2 comp) (colOf_get h3 comp)
    have hc0 := hcell 0 (by decide)
    simp only [encI, Nat.mul_one, Nat.add_zero, List.getElem?_cons_zero] at hc0
    have HC := As.mk (at_some h q i comp h1 hi hq g c _ hL)
    have HV : As (setR cs R q comp v = R.modify q (fun r => (r.1, upd r.2 comp v))) := ⟨by unfold setR; rw [hb]; rfl⟩
    have HK := As.mk hc0
    have HX := As.mk (And.intro h2 h3)
    have HN := As.mk hcs
    have HL := As.mk hL
    clear h hb h1 h2 h3 hi hq hL hrw hcell hc0 hcc hcs
    go_enter Tryd.func33, Tryd.ntmps33
    go_wp2_with fail
    refine HC.out.mono ?_
    rintro e w1 ⟨rfl, hb⟩
    have HT1 := As.mk (HT.out.below hb)
    have c0 := (hb.cell (p := ⟨g, q, none⟩) hg).trans HK.out.1
    have hr1 := HT1.out.at_.rowsOut 3 i rfl HL.out
    have f0 := ((hr1.rowAt 0 rfl).at_ encI_len q (x.2 comp) (colOf_get HX.out.2 comp) 0 (by decide)).2
    simp only [Nat.mul_one, Nat.add_zero] at f0
    have hr2 := hr1.setAt 0 rfl encI_len q 0 (x.2 comp) v (.int .i64 v) (colOf_get HX.out.2 comp) (by decide) rfl
    simp only [Nat.mul_one, Nat.add_zero] at hr2
    have hr3 := hr2.rowsIn 3 i rfl (by rw [HT1.out.lc]; exact (List.getElem?_eq_some_iff.1 HX.out.1).1)
    have HR := As.mk hr3
    clear hb HT HC hr1 hr2 hr3
    go_wp2
    go_ret
    refine At.post (tb_closeV (vc := .slice Ac cs.length cc) (vk := .slice (some ⟨gk, 0, none⟩) cs.length ck) (vi := .slice Ai R.length ci) (b := b) (n := n) (L := L.set i (.slice (some ⟨g, 0, none⟩) R.length c, (colOf R comp).set q v)) ?_ ?_).ofL ⟨rfl, rfl⟩
    · rw [HV.out]
      unfold tbV
      rw [idsOf_set]
      have hm : (L.set i (.slice (some ⟨g, 0, none⟩) R.length c, (colOf R comp).set q v)).map (·.1) = L.map (·.1) := by
        apply List.ext_getElem?
        intro j
        simp only [List.getElem?_map, List.getElem?_set]
        by_cases hj : i = j
        · subst hj
          rw [HL.out]
          simp [(List.getElem?_eq_some_iff.1 HL.out).1]
        · simp [hj]
      rw [hm]
      exact HR.out
    · rw [HV.out]
      apply List.ext_getElem?
      intro j
      have hcol := congrArg (fun l => l[j]?) HT1.out.cols
      simp only [List.getElem?_map] at hcol
      simp only [List.getElem?_map, List.getElem?_set]
      by_cases hj : i = j
      · subst hj
        rw [HX.out.1]
        simp [(List.getElem?_eq_some_iff.1 HL.out).1, colOf_set R q x HX.out.2]
      · rw [if_neg hj, hcol]
        cases hz : cs[j]? with
        | none => rfl
        | some z =>
          have hne : z ≠ comp := by
            rintro rfl
            exact hj ((List.getElem?_inj (List.getElem?_eq_some_iff.1 HX.out.1).1 HN.out).1 (HX.out.1.trans hz.symm))
          simp [colOf_set R q x HX.out.2, hne]
set_option maxHeartbeats 1600000 in
theorem row_does (p : Nat) (cs : List Int) (R : List TRow) (k : Int × Int) (hk : okId k) : Does Tryd.prog 34 #[.pointer (some ⟨p, 0, none⟩), .agg #[.int .i64 k.1, .int .i64 k.2]] (isTb p cs R) (fun e B => e = .returned (.int .i64 (rowI R k)) ∧ B = isTb p cs R) := by
  refine Does.of fun w F hS => ?_
  obtain ⟨Ac, cc, Ak, ck, Ai, ci, b, n, L, h⟩ := tb_open hS.toL
  obtain ⟨a1, a2⟩ := k
  obtain ⟨kl, hkl⟩ := key_ok (a1, a2) hk
  clear hS
  have hS := h.at_.alloc #[.int .i64 a1, .int .i64 a2] 31
  obtain ⟨q, hq⟩ : ∃ q, q = w.heap.size := ⟨_, rfl⟩
  obtain ⟨W, hW⟩ : ∃ W, W = w.alloc (.cells #[.int .i64 a1, .int .i64 a2] 31) := ⟨_, rfl⟩
  rw [← hW, ← hq] at hS
  have HW := As.mk hW
  have HQ := As.mk hq
  have HC := As.mk h.cols
  obtain ⟨V, hV⟩ : ∃ V, rowI R (a1, a2) = V := ⟨_, rfl⟩
  rw [hV]
  unfold rowI at hV
  simp only
  clear hW hq h hk
  cases hx : ixF (idsOf R) (a1, a2) with
  | none =>
    rw [hx] at hV
    obtain rfl : V = -1 := hV.symm
    have HL := As.mk (fun W (h : MapIs W Tryd.prog 31 b n encK encN (ixF (idsOf R))) => h.look_none (t := 124) Klaw encK_inj Tryd.underlying124 (z := .int .i64 0) (by kernel_rfl) hkl hx true)
    clear hV hx hkl
    go_enter Tryd.func34, Tryd.ntmps34
    go_wp2_with fail
    rw [← HW.out, ← HQ.out]
    have q0 := (hS.cellAt 0 rfl 0).trans rfl
    have q1 := (hS.cellAt 0 rfl 1).trans rfl
    have p0 := (hS.cellAt 1 rfl 0).trans rfl
    have p1 := (hS.cellAt 1 rfl 1).trans rfl
    have p2 := (hS.cellAt 1 rfl 2).trans rfl
    have p3 := (hS.cellAt 1 rfl 3).trans rfl
    clear HW HQ
    have hl : ∀ n, (Instr.lookup 124 (.map (some b)) (.agg #[.int .i64 a1, .int .i64 a2]) true).run Tryd.prog (W.drewN n) = .ok (.tuple #[.int .i64 0, .bool false]) (W.drewN n) := fun n => HL.out _ ((hS.mpAt 6 rfl).move rfl)
    go_wp2_with fail
    go_quiet (fail)
    go_wp2_with fail
    go_ret
    exact At.post (tb_closeV ((hS.drewN _).sel [1, 1, 1, 1, 1, 1]) HC.out).ofL ⟨rfl, rfl⟩
  | some i =>
    rw [hx] at hV
    obtain rfl : V = (i : Nat) := hV.symm
    have HL := As.mk (fun W (h : MapIs W Tryd.prog 31 b n encK encN (ixF (idsOf R))) => h.look_some (t := 124) Klaw encK_inj Tryd.underlying124 hkl hx true)
    clear hV hx hkl
    go_enter Tryd.func34, Tryd.ntmps34
    go_wp2_with fail
    rw [← HW.out, ← HQ.out]
    have q0 := (hS.cellAt 0 rfl 0).trans rfl
    have q1 := (hS.cellAt 0 rfl 1).trans rfl
    have p0 := (hS.cellAt 1 rfl 0).trans rfl
    have p1 := (hS.cellAt 1 rfl 1).trans rfl
    have p2 := (hS.cellAt 1 rfl 2).trans rfl
    have p3 := (hS.cellAt 1 rfl 3).trans rfl
    clear HW HQ
    have hl : ∀ n, (Instr.lookup 124 (.map (some b)) (.agg #[.int .i64 a1, .int .i64 a2]) true).run Tryd.prog (W.drewN n) = .ok (.tuple #[.int .i64 (i : Nat), .bool true]) (W.drewN n) := fun n => HL.out _ ((hS.mpAt 6 rfl).move rfl)
    go_wp2_with fail
    go_quiet (fail)
    go_wp2_with fail
    go_ret
    exact At.post (tb_closeV ((hS.drewN _).sel [1, 1, 1, 1, 1, 1]) HC.out).ofL ⟨rfl, rfl⟩
end Go.Proofs.YtkebkmbfglodlaaDoor
