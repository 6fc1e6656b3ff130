/- A table: column, at, Get, Row, Ids, Column. -/
import Derived.Test.YtkebkmbfglodlaaDoorTb
import Derived.Test.YtkebkmbfglodlaaDoorMany
set_option linter.unusedVariables false
namespace Go.Proofs.YtkebkmbfglodlaaDoor
open Go.RowKit
open Go.Maps (Keyed)
section
variable {F0 : Nat → Prop} {w0 w : World} {p : Nat} {cs : List Int} {R : List TRow} {r : List Hp} {Ac : Option Addr} {cc : Nat} {Ak : Option Addr} {ck : Nat} {Ai : Option Addr} {ci b n : Nat} {L : ColL}
theorem tb_col (h : TbAt F0 w0 w p cs R Ac cc Ak ck Ai ci b n L r) (i : Nat) (hi : i < cs.length) : ∃ gk A c x, Ak = some ⟨gk, 0, none⟩ ∧ cs[i]? = some x ∧ L[i]? = some (.slice A R.length c, colOf R x) ∧ R.length ≤ c ∧
    w.cell? ⟨gk, i, none⟩ = some (.slice A R.length c) ∧ w.frozen? ⟨gk, i, none⟩ = false ∧ gk < w.heap.size ∧ Rw w 3 1 encI (.slice A R.length c) (colOf R x) := by
  have hx : cs[i]? = some cs[i] := List.getElem?_eq_getElem hi
  have hl : i < L.length := by rw [h.lc]; exact hi
  have hq : L[i]? = some L[i] := List.getElem?_eq_getElem hl
  have hr := h.at_.rowsAt (v := L[i].1) (xs := L[i].2) 3 i rfl hq
  have he : L[i].2 = colOf R cs[i] := by
    have := congrArg (fun l => l[i]?) h.cols
    simp only [List.getElem?_map, hq, hx, Option.map_some] at this
    injection this
  obtain ⟨A, c, hv, h1, h2⟩ := hr.shape
  obtain ⟨gk, hA, hlt, hc⟩ := (h.at_.rowAt 2 rfl).cell encV_len i L[i].1 (by simp [hq])
  have hc0 := hc 0 (by decide)
  have hn : L[i].2.length = R.length := by rw [he]; simp [colOf]
  rw [hn] at hv h1
  rw [hv] at hc0 hr
  rw [he] at hr
  simp only [encV, Nat.mul_one, Nat.add_zero, List.getElem?_cons_zero] at hc0
  exact ⟨gk, A, c, cs[i], hA, hx, by rw [hq, ← hv, ← he], h1, hc0.1, hc0.2, hlt, hr⟩
set_option maxHeartbeats 1600000 in
theorem column_does (h : TbAt F0 w0 w p cs R Ac cc Ak ck Ai ci b n L r) (comp : Int) : Calls Tryd.prog 72 #[.pointer (some ⟨p, 0, none⟩), .int .i64 comp] w fun e w' => e = .returned (.int .i64 (pos cs comp)) ∧ Below w.heap.size w w' := by
  have hS := h.at_
  have hR := As.mk ((hS.rowAt 1 rfl).rd encI_len)
  have p0 := (hS.cellAt 0 rfl 0).trans rfl
  have p1 := (hS.cellAt 0 rfl 1).trans rfl
  have p2 := (hS.cellAt 0 rfl 2).trans rfl
  have p3 := (hS.cellAt 0 rfl 3).trans rfl
  clear hS h
  go_enter Tryd.func72, Tryd.ntmps72
  go_wp2_with fail
  refine (index_does _ _ _ _ hR.out).mono ?_
  rintro e w1 ⟨rfl, hb⟩
  have HB := As.mk hb
  clear hb
  go_wp2
  go_ret
  exact ⟨rfl, HB.out⟩
set_option maxHeartbeats 1600000 in
theorem at_none (h : TbAt F0 w0 w p cs R Ac cc Ak ck Ai ci b n L r) (row comp : Int) (hn : pos cs comp < 0 ∨ row < 0 ∨ (R.length : Int) ≤ row) : Calls Tryd.prog 63 #[.pointer (some ⟨p, 0, none⟩), .int .i64 row, .int .i64 comp] w fun e w' => e = .returned (.tuple #[.pointer none, .bool false]) ∧ Below w.heap.size w w' := by
  have HC := As.mk (column_does h comp)
  have HT := As.mk h
  obtain ⟨q, hq⟩ : ∃ q, pos cs comp = q := ⟨_, rfl⟩
  rw [hq] at hn HC
  have HQ := As.mk hq
  clear hq h
  by_cases h1 : q < 0
  · have t1 : decide (q < 0) = true := decide_eq_true h1
    clear hn h1
    go_enter Tryd.func63, Tryd.ntmps63
    go_wp2_with fail
    refine HC.out.mono ?_
    rintro e w1 ⟨rfl, hb⟩
    have HB := As.mk hb
    clear hb
    go_wp2
    go_ret2
    exact ⟨rfl, HB.out⟩
  · have t1 : decide (q < 0) = false := decide_eq_false h1
    by_cases h2 : row < 0
    · have t2 : decide (row < 0) = true := decide_eq_true h2
      clear hn h1 h2
      go_enter Tryd.func63, Tryd.ntmps63
      go_wp2_with fail
      refine HC.out.mono ?_
      rintro e w1 ⟨rfl, hb⟩
      have HB := As.mk hb
      clear hb
      go_wp2
      go_ret2
      exact ⟨rfl, HB.out⟩
    · have t2 : decide (row < 0) = false := decide_eq_false h2
      have t3 : decide ((R.length : Int) ≤ row) = true := decide_eq_true (by omega)
      clear hn h1 h2
      go_enter Tryd.func63, Tryd.ntmps63
      go_wp2_with fail
      refine HC.out.mono ?_
      rintro e w1 ⟨rfl, hb⟩
      have HB := As.mk hb
      have hS := (HT.out.below hb).at_
      have p0 := (hS.cellAt 0 rfl 0).trans rfl
      have p1 := (hS.cellAt 0 rfl 1).trans rfl
      have p2 := (hS.cellAt 0 rfl 2).trans rfl
      have p3 := (hS.cellAt 0 rfl 3).trans rfl
      clear hb hS
      go_wp2
      go_ret2
      exact ⟨rfl, HB.out⟩
set_option maxHeartbeats 3200000 in
theorem at_some (h : TbAt F0 w0 w p cs R Ac cc Ak ck Ai ci b n L r) (row i : Nat) (comp : Int) (hi : pos cs comp = (i : Int)) (hlt : i < cs.length) (hr : row < R.length) (g c : Nat) (xs : List Int) (hL : L[i]? = some (.slice (some ⟨g, 0, none⟩) R.length c, xs)) : Calls Tryd.prog 63 #[.pointer (some ⟨p, 0, none⟩), .int .i64 (row : Nat), .int .i64 comp] w fun e w' => e = .returned (.tuple #[.pointer (some ⟨g, row, none⟩), .bool true]) ∧ Below w.heap.size w w' := by
  have HC := As.mk (column_does h comp)
  rw [hi] at HC
  obtain ⟨gk, A', c', x, rfl, hx, hL', hcc, hcell, hfr, hgk, hrw⟩ := tb_col h i hlt
  rw [hL] at hL'
  simp only [Option.some.injEq, Prod.mk.injEq, Value.slice.injEq, true_and] at hL'
  obtain ⟨⟨rfl, rfl⟩, rfl⟩ := hL'
  have HT := As.mk h
  have t1 : decide ((i : Int) < 0) = false := decide_eq_false (by omega)
  have t2 : decide ((row : Int) < 0) = false := decide_eq_false (by omega)
  have t3 : decide ((R.length : Int) ≤ (row : Int)) = false := decide_eq_false (by omega)
  have t3' : decide (R.length ≤ row) = false := decide_eq_false (by omega)
  have HK := As.mk hcell
  have HG := As.mk hgk
  clear h hL hcell hfr hx hrw hi hgk
  go_enter Tryd.func63, Tryd.ntmps63
  go_wp2_with fail
  refine HC.out.mono ?_
  rintro e w1 ⟨rfl, hb⟩
  have HB := As.mk hb
  have hS := (HT.out.below hb).at_
  have hcell := (hb.cell (p := ⟨gk, i, none⟩) HG.out).trans HK.out
  have p0 := (hS.cellAt 0 rfl 0).trans rfl
  have p1 := (hS.cellAt 0 rfl 1).trans rfl
  have p2 := (hS.cellAt 0 rfl 2).trans rfl
  have p3 := (hS.cellAt 0 rfl 3).trans rfl
  clear hb hS HC
  go_wp2
  go_ret2
  exact ⟨rfl, HB.out⟩
end
end Go.Proofs.YtkebkmbfglodlaaDoor
