/- A table: Ids, Column. -/
import Derived.Test.YthbmfinaoejheaaDoorTc
set_option linter.unusedVariables false
namespace Go.Proofs.YthbmfinaoejheaaDoor
open Go.RowKit
open Go.Maps (Keyed)
def colC (cs : List Int) (R : List TRow) (c : Int) : List Int := if c ∈ cs then colOf R c else []
set_option maxHeartbeats 1600000 in
theorem ids_does (p : Nat) (cs : List Int) (R : List TRow) (hm : R.length ≤ 1000000) : Does Tryd.prog 12 #[.pointer (some ⟨p, 0, none⟩)] (isTb p cs R) (fun e B => ∃ v, e = .returned v ∧ B = Hp.seps [Hp.row 29 2 encId v (idsOf R), isTb p cs R]) := by
  refine Does.of fun w F hS => ?_
  obtain ⟨Ac, cc, Ak, ck, Ai, ci, b, n, L, h⟩ := tb_open hS.toL
  have HT := As.mk h
  have hS := h.at_
  have hl : (idsOf R).length ≤ 1000000 := by simpa [idsOf] using hm
  have HC := As.mk (cloneD_does _ _ w ((hS.rowAt 4 rfl).rd encId_len) hl)
  have p0 := (hS.cellAt 0 rfl 0).trans rfl
  have p1 := (hS.cellAt 0 rfl 1).trans rfl
  have p2 := (hS.cellAt 0 rfl 2).trans rfl
  have p3 := (hS.cellAt 0 rfl 3).trans rfl
  clear hS h hl hm
  go_enter Tryd.func12, Tryd.ntmps12
  go_wp2_with fail
  refine HC.out.mono ?_
  rintro e w1 ⟨v, rfl, hT⟩
  have HU := As.mk ((HT.out.close).also hT)
  clear hT
  go_wp2
  go_ret
  exact At.post HU.out ⟨_, rfl, rfl⟩
set_option maxHeartbeats 1600000 in
theorem col_does (p : Nat) (cs : List Int) (R : List TRow) (comp : Int) (hm : R.length ≤ 1000000) : Does Tryd.prog 10 #[.pointer (some ⟨p, 0, none⟩), .int .i64 comp] (isTb p cs R) (fun e B => ∃ v, e = .returned v ∧ B = Hp.seps [Hp.row 3 1 encI v (colC cs R comp), isTb p cs R]) := by
  refine Does.of fun w F hS => ?_
  obtain ⟨Ac, cc, Ak, ck, Ai, ci, b, n, L, h⟩ := tb_open hS.toL
  have HT := As.mk h
  have HC := As.mk (column_does h comp)
  obtain ⟨V, hV⟩ : ∃ V, colC cs R comp = V := ⟨_, rfl⟩
  rw [hV]
  clear hS
  rcases pos_spec cs comp with ⟨h1, h2⟩ | ⟨i, h1, h2, _⟩
  · rw [h2] at HC
    obtain rfl : V = [] := by rw [← hV]; unfold colC; rw [if_neg h1]
    clear h h1 h2 hV
    go_enter Tryd.func10, Tryd.ntmps10
    go_wp2_with fail
    refine HC.out.mono ?_
    rintro e w1 ⟨rfl, hb⟩
    have HU := As.mk ((HT.out.below hb).close.nilRow 3 1 encI)
    clear hb
    go_wp2
    go_ret
    exact At.post HU.out ⟨_, rfl, rfl⟩
  · have hi := (List.getElem?_eq_some_iff.1 h2).1
    rw [h1] at HC
    obtain ⟨gk, A, c, y, rfl, hy, hL, hcc, _, _, _, hrw⟩ := tb_col h i hi
    rw [h2] at hy
    injection hy with hy
    subst hy
    obtain rfl : V = colOf R comp := by rw [← hV]; unfold colC; rw [if_pos (List.mem_of_getElem? h2)]
    have t1 : decide ((i : Int) < 0) = false := decide_eq_false (by omega)
    have H2 := As.mk h2
    clear h h1 h2 hL hcc hrw hV
    go_enter Tryd.func10, Tryd.ntmps10
    go_wp2_with fail
    refine HC.out.mono ?_
    rintro e w1 ⟨rfl, hb⟩
    have h1 := HT.out.below hb
    have hS := h1.at_
    obtain ⟨gk', A', c', y', hA, hy, hL, hcc, c0, _, _, hrw⟩ := tb_col h1 i hi
    rw [H2.out] at hy
    injection hy with hy
    subst hy
    injection hA with hA
    injection hA with hA
    subst hA
    have hl : (colOf R comp).length ≤ 1000000 := by simpa [colOf] using hm
    have HC2 := As.mk (cloneI_does _ _ w1 (hrw.rd encI_len) hl)
    have HT1 := As.mk h1
    have p0 := (hS.cellAt 0 rfl 0).trans rfl
    have p1 := (hS.cellAt 0 rfl 1).trans rfl
    have p2 := (hS.cellAt 0 rfl 2).trans rfl
    have p3 := (hS.cellAt 0 rfl 3).trans rfl
    clear h1 hS hL hcc hrw hl hb HT HC
    go_wp2_with fail
    refine HC2.out.mono ?_
    rintro e w2 ⟨v, rfl, hT⟩
    have HU := As.mk ((HT1.out.close).also hT)
    clear hT HC2 c0 p0 p1 p2 p3
    go_wp2
    go_ret
    exact At.post HU.out ⟨_, rfl, rfl⟩
end Go.Proofs.YthbmfinaoejheaaDoor
