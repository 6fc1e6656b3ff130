/- A table: Ids, Column. -/
import Derived.Test.YtkebkmbfglodlaaDoorTc
set_option linter.unusedVariables false
namespace Go.Proofs.YtkebkmbfglodlaaDoor
open Go.RowKit
open Go.Maps (Keyed)
set_option maxHeartbeats 1600000 in
theorem ids_does (p : Nat) (cs : List Int) (R : List TRow) (hm : R.length ≤ 1000000) : Does Tryd.prog 56 #[.pointer (some ⟨p, 0, none⟩)] (isTb p cs R) (fun e B => ∃ v, e = .returned v ∧ B = Hp.seps [Hp.row 31 2 encId v (idsOf R), isTb p cs R]) := by
  refine Does.of fun w F hS => ?_
  obtain ⟨Ac, cc, Ak, ck, Ai, ci, b, n, L, h⟩ := tb_open hS.toL
  have HT := As.mk h
  have hS := h.at_
  have hl : (idsOf R).length ≤ 1000000 := by simpa [idsOf] using hm
  have HC := As.mk (cloneD_does _ _ w ((hS.rowAt 4 rfl).rd encId_len) hl)
  have p0 := (hS.cellAt 0 rfl 0).trans rfl
  have p1 := (hS.cellAt 0 rfl 1).trans rfl
  have p2 := (hS.cellAt 0 rfl 2).trans rfl
  have p3 := (hS.cellAt 0 rfl 3).trans rfl
  clear hS h hl hm
  go_enter Tryd.func56, Tryd.ntmps56
  go_wp2_with fail
  refine HC.out.mono ?_
  rintro e w1 ⟨v, rfl, hT⟩
  have HU := As.mk ((HT.out.close).also hT)
  clear hT
  go_wp2
  go_ret
  exact At.post HU.out ⟨_, rfl, rfl⟩
end Go.Proofs.YtkebkmbfglodlaaDoor
