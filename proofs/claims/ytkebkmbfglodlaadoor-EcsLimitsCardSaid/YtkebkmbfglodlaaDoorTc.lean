/- A table: Clone, Ids, Column. -/
import Derived.Test.YtkebkmbfglodlaaDoorTs
import Derived.Lib.BufferMore
set_option linter.unusedVariables false
namespace Go.Proofs.YtkebkmbfglodlaaDoor
open Go.RowKit
open Go.Maps (Keyed)
theorem Tryd.infoI : (Tryd.prog.info? 3).map (fun i => (i.zero, i.size, i.bytes)) = some (some (.int .i64 0), 1, 8) := by kernel_rfl
theorem Tryd.infoD : (Tryd.prog.info? 31).map (fun i => (i.zero, i.size, i.bytes)) = some (some (.agg #[.int .i64 0, .int .i64 0]), 2, 16) := by kernel_rfl
attribute [local go_sem] Go.Lib.run_eql_slice_some_nil Go.Lib.run_eql_slice_nil_nil
set_option maxHeartbeats 1600000 in
theorem cloneD_does (v : Value) (xs : List (Int × Int)) (w : World) (hd : Rd w 2 encId v xs) (hm : xs.length ≤ 1000000) : Calls Tryd.prog 67 #[v] w fun e w' => ∃ u, e = .returned u ∧ At (fun _ => False) w w' (Hp.seps [Hp.row 31 2 encId u xs]) := by
  obtain ⟨A, c, rfl, hc, hn⟩ := hd.shape
  have HD := As.mk hd
  cases A with
  | none =>
    have hx : xs = [] := by
      cases xs with
      | nil => rfl
      | cons y ys => obtain ⟨_, _, h1, _⟩ := hd.cells _ _ _ rfl 0 y rfl; cases h1
    subst hx
    clear hd
    go_enter Tryd.func67, Tryd.ntmps67
    go_wp2_with fail
    go_ret
    exact ⟨_, rfl, (At.start0 (Below.refl _ _)).nilRow 31 2 encId⟩
  | some a =>
    clear hd
    have hS := ((At.start0 (Below.refl w.heap.size w)).alloc #[] 31).rowOfBlk 2 encId
    have hR := HD.out.below ((Below.refl w.heap.size w).alloc (Nat.le_refl _) (.cells #[] 31))
    go_enter Tryd.func67, Tryd.ntmps67
    go_wp2_with (at_builtin; refine rw_appendL rfl (.tmp 5) (.tmp 6) 26 31 2 encId (.agg #[.int .i64 0, .int .i64 0]) 16 rfl Tryd.underlying26 Tryd.infoD rfl (by decide) (.slice (some ⟨w.heap.size, 0, none⟩) 0 0) (.slice (some a) xs.length c) ([] : List (Int × Int)) xs rfl rfl hR (hS.rowAt 0 rfl) encId_len one_id ?c1 ?c2 ?c3)
    case c1 => simp [maxLen]; omega
    case c2 => simp; omega
    case c3 =>
      intro v1 w1 hA
      have hT := At.appendLAt 0 hA hS rfl (Below.refl _ _)
      clear hA hS hR
      go_wp2
      go_ret
      exact ⟨_, rfl, hT⟩
end Go.Proofs.YtkebkmbfglodlaaDoor
