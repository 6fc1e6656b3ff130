/- The places of ids: New and All. -/
import Derived.Test.YtkebkmbfglodlaaDoorId3
set_option maxRecDepth 100000
namespace Go.Proofs.YtkebkmbfglodlaaDoor.I
open Go.RowKit
attribute [local go_sem] mx2_int mn2_int mx_two mn_two
def rm (room : Int) : Int := if 100000 < (if 0 < room then room else 0) then 100000 else (if 0 < room then room else 0)
set_option maxHeartbeats 800000 in
theorem new_does (room : Int) : Does Tryd.prog 25 #[.int .i64 room] Hp.emp (fun e B => ∃ p, e = .returned (.pointer (some ⟨p, 0, none⟩)) ∧ B = isIds p (rm room) [] []) := by
  intro w F hS
  have HS := As.mk hS
  clear hS
  generalize hr : rm room = r
  have HR := As.mk hr
  clear hr
  go_enter Tryd.func25, Tryd.ntmps25
  go_wp2
  all_goals go_ret
  all_goals
    have e1 : As (∀ x : Int, x = r → Post w F (fun e B => ∃ p, e = .returned (.pointer (some ⟨p, 0, none⟩)) ∧ B = isIds p r [] []) (.returned (.pointer (some ⟨w.heap.size, 0, none⟩))) (w.alloc (.cells #[.int .i64 x, .slice none 0 0, .slice none 0 0] 115))) := ⟨by
      rintro x rfl
      refine Post.new _ ⟨_, rfl, rfl⟩ ⟨.slice none 0 0, .slice none 0 0, blk_alloc_new w _, Rw.nil _ _ _ _, Rw.nil _ _ _ _, foot_new (Nat.le_refl _) (by simp), by simp [Value.ownBlock], by simp [Value.ownBlock], foot_lt (Hp.lt _ HS.out) (by simp)⟩ ((Evo.refl _ _).alloc _)⟩
    refine e1.out _ ?_
    rw [← HR.out]
    unfold rm
    split <;> (try split) <;> omega

end Go.Proofs.YtkebkmbfglodlaaDoor.I
