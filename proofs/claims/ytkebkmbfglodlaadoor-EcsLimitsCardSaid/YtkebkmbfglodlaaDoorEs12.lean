/- A store: New. No condition. -/
import Derived.Test.YtkebkmbfglodlaaDoorEs10
set_option linter.unusedVariables false
set_option linter.unusedSimpArgs false
set_option maxRecDepth 100000
namespace Go.Proofs.YtkebkmbfglodlaaDoor
open Go.RowKit
def mostF (t : Int) : Int := if 1000 < (if 1 < t then t else 1) then 1000 else (if 1 < t then t else 1)
def noM : Int × Int → Option Nat := fun _ => none
section
variable {w0 w : World} {l : List Hp}
set_option maxHeartbeats 6400000 in
theorem snew_does (hS : At (fun _ => False) w0 w (Hp.seps l)) (room tables : Int) :
    Calls Tryd.prog 9 #[.int .i64 room, .int .i64 tables] w fun e w' => ∃ q pi bt bm, e = .returned (.pointer (some ⟨q, 0, none⟩)) ∧ At (fun _ => False) w0 w' (Hp.seps (stL q pi bt bm (mostF tables) (I.rm room) 0 [] [] [] noM l)) := by
  have hmk1 := fun w => run_makeMap (P := Tryd.prog) 67 w
  have hmk2 := fun w => run_makeMap (P := Tryd.prog) 68 w
  have HC := As.mk (hS.callNew (I.new_does room))
  clear hS
  go_enter Tryd.func9, Tryd.ntmps9
  go_wp2_with fail
  refine HC.out.mono ?_
  rintro e w1 ⟨B, ⟨pi, rfl, rfl⟩, hS⟩
  have hS2 := (hS.mpNew Tryd.prog 35 encM evP).mpNew Tryd.prog 31 encK encM
  clear HC hS
  have e0 : (w1.alloc (.map #[] 0)).heap.size = w1.heap.size + 1 := by simp
  rw [e0] at hS2
  have hS3 : ∀ mo : Int, At (fun _ => False) w0 (((w1.alloc (.map #[] 0)).alloc (.map #[] 0)).alloc (.cells #[.pointer (some ⟨pi, 0, none⟩), .int .i64 mo, .map (some w1.heap.size), .map (some (w1.heap.size + 1))] 70)) (Hp.seps (stL (w1.heap.size + 1 + 1) pi w1.heap.size (w1.heap.size + 1) mo (I.rm room) 0 [] [] [] noM l)) := fun mo => by
    have h := hS2.alloc #[.pointer (some ⟨pi, 0, none⟩), .int .i64 mo, .map (some w1.heap.size), .map (some (w1.heap.size + 1))] 70
    have e1 : ((w1.alloc (.map #[] 0)).alloc (.map #[] 0)).heap.size = w1.heap.size + 1 + 1 := by simp
    rw [e1] at h
    have h2 := At.manyNil tbH h
    refine h2.perm ?_
    have hp : ∀ (a b c d e : Hp) (r : List Hp), (a :: b :: c :: d :: e :: r).Perm (b :: e :: d :: c :: a :: r) := fun a b c d e r => by
      refine List.perm_middle (l₁ := [b, c, d, e]) (l₂ := r) (a := a) |>.symm |>.trans ?_
      refine List.Perm.cons _ ?_
      refine List.perm_middle (l₁ := [c, d]) (l₂ := a :: r) (a := e) |>.trans ?_
      exact List.Perm.cons _ (List.Perm.swap d c (a :: r))
    exact hp _ _ _ _ _ _
  have HS3 := As.mk hS3
  clear hS2 hS3 e0
  by_cases h1 : 1 < tables
  · by_cases h2 : 1000 < tables
    · have hm : mostF tables = 1000 := by unfold mostF; rw [if_pos h1, if_pos h2]
      have HM := As.mk hm
      clear hm
      go_wp2_with fail
      go_ret
      exact ⟨_, pi, w1.heap.size, w1.heap.size + 1, rfl, by rw [HM.out]; exact HS3.out _⟩
    · have hm : mostF tables = tables := by unfold mostF; rw [if_pos h1, if_neg h2]
      have HM := As.mk hm
      clear hm
      go_wp2_with fail
      go_ret
      exact ⟨_, pi, w1.heap.size, w1.heap.size + 1, rfl, by rw [HM.out]; exact HS3.out _⟩
  · have hm : mostF tables = 1 := by unfold mostF; rw [if_neg h1]; rfl
    have HM := As.mk hm
    clear hm
    go_wp2_with fail
    go_ret
    exact ⟨_, pi, w1.heap.size, w1.heap.size + 1, rfl, by rw [HM.out]; exact HS3.out _⟩
theorem num_does (x : Int) (w : World) : Calls Tryd.prog 11 #[.int .i64 x] w fun e w' => e = .returned (.int .i64 x) ∧ w' = w := by
  go_enter Tryd.func11, Tryd.ntmps11
  go_wp2_with fail
  go_ret
  exact ⟨rfl, rfl⟩
end
end Go.Proofs.YtkebkmbfglodlaaDoor
