/- Dec of numbers below 30. -/
import Derived.Test.YtlkkibeoobognaaIcWInlineTrees
set_option linter.unusedVariables false
set_option linter.unusedSimpArgs false
set_option maxRecDepth 100000
namespace Go.Proofs.Ytlkkibeoobognaa.OpenInlineTrees
open Go.RowKit Go.Deep
open Go.Proofs.YtlkkibeoobognaaW.PrintWords Go.Proofs.YtlkkibeoobognaaW.PrintLast Go.Proofs.YtlkkibeoobognaaW.PrintMore Go.Proofs.Ytlkkibeoobognaa.PInlineTrees
def decI (i : Int) : ByteArray := decS i.toNat
set_option maxHeartbeats 6400000 in
theorem dec1 (w : World) (i : Int) (h0 : 0 ≤ i) (h1 : i < 10) : Calls Try.prog 20 #[.int .i64 i] w fun e w' => e = .returned (.string (decI i)) ∧ w' = w := by
  rcases (show i = 0 ∨ i = 1 ∨ i = 2 ∨ i = 3 ∨ i = 4 ∨ i = 5 ∨ i = 6 ∨ i = 7 ∨ i = 8 ∨ i = 9 by omega) with rfl | rfl | rfl | rfl | rfl | rfl | rfl | rfl | rfl | rfl
  all_goals
    clear h0 h1
    go_enter Try.func20, Try.ntmps20
    go_wp2_with fail
    go_ret
    exact ⟨rfl, rfl⟩
set_option maxHeartbeats 25600000 in
theorem dec2a (w : World) (i : Int) (h0 : 10 ≤ i) (h1 : i < 20) : Calls Try.prog 20 #[.int .i64 i] w fun e w' => e = .returned (.string (decI i)) ∧ w' = w := by
  have HA := As.mk (dec1 w 1 (by omega) (by omega))
  rcases (show i = 10 ∨ i = 11 ∨ i = 12 ∨ i = 13 ∨ i = 14 ∨ i = 15 ∨ i = 16 ∨ i = 17 ∨ i = 18 ∨ i = 19 by omega) with rfl | rfl | rfl | rfl | rfl | rfl | rfl | rfl | rfl | rfl
  all_goals
    clear h0 h1
    go_enter Try.func20, Try.ntmps20
    go_wp2_with fail
    refine HA.out.mono ?_
    rintro e w1 ⟨rfl, rfl⟩
    go_wp2_with fail
    go_ret
    exact ⟨by kernel_rfl, rfl⟩
set_option maxHeartbeats 25600000 in
theorem dec2b (w : World) (i : Int) (h0 : 20 ≤ i) (h1 : i < 30) : Calls Try.prog 20 #[.int .i64 i] w fun e w' => e = .returned (.string (decI i)) ∧ w' = w := by
  have HA := As.mk (dec1 w 2 (by omega) (by omega))
  rcases (show i = 20 ∨ i = 21 ∨ i = 22 ∨ i = 23 ∨ i = 24 ∨ i = 25 ∨ i = 26 ∨ i = 27 ∨ i = 28 ∨ i = 29 by omega) with rfl | rfl | rfl | rfl | rfl | rfl | rfl | rfl | rfl | rfl
  all_goals
    clear h0 h1
    go_enter Try.func20, Try.ntmps20
    go_wp2_with fail
    refine HA.out.mono ?_
    rintro e w1 ⟨rfl, rfl⟩
    go_wp2_with fail
    go_ret
    exact ⟨by kernel_rfl, rfl⟩
theorem dec2 (w : World) (i : Int) (h0 : 10 ≤ i) (h1 : i < 30) : Calls Try.prog 20 #[.int .i64 i] w fun e w' => e = .returned (.string (decI i)) ∧ w' = w := by
  by_cases h : i < 20
  · exact dec2a w i h0 h
  · exact dec2b w i (by omega) h1
theorem dec_does (w : World) (i : Nat) (h1 : i < 30) : Calls Try.prog 20 #[.int .i64 i] w fun e w' => e = .returned (.string (decS i)) ∧ w' = w := by
  have h : decI (i : Int) = decS i := by unfold decI; rw [Int.toNat_natCast]
  by_cases hi : i < 10
  · have := dec1 w (i : Int) (by omega) (by omega)
    rwa [h] at this
  · have := dec2 w (i : Int) (by omega) (by omega)
    rwa [h] at this
end Go.Proofs.Ytlkkibeoobognaa.OpenInlineTrees
