/- TableMoves: the walk. -/
import Derived.Test.YthbmfinaoejheaaDoorTv
set_option linter.unusedVariables false
namespace Go.Proofs.YthbmfinaoejheaaDoor
open Go.RowKit
set_option maxRecDepth 100000 in
set_option maxHeartbeats 12800000 in
theorem moves_bad (m n row : Int) (v : Value) (xs : List Int) (w : World) (hT : GTab w) (hd : Rd w 1 encI v xs) (hbad : n < 1 ∨ 30 < n ∨ row < 0 ∨ n ≤ row ∨ (xs.length : Int) < n) : Calls Tryd.prog 4 #[.int .u16 m, .int .i64 n, .int .i64 row, v] w fun e w' => e = .returned (.bool true) ∧ Below w.heap.size w w' := by
  obtain ⟨A, cp, rfl, hcp, hcm⟩ := hd.shape
  have HA := As.mk (alive_does w hT)
  clear hd hT
  by_cases c0 : n < 1
  · have t0 : decide (n < 1) = true := decide_eq_true c0
    clear c0 hbad
    go_enter Tryd.func4, Tryd.ntmps4
    go_wp2_with fail
    refine HA.out.mono ?_
    rintro e w1 ⟨rfl, hb⟩
    have HB := As.mk hb
    clear hb
    go_wp2_with fail
    go_ret
    exact ⟨rfl, HB.out⟩
  · have t0 : decide (n < 1) = false := decide_eq_false c0
    by_cases c1 : 30 < n
    · have t1 : decide (30 < n) = true := decide_eq_true c1
      clear c0 c1 hbad
      go_enter Tryd.func4, Tryd.ntmps4
      go_wp2_with fail
      refine HA.out.mono ?_
      rintro e w1 ⟨rfl, hb⟩
      have HB := As.mk hb
      clear hb
      go_wp2_with fail
      go_ret
      exact ⟨rfl, HB.out⟩
    · have t1 : decide (30 < n) = false := decide_eq_false c1
      by_cases c2 : row < 0
      · have t2 : decide (row < 0) = true := decide_eq_true c2
        clear c0 c1 c2 hbad
        go_enter Tryd.func4, Tryd.ntmps4
        go_wp2_with fail
        refine HA.out.mono ?_
        rintro e w1 ⟨rfl, hb⟩
        have HB := As.mk hb
        clear hb
        go_wp2_with fail
        go_ret
        exact ⟨rfl, HB.out⟩
      · have t2 : decide (row < 0) = false := decide_eq_false c2
        by_cases c3 : n ≤ row
        · have t3 : decide (n ≤ row) = true := decide_eq_true c3
          clear c0 c1 c2 c3 hbad
          go_enter Tryd.func4, Tryd.ntmps4
          go_wp2_with fail
          refine HA.out.mono ?_
          rintro e w1 ⟨rfl, hb⟩
          have HB := As.mk hb
          clear hb
          go_wp2_with fail
          go_ret
          exact ⟨rfl, HB.out⟩
        · have t3 : decide (n ≤ row) = false := decide_eq_false c3
          by_cases c4 : (xs.length : Int) < n
          · have t4 : decide ((xs.length : Int) < n) = true := decide_eq_true c4
            clear c0 c1 c2 c3 c4 hbad
            go_enter Tryd.func4, Tryd.ntmps4
            go_wp2_with fail
            refine HA.out.mono ?_
            rintro e w1 ⟨rfl, hb⟩
            have HB := As.mk hb
            clear hb
            go_wp2_with fail
            go_ret
            exact ⟨rfl, HB.out⟩
          · exact absurd hbad (by omega)
end Go.Proofs.YthbmfinaoejheaaDoor
