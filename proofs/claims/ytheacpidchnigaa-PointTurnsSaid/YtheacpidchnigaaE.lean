/- PointSteps, PointSums: walks. -/
import Derived.Test.YtheacpidchnigaaD
namespace Go.Proofs.Ytheacpidchnigaa
open Go.RowKit
set_option maxHeartbeats 3200000 in
theorem steps_walk (a b c d : Int) (w : World) : Calls Try.prog 6 #[.int .i64 a, .int .i64 b, .int .i64 c, .int .i64 d] w fun e w' => e = .returned (.bool true) ∧ Below w.heap.size w w' := by
  have HA := As.mk (fun w => alive_does w)
  by_cases hr : (-60 ≤ a ∧ a ≤ 60) ∧ (-60 ≤ b ∧ b ≤ 60) ∧ (-60 ≤ c ∧ c ≤ 60) ∧ (-60 ≤ d ∧ d ≤ 60)
  · obtain ⟨ha, hb, hc, hd⟩ := hr
    have O1 := As.mk (fun w => of_does a b w)
    have O2 := As.mk (fun w => of_does c d w)
    rw [cl_id (by omega) (by omega), cl_id (by omega) (by omega)] at O1 O2
    have da1 : decide (60 < a) = false := decide_eq_false (by omega)
    have da2 : decide (a < -60) = false := decide_eq_false (by omega)
    have db1 : decide (60 < b) = false := decide_eq_false (by omega)
    have db2 : decide (b < -60) = false := decide_eq_false (by omega)
    have dc1 : decide (60 < c) = false := decide_eq_false (by omega)
    have dc2 : decide (c < -60) = false := decide_eq_false (by omega)
    have dd1 : decide (60 < d) = false := decide_eq_false (by omega)
    have dd2 : decide (d < -60) = false := decide_eq_false (by omega)
    have BA := As.mk (bd_small (n := a) (by omega) (by omega))
    have BB := As.mk (bd_small (n := b) (by omega) (by omega))
    have BC := As.mk (bd_small (n := c) (by omega) (by omega))
    have BD := As.mk (bd_small (n := d) (by omega) (by omega))
    obtain ⟨n, hn⟩ : ∃ n : Nat, ap a c + ap b d = n := ⟨(ap a c + ap b d).toNat, by have := ap_nn a c; have := ap_nn b d; omega⟩
    have nb : n ≤ 1000 := by unfold ap at hn; omega
    have F1 := As.mk (fun w => far_at BA.out BB.out BC.out BD.out n hn w)
    have HN := As.mk hn
    clear hn ha hb hc hd
    go_enter Try.func6, Try.ntmps6
    go_wp2_with fail
    refine (HA.out _).mono ?_
    rintro e w' ⟨rfl, rfl⟩
    go_wp2_with fail
    refine (O1.out _).mono ?_
    rintro e w' ⟨rfl, rfl⟩
    go_wp2_with fail
    refine (O2.out _).mono ?_
    rintro e w' ⟨rfl, rfl⟩
    go_wp2_with fail
    refine (F1.out _).mono ?_
    rintro e w' ⟨rfl, rfl⟩
    go_wp2_with fail
    go_loop [10, 12] (fun pv nv => ∃ (A B : Int) (n : Nat), n ≤ 1000 ∧ pv = .complex .f64 (fb A) (fb B) ∧ nv = .int .i64 n ∧ As (Bd A ∧ Bd B ∧ ap A c + ap B d = n)) (fun _ nv => (intOf nv).toNat)
    case atStart => exact ⟨a, b, n, nb, rfl, rfl, ⟨BA.out, BB.out, HN.out⟩⟩
    case round =>
      clear HN F1 nb
      obtain ⟨A, B, n, nb, rfl, rfl, HI⟩ := hrel
      obtain ⟨s1, s2, s3⟩ := st_near A B c d
      by_cases h0 : n = 0
      · subst h0
        obtain ⟨e1, e2⟩ := s1 HI.out.2.2
        have z1 := (ap_zero A c).1 (by have := HI.out.2.2; have := ap_nn A c; have := ap_nn B d; omega)
        have z2 := (ap_zero B d).1 (by have := HI.out.2.2; have := ap_nn A c; have := ap_nn B d; omega)
        subst z1
        subst z2
        have S1 := As.mk (fun w => step_at BC.out BD.out BC.out BD.out A B e1 e2 w)
        have q1 := fl_eqt (fl_bd BC.out) (fl_bd BC.out) rfl
        have q2 := fl_eqt (fl_bd BD.out) (fl_bd BD.out) rfl
        clear e1 e2 s1 s2 s3
        go_wp2_with fail
        refine (S1.out _).mono ?_
        rintro e w' ⟨rfl, rfl⟩
        go_wp2_with fail
        go_ret
        exact ⟨rfl, Below.refl _ _⟩
      · obtain ⟨k, rfl⟩ : ∃ k, n = k + 1 := ⟨n - 1, by omega⟩
        have hk := s2 (by have := HI.out.2.2; omega)
        obtain ⟨hx, hy⟩ := st_bd HI.out.1 HI.out.2.1 BC.out BD.out
        have S1 := As.mk (fun w => step_at HI.out.1 HI.out.2.1 BC.out BD.out _ _ rfl rfl w)
        generalize st1 A B c d = x at *
        generalize st2 A B c d = y at *
        have F2 := As.mk (fun w => far_at hx hy BC.out BD.out k (by have := HI.out.2.2; omega) w)
        have HI2 : As (Bd x ∧ Bd y ∧ ap x c + ap y d = k) := ⟨hx, hy, by have := HI.out.2.2; omega⟩
        have t0 : decide ((0 : Int) < (k : Int) + 1) = true := decide_eq_true (by omega)
        clear hx hy hk s1 s2 s3 HI h0
        go_wp2_with fail
        refine (S1.out _).mono ?_
        rintro e w' ⟨rfl, rfl⟩
        go_wp2_with fail
        refine (F2.out _).mono ?_
        rintro e w' ⟨rfl, rfl⟩
        go_wp2_with fail
        go_round
        case rel => exact ⟨x, y, k, by omega, rfl, rfl, HI2⟩
        case measure => simp [intOf]
  · have HR := As.mk hr
    clear hr
    go_enter Try.func6, Try.ntmps6
    go_wp2_with fail
    refine (HA.out _).mono ?_
    rintro e w' ⟨rfl, rfl⟩
    go_wp2_with fail
    all_goals first | (exfalso; have := HR.out; omega) | (go_ret; exact ⟨rfl, Below.refl _ _⟩)
end Go.Proofs.Ytheacpidchnigaa
