/- PointTurns: walk. -/
import Derived.Test.YtheacpidchnigaaG
namespace Go.Proofs.Ytheacpidchnigaa
open Go.RowKit
theorem rot_add (i : Nat) (p : Int × Int) : ∀ j, rot (i + j) p = rot j (rot i p)
  | 0 => rfl
  | j + 1 => by
    show (-(rot (i + j) p).2, (rot (i + j) p).1) = (-(rot j (rot i p)).2, (rot j (rot i p)).1)
    rw [rot_add i p j]
theorem rot_four (p : Int × Int) : rot 4 p = p := by
  obtain ⟨a, b⟩ := p
  simp [rot]
theorem rot_mod (k : Nat) (p : Int × Int) (hk : k < 8) : rot (k % 4) p = rot k p := by
  by_cases h : k < 4
  · rw [Nat.mod_eq_of_lt h]
  · have e : k = 4 + (k - 4) := by omega
    have e2 : k % 4 = k - 4 := by omega
    rw [e2]
    conv => rhs; rw [e, rot_add, rot_four]
theorem rot_lin (a b c d : Int) : ∀ k, rot k (a + c, b + d) = ((rot k (a, b)).1 + (rot k (c, d)).1, (rot k (a, b)).2 + (rot k (c, d)).2)
  | 0 => rfl
  | k + 1 => by
    have h := rot_lin a b c d k
    simp only [rot]
    rw [h]
    simp only [Prod.mk.injEq]
    exact ⟨by omega, trivial⟩
set_option maxHeartbeats 6400000 in
theorem turns_walk (a b c d n m : Int) (w : World) : Calls Try.prog 4 #[.int .i64 a, .int .i64 b, .int .i64 c, .int .i64 d, .int .i64 n, .int .i64 m] w fun e w' => e = .returned (.bool true) ∧ Below w.heap.size w w' := by
  have HA := As.mk (fun w => alive_does w)
  by_cases hr : (-274877906944 ≤ a ∧ a ≤ 274877906944) ∧ (-274877906944 ≤ b ∧ b ≤ 274877906944) ∧ (-274877906944 ≤ c ∧ c ≤ 274877906944) ∧ (-274877906944 ≤ d ∧ d ≤ 274877906944) ∧ (-1099511627776 ≤ n ∧ n ≤ 1099511627776) ∧ (-1099511627776 ≤ m ∧ m ≤ 1099511627776)
  · obtain ⟨ha, hb, hc, hd, hn, hm⟩ := hr
    have BA : Bd a := ⟨by omega, by omega⟩
    have BB : Bd b := ⟨by omega, by omega⟩
    have BC : Bd c := ⟨by omega, by omega⟩
    have BD : Bd d := ⟨by omega, by omega⟩
    have BnA : Bd (-a) := ⟨by omega, by omega⟩
    have BnB : Bd (-b) := ⟨by omega, by omega⟩
    have BX : Bd (a + c) := ⟨by omega, by omega⟩
    have BY : Bd (b + d) := ⟨by omega, by omega⟩
    have fa := fl_bd BA; have fb' := fl_bd BB; have fc := fl_bd BC; have fd := fl_bd BD
    obtain ⟨i, hi⟩ : ∃ i : Nat, (n % 4).toNat = i := ⟨_, rfl⟩
    obtain ⟨j, hj⟩ : ∃ j : Nat, (m % 4).toNat = j := ⟨_, rfl⟩
    have hij : ((n + m) % 4).toNat = (i + j) % 4 := by omega
    have Bi := rot_bd (p := (a, b)) BA BB i
    have Bk := rot_bd (p := (c, d)) BC BD i
    have Bj := rot_bd Bi.1 Bi.2 j
    have Bs := rot_bd (p := (a + c, b + d)) BX BY i
    have O1 := As.mk (fun w => of_at a b a b rfl rfl BA BB w)
    have O2 := As.mk (fun w => of_at c d c d rfl rfl BC BD w)
    have O3 := As.mk (fun w => of_at (-a) (-b) (-a) (-b) rfl rfl BnA BnB w)
    obtain ⟨t, ht⟩ : ∃ t, n.tdiv 4 = t := ⟨_, rfl⟩
    have tb : -274877906944 ≤ t ∧ t ≤ 274877906944 := by
      rw [← ht]
      rcases Int.le_total 0 n with h | h
      · rw [Int.tdiv_eq_ediv_of_nonneg h]; omega
      · have e : n.tdiv 4 = -((-n) / 4) := by rw [← Int.tdiv_eq_ediv_of_nonneg (by omega : 0 ≤ -n), Int.neg_tdiv, Int.neg_neg]
        rw [e]; omega
    obtain ⟨tb1, tb2⟩ := tb
    have T0 := As.mk (fun w => turn_at (4 * t) 0 a b fa fb' BA BB (by omega) rfl w)
    have T2 := As.mk (fun w => turn_at 2 2 (-a) (-b) fa fb' BA BB (by decide) rfl w)
    have Tn := As.mk (fun w => turn_at n i (rot i (a, b)).1 (rot i (a, b)).2 fa fb' BA BB hi rfl w)
    have Tm := As.mk (fun w => turn_at m j (rot j (rot i (a, b))).1 (rot j (rot i (a, b))).2 (fl_bd Bi.1) (fl_bd Bi.2) Bi.1 Bi.2 hj rfl w)
    have Ts := As.mk (fun w => turn_at (n + m) ((i + j) % 4) (rot j (rot i (a, b))).1 (rot j (rot i (a, b))).2 fa fb' BA BB hij (by rw [rot_mod _ _ (by omega), rot_add]) w)
    have A1 := As.mk (fun w => add_at fa fb' fc fd BA BB BC BD (a + c) (b + d) rfl rfl BX BY w)
    have Ta := As.mk (fun w => turn_at n i (rot i (a + c, b + d)).1 (rot i (a + c, b + d)).2 (fl_bd BX) (fl_bd BY) BX BY hi rfl w)
    have Tq := As.mk (fun w => turn_at n i (rot i (c, d)).1 (rot i (c, d)).2 fc fd BC BD hi rfl w)
    have A2 := As.mk (fun w => add_at (fl_bd Bi.1) (fl_bd Bi.2) (fl_bd Bk.1) (fl_bd Bk.2) Bi.1 Bi.2 Bk.1 Bk.2 (rot i (a + c, b + d)).1 (rot i (a + c, b + d)).2 (by rw [rot_lin]) (by rw [rot_lin]) Bs.1 Bs.2 w)
    have T1 := As.mk (fun w => turn_at 1 1 (-b) a fa fb' BA BB (by decide) rfl w)
    have T3 := As.mk (fun w => turn_at (-1) 3 a b (fl_bd BnB) fa BnB BA (by decide) (by simp [rot]) w)
    have q1 := fl_eqt fa fa rfl
    have q2 := fl_eqt fb' fb' rfl
    have q3 := fl_eqt (fl_bd BnA) (fl_bd BnA) rfl
    have q4 := fl_eqt (fl_bd BnB) (fl_bd BnB) rfl
    have q5 := fl_eqt (fl_bd Bj.1) (fl_bd Bj.1) rfl
    have q6 := fl_eqt (fl_bd Bj.2) (fl_bd Bj.2) rfl
    have q7 := fl_eqt (fl_bd Bs.1) (fl_bd Bs.1) rfl
    have q8 := fl_eqt (fl_bd Bs.2) (fl_bd Bs.2) rfl
    generalize (rot j (rot i (a, b))).1 = r1 at *
    generalize (rot j (rot i (a, b))).2 = r2 at *
    generalize (rot i (a + c, b + d)).1 = r3 at *
    generalize (rot i (a + c, b + d)).2 = r4 at *
    generalize (rot i (a, b)).1 = r5 at *
    generalize (rot i (a, b)).2 = r6 at *
    generalize (rot i (c, d)).1 = r7 at *
    generalize (rot i (c, d)).2 = r8 at *
    have da1 : decide (274877906944 < a) = false := decide_eq_false (by omega)
    have da2 : decide (a < -274877906944) = false := decide_eq_false (by omega)
    have db1 : decide (274877906944 < b) = false := decide_eq_false (by omega)
    have db2 : decide (b < -274877906944) = false := decide_eq_false (by omega)
    have dc1 : decide (274877906944 < c) = false := decide_eq_false (by omega)
    have dc2 : decide (c < -274877906944) = false := decide_eq_false (by omega)
    have dd1 : decide (274877906944 < d) = false := decide_eq_false (by omega)
    have dd2 : decide (d < -274877906944) = false := decide_eq_false (by omega)
    have dn1 : decide (1099511627776 < n) = false := decide_eq_false (by omega)
    have dn2 : decide (n < -1099511627776) = false := decide_eq_false (by omega)
    have dm1 : decide (1099511627776 < m) = false := decide_eq_false (by omega)
    have dm2 : decide (m < -1099511627776) = false := decide_eq_false (by omega)
    obtain ⟨ha1, ha2⟩ := ha
    obtain ⟨hb1, hb2⟩ := hb
    obtain ⟨hn1, hn2⟩ := hn
    obtain ⟨hm1, hm2⟩ := hm
    clear hi hj hij hc hd BA BB BC BD BnA BnB BX BY fa fb' fc fd Bi Bk Bj Bs
    go_enter Try.func4, Try.ntmps4
    go_wp2_with fail
    refine (HA.out _).mono ?_
    rintro e w' ⟨rfl, rfl⟩
    go_wp2_with fail
    refine (O1.out _).mono ?_
    rintro e w' ⟨rfl, rfl⟩
    go_wp2_with fail
    refine (O2.out _).mono ?_
    rintro e w' ⟨rfl, rfl⟩
    go_wp2_with fail
    refine (T0.out _).mono ?_
    rintro e w' ⟨rfl, rfl⟩
    go_wp2_with fail
    refine (T2.out _).mono ?_
    rintro e w' ⟨rfl, rfl⟩
    go_wp2_with fail
    refine (O3.out _).mono ?_
    rintro e w' ⟨rfl, rfl⟩
    go_wp2_with fail
    refine (Tn.out _).mono ?_
    rintro e w' ⟨rfl, rfl⟩
    go_wp2_with fail
    refine (Tm.out _).mono ?_
    rintro e w' ⟨rfl, rfl⟩
    go_wp2_with fail
    refine (Ts.out _).mono ?_
    rintro e w' ⟨rfl, rfl⟩
    go_wp2_with fail
    refine (A1.out _).mono ?_
    rintro e w' ⟨rfl, rfl⟩
    go_wp2_with fail
    refine (Ta.out _).mono ?_
    rintro e w' ⟨rfl, rfl⟩
    go_wp2_with fail
    refine (Tn.out _).mono ?_
    rintro e w' ⟨rfl, rfl⟩
    go_wp2_with fail
    refine (Tq.out _).mono ?_
    rintro e w' ⟨rfl, rfl⟩
    go_wp2_with fail
    refine (A2.out _).mono ?_
    rintro e w' ⟨rfl, rfl⟩
    go_wp2_with fail
    refine (T1.out _).mono ?_
    rintro e w' ⟨rfl, rfl⟩
    go_wp2_with fail
    refine (T3.out _).mono ?_
    rintro e w' ⟨rfl, rfl⟩
    go_wp2_with fail
    go_ret
    exact ⟨rfl, Below.refl _ _⟩
  · have HR := As.mk hr
    clear hr
    go_enter Try.func4, Try.ntmps4
    go_wp2_with fail
    refine (HA.out _).mono ?_
    rintro e w' ⟨rfl, rfl⟩
    go_wp2_with fail
    all_goals first | (exfalso; have := HR.out; omega) | (go_ret; exact ⟨rfl, Below.refl _ _⟩)
end Go.Proofs.Ytheacpidchnigaa
