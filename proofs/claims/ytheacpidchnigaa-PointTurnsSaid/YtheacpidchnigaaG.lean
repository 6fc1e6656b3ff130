/- PointSums, PointProduct, PointTurns: walks. -/
import Derived.Test.YtheacpidchnigaaE
namespace Go.Proofs.Ytheacpidchnigaa
open Go.RowKit
theorem add_at {x y u v : Nat} {a b c d : Int} (hx : Fl x a) (hy : Fl y b) (hu : Fl u c) (hv : Fl v d) (ha : Bd a) (hb : Bd b) (hc : Bd c) (hd : Bd d) (X Y : Int) (eX : a + c = X) (eY : b + d = Y) (hX : Bd X) (hY : Bd Y) (w : World) : Calls Try.prog 13 #[.complex .f64 x y, .complex .f64 u v] w fun e w' => e = .returned (.complex .f64 (fb X) (fb Y)) ∧ w = w' := by
  have := add_does x y u v a b c d hx hy hu hv ha hb hc hd w
  rw [eX, eY, cl_id hX.1 hX.2, cl_id hY.1 hY.2] at this
  exact this
theorem sub_at {x y u v : Nat} {a b c d : Int} (hx : Fl x a) (hy : Fl y b) (hu : Fl u c) (hv : Fl v d) (ha : Bd a) (hb : Bd b) (hc : Bd c) (hd : Bd d) (X Y : Int) (eX : a - c = X) (eY : b - d = Y) (hX : Bd X) (hY : Bd Y) (w : World) : Calls Try.prog 15 #[.complex .f64 x y, .complex .f64 u v] w fun e w' => e = .returned (.complex .f64 (fb X) (fb Y)) ∧ w = w' := by
  have := sub_does x y u v a b c d hx hy hu hv ha hb hc hd w
  rw [eX, eY, cl_id hX.1 hX.2, cl_id hY.1 hY.2] at this
  exact this
theorem of_at (a b X Y : Int) (eX : a = X) (eY : b = Y) (hX : Bd X) (hY : Bd Y) (w : World) : Calls Try.prog 10 #[.int .i64 a, .int .i64 b] w fun e w' => e = .returned (.complex .f64 (fb X) (fb Y)) ∧ w = w' := by
  have := of_does a b w
  rw [eX, eY, cl_id hX.1 hX.2, cl_id hY.1 hY.2] at this
  rw [eX, eY]
  exact this
theorem sum_c {x y u v : Nat} {a b c d : Int} (hx : Fl x a) (hy : Fl y b) (hu : Fl u c) (hv : Fl v d) (h1 : Bd (a + c)) (h2 : Bd (b + d)) : ∃ re im, cSumBits .add .f64 x y u v = some (re, im) ∧ Fl re (a + c) ∧ Fl im (b + d) := by
  obtain ⟨re, g1, f1⟩ := fl_add hx hu (bd53 h1)
  obtain ⟨im, g2, f2⟩ := fl_add hy hv (bd53 h2)
  refine ⟨re, im, ?_, f1, f2⟩
  have e1 : floatBits .add .f64 x u = some re := g1
  have e2 : floatBits .add .f64 y v = some im := g2
  unfold cSumBits
  rw [e1, e2]
  simp only [Option.bind_some]
theorem fl_mone : Fl 13830554455654793216 (-1) := by
  have e : fb (-1) = 13830554455654793216 := by decide +kernel
  have := fb_fl (-1) (bd53 (by omega))
  rwa [e] at this
theorem mul_mi {x y : Nat} {a b : Int} (hx : Fl x a) (hy : Fl y b) (ha : Bd a) (hb : Bd b) : ∃ re im, cMulBits x y 0 13830554455654793216 = some (re, im) ∧ Fl re b ∧ Fl im (-a) := by
  have bd : ∀ {n : Int}, Bd n → n.natAbs < 2 ^ 53 := fun h => bd53 h
  have e1 : a * -1 = -a := by omega
  have e2 : b * -1 = -b := by omega
  have hna : Bd (-a) := by unfold Bd at *; omega
  have hnb : Bd (-b) := by unfold Bd at *; omega
  obtain ⟨ac, h1, f1⟩ := fl_mul hx fl_zero (by rw [Int.mul_zero]; exact bd ⟨by omega, by omega⟩)
  obtain ⟨bd', h2, f2⟩ := fl_mul hy fl_mone (by rw [e2]; exact bd hnb)
  rw [Int.mul_zero] at f1
  rw [e2] at f2
  obtain ⟨re, h3, f3⟩ := fl_sub f1 f2 (by rw [Int.zero_sub, Int.neg_neg]; exact bd hb)
  obtain ⟨ad, h4, f4⟩ := fl_mul hx fl_mone (by rw [e1]; exact bd hna)
  obtain ⟨bc, h5, f5⟩ := fl_mul hy fl_zero (by rw [Int.mul_zero]; exact bd ⟨by omega, by omega⟩)
  rw [e1] at f4
  rw [Int.mul_zero] at f5
  obtain ⟨im, h6, f6⟩ := fl_add f4 f5 (by rw [Int.add_zero]; exact bd hna)
  rw [Int.zero_sub, Int.neg_neg] at f3
  rw [Int.add_zero] at f6
  refine ⟨re, im, ?_, f3, f6⟩
  have g1 : floatBits .mul .f64 x 0 = some ac := h1
  have g2 : floatBits .mul .f64 y 13830554455654793216 = some bd' := h2
  have g3 : floatBits .sub .f64 ac bd' = some re := h3
  have g4 : floatBits .mul .f64 x 13830554455654793216 = some ad := h4
  have g5 : floatBits .mul .f64 y 0 = some bc := h5
  have g6 : floatBits .add .f64 ad bc = some im := h6
  unfold cMulBits
  rw [g1, g2, g4, g5]
  simp only [Option.bind_some]
  rw [g3, g6]
  simp only [Option.bind_some]
set_option maxHeartbeats 3200000 in
theorem sums_walk (a b c d : Int) (w : World) : Calls Try.prog 8 #[.int .i64 a, .int .i64 b, .int .i64 c, .int .i64 d] w fun e w' => e = .returned (.bool true) ∧ Below w.heap.size w w' := by
  have HA := As.mk (fun w => alive_does w)
  by_cases hr : (-274877906944 ≤ a ∧ a ≤ 274877906944) ∧ (-274877906944 ≤ b ∧ b ≤ 274877906944) ∧ (-274877906944 ≤ c ∧ c ≤ 274877906944) ∧ (-274877906944 ≤ d ∧ d ≤ 274877906944)
  · obtain ⟨ha, hb, hc, hd⟩ := hr
    have BA : Bd a := ⟨by omega, by omega⟩
    have BB : Bd b := ⟨by omega, by omega⟩
    have BC : Bd c := ⟨by omega, by omega⟩
    have BD : Bd d := ⟨by omega, by omega⟩
    have BX : Bd (a + c) := ⟨by omega, by omega⟩
    have BY : Bd (b + d) := ⟨by omega, by omega⟩
    have B0 : Bd 0 := ⟨by omega, by omega⟩
    have fa := fl_bd BA; have fb' := fl_bd BB; have fc := fl_bd BC; have fd := fl_bd BD
    have fX := fl_bd BX; have fY := fl_bd BY
    have O1 := As.mk (fun w => of_at a b a b rfl rfl BA BB w)
    have O2 := As.mk (fun w => of_at c d c d rfl rfl BC BD w)
    have A1 := As.mk (fun w => add_at fa fb' fc fd BA BB BC BD (a + c) (b + d) rfl rfl BX BY w)
    have A2 := As.mk (fun w => add_at fc fd fa fb' BC BD BA BB (a + c) (b + d) (by omega) (by omega) BX BY w)
    have S1 := As.mk (fun w => sub_at fX fY fc fd BX BY BC BD a b (by omega) (by omega) BA BB w)
    have S2 := As.mk (fun w => sub_at fa fb' fa fb' BA BB BA BB 0 0 (by omega) (by omega) B0 B0 w)
    obtain ⟨n, hn⟩ : ∃ n, ap (a + c) a + ap (b + d) b = n := ⟨_, rfl⟩
    have F1 := As.mk (fun w => far_at BX BY BA BB n hn w)
    have F2 : As (∀ w, Calls Try.prog 11 #[.complex .f64 (fb c) (fb d), .complex .f64 0 0] w fun e w' => e = .returned (.int .i64 n) ∧ w = w') := ⟨fun w => by
      have := far_does _ _ _ _ c d 0 0 fc fd fl_zero fl_zero BC BD B0 B0 w
      have e : ap c 0 + ap d 0 = n := by rw [← hn]; unfold ap; omega
      rwa [e] at this⟩
    obtain ⟨re, im, hs, g1, g2⟩ := sum_c fa fb' fc fd BX BY
    have k1 : ∀ w, (binOp .add 23 (.complex .f64 (fb a) (fb b)) (.complex .f64 (fb c) (fb d))).run Try.prog w = .ok (.complex .f64 re im) w := fun w => run_complex_sum w .add (.inl rfl) 23 _ _ _ _ _ _ _ hs
    have q1 := fl_eqt fX g1 rfl
    have q2 := fl_eqt fY g2 rfl
    have q3 := fl_eqt fa fa rfl
    have q4 := fl_eqt fb' fb' rfl
    have q5 := fl_eqt (fl_bd B0) fl_zero rfl
    have q6 := fl_eqt fX fX rfl
    have q7 := fl_eqt fY fY rfl
    have da1 : decide (274877906944 < a) = false := decide_eq_false (by omega)
    have da2 : decide (a < -274877906944) = false := decide_eq_false (by omega)
    have db1 : decide (274877906944 < b) = false := decide_eq_false (by omega)
    have db2 : decide (b < -274877906944) = false := decide_eq_false (by omega)
    have dc1 : decide (274877906944 < c) = false := decide_eq_false (by omega)
    have dc2 : decide (c < -274877906944) = false := decide_eq_false (by omega)
    have dd1 : decide (274877906944 < d) = false := decide_eq_false (by omega)
    have dd2 : decide (d < -274877906944) = false := decide_eq_false (by omega)
    clear hs hn ha hb hc hd BA BB BC BD BX BY B0 fa fb' fc fd fX fY g1 g2
    generalize a + c = X at *
    generalize b + d = Y at *
    go_enter Try.func8, Try.ntmps8
    go_wp2_with fail
    refine (HA.out _).mono ?_
    rintro e w' ⟨rfl, rfl⟩
    go_wp2_with fail
    refine (O1.out _).mono ?_
    rintro e w' ⟨rfl, rfl⟩
    go_wp2_with fail
    refine (O2.out _).mono ?_
    rintro e w' ⟨rfl, rfl⟩
    go_wp2_with fail
    refine (A1.out _).mono ?_
    rintro e w' ⟨rfl, rfl⟩
    go_wp2_with fail
    refine (S1.out _).mono ?_
    rintro e w' ⟨rfl, rfl⟩
    go_wp2_with fail
    refine (A1.out _).mono ?_
    rintro e w' ⟨rfl, rfl⟩
    go_wp2_with fail
    refine (A2.out _).mono ?_
    rintro e w' ⟨rfl, rfl⟩
    go_wp2_with fail
    refine (A1.out _).mono ?_
    rintro e w' ⟨rfl, rfl⟩
    go_wp2_with fail
    refine (S2.out _).mono ?_
    rintro e w' ⟨rfl, rfl⟩
    go_wp2_with fail
    refine (A1.out _).mono ?_
    rintro e w' ⟨rfl, rfl⟩
    go_wp2_with fail
    refine (F1.out _).mono ?_
    rintro e w' ⟨rfl, rfl⟩
    go_wp2_with fail
    refine (F2.out _).mono ?_
    rintro e w' ⟨rfl, rfl⟩
    go_wp2_with fail
    go_ret
    exact ⟨rfl, Below.refl _ _⟩
  · have HR := As.mk hr
    clear hr
    go_enter Try.func8, Try.ntmps8
    go_wp2_with fail
    refine (HA.out _).mono ?_
    rintro e w' ⟨rfl, rfl⟩
    go_wp2_with fail
    all_goals first | (exfalso; have := HR.out; omega) | (go_ret; exact ⟨rfl, Below.refl _ _⟩)
set_option maxHeartbeats 3200000 in
theorem product_walk (a b : Int) (w : World) : Calls Try.prog 5 #[.int .i64 a, .int .i64 b] w fun e w' => e = .returned (.bool true) ∧ Below w.heap.size w w' := by
  have HA := As.mk (fun w => alive_does w)
  by_cases hr : (-1099511627776 ≤ a ∧ a ≤ 1099511627776) ∧ (-1099511627776 ≤ b ∧ b ≤ 1099511627776)
  · obtain ⟨ha, hb⟩ := hr
    have BA : Bd a := ⟨by omega, by omega⟩
    have BB : Bd b := ⟨by omega, by omega⟩
    have BnA : Bd (-a) := ⟨by omega, by omega⟩
    have BnB : Bd (-b) := ⟨by omega, by omega⟩
    have B0 : Bd 0 := ⟨by omega, by omega⟩
    have B1 : Bd 1 := ⟨by omega, by omega⟩
    have fa := fl_bd BA; have fb' := fl_bd BB
    have O1 := As.mk (fun w => of_at a b a b rfl rfl BA BB w)
    have T1 := As.mk (fun w => turn_at 1 1 (-b) a fa fb' BA BB (by decide) rfl w)
    have T3 := As.mk (fun w => turn_at 3 3 b (-a) fa fb' BA BB (by decide) (by simp [rot]) w)
    have A1 := As.mk (fun w => add_does _ _ _ _ a b 0 1 fa fb' fl_zero fl_one BA BB B0 B1 w)
    have O2 := As.mk (fun w => of_does a (b + 1) w)
    rw [show a + 0 = a by omega] at A1
    have fX := fl_bd (bd_cl a); have fY := fl_bd (bd_cl (b + 1))
    generalize cl a = X at *
    generalize cl (b + 1) = Y at *
    obtain ⟨re, im, hs, g1, g2⟩ := mul_i fa fb' BA BB
    obtain ⟨re', im', hs', g1', g2'⟩ := mul_mi fa fb' BA BB
    have k1 : ∀ w, (binOp .mul 23 (.complex .f64 (fb a) (fb b)) (.complex .f64 0 4607182418800017408)).run Try.prog w = .ok (.complex .f64 re im) w := fun w => run_complex_mul w 23 _ _ _ _ _ _ hs
    have k2 : ∀ w, (binOp .mul 23 (.complex .f64 (fb a) (fb b)) (.complex .f64 0 13830554455654793216)).run Try.prog w = .ok (.complex .f64 re' im') w := fun w => run_complex_mul w 23 _ _ _ _ _ _ hs'
    have q1 := fl_eqt (fl_bd BnB) g1 rfl
    have q2 := fl_eqt fa g2 rfl
    have q3 := fl_eqt fb' g1' rfl
    have q4 := fl_eqt (fl_bd BnA) g2' rfl
    have q5 := fl_eqt fX fX rfl
    have q6 := fl_eqt fY fY rfl
    have da1 : decide (1099511627776 < a) = false := decide_eq_false (by omega)
    have da2 : decide (a < -1099511627776) = false := decide_eq_false (by omega)
    have db1 : decide (1099511627776 < b) = false := decide_eq_false (by omega)
    have db2 : decide (b < -1099511627776) = false := decide_eq_false (by omega)
    obtain ⟨b1, b2⟩ := hb
    clear hs hs' ha BA BB BnA BnB B0 B1 fa fb' fX fY g1 g2 g1' g2'
    go_enter Try.func5, Try.ntmps5
    go_wp2_with fail
    refine (HA.out _).mono ?_
    rintro e w' ⟨rfl, rfl⟩
    go_wp2_with fail
    refine (O1.out _).mono ?_
    rintro e w' ⟨rfl, rfl⟩
    go_wp2_with fail
    refine (T1.out _).mono ?_
    rintro e w' ⟨rfl, rfl⟩
    go_wp2_with fail
    refine (T3.out _).mono ?_
    rintro e w' ⟨rfl, rfl⟩
    go_wp2_with fail
    refine (A1.out _).mono ?_
    rintro e w' ⟨rfl, rfl⟩
    go_wp2_with fail
    refine (O2.out _).mono ?_
    rintro e w' ⟨rfl, rfl⟩
    go_wp2_with fail
    go_ret
    exact ⟨rfl, Below.refl _ _⟩
  · have HR := As.mk hr
    clear hr
    go_enter Try.func5, Try.ntmps5
    go_wp2_with fail
    refine (HA.out _).mono ?_
    rintro e w' ⟨rfl, rfl⟩
    go_wp2_with fail
    all_goals first | (exfalso; have := HR.out; omega) | (go_ret; exact ⟨rfl, Below.refl _ _⟩)
end Go.Proofs.Ytheacpidchnigaa
