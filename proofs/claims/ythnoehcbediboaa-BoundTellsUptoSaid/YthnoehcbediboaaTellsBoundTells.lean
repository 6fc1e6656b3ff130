/- BoundTells, the plain law: true for every tree of bounded size and all numbers. -/
import Derived.Test.YthnoehcbediboaaNumBoundTells
set_option linter.unusedVariables false
namespace Go.Proofs.Ythnoehcbediboaa.OpenBoundTells
open Go.RowKit
open Go.Proofs.YthnoehcbediboaaW.PrintWords Go.Proofs.YthnoehcbediboaaW.PrintLast Go.Proofs.YthnoehcbediboaaW.PrintMore Go.Proofs.Ythnoehcbediboaa.PBoundTells
theorem wrap_in {x : Int} (h : In x) : wrap64 x = x := by unfold In at h; unfold wrap64; omega
theorem quo_bound (a b : Int) (ha : In a) (hb : In b) (h0 : b ≠ 0) (h : ¬ (a = -9223372036854775808 ∧ b = -1)) : In (a.tdiv b) := by
  have hn : (a.tdiv b).natAbs = a.natAbs / b.natAbs := Int.natAbs_tdiv a b
  have hle : a.natAbs / b.natAbs ≤ a.natAbs := Nat.div_le_self _ _
  unfold In at *
  by_cases hm : (a.tdiv b).natAbs = 9223372036854775808
  · have hb1 : b.natAbs = 1 := by
      rcases Nat.lt_or_ge b.natAbs 2 with h2 | h2
      · omega
      · have : a.natAbs / b.natAbs ≤ a.natAbs / 2 := Nat.div_le_div_left h2 (by omega)
        omega
    have : b = 1 := by omega
    subst this
    rw [Int.tdiv_one]; exact ha
  · omega

theorem radd_tells (k : Nat) (a b : Int) (ha : In a) (hb : In b) : puppeteerref1_Add.f (k + 1) a b = some (sat (a + b)) := by
  rw [← add_tells k a b ha hb]; unfold puppeteerref1_Add.f clamp_Add.f; simp only [clamp_Add.j0, puppeteerref1_Add.j0]
theorem rmul_tells (k : Nat) (a b : Int) (ha : In a) (hb : In b) : puppeteerref1_Mul.f (k + 3) a b = some (sat (a * b)) := by
  unfold puppeteerref1_Mul.f
  simp only [puppeteerref1_Mul.j0]
  by_cases h1 : a = 0
  · subst h1; simp [sat]
  rw [if_neg h1]
  by_cases h2 : b = 0
  · rw [if_pos (by simpa using h2)]; subst h2; simp [sat]
  rw [if_neg (by simpa using h2), if_neg h2]
  obtain ⟨ha1, ha2⟩ := ha
  obtain ⟨hb1, hb2⟩ := hb
  have hsg : ((decide (a < 0)) == (decide (b < 0))) = decide (0 < a * b) := by
    rcases Int.lt_or_gt_of_ne h1 with p | p <;> rcases Int.lt_or_gt_of_ne h2 with q | q
    · have := Int.mul_pos_of_neg_of_neg p q; simp [p, q, this]
    · have := Int.mul_neg_of_neg_of_pos p q; simp [p, Int.not_lt.2 (Int.le_of_lt q), Int.not_lt.2 (Int.le_of_lt this)]
    · have := Int.mul_neg_of_pos_of_neg p q; simp [q, Int.not_lt.2 (Int.le_of_lt p), Int.not_lt.2 (Int.le_of_lt this)]
    · have := Int.mul_pos p q; simp [Int.not_lt.2 (Int.le_of_lt p), Int.not_lt.2 (Int.le_of_lt q), this]
  have hover : ¬ In (a * b) → some (sat (a * b)) = puppeteerref1_Mul.j1 (k + 2) a b (wrap64 (a * b)) true := by
    intro hn
    unfold In at hn
    simp only [puppeteerref1_Mul.j1, puppeteerref1_Mul.j2]
    rw [if_pos trivial, hsg]
    unfold sat
    by_cases hp : 0 < a * b
    · rw [if_pos (by omega), if_pos (by simpa using hp)]
    · rw [if_neg (by omega), if_pos (by omega), if_neg (by simpa using hp), if_pos trivial]
  by_cases hin : In (a * b)
  · -- it fits
    have ew : wrap64 (a * b) = a * b := wrap_in hin
    have eq : (a * b).tdiv b = a := Int.mul_tdiv_cancel a h2
    rw [ew, eq, wrap_in ⟨ha1, ha2⟩, if_pos rfl]
    have hend : some (sat (a * b)) = puppeteerref1_Mul.j1 (k + 2) a b (a * b) false := by
      simp only [puppeteerref1_Mul.j1, puppeteerref1_Mul.j2]
      rw [if_neg (by simp), if_neg (by simp), if_neg (by simp), sat_id hin]
    unfold In at hin
    by_cases h3 : a = -1
    · rw [if_pos h3]
      by_cases h4 : b = -9223372036854775808
      · subst h3; subst h4; omega
      · rw [if_neg h4]
        by_cases h5 : b = -1
        · rw [if_pos h5, hend]; congr 1; simp; omega
        · rw [if_neg h5, hend]
    · rw [if_neg h3]
      by_cases h5 : b = -1
      · rw [if_pos h5, hend]; congr 1; simp; intro h6; subst h5; subst h6; omega
      · rw [if_neg h5, hend]
  · -- it does not fit
    rw [hover hin]
    by_cases h3 : wrap64 ((wrap64 (a * b)).tdiv b) = a
    · rw [if_pos h3]
      have hsp : b = -1 ∧ a = -9223372036854775808 := by
        have hw : In (wrap64 (a * b)) := by unfold In wrap64; omega
        have hm : ∃ q, wrap64 (a * b) = a * b - q * 18446744073709551616 := ⟨(a * b + 9223372036854775808) / 18446744073709551616, by unfold wrap64; omega⟩
        obtain ⟨q, hq⟩ := hm
        have hq0 : q ≠ 0 := by intro h; subst h; rw [Int.zero_mul, Int.sub_zero] at hq; rw [hq] at hw; exact hin hw
        by_cases hs : wrap64 (a * b) = -9223372036854775808 ∧ b = -1
        · refine ⟨hs.2, ?_⟩
          rw [hs.1, hs.2] at h3
          rw [← h3, show (-9223372036854775808 : Int).tdiv (-1) = 9223372036854775808 from by rw [Int.tdiv_neg, Int.tdiv_one]; omega]; unfold wrap64; omega
        · exfalso
          rw [wrap_in (quo_bound _ b hw ⟨hb1, hb2⟩ h2 hs)] at h3
          have hd := Int.mul_tdiv_add_tmod (wrap64 (a * b)) b
          have hr := Int.tmod_lt_of_pos (wrap64 (a * b)).natAbs (b := b.natAbs) (by omega)
          have hr2 : ((wrap64 (a * b)).tmod b).natAbs < b.natAbs := by
            rw [Int.natAbs_tmod]; exact Nat.mod_lt _ (by omega)
          rw [h3, Int.mul_comm b a] at hd
          omega
      by_cases h4 : a = -1
      · omega
      · rw [if_neg h4, if_pos hsp.1, hsp.2]; rfl
    · rw [if_neg h3]

/-! the reference's Steps -/
def rstepsF (k : Nat) (x : S27) : Option Int := puppeteerref17_Steps.f k x.f0 x.f1 x.f2 x.f3 x.f4.f0 x.f4.f1 x.f4.f2 x.f4.f3 x.f5 x.f6
theorem rsteps_loop (a0 a1 a2 : Int) (a3 : ByteArray) (a4 a5 : Int) (a6 : ByteArray) (a7 a9 : List S24) (l : List S27) (hl : l.length ≤ 2097152) (h : ∀ x ∈ l, Evt (fun k => rstepsF k x) (stpN x : Int)) : ∀ (j i acc : Nat), i + j = l.length → acc + stpNs (l.drop i) ≤ 1000000000 →
    Evt (fun k => puppeteerref17_Steps.l0 k (acc : Int) (i : Int) a0 a1 a2 a3 a4 a5 a6 a7 l a9) ((acc + stpNs (l.drop i) : Nat) : Int)
  | 0, i, acc, hi, hb => Evt.succ 0 fun k _ => by
    rw [puppeteerref17_Steps.l0, if_neg (by omega), List.drop_of_length_le (by omega)]; simp [stpNs]
  | j + 1, i, acc, hi, hb => by
    have hlt : i < l.length := by omega
    have hd : l.drop i = l[i] :: l.drop (i + 1) := List.drop_eq_getElem_cons hlt
    rw [hd, stpNs] at hb
    obtain ⟨K1, h1⟩ := h l[i] (List.getElem_mem hlt)
    obtain ⟨K2, h2⟩ := rsteps_loop a0 a1 a2 a3 a4 a5 a6 a7 a9 l hl h j (i + 1) (acc + stpN l[i]) (by omega) (by omega)
    refine Evt.succ (max K1 K2 + 1) fun k hk => ?_
    have e1 := h1 k (by omega)
    have e2 := h2 k (by omega)
    obtain ⟨k, rfl⟩ : ∃ j, k = j + 1 := ⟨k - 1, by omega⟩
    rw [puppeteerref17_Steps.l0, if_pos (by omega), if_pos (by omega), rd_at l i hlt]
    unfold rstepsF at e1
    simp only [] at e1 e2
    rw [e1, Option.bind_some, radd_tells k _ _ (by unfold In; omega) (by unfold In; omega), sat_id (by unfold In; omega), Option.bind_some, w64 _ (by omega) (by omega), hd, stpNs]
    rw [show ((acc : Int) + (stpN l[i] : Int)) = ((acc + stpN l[i] : Nat) : Int) by omega, show ((i : Int) + 1) = ((i + 1 : Nat) : Int) by omega, e2]
    congr 2; omega
mutual
theorem rsteps_evt : ∀ x : S27, szN x ≤ 1048576 → Evt (fun k => rstepsF k x) (stpN x : Int)
  | ⟨kd, a, b, s, e, l, ws⟩, hs => by
    simp only [szN] at hs
    have h1 := cntNs_le l
    have h2 := stpNs_le l
    have h3 := len_szNs l
    obtain ⟨K, hK⟩ := rsteps_loop kd a b s e.f0 e.f1 e.f2 e.f3 ws l (by omega) (rsteps_evts l (by omega)) l.length 0 (if kd = 12 then 201 else 1) (by omega) (by simp only [List.drop_zero]; split <;> omega)
    refine Evt.succ (K + 1) fun k hk => ?_
    obtain ⟨k, rfl⟩ : ∃ j, k = j + 1 := ⟨k - 1, by omega⟩
    have e1 := hK k (by omega)
    simp only [List.drop_zero] at e1
    simp only [rstepsF, puppeteerref17_Steps.f, puppeteerref17_Steps.j0, stpN]
    by_cases hk : kd = 12
    · rw [if_pos hk] at e1 ⊢
      rw [if_pos hk]; exact e1
    · rw [if_neg hk] at e1 ⊢
      rw [if_neg hk]; exact e1
theorem rsteps_evts : ∀ l : List S27, szNs l ≤ 1048576 → ∀ x ∈ l, Evt (fun k => rstepsF k x) (stpN x : Int)
  | [], _, x, hx => by simp at hx
  | y :: l, hs, x, hx => by
    simp only [szNs] at hs
    rcases List.mem_cons.1 hx with e | e
    · rw [e]; exact rsteps_evt y (by omega)
    · exact rsteps_evts l (by omega) x e
end
/-! Frames, both -/
theorem frames_both (a s b : Int) (ha : In a) (hs : In s) (hb : In b) : ∃ r, Evt (fun k => bound_Frames.f k a s b) r ∧ Evt (fun k => puppeteerref17_Frames.f k a s b) r := by
  by_cases hb1 : b < 1
  · exact ⟨9223372036854775807, ⟨0, fun k _ => by simp only [bound_Frames.f]; rw [if_pos hb1]⟩, ⟨0, fun k _ => by simp only [puppeteerref17_Frames.f]; rw [if_pos hb1]⟩⟩
  have hmx : ∀ x : Int, mx 0 x = if x < 0 then 0 else x := by intro x; unfold mx; split <;> omega
  have hmi : ∀ x : Int, In x → In (mx 0 x) := by intro x hx; rw [hmx]; unfold In at *; split <;> omega
  have hq : ∀ n : Int, In n → 0 ≤ n → In (wrap64 (n.tdiv b)) ∧ In (wrap64 (wrap64 (n.tdiv b) + 1)) := by
    intro n _ _; unfold In wrap64; omega
  by_cases hneg : a < 0 ∨ s < 0
  · have hz : mx 0 a * mx 0 s = 0 := by
      rw [hmx, hmx]
      rcases hneg with h | h
      · rw [if_pos h, Int.zero_mul]
      · rw [if_pos h, Int.mul_zero]
    refine ⟨1, Evt.succ 0 fun k _ => ?_, Evt.succ 0 fun k _ => ?_⟩
    · simp only [bound_Frames.f]
      rw [if_neg hb1, mul_tells k _ _ (hmi a ha) (hmi s hs), hz, sat_id (x := 0) (by unfold In; omega), Option.bind_some, if_neg (by omega), Int.zero_tmod, if_neg (by omega), Int.zero_tdiv, w64 0 (by omega) (by omega), add_tells k _ _ (by unfold In; omega) (by unfold In; omega)]
      rfl
    · simp only [puppeteerref17_Frames.f]
      rw [if_neg hb1]
      rcases hneg with h | h
      · rw [if_pos h]; simp only [puppeteerref17_Frames.j0]; rw [if_pos trivial]
      · by_cases h0 : a < 0
        · rw [if_pos h0]; simp only [puppeteerref17_Frames.j0]; rw [if_pos trivial]
        · rw [if_neg h0, decide_eq_true h]; simp only [puppeteerref17_Frames.j0]; rw [if_pos trivial]
  · have h1 : ¬ a < 0 := fun h => hneg (.inl h)
    have h2 : ¬ s < 0 := fun h => hneg (.inr h)
    have e1 : mx 0 a = a := by rw [hmx, if_neg h1]
    have e2 : mx 0 s = s := by rw [hmx, if_neg h2]
    have hp : 0 ≤ a * s := Int.mul_nonneg (by omega) (by omega)
    have hn0 : 0 ≤ sat (a * s) := by unfold sat; split <;> (try split) <;> omega
    obtain ⟨q1, q2⟩ := hq _ (sat_in (a * s)) hn0
    by_cases hr : (sat (a * s)).tmod b > 0
    · refine ⟨sat (wrap64 (wrap64 ((sat (a * s)).tdiv b) + 1) + 1), Evt.succ 0 fun k _ => ?_, Evt.succ 4 fun k hk => ?_⟩
      · simp only [bound_Frames.f]
        rw [if_neg hb1, e1, e2, mul_tells k _ _ ha hs, Option.bind_some, if_neg (by omega), if_pos hr, add_tells k _ _ q2 (by unfold In; omega)]
        rfl
      · obtain ⟨k, rfl⟩ : ∃ j, k = j + 3 := ⟨k - 3, by omega⟩
        simp only [puppeteerref17_Frames.f]
        rw [if_neg hb1, if_neg h1, decide_eq_false h2]
        simp only [puppeteerref17_Frames.j0]
        rw [if_neg (by simp), rmul_tells k _ _ ha hs, Option.bind_some, if_neg (by omega), if_pos hr, radd_tells (k + 2) _ _ q2 (by unfold In; omega)]
        rfl
    · refine ⟨sat (wrap64 ((sat (a * s)).tdiv b) + 1), Evt.succ 0 fun k _ => ?_, Evt.succ 4 fun k hk => ?_⟩
      · simp only [bound_Frames.f]
        rw [if_neg hb1, e1, e2, mul_tells k _ _ ha hs, Option.bind_some, if_neg (by omega), if_neg hr, add_tells k _ _ q1 (by unfold In; omega)]
        rfl
      · obtain ⟨k, rfl⟩ : ∃ j, k = j + 3 := ⟨k - 3, by omega⟩
        simp only [puppeteerref17_Frames.f]
        rw [if_neg hb1, if_neg h1, decide_eq_false h2]
        simp only [puppeteerref17_Frames.j0]
        rw [if_neg (by simp), rmul_tells k _ _ ha hs, Option.bind_some, if_neg (by omega), if_neg hr, radd_tells (k + 2) _ _ q1 (by unfold In; omega)]
        rfl
theorem tells_evt (x : S27) (hx : szN x ≤ 1048576) (a s b : Int) (ha : In a) (hs : In s) (hb : In b) : ∃ k, puppeteerlaw23_BoundTells.f k x.f0 x.f1 x.f2 x.f3 x.f4.f0 x.f4.f1 x.f4.f2 x.f4.f3 x.f5 x.f6 a s b = some true := by
  obtain ⟨K0, h0⟩ := alive_evt
  obtain ⟨K1, h1⟩ := big_evt x 0 hx (by omega)
  obtain ⟨K2, h2⟩ := count_evt x hx
  obtain ⟨K3, h3⟩ := steps_evt x hx
  obtain ⟨K4, h4⟩ := rsteps_evt x hx
  obtain ⟨r, ⟨K5, h5⟩, ⟨K6, h6⟩⟩ := frames_both a s b ha hs hb
  obtain ⟨M, hM⟩ : ∃ M, M = K0 + K1 + K2 + K3 + K4 + K5 + K6 := ⟨_, rfl⟩
  refine ⟨M + 1, ?_⟩
  have e0 := h0 (M + 1) (by omega)
  have e1 := h1 (M + 1) (by omega)
  have e2 := h2 (M + 1) (by omega)
  have e3 := h3 M (by omega)
  have e4 := h4 M (by omega)
  have e5 := h5 M (by omega)
  have e6 := h6 M (by omega)
  unfold bigF at e1
  unfold countF at e2
  unfold stepsF at e3
  unfold rstepsF at e4
  simp only [Int.natCast_zero] at e0 e1 e2 e3 e4 e5 e6
  unfold puppeteerlaw23_BoundTells.f
  rw [e0, Option.bind_some, e1, Option.bind_some, if_pos rfl]
  cases bigN x 0 with
  | true => simp [puppeteerlaw23_BoundTells.j0]
  | false =>
    rw [if_neg (by simp), e2, Option.bind_some]
    simp only [puppeteerlaw23_BoundTells.j0]
    by_cases h300 : (cntN x : Int) > 300
    · rw [if_pos (by simpa using h300)]
    · rw [if_neg (by simpa using h300), e3, Option.bind_some, e4, Option.bind_some, if_pos rfl, e5, Option.bind_some, e6, Option.bind_some]
      simp
theorem tells_walk (v : Value) (x : S27) (a s b : Int) (w : World) (h : ∃ cs, v = .agg cs ∧ k27.K w x cs.toList ∧ szN x ≤ 1048576) (ha : (Lit.int .i64 a).wf = true) (hs : (Lit.int .i64 s).wf = true) (hb : (Lit.int .i64 b).wf = true) :
    Calls Try.prog 3 #[v, .int .i64 a, .int .i64 s, .int .i64 b] w fun e w' => e = .returned (.bool true) ∧ Below w.heap.size w w' := by
  obtain ⟨cs, rfl, hK, hsz⟩ := h
  obtain ⟨k, hk⟩ := tells_evt x hsz a s b (in_of_wf ha) (in_of_wf hs) (in_of_wf hb)
  obtain ⟨A7, c7, A8, c8, A9, c9, he, l7, g7, l8, g8, l9, g9⟩ := k27_open hK
  obtain ⟨csl⟩ := cs
  simp only at he
  subst he
  exact puppeteerlaw23_BoundTells.calls k _ _ _ _ _ _ _ A7 c7 _ A8 c8 _ A9 c9 _ a s b true w g7 l7 g8 l8 g9 l9 hk
end Go.Proofs.Ythnoehcbediboaa.OpenBoundTells
