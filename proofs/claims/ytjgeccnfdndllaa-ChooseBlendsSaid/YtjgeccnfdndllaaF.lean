/- Whole numbers as floats: what reads, sums, products and orders come to. Plain laws over the words of the format. -/
import Ieee.Arith
namespace Go.Proofs.Ytjgeccnfdndllaa
open Ieee
theorem log2_mul (c k : Nat) (hc : c ≠ 0) : (c * 2 ^ k).log2 = c.log2 + k := by
  have h0 : c * 2 ^ k ≠ 0 := Nat.mul_ne_zero hc (by have := Nat.two_pow_pos k; omega)
  apply Nat.le_antisymm
  · have h1 : c < 2 ^ (c.log2 + 1) := (Nat.log2_lt hc).1 (Nat.lt_succ_self _)
    have : c * 2 ^ k < 2 ^ (c.log2 + k + 1) := by
      rw [show c.log2 + k + 1 = c.log2 + 1 + k by omega, Nat.pow_add]
      exact Nat.mul_lt_mul_of_pos_right h1 (Nat.two_pow_pos k)
    have := (Nat.log2_lt h0).2 this
    omega
  · rw [Nat.le_log2 h0, Nat.pow_add]
    exact Nat.mul_le_mul_right _ (Nat.log2_self_le hc)
theorem cut_exact (neg : Bool) (n d : Nat) (hd : d ≤ n.log2 + 2) (m : Nat) (hm : n = m * 2 ^ d) : Toward.even.cut neg n d = m := by
  unfold Toward.cut
  rw [Nat.min_eq_left hd, Nat.one_shiftLeft]
  have hp := Nat.two_pow_pos d
  have h1 : n / 2 ^ d = m := by rw [hm]; exact Nat.mul_div_cancel _ hp
  have h2 : n % 2 ^ d = 0 := by rw [hm]; exact Nat.mul_mod_left _ _
  simp only [h1, h2]
  have e1 : decide (2 ^ d < 2 * 0) = false := by simp
  have e2 : (2 ^ d == 2 * 0) = false := by simp
  rw [e1, e2]
  simp
theorem x52 : (4503599627370496 : Nat) ≤ 2 ^ 52 := by simp
theorem x53 : (2:Nat) ^ 53 ≤ 9007199254740992 := by simp
theorem read_word (neg : Bool) (R : Nat) (h1 : 4503599627370496 ≤ R) (h2 : R < 9218868437227405312) : double.read (double.word neg R) = .number neg (4503599627370496 + R % 4503599627370496) (-1074 + ((R / 4503599627370496 - 1 : Nat) : Int)) := by
  have hsw : double.signWeight = 9223372036854775808 := by decide +kernel
  have hbin : double.binade = 4503599627370496 := by decide +kernel
  have hinf : double.infRung = 9218868437227405312 := by decide +kernel
  have hlp : double.leastPlace = -1074 := by decide +kernel
  have hw : double.word neg R % double.signWeight = R := by unfold Format.word; rw [hsw]; split <;> omega
  have hs : (double.word neg R / double.signWeight % 2 == 1) = neg := by
    unfold Format.word; rw [hsw]
    cases neg
    · simp; omega
    · simp; omega
  unfold Format.read
  dsimp only
  rw [hw, hs, if_neg (by rw [hbin]; omega), if_pos (by rw [hinf]; exact h2), hbin, hlp]
/-- The word of c, written with k places behind. -/
theorem nearest_read (neg : Bool) (c k : Nat) (hc : c ≠ 0) (hb : c < 2 ^ 53) :
    double.read (double.nearest neg (c * 2 ^ k) (-(k : Int))) = .number neg (c * 2 ^ (52 - c.log2)) (-((52 - c.log2 : Nat) : Int)) := by
  have h0 : c * 2 ^ k ≠ 0 := Nat.mul_ne_zero hc (by have := Nat.two_pow_pos k; omega)
  have hl : c.log2 ≤ 52 := by have := (Nat.log2_lt hc).2 hb; omega
  have hlp : double.leastPlace = -1074 := by decide +kernel
  have hfb : (double.fractionBits : Int) = 52 := by decide +kernel
  have hlast : max (-(k : Int) + ((c * 2 ^ k).log2 : Nat) - double.fractionBits) double.leastPlace = -((52 - c.log2 : Nat) : Int) := by
    rw [log2_mul c k hc, hlp, hfb]
    omega
  have hkept : Toward.even.cut neg ((c * 2 ^ k) <<< (-(k : Int) - -((52 - c.log2 : Nat) : Int)).toNat) (-((52 - c.log2 : Nat) : Int) - -(k : Int)).toNat = c * 2 ^ (52 - c.log2) := by
    by_cases hk : k ≤ 52 - c.log2
    · have e1 : (-(k : Int) - -((52 - c.log2 : Nat) : Int)).toNat = 52 - c.log2 - k := by omega
      have e2 : (-((52 - c.log2 : Nat) : Int) - -(k : Int)).toNat = 0 := by omega
      rw [e1, e2, Nat.shiftLeft_eq]
      refine cut_exact _ _ _ (by omega) _ ?_
      rw [Nat.pow_zero, Nat.mul_one, Nat.mul_assoc, ← Nat.pow_add]
      congr 2
      omega
    · have e1 : (-(k : Int) - -((52 - c.log2 : Nat) : Int)).toNat = 0 := by omega
      have e2 : (-((52 - c.log2 : Nat) : Int) - -(k : Int)).toNat = k - (52 - c.log2) := by omega
      rw [e1, e2, Nat.shiftLeft_zero]
      refine cut_exact _ _ _ (by rw [log2_mul c k hc]; omega) _ ?_
      rw [Nat.mul_assoc, ← Nat.pow_add]
      congr 2
      omega
  have lo : 2 ^ 52 ≤ c * 2 ^ (52 - c.log2) := by
    have := Nat.log2_self_le hc
    calc 2 ^ 52 = 2 ^ (c.log2 + (52 - c.log2)) := by congr 1; omega
      _ = 2 ^ c.log2 * 2 ^ (52 - c.log2) := Nat.pow_add _ _ _
      _ ≤ c * 2 ^ (52 - c.log2) := Nat.mul_le_mul_right _ this
  have hi : c * 2 ^ (52 - c.log2) < 2 ^ 53 := by
    have h1 : c < 2 ^ (c.log2 + 1) := (Nat.log2_lt hc).1 (Nat.lt_succ_self _)
    calc c * 2 ^ (52 - c.log2) < 2 ^ (c.log2 + 1) * 2 ^ (52 - c.log2) := Nat.mul_lt_mul_of_pos_right h1 (Nat.two_pow_pos _)
      _ = 2 ^ (c.log2 + 1 + (52 - c.log2)) := (Nat.pow_add _ _ _).symm
      _ = 2 ^ 53 := by congr 1; omega
  unfold Format.nearest
  rw [if_neg h0]
  simp only
  rw [hlast, hkept, hlp]
  generalize hK : c * 2 ^ (52 - c.log2) = K at *
  generalize hL : 52 - c.log2 = L at *
  have hL2 : L ≤ 52 := by omega
  have hbin : double.binade = 4503599627370496 := by decide +kernel
  have hinf : double.infRung = 9218868437227405312 := by decide +kernel
  have hsw : double.signWeight = 9223372036854775808 := by decide +kernel
  have e3 : (-(L : Int) - -1074).toNat = 1074 - L := by omega
  rw [e3, hbin, hinf]
  have lo' : 4503599627370496 ≤ K := Nat.le_trans x52 lo
  have hi' : K < 9007199254740992 := Nat.lt_of_lt_of_le hi x53
  clear lo hi hb hK hkept hlast h0 hl hL hlp hfb hbin hinf hsw e3
  have emin : min ((1074 - L) * 4503599627370496 + K) 9218868437227405312 = (1074 - L) * 4503599627370496 + K := by omega
  rw [emin]
  generalize hR : (1074 - L) * 4503599627370496 + K = R
  have hRlt : R < 9218868437227405312 := by omega
  have hRge : 4503599627370496 ≤ R := by omega
  have hdiv : R / 4503599627370496 = 1075 - L := by omega
  have hmod : R % 4503599627370496 = K - 4503599627370496 := by omega
  rw [read_word neg R hRge hRlt]
  have f1 : 4503599627370496 + R % 4503599627370496 = K := by omega
  have f2 : (-1074 : Int) + ((R / 4503599627370496 - 1 : Nat) : Int) = -(L : Int) := by omega
  rw [f1, f2]
theorem zero_read (neg : Bool) (p : Int) : double.read (double.nearest neg 0 p) = .number neg 0 (-1074) := by
  unfold Format.nearest
  rw [if_pos rfl]
  cases neg <;> decide +kernel
/-- The bits b are those of the whole number n. -/
def Fl (b : Nat) (n : Int) : Prop := ∃ (s : Bool) (m k : Nat), double.read b = .number s m (-(k : Int)) ∧ (if s then -(m : Int) else m) = n * 2 ^ k
theorem fl_nearest (neg : Bool) (c : Int) (k : Nat) (hb : c.natAbs < 2 ^ 53) (hs : c ≠ 0 → neg = decide (c < 0)) : Fl (double.nearest neg (c.natAbs * 2 ^ k) (-(k : Int))) c := by
  by_cases h0 : c = 0
  · subst h0
    exact ⟨neg, 0, 1074, by rw [Int.natAbs_zero, Nat.zero_mul]; exact zero_read neg _, by cases neg <;> rw [Int.zero_mul] <;> rfl⟩
  · refine ⟨neg, _, _, nearest_read neg c.natAbs k (by omega) hb, ?_⟩
    rw [hs h0]
    by_cases hn : c < 0
    · simp only [hn, decide_true, if_true]
      have : (c.natAbs : Int) = -c := by omega
      rw [Int.natCast_mul, this, Int.neg_mul, Int.neg_neg]; simp
    · simp only [hn, decide_false]
      have : (c.natAbs : Int) = c := by omega
      rw [Int.natCast_mul, this]; simp
theorem fl_int (n : Int) (h : n.natAbs < 2 ^ 53) : Fl (double.write (.number (n < 0) n.natAbs 0)) n := by
  have := fl_nearest (decide (n < 0)) n 0 h (fun _ => rfl)
  rw [Nat.pow_zero, Nat.mul_one] at this
  exact this
theorem fl_val {b : Nat} {n : Int} (h : Fl b n) : ∃ (s : Bool) (k : Nat), double.read b = .number s (n.natAbs * 2 ^ k) (-(k : Int)) ∧ (n ≠ 0 → s = decide (n < 0)) := by
  obtain ⟨s, m, k, h1, h2⟩ := h
  have hp : (0 : Int) < 2 ^ k := Int.pow_pos (by omega)
  have hm : m = n.natAbs * 2 ^ k := by
    have h3 : (if s then -(m : Int) else m).natAbs = m := by cases s <;> simp
    rw [← h3, h2, Int.natAbs_mul]
    rw [Int.natAbs_pow]; rfl
  refine ⟨s, k, by rw [← hm]; exact h1, fun hn => ?_⟩
  by_cases hl : n < 0
  · have : n * 2 ^ k < 0 := Int.mul_neg_of_neg_of_pos hl hp
    cases s
    · simp at h2; omega
    · simp [hl]
  · have : 0 < n * 2 ^ k := Int.mul_pos (by omega) hp
    cases s
    · simp [hl]
    · simp at h2; omega
theorem signed_eq {s : Bool} {n : Int} {k u : Nat} (hs : n ≠ 0 → s = decide (n < 0)) : signed s (n.natAbs * 2 ^ k) u = n * 2 ^ (k + u) := by
  unfold signed
  rw [Nat.shiftLeft_eq, Nat.mul_assoc, ← Nat.pow_add]
  by_cases h0 : n = 0
  · subst h0; cases s <;> simp
  · rw [hs h0]
    by_cases hn : n < 0
    · have : (n.natAbs : Int) = -n := by omega
      simp only [hn, decide_true, if_true, Int.natCast_mul, this, Int.neg_mul, Int.neg_neg]; simp
    · have : (n.natAbs : Int) = n := by omega
      simp only [hn, decide_false, Int.natCast_mul, this]; simp
theorem fl_order {x y : Nat} {a b : Int} (hx : Fl x a) (hy : Fl y b) : double.order x y = some (compare a b) := by
  obtain ⟨s, k, h1, h2⟩ := fl_val hx
  obtain ⟨t, l, h3, h4⟩ := fl_val hy
  unfold Format.order
  rw [h1, h3]
  unfold Datum.order
  simp only
  rw [signed_eq h2, signed_eq h4]
  generalize hM : max k l = M
  have e1 : k + (-(k : Int) - min (-(k : Int)) (-(l : Int))).toNat = M := by omega
  have e2 : l + (-(l : Int) - min (-(k : Int)) (-(l : Int))).toNat = M := by omega
  rw [e1, e2]
  have hp : (0 : Int) < 2 ^ M := Int.pow_pos (by omega)
  congr 1
  rcases Int.lt_trichotomy a b with h | h | h
  · rw [Int.compare_eq_lt.2 h, Int.compare_eq_lt.2 (Int.mul_lt_mul_of_pos_right h hp)]
  · subst h; rw [Int.compare_eq_eq.2 rfl, Int.compare_eq_eq.2 rfl]
  · rw [Int.compare_eq_gt.2 h, Int.compare_eq_gt.2 (Int.mul_lt_mul_of_pos_right h hp)]
theorem fl_sum {x : Nat} {a b : Int} {d : Datum} (hx : Fl x a) (hy : ∃ (t : Bool) (l : Nat), d = .number t (b.natAbs * 2 ^ l) (-(l : Int)) ∧ (b ≠ 0 → t = decide (b < 0))) (hb : (a + b).natAbs < 2 ^ 53) : ∃ r, ((double.read x).sum d).map double.write = some r ∧ Fl r (a + b) := by
  obtain ⟨s, k, h1, h2⟩ := fl_val hx
  obtain ⟨t, l, rfl, h4⟩ := hy
  rw [h1]
  unfold Datum.sum
  simp only
  rw [signed_eq h2, signed_eq h4]
  generalize hM : max k l = M
  have e1 : k + (-(k : Int) - min (-(k : Int)) (-(l : Int))).toNat = M := by omega
  have e2 : l + (-(l : Int) - min (-(k : Int)) (-(l : Int))).toNat = M := by omega
  have e3 : min (-(k : Int)) (-(l : Int)) = -(M : Int) := by omega
  clear hM
  rw [e1, e2, e3, ← Int.add_mul]
  refine ⟨_, rfl, ?_⟩
  unfold Format.write
  simp only
  have hp : (0 : Int) < 2 ^ M := Int.pow_pos (by omega)
  rw [Int.natAbs_mul, show (2 ^ M : Int).natAbs = 2 ^ M by rw [Int.natAbs_pow]; rfl]
  refine fl_nearest _ _ _ hb (fun hn => ?_)
  rw [if_neg (Int.mul_ne_zero hn (by omega))]
  rcases Int.lt_trichotomy (a + b) 0 with h | h | h
  · rw [decide_eq_true h, decide_eq_true (Int.mul_neg_of_neg_of_pos h hp)]
  · exact absurd h hn
  · have h5 := Int.mul_pos h hp
    rw [decide_eq_false (by omega : ¬ a + b < 0), decide_eq_false (by clear hb e1 e2 e3 hp h2 h4; omega)]
theorem fl_add {x y : Nat} {a b : Int} (hx : Fl x a) (hy : Fl y b) (hb : (a + b).natAbs < 2 ^ 53) : ∃ r, double.add x y = some r ∧ Fl r (a + b) := by
  obtain ⟨t, l, h3, h4⟩ := fl_val hy
  exact fl_sum hx ⟨t, l, h3, h4⟩ hb
theorem fl_sub {x y : Nat} {a b : Int} (hx : Fl x a) (hy : Fl y b) (hb : (a - b).natAbs < 2 ^ 53) : ∃ r, double.sub x y = some r ∧ Fl r (a - b) := by
  obtain ⟨t, l, h3, h4⟩ := fl_val hy
  have := fl_sum (b := -b) hx (d := (double.read y).opposite) ⟨!t, l, by rw [h3, Int.natAbs_neg]; rfl, fun hn => by
    have h5 := h4 (by omega)
    rw [h5, ← decide_not]
    apply decide_eq_decide.2
    omega⟩ (by rw [← Int.sub_eq_add_neg]; exact hb)
  rw [← Int.sub_eq_add_neg] at this
  exact this
theorem fl_mul {x y : Nat} {a b : Int} (hx : Fl x a) (hy : Fl y b) (hb : (a * b).natAbs < 2 ^ 53) : ∃ r, double.mul x y = some r ∧ Fl r (a * b) := by
  obtain ⟨s, k, h1, h2⟩ := fl_val hx
  obtain ⟨t, l, h3, h4⟩ := fl_val hy
  unfold Format.mul
  rw [h1, h3]
  unfold Datum.product
  simp only
  refine ⟨_, rfl, ?_⟩
  unfold Format.write
  simp only
  have e1 : a.natAbs * 2 ^ k * (b.natAbs * 2 ^ l) = (a * b).natAbs * 2 ^ (k + l) := by
    rw [Int.natAbs_mul, Nat.pow_add, Nat.mul_mul_mul_comm]
  have e2 : -(k : Int) + -(l : Int) = -((k + l : Nat) : Int) := by omega
  rw [e1, e2]
  refine fl_nearest _ _ _ hb (fun hn => ?_)
  have ha : a ≠ 0 := fun e => hn (by rw [e, Int.zero_mul])
  have hb : b ≠ 0 := fun e => hn (by rw [e, Int.mul_zero])
  rw [h2 ha, h4 hb]
  by_cases h5 : a < 0 <;> by_cases h6 : b < 0
  · have := Int.mul_pos_of_neg_of_neg h5 h6
    simp [h5, h6]; omega
  · have := Int.mul_neg_of_neg_of_pos h5 (show 0 < b by omega)
    simp [h5, h6, this]
  · have := Int.mul_neg_of_pos_of_neg (show 0 < a by omega) h6
    simp [h5, h6, this]
  · have := Int.mul_pos (show 0 < a by omega) (show 0 < b by omega)
    simp [h5, h6]; omega
theorem cut_zero (neg : Bool) (m k : Nat) : Toward.zero.cut neg (m * 2 ^ k) k = m := by
  unfold Toward.cut
  by_cases h0 : m = 0
  · subst h0; simp
  · rw [Nat.min_eq_left (by rw [log2_mul m k h0]; omega), Nat.one_shiftLeft]; dsimp only; rw [Nat.mul_div_cancel _ (Nat.two_pow_pos k)]; simp
theorem fl_toInt {x : Nat} {a : Int} (hx : Fl x a) : (double.read x).toInt .zero = some a := by
  obtain ⟨s, k, h1, h2⟩ := fl_val hx
  rw [h1]
  unfold Datum.toInt Datum.integral
  simp only
  have e1 : (-(k : Int)).toNat = 0 := by omega
  have e2 : (- -(k : Int)).toNat = k := by omega
  rw [e1, e2, Nat.shiftLeft_zero, cut_zero]
  have := signed_eq (s := s) (k := 0) (u := 0) h2
  simpa using this
end Go.Proofs.Ytjgeccnfdndllaa
