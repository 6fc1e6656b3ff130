/- SchedFair's plain law: whoever deals a budget out again and again from the cursor on serves everybody within the bound. No program in sight. -/
import Derived.Test.YtkfkacdiekpkfaaS
set_option linter.unusedVariables false
namespace Go.Proofs.Ytkfkacdiekpkfaa
def upd {α : Type} (f : Nat → α) (k : Nat) (x : α) : Nat → α := fun j => if j = k then x else f j
def tab {α : Type} (n : Nat) (f : Nat → α) : List α := (List.range n).map f
theorem tab_len {α : Type} (n : Nat) (f : Nat → α) : (tab n f).length = n := by simp [tab]
theorem tab_get {α : Type} (n : Nat) (f : Nat → α) (i : Nat) (h : i < n) : (tab n f)[i]? = some (f i) := by simp [tab, h]
theorem tab_set {α : Type} (n : Nat) (f : Nat → α) (k : Nat) (x : α) : (tab n f).set k x = tab n (upd f k x) := by
  apply List.ext_getElem?
  intro i
  by_cases hi : i < n
  · rw [tab_get _ _ _ hi]
    by_cases e : k = i
    · subst e
      rw [List.getElem?_set_self (by rw [tab_len]; exact hi)]
      simp [upd]
    · rw [List.getElem?_set_ne e, tab_get _ _ _ hi]
      simp [upd, Ne.symm e]
  · rw [List.getElem?_eq_none (by rw [List.length_set, tab_len]; omega), List.getElem?_eq_none (by rw [tab_len]; omega)]
def psum (f : Nat → Int) : Nat → Int
  | 0 => 0
  | k + 1 => psum f k + f k
theorem tab_succ {α : Type} (n : Nat) (f : Nat → α) : tab (n + 1) f = f 0 :: tab n (fun i => f (i + 1)) := by
  unfold tab; rw [List.range_succ_eq_map, List.map_cons, List.map_map]; rfl
theorem psum_shift (f : Nat → Int) : ∀ k, psum f (k + 1) = f 0 + psum (fun i => f (i + 1)) k
  | 0 => by simp [psum]
  | k + 1 => by rw [psum, psum_shift f k, psum]; omega
theorem psum_mono (f : Nat → Int) (n : Nat) (h : ∀ k, k < n → 0 ≤ f k) : ∀ m, m ≤ n → psum f m ≤ psum f n := by
  intro m hm
  induction n with
  | zero => obtain rfl : m = 0 := by omega
            exact Int.le_refl _
  | succ n ih =>
    by_cases e : m = n + 1
    · subst e; exact Int.le_refl _
    · have h1 := ih (fun k hk => h k (by omega)) (by omega)
      have h2 := h n (by omega)
      rw [psum]; omega
theorem psum_le (f : Nat → Int) (t : Int) : ∀ n, (∀ k, k < n → f k ≤ t) → psum f n ≤ n * t
  | 0, _ => by simp [psum]
  | n + 1, h => by
    have h1 := psum_le f t n fun k hk => h k (by omega)
    have h2 := h n (by omega)
    rw [psum]
    have : ((n + 1 : Nat) : Int) * t = (n : Int) * t + t := by rw [Int.natCast_succ, Int.add_mul, Int.one_mul]
    omega
/-- What the i-th one gets. -/
def gotF (b : Int) (n : Nat) (f : Nat → Int) (i : Nat) : Int := ((shO b (tab n f))[i]?).getD 0
theorem shO_zero : ∀ (n : Nat) (f : Nat → Int), (∀ i, i < n → 1 ≤ f i) → shO 0 (tab n f) = tab n (fun _ => 0) ∧ shW 0 (tab n f) = 0
  | 0, f, _ => ⟨rfl, rfl⟩
  | n + 1, f, h => by
    have h0 := h 0 (by omega)
    have h1 : least (one (f 0)) 0 = 0 := by unfold least one; split <;> (try split) <;> omega
    have h2 : ¬ one (f 0) ≤ 0 := by unfold one; split <;> omega
    obtain ⟨h3, h4⟩ := shO_zero n (fun i => f (i + 1)) fun i hi => h (i + 1) (by omega)
    rw [tab_succ, tab_succ]
    simp only [shO, shW, h1, Int.sub_zero, h3, h4, if_neg h2]
    exact ⟨trivial, trivial⟩
theorem share_spec : ∀ (n : Nat) (b : Int) (f : Nat → Int), 0 ≤ b → (∀ i, i < n → 1 ≤ f i) → ∃ q, shW b (tab n f) = q ∧ q ≤ n ∧ psum f q ≤ b ∧ (q < n → b < psum f (q + 1)) ∧
    (∀ i, i < q → gotF b n f i = f i) ∧ (q < n → gotF b n f q = b - psum f q) ∧ ∀ i, q < i → i < n → gotF b n f i = 0
  | 0, b, f, hb, _ => ⟨0, rfl, Nat.le_refl _, by simpa [psum] using hb, by omega, by omega, by omega, by omega⟩
  | n + 1, b, f, hb, h => by
    have h0 := h 0 (by omega)
    have e1 : one (f 0) = f 0 := by unfold one; split <;> omega
    by_cases hle : f 0 ≤ b
    · have e2 : least (one (f 0)) b = f 0 := by rw [e1]; unfold least; split <;> omega
      obtain ⟨q, g1, g2, g3, g4, g5, g6, g7⟩ := share_spec n (b - f 0) (fun i => f (i + 1)) (by omega) fun i hi => h (i + 1) (by omega)
      have eg : ∀ i, gotF b (n + 1) f (i + 1) = gotF (b - f 0) n (fun i => f (i + 1)) i := by
        intro i; unfold gotF; rw [tab_succ]; simp only [shO, e2, List.getElem?_cons_succ]
      have eg0 : gotF b (n + 1) f 0 = f 0 := by unfold gotF; rw [tab_succ]; simp only [shO, e2, List.getElem?_cons_zero, Option.getD_some]
      refine ⟨q + 1, ?_, by omega, ?_, ?_, ?_, ?_, ?_⟩
      · rw [tab_succ]; simp only [shW, e2, g1]; rw [e1, if_pos hle]; omega
      · rw [psum_shift]; omega
      · intro hq; have := g4 (by omega); rw [psum_shift]; omega
      · intro i hi
        cases i with
        | zero => exact eg0
        | succ i => rw [eg]; exact g5 i (by omega)
      · intro hq; rw [eg, g6 (by omega), psum_shift]; omega
      · intro i h1 h2
        cases i with
        | zero => omega
        | succ i => rw [eg]; exact g7 i (by omega) (by omega)
    · have e2 : least (one (f 0)) b = b := by rw [e1]; unfold least; split <;> omega
      obtain ⟨z1, z2⟩ := shO_zero n (fun i => f (i + 1)) fun i hi => h (i + 1) (by omega)
      have e3 : b - b = 0 := by omega
      refine ⟨0, ?_, by omega, by simpa [psum] using hb, ?_, by omega, ?_, ?_⟩
      · rw [tab_succ]; simp only [shW, e2, e3, z2]; rw [e1, if_neg hle]
      · intro _; rw [psum_shift]; simp only [psum]; omega
      · intro _; unfold gotF; rw [tab_succ]; simp only [shO, e2, List.getElem?_cons_zero, Option.getD_some, psum]; omega
      · intro i h1 h2
        cases i with
        | zero => omega
        | succ i =>
          unfold gotF; rw [tab_succ]; simp only [shO, e2, List.getElem?_cons_succ, e3, z1]
          rw [tab_get _ _ _ (by omega)]; rfl
theorem got_bounds (n : Nat) (b : Int) (f : Nat → Int) (hb : 0 ≤ b) (h : ∀ i, i < n → 1 ≤ f i) (i : Nat) (hi : i < n) : 0 ≤ gotF b n f i ∧ gotF b n f i ≤ f i ∧ gotF b n f i ≤ b := by
  obtain ⟨q, g1, g2, g3, g4, g5, g6, g7⟩ := share_spec n b f hb h
  have hpos := h i hi
  rcases Nat.lt_trichotomy i q with h1 | h1 | h1
  · rw [g5 i h1]
    have hm := psum_mono f q (fun k hk => by have := h k (by omega); omega) (i + 1) (by omega)
    have hm0 := psum_mono f i (fun k hk => by have := h k (by omega); omega) 0 (by omega)
    simp only [psum] at hm hm0
    omega
  · subst h1
    have h2 := g4 hi
    have hm0 := psum_mono f i (fun k hk => by have := h k (by omega); omega) 0 (by omega)
    rw [g6 hi]
    simp only [psum] at h2 hm0
    omega
  · rw [g7 i h1 hi]; omega
theorem got_sum (n : Nat) (b : Int) (f : Nat → Int) (hb : 0 ≤ b) (h : ∀ i, i < n → 1 ≤ f i) : ∀ m, m ≤ n → 0 ≤ psum (gotF b n f) m ∧ psum (gotF b n f) m ≤ b := by
  obtain ⟨q, g1, g2, g3, g4, g5, g6, g7⟩ := share_spec n b f hb h
  have key : ∀ m, m ≤ n → (m ≤ q → psum (gotF b n f) m = psum f m) ∧ (q < m → psum (gotF b n f) m = b) := by
    intro m
    induction m with
    | zero => intro _; exact ⟨fun _ => rfl, fun h => by omega⟩
    | succ m ih =>
      intro hm
      obtain ⟨i1, i2⟩ := ih (by omega)
      refine ⟨fun hq => ?_, fun hq => ?_⟩
      · rw [psum, psum, i1 (by omega), g5 m (by omega)]
      · rw [psum]
        by_cases e : m = q
        · subst e; rw [i1 (by omega), g6 (by omega)]; omega
        · rw [i2 (by omega), g7 m (by omega) (by omega)]; omega
  intro m hm
  obtain ⟨k1, k2⟩ := key m hm
  by_cases hq : m ≤ q
  · rw [k1 hq]
    have hm1 := psum_mono f q (fun k hk => by have := h k (by omega); omega) m hq
    have hm0 := psum_mono f m (fun k hk => by have := h k (by omega); omega) 0 (by omega)
    simp only [psum] at hm0
    omega
  · rw [k2 (by omega)]; omega
/-- The turn's i-th one. -/
def rot (n at_ : Nat) (lf : Nat → Int) (i : Nat) : Int := lf ((at_ + i) % n)
/-- Where the inner loop stands behind i of n. -/
structure Mid (n at_ : Nat) (b : Int) (nd lf : Nat → Int) (dn : Nat → Bool) (i : Nat) (L : Nat → Int) (D : Nat → Bool) : Prop where
  past : ∀ j, j < i → (gotF b n (rot n at_ lf) j = rot n at_ lf j → L ((at_ + j) % n) = nd ((at_ + j) % n) ∧ D ((at_ + j) % n) = true) ∧
    (gotF b n (rot n at_ lf) j ≠ rot n at_ lf j → L ((at_ + j) % n) = rot n at_ lf j - gotF b n (rot n at_ lf) j ∧ D ((at_ + j) % n) = dn ((at_ + j) % n))
  coming : ∀ j, i ≤ j → j < n → L ((at_ + j) % n) = lf ((at_ + j) % n) ∧ D ((at_ + j) % n) = dn ((at_ + j) % n)
theorem Mid.start (n at_ : Nat) (b : Int) (nd lf : Nat → Int) (dn : Nat → Bool) : Mid n at_ b nd lf dn 0 lf dn := ⟨fun j h => by omega, fun j _ _ => ⟨rfl, rfl⟩⟩
theorem mod_ne {n a i j : Nat} (hi : i < n) (hj : j < n) (h : i ≠ j) : (a + i) % n ≠ (a + j) % n := by
  intro e
  have h1 := Nat.div_add_mod (a + i) n
  have h2 := Nat.div_add_mod (a + j) n
  rw [e] at h1
  generalize (a + j) % n = r at *
  generalize (a + i) / n = x at *
  generalize (a + j) / n = y at *
  rcases Nat.lt_trichotomy x y with hh | hh | hh
  · have := Nat.mul_le_mul_left n (show x + 1 ≤ y from hh)
    rw [Nat.mul_add, Nat.mul_one] at this
    omega
  · subst hh; omega
  · have := Nat.mul_le_mul_left n (show y + 1 ≤ x from hh)
    rw [Nat.mul_add, Nat.mul_one] at this
    omega
theorem Mid.whole {n at_ : Nat} {b : Int} {nd lf : Nat → Int} {dn : Nat → Bool} {i : Nat} {L : Nat → Int} {D : Nat → Bool} (h : Mid n at_ b nd lf dn i L D) (hi : i < n) (hg : gotF b n (rot n at_ lf) i = rot n at_ lf i) :
    Mid n at_ b nd lf dn (i + 1) (upd L ((at_ + i) % n) (nd ((at_ + i) % n))) (upd D ((at_ + i) % n) true) := by
  refine ⟨fun j hj => ?_, fun j h1 h2 => ?_⟩
  · by_cases e : j = i
    · subst e
      exact ⟨fun _ => by simp [upd], fun h => absurd hg h⟩
    · have hne := mod_ne (n := n) (a := at_) (i := j) (j := i) (by omega) hi e
      obtain ⟨p1, p2⟩ := h.past j (by omega)
      simp only [upd, if_neg hne]
      exact ⟨p1, p2⟩
  · have hne := mod_ne (n := n) (a := at_) (i := j) (j := i) h2 hi (by omega)
    simp only [upd, if_neg hne]
    exact h.coming j (by omega) h2
theorem Mid.part {n at_ : Nat} {b : Int} {nd lf : Nat → Int} {dn : Nat → Bool} {i : Nat} {L : Nat → Int} {D : Nat → Bool} (h : Mid n at_ b nd lf dn i L D) (hi : i < n) (hg : gotF b n (rot n at_ lf) i ≠ rot n at_ lf i) :
    Mid n at_ b nd lf dn (i + 1) (upd L ((at_ + i) % n) (rot n at_ lf i - gotF b n (rot n at_ lf) i)) D := by
  refine ⟨fun j hj => ?_, fun j h1 h2 => ?_⟩
  · by_cases e : j = i
    · subst e
      refine ⟨fun h => absurd h hg, fun _ => ⟨by simp [upd], (h.coming j (Nat.le_refl _) hi).2⟩⟩
    · have hne := mod_ne (n := n) (a := at_) (i := j) (j := i) (by omega) hi e
      obtain ⟨p1, p2⟩ := h.past j (by omega)
      simp only [upd, if_neg hne]
      exact ⟨p1, p2⟩
  · have hne := mod_ne (n := n) (a := at_) (i := j) (j := i) h2 hi (by omega)
    simp only [upd, if_neg hne]
    exact h.coming j (by omega) h2
/-- Behind f frames. -/
structure Inv (n : Nat) (b : Int) (nd : Nat → Int) (f at_ : Nat) (lf : Nat → Int) (dn : Nat → Bool) : Prop where
  lt : at_ < n
  pos : ∀ k, k < n → 1 ≤ lf k ∧ lf k ≤ nd k
  way : (∀ k, k < n → dn k = true) ∨ ((∀ k, k < at_ → lf k = nd k ∧ dn k = true) ∧ (∀ k, at_ < k → k < n → lf k = nd k) ∧ (f : Int) * b + lf at_ = psum nd (at_ + 1))
theorem Inv.start (n : Nat) (b : Int) (nd : Nat → Int) (dn : Nat → Bool) (hn : 0 < n) (h : ∀ k, k < n → 1 ≤ nd k) : Inv n b nd 0 0 nd dn :=
  ⟨hn, fun k hk => ⟨h k hk, Int.le_refl _⟩, .inr ⟨fun k hk => by omega, fun _ _ _ => rfl, by simp [psum]⟩⟩
theorem inv_index {n at_ k : Nat} (hat : at_ < n) (hk : k < n) : ∃ j, j < n ∧ (at_ + j) % n = k ∧ j = if at_ ≤ k then k - at_ else k + n - at_ := by
  by_cases h : at_ ≤ k
  · refine ⟨k - at_, by omega, ?_, by rw [if_pos h]⟩
    rw [show at_ + (k - at_) = k by omega]; exact Nat.mod_eq_of_lt hk
  · refine ⟨k + n - at_, by omega, ?_, by rw [if_neg h]⟩
    rw [show at_ + (k + n - at_) = k + n by omega, Nat.add_mod_right]; exact Nat.mod_eq_of_lt hk
theorem psum_turn (n P : Nat) (nd lf : Nat → Int) (hP : P < n) (h : ∀ k, P < k → k < n → lf k = nd k) : ∀ q, P + q < n → psum (rot n P lf) (q + 1) = lf P + psum nd (P + q + 1) - psum nd (P + 1)
  | 0, _ => by simp only [psum, rot, Nat.add_zero, Nat.mod_eq_of_lt hP]; omega
  | q + 1, hq => by
    rw [psum, psum_turn n P nd lf hP h q (by omega)]
    have e1 : rot n P lf (q + 1) = nd (P + (q + 1)) := by
      unfold rot; rw [Nat.mod_eq_of_lt hq]; exact h _ (by omega) hq
    have e2 : psum nd (P + (q + 1) + 1) = psum nd (P + q + 1) + nd (P + (q + 1)) := rfl
    rw [e1, e2]; omega
def moved (n at_ : Nat) (b : Int) (lf : Nat → Int) : Nat := (at_ + wh b (tab n (rot n at_ lf))) % n
theorem wh_lt (n : Nat) (b : Int) (f : Nat → Int) (hn : 0 < n) : wh b (tab n f) < n := by
  unfold wh
  have := shW_le (tab n f) b
  rw [tab_len] at this ⊢
  split <;> omega
theorem Inv.step {n at_ f : Nat} {b : Int} {nd lf : Nat → Int} {dn : Nat → Bool} {L : Nat → Int} {D : Nat → Bool} (h : Inv n b nd f at_ lf dn) (hb : 0 ≤ b) (hnd : ∀ k, k < n → 1 ≤ nd k) (hM : Mid n at_ b nd lf dn n L D) :
    Inv n b nd (f + 1) (moved n at_ b lf) L D := by
  have hn : 0 < n := Nat.lt_of_le_of_lt (Nat.zero_le _) h.lt
  have hf : ∀ i, i < n → 1 ≤ rot n at_ lf i := fun i hi => (h.pos _ (Nat.mod_lt _ hn)).1
  have hgb := got_bounds n b (rot n at_ lf) hb hf
  obtain ⟨q, g1, g2, g3, g4, g5, g6, g7⟩ := share_spec n b (rot n at_ lf) hb hf
  have all : ∀ k, k < n → ∃ j, j < n ∧ (at_ + j) % n = k ∧ (j = if at_ ≤ k then k - at_ else k + n - at_) ∧ rot n at_ lf j = lf k ∧
      (gotF b n (rot n at_ lf) j = lf k → L k = nd k ∧ D k = true) ∧ (gotF b n (rot n at_ lf) j ≠ lf k → L k = lf k - gotF b n (rot n at_ lf) j ∧ D k = dn k) := by
    intro k hk
    obtain ⟨j, h1, h2, h3⟩ := inv_index h.lt hk
    obtain ⟨p1, p2⟩ := hM.past j h1
    have e : rot n at_ lf j = lf k := by unfold rot; rw [h2]
    rw [e, h2] at p1 p2
    exact ⟨j, h1, h2, h3, e, p1, p2⟩
  have pos : ∀ k, k < n → 1 ≤ L k ∧ L k ≤ nd k := by
    intro k hk
    obtain ⟨j, h1, h2, h3, e, p1, p2⟩ := all k hk
    have := hgb j h1
    have hp := h.pos k hk
    rw [e] at this
    by_cases hw : gotF b n (rot n at_ lf) j = lf k
    · rw [(p1 hw).1]; exact ⟨hnd k hk, Int.le_refl _⟩
    · rw [(p2 hw).1]; omega
  have keep : ∀ k, k < n → dn k = true → D k = true := by
    intro k hk hd
    obtain ⟨j, h1, h2, h3, e, p1, p2⟩ := all k hk
    by_cases hw : gotF b n (rot n at_ lf) j = lf k
    · exact (p1 hw).2
    · rw [(p2 hw).2]; exact hd
  refine ⟨Nat.mod_lt _ hn, pos, ?_⟩
  rcases h.way with hw | ⟨w1, w2, w3⟩
  · exact .inl fun k hk => keep k hk (hw k hk)
  · by_cases hq : n ≤ at_ + q
    · left
      intro k hk
      by_cases hk2 : k < at_
      · exact keep k hk (w1 k hk2).2
      · obtain ⟨j, h1, h2, h3, e, p1, p2⟩ := all k hk
        rw [if_pos (by omega)] at h3
        exact (p1 (by rw [g5 j (by omega), e])).2
    · right
      have hat : moved n at_ b lf = at_ + q := by
        unfold moved wh
        rw [g1, tab_len, if_neg (by omega)]
        exact Nat.mod_eq_of_lt (by omega)
      rw [hat]
      have hlt := h.lt
      refine ⟨fun k hk => ?_, fun k hk hk2 => ?_, ?_⟩
      · obtain ⟨j, h1, h2, h3, e, p1, p2⟩ := all k (by omega)
        by_cases hk2 : k < at_
        · rw [if_neg (by omega)] at h3
          have z := g7 j (by omega) h1
          have hp := (h.pos k (by omega)).1
          obtain ⟨r1, r2⟩ := p2 (by rw [z]; omega)
          rw [r1, r2, z, (w1 k hk2).1, (w1 k hk2).2]
          exact ⟨by omega, rfl⟩
        · rw [if_pos (by omega)] at h3
          exact p1 (by rw [g5 j (by omega), e])
      · obtain ⟨j, h1, h2, h3, e, p1, p2⟩ := all k hk2
        rw [if_pos (by omega)] at h3
        have z := g7 j (by omega) h1
        have hp := (h.pos k hk2).1
        rw [(p2 (by rw [z]; omega)).1, z, w2 k (by omega) hk2]
        omega
      · obtain ⟨j, h1, h2, h3, e, p1, p2⟩ := all (at_ + q) (by omega)
        rw [if_pos (by omega)] at h3
        obtain rfl : j = q := by omega
        have z := g6 h1
        have z2 := g4 h1
        have z3 := psum_turn n at_ nd lf hlt w2 j (by omega)
        have z4 : psum (rot n at_ lf) (j + 1) = psum (rot n at_ lf) j + lf (at_ + j) := by rw [psum, e]
        rw [(p2 (by rw [z]; omega)).1, z]
        have e5 : ((f + 1 : Nat) : Int) * b = (f : Int) * b + b := by rw [Int.natCast_succ, Int.add_mul, Int.one_mul]
        rw [e5]
        omega
theorem Inv.over {n at_ F : Nat} {b t : Int} {nd lf : Nat → Int} {dn : Nat → Bool} (h : Inv n b nd F at_ lf dn) (hb : 1 ≤ b) (hnd : ∀ k, k < n → 0 ≤ nd k ∧ nd k ≤ t) (hF : (n : Int) * t ≤ (F : Int) * b) : ∀ k, k < n → dn k = true := by
  rcases h.way with hw | ⟨w1, w2, w3⟩
  · exact hw
  · exfalso
    have h1 := psum_mono nd n (fun k hk => (hnd k hk).1) (at_ + 1) (by have := h.lt; omega)
    have h2 := psum_le nd t n fun k hk => (hnd k hk).2
    have h3 := (h.pos at_ h.lt).1
    omega
end Go.Proofs.Ytkfkacdiekpkfaa
