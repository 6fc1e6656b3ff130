/- Bits of a mask; plain Lean. -/
import Derived.Test.YtkebkmbfglodlaaDoorProg
import Derived.KernelRfl
import Derived.Laws.BitsAllLaws
namespace Go.Proofs.YtkebkmbfglodlaaDoor
def dB : List Nat := [0, 1, 28, 2, 29, 14, 24, 3, 30, 22, 20, 15, 25, 17, 4, 8, 31, 27, 13, 23, 21, 19, 16, 7, 26, 12, 18, 6, 11, 5, 10, 9]
def lowb (m : Nat) : Nat := m &&& (65536 - m)
def lowi (m : Nat) : Nat := lowb m * 125613361 % 4294967296 / 134217728
def tzN (m : Nat) : Nat := dB.getD (lowi m) 99
def rest (m : Nat) : Nat := m &&& (m - 1)
def chkM (m : Nat) : Bool := Nat.ble (tzN m) 15 && (Nat.beq (lowb m) (2 ^ tzN m) && (Nat.beq (m % 2 ^ tzN m) 0 && (Nat.beq (rest m ||| 2 ^ tzN m) m && Nat.beq (rest m &&& 2 ^ tzN m) 0)))
def chkR : Nat → Nat → Bool
  | 0, _ => true
  | n + 1, m => Nat.beq m 0 || chkM m && chkR n (m - 1)
theorem chk_all : chkR 65536 65535 = true := by decide +kernel
theorem chkR_all : ∀ (n m : Nat), chkR n m = true → ∀ i, i < n → m - i ≠ 0 → chkM (m - i) = true
  | 0, _, _, i, hi, _ => absurd hi (Nat.not_lt_zero i)
  | n + 1, m, h, i, hi, h0 => by
    unfold chkR at h
    rw [Bool.or_eq_true, Bool.and_eq_true] at h
    rcases h with h | h
    · have := Nat.eq_of_beq_eq_true h
      omega
    · cases i with
      | zero => exact h.1
      | succ i =>
        have := chkR_all n (m - 1) h.2 i (by omega) (by omega)
        rwa [Nat.sub_sub, Nat.add_comm 1 i] at this
theorem low_facts (m : Nat) (hm : m < 65536) (h0 : m ≠ 0) : tzN m ≤ 15 ∧ lowb m = 2 ^ tzN m ∧ m % 2 ^ tzN m = 0 ∧ rest m ||| 2 ^ tzN m = m ∧ rest m &&& 2 ^ tzN m = 0 := by
  have h := chkR_all 65536 65535 chk_all (65535 - m) (by omega) (by omega)
  rw [show 65535 - (65535 - m) = m by omega] at h
  unfold chkM at h
  simp only [Bool.and_eq_true] at h
  exact ⟨Nat.le_of_ble_eq_true h.1, Nat.eq_of_beq_eq_true h.2.1, Nat.eq_of_beq_eq_true h.2.2.1, Nat.eq_of_beq_eq_true h.2.2.2.1, Nat.eq_of_beq_eq_true h.2.2.2.2⟩
def bitsN (m : Nat) : List Int := ((List.range 16).filter fun i : Nat => m.testBit i).map fun i : Nat => (i : Int)
theorem filt_split (p q : Nat → Bool) (n k : Nat) (hk : k < n) (hp : ∀ i, p i = (q i || decide (i = k))) (hq : q k = false) (hl : ∀ i, i < k → p i = false) : (List.range n).filter p = k :: (List.range n).filter q := by
  obtain ⟨d, rfl⟩ : ∃ d, n = k + (1 + d) := ⟨n - k - 1, by omega⟩
  have hpk : p k = true := by rw [hp]; simp
  have e1 : (List.range k).filter p = [] := by
    rw [List.filter_eq_nil_iff]
    intro i hi
    rw [hl i (List.mem_range.1 hi)]
    simp
  have e2 : (List.range k).filter q = [] := by
    rw [List.filter_eq_nil_iff]
    intro i hi
    have := hl i (List.mem_range.1 hi)
    rw [hp] at this
    simp only [Bool.or_eq_false_iff] at this
    rw [this.1]
    simp
  have e3 : ∀ l : List Nat, (∀ i ∈ l, k < i) → l.filter p = l.filter q := by
    intro l hl'
    apply List.filter_congr
    intro i hi
    have := hl' i hi
    rw [hp, decide_eq_false (by omega), Bool.or_false]
  rw [List.range_add, List.filter_append, List.filter_append, e1, e2, List.nil_append, List.nil_append, Nat.add_comm 1 d, List.range_succ_eq_map, List.map_cons, List.filter_cons, List.filter_cons, Nat.add_zero, hpk, hq]
  simp only [if_true]
  rw [e3 _ (by intro i hi; simp at hi; obtain ⟨a, _, rfl⟩ := hi; omega)]
  simp
theorem bitsN_step (m : Nat) (hm : m < 65536) (h0 : m ≠ 0) : bitsN m = (tzN m : Int) :: bitsN (rest m) := by
  obtain ⟨h1, _, h3, h4, h5⟩ := low_facts m hm h0
  unfold bitsN
  rw [filt_split (fun i => m.testBit i) (fun i => (rest m).testBit i) 16 (tzN m) (by omega)]
  · rfl
  · intro i
    have : m.testBit i = (rest m ||| 2 ^ tzN m).testBit i := by rw [h4]
    rw [this, Nat.testBit_or, Nat.testBit_two_pow]
    congr 1
    rw [decide_eq_decide]
    exact eq_comm
  · have : (rest m &&& 2 ^ tzN m).testBit (tzN m) = false := by rw [h5]; simp
    rw [Nat.testBit_and, Nat.testBit_two_pow_self, Bool.and_true] at this
    exact this
  · intro i hi
    have : (m % 2 ^ tzN m).testBit i = false := by rw [h3]; simp
    rw [Nat.testBit_mod_two_pow, decide_eq_true hi, Bool.true_and] at this
    exact this
theorem bitsN_zero : bitsN 0 = [] := by simp [bitsN]
theorem rest_lt (m : Nat) (h0 : m ≠ 0) : rest m < m := Nat.lt_of_le_of_lt Nat.and_le_right (by omega)
theorem bitsN_nodup (m : Nat) : (bitsN m).Nodup := by
  unfold bitsN
  refine List.Pairwise.map _ (fun a b (h : a ≠ b) => by omega) ((List.nodup_range.filter _))
theorem mem_bitsN (m : Nat) (c : Int) : c ∈ bitsN m ↔ 0 ≤ c ∧ c < 16 ∧ m.testBit c.toNat = true := by
  unfold bitsN
  rw [List.mem_map]
  constructor
  · rintro ⟨i, hi, rfl⟩
    rw [List.mem_filter, List.mem_range] at hi
    exact ⟨by omega, by omega, by simpa using hi.2⟩
  · rintro ⟨h1, h2, h3⟩
    exact ⟨c.toNat, by rw [List.mem_filter, List.mem_range]; exact ⟨by omega, h3⟩, by omega⟩
theorem bitsN_len (m : Nat) : (bitsN m).length ≤ 16 := by
  unfold bitsN
  rw [List.length_map]
  exact Nat.le_trans (List.length_filter_le _ _) (by simp)
/-- What the walk needs of the steps at a mask. -/
theorem low_idx (m : Nat) (hm : m < 65536) (h0 : m ≠ 0) : lowi m < 32 ∧ dB[lowi m]? = some (tzN m) := by
  have h := (low_facts m hm h0).1
  unfold tzN at h ⊢
  rw [List.getD_eq_getElem?_getD] at h ⊢
  cases hx : dB[lowi m]? with
  | none => rw [hx] at h; simp at h
  | some x => exact ⟨(List.getElem?_eq_some_iff.1 hx).1, rfl⟩
end Go.Proofs.YtkebkmbfglodlaaDoor
