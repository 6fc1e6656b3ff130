/- Numbers as texts, and the keys k0, k1, ... -/
import Derived.Test.YtmonnibleolhhaaD
import Derived.Laws.Concat
set_option linter.unusedVariables false
namespace Go.Proofs.Ytmonnibleolhhaa
open Go.RowKit
def dig (k : Nat) : ByteArray := (⟨#[48, 49, 50, 51, 52, 53, 54, 55, 56, 57]⟩ : ByteArray).extract k (k + 1)
def decF : Nat → Nat → ByteArray
  | 0, n => dig (n % 10)
  | f + 1, n => if 9 < n then decF f (n / 10) ++ dig (n % 10) else dig (n % 10)
theorem dig_size (k : Nat) : (dig k).size ≤ 1 := by unfold dig; rw [ByteArray.size_extract]; omega
theorem decF_size : ∀ f n, (decF f n).size ≤ f + 1
  | 0, n => dig_size _
  | f + 1, n => by
    unfold decF
    split
    · rw [ByteArray.size_append]; have := decF_size f (n / 10); have := dig_size (n % 10); omega
    · have := dig_size (n % 10); omega
theorem ret_s {a b : ByteArray} (h : a = b) : Ending.returned (.string a) = .returned (.string b) := by rw [h]
theorem slice_dig (r : Nat) (hr : r < 10) (w : World) : (Instr.slice 9 (.string ⟨#[48, 49, 50, 51, 52, 53, 54, 55, 56, 57]⟩) (some (.int .i64 (r : Nat))) (some (.int .i64 ((r : Int) + 1))) none).run Try.prog w = .ok (.string (dig r)) w := by
  have h := run_slice_string (P := Try.prog) w 9 (⟨#[48, 49, 50, 51, 52, 53, 54, 55, 56, 57]⟩ : ByteArray) .i64 .i64 (r : Nat) ((r : Int) + 1) Try.underlying9 (by omega) (by omega) (by show (r : Int) + 1 ≤ 10; omega)
  rw [Int.toNat_natCast, show ((r : Int) + 1).toNat = r + 1 by omega] at h
  exact h
set_option maxHeartbeats 3200000 in
theorem dec_does : ∀ (f n : Nat) (w : World), n < 10 ^ (f + 1) → f ≤ 5 → Calls Try.prog 9 #[.int .i64 (n : Nat)] w fun e w' => e = .returned (.string (decF f n)) ∧ w = w' := by
  intro f
  induction f with
  | zero =>
    intro n w hn hf
    have hn : n < 10 := by simpa using hn
    have hm : n % 10 = n := Nat.mod_eq_of_lt hn
    have HR : As (decF 0 n = dig n) := ⟨by unfold decF; rw [hm]⟩
    have hsl := slice_dig n hn
    have r1 : ((n : Int)).tmod 10 = (n : Int) := by rw [Int.tmod_eq_emod_of_nonneg (by omega)]; omega
    have r2 : ((n : Int)) % 10 = (n : Int) := by omega
    have t1 : decide ((9 : Int) < n) = false := decide_eq_false (by omega)
    have t2 : decide (9 < n) = false := decide_eq_false (by omega)
    rw [HR.out]
    clear hm HR
    go_enter Try.func9, Try.ntmps9
    go_wp2_with fail
    go_ret
    exact ⟨rfl, rfl⟩
  | succ f ih =>
    intro n w hn hf
    obtain ⟨q, hq⟩ : ∃ q, n / 10 = q := ⟨_, rfl⟩
    obtain ⟨r, hr⟩ : ∃ r, n % 10 = r := ⟨_, rfl⟩
    have hr9 : r < 10 := by omega
    have hdiv : n = 10 * q + r := by omega
    have hq10 : q < 10 ^ (f + 1) := by rw [Nat.pow_succ] at hn; omega
    have hn6 : n < 10000000 := Nat.lt_of_lt_of_le hn (by
      have : 10 ^ (f + 1 + 1) ≤ 10 ^ 7 := Nat.pow_le_pow_right (by omega) (by omega)
      simpa using this)
    have hq6 : q ≤ 1000000 := by omega
    have r1 : ((n : Int)).tmod 10 = (r : Int) := by rw [Int.tmod_eq_emod_of_nonneg (by omega)]; omega
    have r2 : ((n : Int)) % 10 = (r : Int) := by omega
    have r3 : ((n : Int)).tdiv 10 = (q : Int) := by rw [Int.tdiv_eq_ediv_of_nonneg (by omega)]; omega
    have r4 : ((n : Int)) / 10 = (q : Int) := by omega
    have IH := As.mk (fun w => ih q w hq10 (by omega))
    have hsz := decF_size f q
    have hsl := slice_dig r hr9
    by_cases h9 : 9 < n
    · have HR : As (decF (f + 1) n = decF f q ++ dig r) := ⟨by rw [decF, if_pos h9, hq, hr]⟩
      rw [HR.out]
      have t1 : decide ((9 : Int) < n) = true := decide_eq_true (by omega)
      have t2 : decide (9 < n) = true := decide_eq_true (by omega)
      generalize decF f q = D at *
      have hds := dig_size r
      have hsum : D.size + (dig r).size ≤ 9223372036854775807 := by omega
      clear HR hq hr hdiv hq10 hn hn6
      go_enter Try.func9, Try.ntmps9
      go_wp2_with fail
      refine (IH.out _).mono ?_
      rintro e w' ⟨rfl, rfl⟩
      go_wp2_with fail
      go_ret
      exact ⟨rfl, rfl⟩
    · have HR : As (decF (f + 1) n = dig r) := ⟨by rw [decF, if_neg h9, hr]⟩
      rw [HR.out]
      have t1 : decide ((9 : Int) < n) = false := decide_eq_false (by omega)
      have t2 : decide (9 < n) = false := decide_eq_false (by omega)
      clear HR hq hr hdiv hq10 hn hn6
      go_enter Try.func9, Try.ntmps9
      go_wp2_with fail
      go_ret
      exact ⟨rfl, rfl⟩
/-! the keys -/
def nm (i : Nat) : ByteArray := (⟨#[107]⟩ : ByteArray) ++ decF 2 i
def keyI (i : Nat) : KeyM := ⟨nm i, 0, i % 2 == 1⟩
def keysN (n : Nat) : List KeyM := (List.range n).map keyI
theorem nm_ok : ∀ i, i < 110 → nameB (nm i).data.toList = true := by decide +kernel
theorem nm_nodup : ((List.range 110).map fun i => (nm i).data.toList).Nodup := by decide +kernel
theorem nm_inj {i j : Nat} (hi : i < 110) (hj : j < 110) (h : nm i = nm j) : i = j := by
  have hn := List.pairwise_iff_getElem.1 nm_nodup
  rcases Nat.lt_trichotomy i j with hlt | he | hlt
  · have := hn i j (by simpa using hi) (by simpa using hj) hlt
    simp [h] at this
  · exact he
  · have := hn j i (by simpa using hj) (by simpa using hi) hlt
    simp [h] at this
theorem keysN_succ (n : Nat) : keysN (n + 1) = keysN n ++ [keyI n] := by unfold keysN; rw [List.range_succ, List.map_append]; rfl
theorem keysN_len (n : Nat) : (keysN n).length = n := by simp [keysN]
theorem keysN_get (n i : Nat) (h : i < n) : (keysN n)[i]? = some (keyI i) := by simp [keysN, h]
theorem atF_keys (n i : Nat) (hn : n ≤ 110) (hi : i < 110) : atF (keysN n) (nm i) = if i < n then some i else none := by
  induction n with
  | zero => rfl
  | succ n ih =>
    rw [keysN_succ]
    have h1 := ih (by omega)
    by_cases e : i = n
    · subst e
      rw [if_neg (by omega)] at h1
      rw [atF_snoc _ _ h1, if_pos (by omega)]
      simp [fput, keyI, keysN_len]
    · have hnn : atF (keysN n) (keyI n).f0 = none := by
        have : ∀ m, m ≤ n → atF (keysN m) (nm n) = none := by
          intro m hm
          induction m with
          | zero => rfl
          | succ m ihm =>
            have h2 := ihm (by omega)
            unfold atF at h2 ⊢
            rw [keysN_succ, List.findIdx?_append, h2]
            have hne : nm m ≠ nm n := fun h => by have := nm_inj (by omega) (by omega) h; omega
            simp [keyI, hne]
        exact this n (Nat.le_refl _)
      rw [atF_snoc _ _ hnn]
      have hne : nm i ≠ (keyI n).f0 := fun h => e (nm_inj hi (by omega) h)
      unfold fput
      rw [if_neg hne, h1]
      by_cases hin : i < n
      · rw [if_pos hin, if_pos (by omega)]
      · rw [if_neg hin, if_neg (by omega)]
theorem badF_keys : ∀ (j n : Nat), n ≤ 110 → j ≤ n → badF (keysN (n - j)) ((keysN n).drop (n - j)) = none
  | 0, n, hn, hj => by
    have hl : (keysN n).length = n := keysN_len n
    rw [Nat.sub_zero, List.drop_of_length_le (by omega)]; rfl
  | j + 1, n, hn, hj => by
    have hlt : n - (j + 1) < (keysN n).length := by rw [keysN_len]; omega
    have hx : (keysN n)[n - (j + 1)] = keyI (n - (j + 1)) := by
      have := keysN_get n (n - (j + 1)) (by omega)
      exact (List.getElem?_eq_some_iff.1 this).2
    have hd : (keysN n).drop (n - (j + 1)) = keyI (n - (j + 1)) :: (keysN n).drop (n - (j + 1) + 1) := by rw [List.drop_eq_getElem_cons hlt, hx]
    rw [hd, badF]
    have hc : chk (keysN (n - (j + 1))) (keyI (n - (j + 1))) = 0 := by
      unfold chk
      rw [if_neg (by rw [show (keyI (n - (j + 1))).f0 = nm (n - (j + 1)) from rfl, nm_ok _ (by omega)]; simp), if_neg (by simp [keyI])]
      have h0 : atF (keysN (n - (j + 1))) (keyI (n - (j + 1))).f0 = none := by
        have := atF_keys (n - (j + 1)) (n - (j + 1)) (by omega) (by omega)
        rw [if_neg (by omega)] at this
        exact this
      rw [h0]
      rfl
    rw [if_pos hc, ← keysN_succ]
    have := badF_keys j n hn (by omega)
    rw [show n - j = n - (j + 1) + 1 by omega] at this
    exact this
theorem newE_keys (n : Nat) (hn : n ≤ 110) : newE (keysN n) = if 100 < n then 9 else 0 := by
  unfold newE
  rw [keysN_len]
  have := badF_keys n n hn (Nat.le_refl _)
  rw [Nat.sub_self, List.drop_zero] at this
  rw [show keysN 0 = [] from rfl] at this
  rw [this]
theorem nms_keys : ∀ n, (nms false (keysN n)).length = (n + 1) / 2 ∧ (nms true (keysN n)).length = n / 2
  | 0 => ⟨rfl, rfl⟩
  | n + 1 => by
    obtain ⟨h1, h2⟩ := nms_keys n
    rw [keysN_succ, nms_snoc, nms_snoc]
    by_cases h : n % 2 = 1
    · have e : (keyI n).f2 = true := by simp [keyI, h]
      rw [e]
      simp [h1, h2]
      omega
    · have e : (keyI n).f2 = false := by simp [keyI]; omega
      rw [e]
      simp [h1, h2]
      omega
theorem fnd_keys (n i : Nat) (hn : n ≤ 110) (hi : i < n) : fnd (keysN n) (nm i) = (((i : Nat) : Int), true) := by
  unfold fnd
  rw [atF_keys n i hn (by omega), if_pos hi]
theorem nm_size (i : Nat) : (nm i).size ≤ 10 := by unfold nm; rw [ByteArray.size_append]; have := decF_size 2 i; have e : (⟨#[107]⟩ : ByteArray).size = 1 := rfl; omega
theorem keys_size (n : Nat) : ∀ x ∈ keysN n, x.f0.size ≤ 9223372036854775807 := by
  intro x hx
  obtain ⟨i, _, rfl⟩ := List.mem_map.1 hx
  have := nm_size i
  show (nm i).size ≤ _
  omega
end Go.Proofs.Ytmonnibleolhhaa
