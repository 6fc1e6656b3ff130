/- TrailingZeros16; New. -/
import Derived.Test.YtkebkmbfglodlaaDoorTm
import Derived.Test.YtkebkmbfglodlaaDoorTb0
set_option linter.unusedVariables false
namespace Go.Proofs.YtkebkmbfglodlaaDoor
open Go.RowKit
/-- The table of bits lies in block 0. -/
structure GTab (w : World) : Prop where
  cell : ∀ j k, dB[j]? = some k → w.cell? ⟨0, j, none⟩ = some (.int .u8 (k : Nat))
  lt : 0 < w.heap.size
theorem GTab.below {w w' : World} (h : GTab w) (hb : Below w.heap.size w w') : GTab w' := ⟨fun j k hj => (hb.cell (p := ⟨0, j, none⟩) h.lt).trans (h.cell j k hj), Nat.lt_of_lt_of_le h.lt hb.size⟩
theorem u16_neg (m : Nat) (hm : m < 65536) (h0 : m ≠ 0) : IntKind.u16.wrap (-(m : Int)) = ((65536 - m : Nat) : Int) := by
  simp only [IntKind.wrap, IntKind.signed, IntKind.bits]
  simp
  omega
theorem u16_pred (m : Nat) (hm : m < 65536) (h0 : m ≠ 0) : IntKind.u16.wrap ((m : Int) - 1) = ((m - 1 : Nat) : Int) := by
  simp only [IntKind.wrap, IntKind.signed, IntKind.bits]
  simp
  omega
set_option maxHeartbeats 1600000 in
theorem tz_does (w : World) (hT : GTab w) (m : Nat) (hm : m < 65536) (h0 : m ≠ 0) : Calls Tryd.prog 71 #[.int .u16 (m : Nat)] w fun e w' => e = .returned (.int .i64 (tzN m : Nat)) ∧ w' = w := by
  have t0 : ((m : Int) == 0) = false := by simp; omega
  obtain ⟨h1, h2⟩ := low_idx m hm h0
  have c0 := hT.cell _ _ h2
  obtain ⟨h3, h4, _⟩ := low_facts m hm h0
  obtain ⟨b, hb⟩ : ∃ b : Nat, b = 65536 - m := ⟨_, rfl⟩
  obtain ⟨l, hl⟩ : ∃ l : Nat, l = lowb m := ⟨_, rfl⟩
  obtain ⟨j, hj⟩ : ∃ j : Nat, j = lowi m := ⟨_, rfl⟩
  obtain ⟨k, hk⟩ : ∃ k : Nat, k = tzN m := ⟨_, rfl⟩
  have e1 : IntKind.u16.wrap (-(m : Int)) = (b : Int) := by rw [u16_neg m hm h0, hb]
  have e2 : bits .and .u16 (m : Int) (b : Int) = (l : Int) := by rw [u16_and_nat m b hm (by omega), hl, hb]; rfl
  have e3 : (l : Int) % 4294967296 * 125613361 % 4294967296 / 134217728 = (j : Int) := by
    have hl2 : l < 4294967296 := by rw [hl, h4]; exact Nat.lt_of_lt_of_le (Nat.pow_lt_pow_right (by omega) (by omega : tzN m < 32)) (by omega)
    rw [hj]
    unfold lowi
    rw [← hl]
    omega
  have hj32 : (j : Int) < 32 := by omega
  rw [← hj, ← hk] at c0
  rw [← hk]
  have hk15 : k ≤ 15 := by omega
  clear h1 h2 h3 h4 hb hl hj hk hm h0 hT
  go_enter Tryd.func71, Tryd.ntmps71
  go_wp2
  go_ret
  exact ⟨by rfl, rfl⟩
end Go.Proofs.YtkebkmbfglodlaaDoor
