/- SchemaErrors answers true for every number; no conditions. Printed by genE.py. -/
import Derived.Test.YtmonnibleolhhaaD
set_option linter.unusedVariables false
namespace Go.Proofs.Ytmonnibleolhhaa
open Go.RowKit
def L0 : List KeyM := [(⟨⟨#[]⟩, 0, false⟩ : KeyM)]
theorem L0_e : newE L0 = 5 := by decide +kernel
theorem L0_s : ∀ x ∈ L0, x.f0.size ≤ 9223372036854775807 := by intro x hx; simp [L0] at hx; subst hx; decide
def L1 : List KeyM := [(⟨⟨#[49]⟩, 0, false⟩ : KeyM)]
theorem L1_e : newE L1 = 5 := by decide +kernel
theorem L1_s : ∀ x ∈ L1, x.f0.size ≤ 9223372036854775807 := by intro x hx; simp [L1] at hx; subst hx; decide
def L2 : List KeyM := [(⟨⟨#[97]⟩, 5, false⟩ : KeyM)]
theorem L2_e : newE L2 = 7 := by decide +kernel
theorem L2_s : ∀ x ∈ L2, x.f0.size ≤ 9223372036854775807 := by intro x hx; simp [L2] at hx; subst hx; decide
def L3 : List KeyM := [(⟨⟨#[97]⟩, (-1), false⟩ : KeyM)]
theorem L3_e : newE L3 = 7 := by decide +kernel
theorem L3_s : ∀ x ∈ L3, x.f0.size ≤ 9223372036854775807 := by intro x hx; simp [L3] at hx; subst hx; decide
def L4 : List KeyM := [(⟨⟨#[97]⟩, 0, false⟩ : KeyM), (⟨⟨#[97]⟩, 0, false⟩ : KeyM)]
theorem L4_e : newE L4 = 6 := by decide +kernel
theorem L4_s : ∀ x ∈ L4, x.f0.size ≤ 9223372036854775807 := by intro x hx; simp [L4] at hx; subst hx; decide
def L5 : List KeyM := [(⟨⟨#[97]⟩, 0, false⟩ : KeyM), (⟨⟨#[97, 95]⟩, 0, false⟩ : KeyM)]
theorem L5_e : newE L5 = 0 := by decide +kernel
theorem L5_s : ∀ x ∈ L5, x.f0.size ≤ 9223372036854775807 := by intro x hx; simp [L5] at hx; rcases hx with rfl | rfl <;> decide
def L6 : List KeyM := [(⟨⟨#[97]⟩, 9, false⟩ : KeyM), (⟨⟨#[]⟩, 0, false⟩ : KeyM)]
theorem L6_e : newE L6 = 7 := by decide +kernel
theorem L6_s : ∀ x ∈ L6, x.f0.size ≤ 9223372036854775807 := by intro x hx; simp [L6] at hx; rcases hx with rfl | rfl <;> decide
def L7 : List KeyM := [(⟨⟨#[97]⟩, 0, true⟩ : KeyM), (⟨⟨#[97]⟩, 2, false⟩ : KeyM)]
theorem L7_e : newE L7 = 6 := by decide +kernel
theorem L7_s : ∀ x ∈ L7, x.f0.size ≤ 9223372036854775807 := by intro x hx; simp [L7] at hx; rcases hx with rfl | rfl <;> decide
def L8 : List KeyM := [(⟨⟨#[97, 98, 99, 100, 101, 102, 103, 104, 105, 106, 107, 108, 109, 110, 111, 112, 113, 114, 115, 116, 117, 118, 119, 120, 121]⟩, 0, false⟩ : KeyM)]
theorem L8_e : newE L8 = 5 := by decide +kernel
theorem L8_s : ∀ x ∈ L8, x.f0.size ≤ 9223372036854775807 := by intro x hx; simp [L8] at hx; subst hx; decide
def L9 : List KeyM := [(⟨⟨#[116, 114, 101, 101]⟩, 0, false⟩ : KeyM)]
theorem L9_e : newE L9 = 0 := by decide +kernel
theorem L9_s : ∀ x ∈ L9, x.f0.size ≤ 9223372036854775807 := by intro x hx; simp [L9] at hx; subst hx; decide
def L10 : List KeyM := []
theorem L10_e : newE L10 = 0 := by decide +kernel
theorem L10_s : ∀ x ∈ L10, x.f0.size ≤ 9223372036854775807 := by intro x hx; simp [L10] at hx
theorem num_same (a : Int) (w : World) : Calls Try.prog 8 #[.int .i64 a] w fun e w' => e = .returned (.int .i64 a) ∧ w' = w := (num_does a w).mono fun _ _ h => ⟨h.1, h.2.symm⟩
theorem rd_nil (w : World) (size : Nat) {α : Type} (enc : α → List Value) : Rd w size enc (.slice none 0 0) ([] : List α) := ⟨⟨none, 0, rfl, by simp, by simp⟩, by intro A n c hv i x hx; simp at hx⟩
set_option maxRecDepth 100000 in
set_option maxHeartbeats 6400000 in
theorem errors_walk (n : Int) (w : World) : Calls Try.prog 3 #[.int .i64 n] w fun e w' => e = .returned (.bool true) ∧ Below w.heap.size w w' := by
  go_enter Try.func3, Try.ntmps3
  go_wp2_with fail
  refine (alive_does _).mono ?_
  rintro e w1 ⟨rfl, hb⟩
  have hS0 := At.start0 hb
  clear hb
  have hS1 := hS0.alloc #[.string ⟨#[]⟩, .int .i64 0, .bool false] 24
  have hS2 := hS1.alloc #[.string ⟨#[49]⟩, .int .i64 0, .bool false] 24
  have hS3 := hS2.alloc #[.string ⟨#[97]⟩, .int .i64 5, .bool false] 24
  have hS4 := hS3.alloc #[.string ⟨#[97]⟩, .int .i64 (-1), .bool false] 24
  have hS5 := hS4.alloc #[.string ⟨#[97]⟩, .int .i64 0, .bool false, .string ⟨#[97]⟩, .int .i64 0, .bool false] 24
  have hS6 := hS5.alloc #[.string ⟨#[97]⟩, .int .i64 0, .bool false, .string ⟨#[97, 95]⟩, .int .i64 0, .bool false] 24
  have hS7 := hS6.alloc #[.string ⟨#[97]⟩, .int .i64 9, .bool false, .string ⟨#[]⟩, .int .i64 0, .bool false] 24
  have hS8 := hS7.alloc #[.string ⟨#[97]⟩, .int .i64 0, .bool true, .string ⟨#[97]⟩, .int .i64 2, .bool false] 24
  have hS9 := hS8.alloc #[.string ⟨#[97, 98, 99, 100, 101, 102, 103, 104, 105, 106, 107, 108, 109, 110, 111, 112, 113, 114, 115, 116, 117, 118, 119, 120, 121]⟩, .int .i64 0, .bool false] 24
  have hS10 := hS9.alloc #[.string ⟨#[116, 114, 101, 101]⟩, .int .i64 0, .bool false] 24
  have hT := (hS10.alloc #[.slice (some ⟨w1.heap.size, 0, none⟩) 1 1, .slice (some ⟨w1.heap.size + 1, 0, none⟩) 1 1, .slice (some ⟨w1.heap.size + 2, 0, none⟩) 1 1, .slice (some ⟨w1.heap.size + 3, 0, none⟩) 1 1, .slice (some ⟨w1.heap.size + 4, 0, none⟩) 2 2, .slice (some ⟨w1.heap.size + 5, 0, none⟩) 2 2, .slice (some ⟨w1.heap.size + 6, 0, none⟩) 2 2, .slice (some ⟨w1.heap.size + 7, 0, none⟩) 2 2, .slice (some ⟨w1.heap.size + 8, 0, none⟩) 1 1, .slice (some ⟨w1.heap.size + 9, 0, none⟩) 1 1, .slice none 0 0] 25).alloc #[.int .i64 5, .int .i64 5, .int .i64 7, .int .i64 7, .int .i64 6, .int .i64 0, .int .i64 7, .int .i64 6, .int .i64 5, .int .i64 0, .int .i64 0] 3
  go_upto_region 4 with fail
  obtain ⟨T, hTe⟩ : ∃ T, T = ((((((((((((w1.alloc (.cells #[.string ⟨#[]⟩, .int .i64 0, .bool false] 24)).alloc (.cells #[.string ⟨#[49]⟩, .int .i64 0, .bool false] 24)).alloc (.cells #[.string ⟨#[97]⟩, .int .i64 5, .bool false] 24)).alloc (.cells #[.string ⟨#[97]⟩, .int .i64 (-1), .bool false] 24)).alloc (.cells #[.string ⟨#[97]⟩, .int .i64 0, .bool false, .string ⟨#[97]⟩, .int .i64 0, .bool false] 24)).alloc (.cells #[.string ⟨#[97]⟩, .int .i64 0, .bool false, .string ⟨#[97, 95]⟩, .int .i64 0, .bool false] 24)).alloc (.cells #[.string ⟨#[97]⟩, .int .i64 9, .bool false, .string ⟨#[]⟩, .int .i64 0, .bool false] 24)).alloc (.cells #[.string ⟨#[97]⟩, .int .i64 0, .bool true, .string ⟨#[97]⟩, .int .i64 2, .bool false] 24)).alloc (.cells #[.string ⟨#[97, 98, 99, 100, 101, 102, 103, 104, 105, 106, 107, 108, 109, 110, 111, 112, 113, 114, 115, 116, 117, 118, 119, 120, 121]⟩, .int .i64 0, .bool false] 24)).alloc (.cells #[.string ⟨#[116, 114, 101, 101]⟩, .int .i64 0, .bool false] 24)).alloc (.cells #[.slice (some ⟨w1.heap.size, 0, none⟩) 1 1, .slice (some ⟨w1.heap.size + 1, 0, none⟩) 1 1, .slice (some ⟨w1.heap.size + 2, 0, none⟩) 1 1, .slice (some ⟨w1.heap.size + 3, 0, none⟩) 1 1, .slice (some ⟨w1.heap.size + 4, 0, none⟩) 2 2, .slice (some ⟨w1.heap.size + 5, 0, none⟩) 2 2, .slice (some ⟨w1.heap.size + 6, 0, none⟩) 2 2, .slice (some ⟨w1.heap.size + 7, 0, none⟩) 2 2, .slice (some ⟨w1.heap.size + 8, 0, none⟩) 1 1, .slice (some ⟨w1.heap.size + 9, 0, none⟩) 1 1, .slice none 0 0] 25)).alloc (.cells #[.int .i64 5, .int .i64 5, .int .i64 7, .int .i64 7, .int .i64 6, .int .i64 0, .int .i64 7, .int .i64 6, .int .i64 5, .int .i64 0, .int .i64 0] 3)) := ⟨_, rfl⟩
  rw [← hTe] at hT
  rw [← hTe]
  clear hTe hS0 hS1 hS2 hS3 hS4 hS5 hS6 hS7 hS8 hS9 hS10
  have HB := As.mk hT.bl
  by_cases hn : 0 ≤ n ∧ n < 11
  · obtain ⟨k, rfl⟩ : ∃ k : Nat, n = k := ⟨n.toNat, by omega⟩
    have t1 : decide ((k : Int) < 0) = false := decide_eq_false (by omega)
    have t2 : decide ((11 : Int) ≤ k) = false := decide_eq_false (by omega)
    have t3 : decide (11 ≤ k) = false := decide_eq_false (by omega)
    have key : ∃ (A : Option Addr) (m c : Nat) (l : List KeyM) (e0 : Int), T.cell? ⟨w1.heap.size + 10, k, none⟩ = some (.slice A m c) ∧ Rd T 3 encKey (.slice A m c) l ∧ newE l = e0 ∧ (∀ x ∈ l, x.f0.size ≤ 9223372036854775807) ∧ (#[.int .i64 5, .int .i64 5, .int .i64 7, .int .i64 7, .int .i64 6, .int .i64 0, .int .i64 7, .int .i64 6, .int .i64 5, .int .i64 0, .int .i64 0] : Array Value)[k]? = some (.int .i64 e0) := by
      have : k = 0 ∨ k = 1 ∨ k = 2 ∨ k = 3 ∨ k = 4 ∨ k = 5 ∨ k = 6 ∨ k = 7 ∨ k = 8 ∨ k = 9 ∨ k = 10 := by omega
      rcases this with rfl | rfl | rfl | rfl | rfl | rfl | rfl | rfl | rfl | rfl | rfl
      · exact ⟨_, _, _, L0, 5, by have := (hT.cellAt 1 rfl 0).trans rfl; simpa [Nat.add_assoc] using this, (by have h1 : T.heap[w1.heap.size]? = some (.cells #[.string ⟨#[]⟩, .int .i64 0, .bool false] 24 (0, 0)) := (by have := hT.blkAt 11 rfl; simpa [Nat.add_assoc] using this); have := rd_blk L0 encKey_len h1 (by simp [L0]); exact this), L0_e, L0_s, rfl⟩
      · exact ⟨_, _, _, L1, 5, by have := (hT.cellAt 1 rfl 1).trans rfl; simpa [Nat.add_assoc] using this, (by have h1 : T.heap[w1.heap.size + 1]? = some (.cells #[.string ⟨#[49]⟩, .int .i64 0, .bool false] 24 (0, 0)) := (by have := hT.blkAt 10 rfl; simpa [Nat.add_assoc] using this); have := rd_blk L1 encKey_len h1 (by simp [L1]); exact this), L1_e, L1_s, rfl⟩
      · exact ⟨_, _, _, L2, 7, by have := (hT.cellAt 1 rfl 2).trans rfl; simpa [Nat.add_assoc] using this, (by have h1 : T.heap[w1.heap.size + 2]? = some (.cells #[.string ⟨#[97]⟩, .int .i64 5, .bool false] 24 (0, 0)) := (by have := hT.blkAt 9 rfl; simpa [Nat.add_assoc] using this); have := rd_blk L2 encKey_len h1 (by simp [L2]); exact this), L2_e, L2_s, rfl⟩
      · exact ⟨_, _, _, L3, 7, by have := (hT.cellAt 1 rfl 3).trans rfl; simpa [Nat.add_assoc] using this, (by have h1 : T.heap[w1.heap.size + 3]? = some (.cells #[.string ⟨#[97]⟩, .int .i64 (-1), .bool false] 24 (0, 0)) := (by have := hT.blkAt 8 rfl; simpa [Nat.add_assoc] using this); have := rd_blk L3 encKey_len h1 (by simp [L3]); exact this), L3_e, L3_s, rfl⟩
      · exact ⟨_, _, _, L4, 6, by have := (hT.cellAt 1 rfl 4).trans rfl; simpa [Nat.add_assoc] using this, (by have h1 : T.heap[w1.heap.size + 4]? = some (.cells #[.string ⟨#[97]⟩, .int .i64 0, .bool false, .string ⟨#[97]⟩, .int .i64 0, .bool false] 24 (0, 0)) := (by have := hT.blkAt 7 rfl; simpa [Nat.add_assoc] using this); have := rd_blk L4 encKey_len h1 (by simp [L4]); exact this), L4_e, L4_s, rfl⟩
      · exact ⟨_, _, _, L5, 0, by have := (hT.cellAt 1 rfl 5).trans rfl; simpa [Nat.add_assoc] using this, (by have h1 : T.heap[w1.heap.size + 5]? = some (.cells #[.string ⟨#[97]⟩, .int .i64 0, .bool false, .string ⟨#[97, 95]⟩, .int .i64 0, .bool false] 24 (0, 0)) := (by have := hT.blkAt 6 rfl; simpa [Nat.add_assoc] using this); have := rd_blk L5 encKey_len h1 (by simp [L5]); exact this), L5_e, L5_s, rfl⟩
      · exact ⟨_, _, _, L6, 7, by have := (hT.cellAt 1 rfl 6).trans rfl; simpa [Nat.add_assoc] using this, (by have h1 : T.heap[w1.heap.size + 6]? = some (.cells #[.string ⟨#[97]⟩, .int .i64 9, .bool false, .string ⟨#[]⟩, .int .i64 0, .bool false] 24 (0, 0)) := (by have := hT.blkAt 5 rfl; simpa [Nat.add_assoc] using this); have := rd_blk L6 encKey_len h1 (by simp [L6]); exact this), L6_e, L6_s, rfl⟩
      · exact ⟨_, _, _, L7, 6, by have := (hT.cellAt 1 rfl 7).trans rfl; simpa [Nat.add_assoc] using this, (by have h1 : T.heap[w1.heap.size + 7]? = some (.cells #[.string ⟨#[97]⟩, .int .i64 0, .bool true, .string ⟨#[97]⟩, .int .i64 2, .bool false] 24 (0, 0)) := (by have := hT.blkAt 4 rfl; simpa [Nat.add_assoc] using this); have := rd_blk L7 encKey_len h1 (by simp [L7]); exact this), L7_e, L7_s, rfl⟩
      · exact ⟨_, _, _, L8, 5, by have := (hT.cellAt 1 rfl 8).trans rfl; simpa [Nat.add_assoc] using this, (by have h1 : T.heap[w1.heap.size + 8]? = some (.cells #[.string ⟨#[97, 98, 99, 100, 101, 102, 103, 104, 105, 106, 107, 108, 109, 110, 111, 112, 113, 114, 115, 116, 117, 118, 119, 120, 121]⟩, .int .i64 0, .bool false] 24 (0, 0)) := (by have := hT.blkAt 3 rfl; simpa [Nat.add_assoc] using this); have := rd_blk L8 encKey_len h1 (by simp [L8]); exact this), L8_e, L8_s, rfl⟩
      · exact ⟨_, _, _, L9, 0, by have := (hT.cellAt 1 rfl 9).trans rfl; simpa [Nat.add_assoc] using this, (by have h1 : T.heap[w1.heap.size + 9]? = some (.cells #[.string ⟨#[116, 114, 101, 101]⟩, .int .i64 0, .bool false] 24 (0, 0)) := (by have := hT.blkAt 2 rfl; simpa [Nat.add_assoc] using this); have := rd_blk L9 encKey_len h1 (by simp [L9]); exact this), L9_e, L9_s, rfl⟩
      · exact ⟨_, _, _, L10, 0, by have := (hT.cellAt 1 rfl 10).trans rfl; simpa [Nat.add_assoc] using this, (rd_nil _ 3 encKey), L10_e, L10_s, rfl⟩
    obtain ⟨A, m, c, l, e0, hc, hrd, hne, hsz, hw⟩ := key
    have HR := As.mk (new_does _ l _ hrd hsz)
    rw [hne] at HR
    have HW := As.mk hw
    have hin : (k : Int) < 11 := by omega
    clear hrd hne hsz hw hn
    go_wp2_with fail
    refine HR.out.mono ?_
    rintro e w2 ⟨u, B, rfl, hI, hU⟩
    have hV0 := (hT.also hU).drops
    have z0 : w2.cell? ⟨w1.heap.size + 11, k, none⟩ = some (.int .i64 e0) := by
      have := (hV0.cellAt 0 rfl k).trans HW.out
      simpa [Nat.add_assoc] using this
    obtain ⟨a, rfl⟩ : ∃ a, u = .pointer a := by rcases hI with ⟨_, p, h, _⟩ | ⟨_, h, _⟩ <;> exact ⟨_, h⟩
    have HV := As.mk hV0
    clear hT hU hI hV0 HR
    go_wp2_with fail
    go_quiet ((go_at_call 8; exact Calls.quiet_of_same (num_same _ _)))
    go_wp2_with fail
    go_ret
    exact ⟨rfl, (HV.out.drewN _).bl⟩
  · have HN := As.mk hn
    clear hn hT
    go_wp2_with fail
    all_goals first | (exfalso; have := HN.out; omega) | (go_ret; exact ⟨rfl, HB.out⟩)
end Go.Proofs.Ytmonnibleolhhaa
