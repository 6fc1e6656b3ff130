/- SchedPlays answers true for every list of calls; no conditions. -/
import Derived.Test.YtkfkacdiekpkfaaZ
namespace Go.Proofs.Ytkfkacdiekpkfaa
open Go.RowKit
structure SAct where
  way : Int
  n : Int
  i : Int
  g : Int
def encSA (a : SAct) : List Value := [.int .i64 a.way, .int .i64 a.n, .int .i64 a.i, .int .i64 a.g]
/-- A ring's state. -/
structure RInv (m : Nat) (xs : List (Int × Int)) (cur : Nat) : Prop where
  len : xs.length ≤ m
  cur : cur < xs.length ∨ (xs = [] ∧ cur = 0)
theorem add_both {m cur : Nat} {xs : List (Int × Int)} (h : RInv m xs cur) (hm : m ≤ 1000) (p q : Nat) (a b : Int) : ∃ (r : Bool) (xs' : List (Int × Int)),
    Does Try.prog 14 #[.pointer (some ⟨p, 0, none⟩), .agg #[.int .i64 a, .int .i64 b]] (isRg 51 p xs cur) (fun e B => e = .returned (.bool r) ∧ B = isRg 51 p xs' cur) ∧
    Does Try.prog 18 #[.pointer (some ⟨q, 0, none⟩), .agg #[.int .i64 a, .int .i64 b]] (isRg 44 q xs cur) (fun e B => e = .returned (.bool r) ∧ B = isRg 44 q xs' cur) ∧ RInv (m + 1) xs' cur := by
  have hl := h.len
  by_cases hp : 0 ≤ pos xs (a, b)
  · exact ⟨false, xs, add_old p xs cur a b hp, radd_old q xs cur a b hp, ⟨by omega, h.cur⟩⟩
  · refine ⟨true, xs ++ [(a, b)], add_new p xs cur a b hp (by omega), radd_new q xs cur a b hp (by omega), ⟨by simp; omega, ?_⟩⟩
    left
    rw [List.length_append, List.length_singleton]
    rcases h.cur with h1 | ⟨h1, h2⟩ <;> omega
theorem rm_both {m cur : Nat} {xs : List (Int × Int)} (h : RInv m xs cur) (hm : m ≤ 1000) (p q : Nat) (a b : Int) : ∃ (r : Bool) (xs' : List (Int × Int)) (cur' : Nat),
    Does Try.prog 19 #[.pointer (some ⟨p, 0, none⟩), .agg #[.int .i64 a, .int .i64 b]] (isRg 51 p xs cur) (fun e B => e = .returned (.bool r) ∧ B = isRg 51 p xs' cur') ∧
    Does Try.prog 20 #[.pointer (some ⟨q, 0, none⟩), .agg #[.int .i64 a, .int .i64 b]] (isRg 44 q xs cur) (fun e B => e = .returned (.bool r) ∧ B = isRg 44 q xs' cur') ∧ RInv (m + 1) xs' cur' := by
  have hl := h.len
  rcases pos_spec xs (a, b) with ⟨_, h1⟩ | ⟨i, h1, h2, _⟩
  · exact ⟨false, xs, cur, rm_none p xs cur a b h1, rrm_none q xs cur a b h1, ⟨by omega, h.cur⟩⟩
  · have hi := (List.getElem?_eq_some_iff.1 h2).1
    obtain ⟨L, hL⟩ : ∃ L, xs.length = L + 1 := ⟨xs.length - 1, by omega⟩
    have hc : cur ≤ L := by rcases h.cur with h3 | ⟨h3, h4⟩ <;> omega
    have he : (xs.eraseIdx i).length = L := by rw [List.length_eraseIdx, if_pos hi]; omega
    refine ⟨true, xs.eraseIdx i, rmc L i cur, rm_some p xs cur L i a b h1 (by omega) hL (by omega) hc, rrm_some q xs cur L i a b h1 (by omega) hL (by omega) hc, ⟨by rw [he]; omega, ?_⟩⟩
    rw [he]
    unfold rmc
    by_cases hL0 : L = 0
    · right
      refine ⟨List.eq_nil_of_length_eq_zero (by rw [he]; exact hL0), ?_⟩
      by_cases h3 : i < cur
      · rw [if_pos h3]; split <;> omega
      · rw [if_neg h3]; split <;> omega
    · left
      by_cases h3 : i < cur
      · rw [if_pos h3]; split <;> omega
      · rw [if_neg h3]; split <;> omega
theorem mv_both {m cur : Nat} {xs : List (Int × Int)} (h : RInv m xs cur) (hm : m ≤ 1000) (p q : Nat) (n : Int) (hn : n ≤ 9223372036854775807) : ∃ (cur' : Nat),
    Does Try.prog 15 #[.pointer (some ⟨p, 0, none⟩), .int .i64 n] (isRg 51 p xs cur) (fun e B => e = .returned (.tuple #[]) ∧ B = isRg 51 p xs cur') ∧
    Does Try.prog 21 #[.pointer (some ⟨q, 0, none⟩), .int .i64 n] (isRg 44 q xs cur) (fun e B => e = .returned (.tuple #[]) ∧ B = isRg 44 q xs cur') ∧ RInv (m + 1) xs cur' := by
  have hl := h.len
  rcases h.cur with h1 | ⟨rfl, rfl⟩
  · by_cases hp : 0 < n
    · obtain ⟨k, rfl⟩ : ∃ k : Nat, n = k := ⟨n.toNat, by omega⟩
      exact ⟨mv xs.length cur (k : Nat), move_does p cur xs k (by omega) (by omega) (by omega), rmove_does q cur xs k hp hn (by omega) (by omega) (by omega), ⟨by omega, .inl (Nat.mod_lt _ (by omega))⟩⟩
    · have e : mv xs.length cur n = cur := by
        unfold mv
        rw [Int.toNat_of_nonpos (by omega), Nat.zero_mod, Nat.add_zero, Nat.mod_eq_of_lt h1]
      have h2 := move_does p cur xs n (by omega) (by omega) (by omega)
      rw [e] at h2
      exact ⟨cur, h2, rmove_neg q cur xs n hp, ⟨by omega, .inl h1⟩⟩
  · exact ⟨0, move_nil p 0 n, rmove_nil q 0 n, ⟨by simp, .inr ⟨rfl, rfl⟩⟩⟩
end Go.Proofs.Ytkfkacdiekpkfaa
