/- Blocks of sorted numbers: plain laws. No program in sight. -/
import Derived.Test.YtjgeccnfdndllaaSoI
set_option linter.unusedVariables false
set_option linter.unusedSimpArgs false
namespace Go.Proofs.Ytjgeccnfdndllaa
open Go.RowKit
def iota (lo n : Nat) : List Int := (List.range' lo n).map (fun i : Nat => (i : Int))
theorem iota_len (lo n : Nat) : (iota lo n).length = n := by simp [iota]
theorem iota_mem {lo n : Nat} {x : Int} : x ∈ iota lo n ↔ (lo : Int) ≤ x ∧ x < ((lo + n : Nat) : Int) := by
  unfold iota
  rw [List.mem_map]
  constructor
  · rintro ⟨i, hi, rfl⟩
    rw [List.mem_range'_1] at hi
    omega
  · intro h
    exact ⟨x.toNat, by rw [List.mem_range'_1]; omega, by omega⟩
theorem iota_lt (lo n : Nat) : (iota lo n).Pairwise (· < ·) := by
  unfold iota
  rw [List.pairwise_map]
  exact (List.pairwise_lt_range' (s := lo) (n := n)).imp (fun h => by omega)
theorem iota_add (lo n m : Nat) : iota lo n ++ iota (lo + n) m = iota lo (n + m) := by
  unfold iota
  rw [← List.map_append]
  congr 1
  simp
theorem iota_zero (lo : Nat) : iota lo 0 = [] := rfl
theorem iota_succ (lo n : Nat) : iota lo (n + 1) = iota lo n ++ [((lo + n : Nat) : Int)] := by
  rw [← iota_add lo n 1]
  rfl
def Seg (ws : List Int) (lo : Nat) (L : List Int) : Prop := L.Perm (iota lo L.length) ∧ L.Pairwise (RO ws)
theorem Seg.of {ws : List Int} {lo k : Nat} {S : List Int} (h : S.Perm (iota lo k)) (h2 : S.Pairwise (RO ws)) : S.length = k ∧ Seg ws lo S := by
  have e : S.length = k := by rw [h.length_eq, iota_len]
  refine ⟨e, ?_, h2⟩
  rw [e]; exact h
theorem Seg.nil (ws : List Int) (lo : Nat) : Seg ws lo [] := ⟨List.Perm.refl _, List.Pairwise.nil⟩
theorem Seg.mem {ws : List Int} {lo : Nat} {L : List Int} (h : Seg ws lo L) {x : Int} (hx : x ∈ L) : (lo : Int) ≤ x ∧ x < ((lo + L.length : Nat) : Int) := iota_mem.1 (h.1.mem_iff.1 hx)
theorem Seg.sm {ws : List Int} {lo hi : Nat} {L1 L2 : List Int} (h1 : Seg ws lo L1) (h2 : Seg ws hi L2) (e : hi = lo + L1.length) (hn : hi + L2.length ≤ ws.length) : SM ws L1 L2 := by
  refine ⟨h1.2, h2.2, fun x hx y hy => ?_, fun x hx => ?_, fun x hx => ?_⟩
  · have := h1.mem hx; have := h2.mem hy; omega
  · have := h1.mem hx; unfold okI; omega
  · have := h2.mem hx; unfold okI; omega
theorem Seg.merge {ws : List Int} {lo hi : Nat} {L1 L2 S : List Int} (h1 : Seg ws lo L1) (h2 : Seg ws hi L2) (e : hi = lo + L1.length) (hp : S.Perm (L1 ++ L2)) (ho : S.Pairwise (RO ws)) : S.length = L1.length + L2.length ∧ Seg ws lo S := by
  refine Seg.of (hp.trans ?_) ho
  rw [← iota_add]
  subst e
  exact h1.1.append h2.1
def BK (ws : List Int) (k : Nat) : Nat → List (List Int) → Prop
  | _, [] => True
  | lo, L :: Ls => L.length = k ∧ Seg ws lo L ∧ BK ws k (lo + k) Ls
theorem BK.snoc {ws : List Int} {k : Nat} {L : List Int} : ∀ {Ls : List (List Int)} {lo : Nat}, BK ws k lo Ls → L.length = k → Seg ws (lo + Ls.flatten.length) L → BK ws k lo (Ls ++ [L])
  | [], lo, _, h1, h2 => ⟨h1, by simpa using h2, trivial⟩
  | M :: Ls, lo, h, h1, h2 => by
    refine ⟨h.1, h.2.1, BK.snoc h.2.2 h1 ?_⟩
    rw [List.flatten_cons, List.length_append, h.1, ← Nat.add_assoc] at h2
    exact h2
theorem BK.two {ws : List Int} {k lo : Nat} {Ls : List (List Int)} {T : List Int} (h : BK ws k lo Ls) (hT : T.length < k) (hn : 2 * k ≤ Ls.flatten.length + T.length) : ∃ L1 L2 Ls', Ls = L1 :: L2 :: Ls' ∧ L1.length = k ∧ L2.length = k ∧ Seg ws lo L1 ∧ Seg ws (lo + k) L2 ∧ BK ws k (lo + 2 * k) Ls' := by
  match Ls, h with
  | [], _ => simp at hn; omega
  | [L], h => have := h.1; simp at hn; omega
  | L1 :: L2 :: Ls', h => exact ⟨L1, L2, Ls', rfl, h.1, h.2.2.1, h.2.1, h.2.2.2.1, by rw [show lo + 2 * k = lo + k + k by omega]; exact h.2.2.2.2⟩
theorem BK.one {ws : List Int} {k lo : Nat} {Ls : List (List Int)} {T : List Int} (h : BK ws k lo Ls) (hT : T.length < k) (h1 : k < Ls.flatten.length + T.length) (h2 : Ls.flatten.length + T.length < 2 * k) : ∃ L, Ls = [L] ∧ L.length = k ∧ Seg ws lo L ∧ T ≠ [] := by
  match Ls, h with
  | [], _ => simp at h1; omega
  | [L], h =>
    refine ⟨L, rfl, h.1, h.2.1, ?_⟩
    rintro rfl
    have := h.1
    simp at h1; omega
  | L1 :: L2 :: Ls', h => have := h.1; have := h.2.2.1; simp at h2; omega
theorem BK.last {ws : List Int} {k lo : Nat} {Ls : List (List Int)} {T : List Int} (h : BK ws k lo Ls) (hT : T.length < k) (hS : Seg ws (lo + Ls.flatten.length) T) (h1 : Ls.flatten.length + T.length ≤ k) : Seg ws lo (Ls.flatten ++ T) := by
  match Ls, h with
  | [], _ => simpa using hS
  | [L], h =>
    have := h.1
    have e : T = [] := by simp at h1; exact List.length_eq_zero_iff.1 (by omega)
    subst e
    simpa using h.2.1
  | L1 :: L2 :: Ls', h => have := h.1; have := h.2.2.1; simp at h1; omega
end Go.Proofs.Ytjgeccnfdndllaa
