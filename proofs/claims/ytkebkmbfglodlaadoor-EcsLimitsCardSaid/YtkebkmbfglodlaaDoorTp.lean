/- A table: what Remove leaves, in plain Lean. -/
import Derived.Test.YtkebkmbfglodlaaDoorTa
set_option linter.unusedVariables false
namespace Go.Proofs.YtkebkmbfglodlaaDoor
theorem ix_iff {xs : List (Int × Int)} (hn : xs.Nodup) (k : Int × Int) (i : Nat) : ixF xs k = some i ↔ xs[i]? = some k := by
  unfold ixF
  rw [List.findIdx?_eq_some_iff_getElem]
  constructor
  · rintro ⟨h, h1, _⟩
    rw [List.getElem?_eq_getElem h]
    simpa using h1
  · intro h
    obtain ⟨hl, he⟩ := List.getElem?_eq_some_iff.1 h
    refine ⟨hl, by simpa using he, fun j hj => ?_⟩
    have hj' : j < xs.length := by omega
    simp only [decide_eq_true_eq]
    intro h2
    have := (List.getElem?_inj hj' hn).1 ((List.getElem?_eq_getElem hj').trans (by rw [h2, ← h]) : xs[j]? = xs[i]?)
    omega
theorem opt_ext {α : Type} {a b : Option α} (h : ∀ x, a = some x ↔ b = some x) : a = b := by
  cases a with
  | none =>
    cases b with
    | none => rfl
    | some y => exact absurd ((h y).2 rfl) (by simp)
  | some x => exact ((h x).1 rfl).symm
/-- A list without its q-th, whose place the last takes. -/
def swp {α : Type} (xs : List α) (q : Nat) : List α := match xs.getLast? with | some z => (xs.set q z).take (xs.length - 1) | none => xs
theorem swp_eq {α : Type} {xs : List α} {q : Nat} {z : α} (hz : xs[xs.length - 1]? = some z) : swp xs q = (xs.set q z).take (xs.length - 1) := by
  unfold swp
  rw [List.getLast?_eq_getElem?, hz]
theorem swp_map {α β : Type} (f : α → β) (xs : List α) (q : Nat) : swp (xs.map f) q = (swp xs q).map f := by
  unfold swp
  rw [List.getLast?_map]
  cases h : xs.getLast? with
  | none => rfl
  | some z => simp [List.map_take, List.map_set]
theorem swp_len {α : Type} {xs : List α} {q : Nat} (h : q < xs.length) : (swp xs q).length = xs.length - 1 := by
  rw [swp_eq (List.getElem?_eq_getElem (by omega : xs.length - 1 < xs.length))]
  simp
theorem swp_get {α : Type} {xs : List α} {q : Nat} (h : q < xs.length) (i : Nat) : (swp xs q)[i]? = if i < xs.length - 1 then (if i = q then xs[xs.length - 1]? else xs[i]?) else none := by
  have hz : xs[xs.length - 1]? = some xs[xs.length - 1] := List.getElem?_eq_getElem (by omega)
  rw [swp_eq hz, List.getElem?_take]
  by_cases h1 : i < xs.length - 1
  · rw [if_pos h1, if_pos h1, List.getElem?_set]
    by_cases h2 : q = i
    · subst h2
      rw [if_pos rfl, if_pos h, if_pos rfl, hz]
    · rw [if_neg h2, if_neg (Ne.symm h2)]
  · rw [if_neg h1, if_neg h1]
theorem nodup_iff {xs : List (Int × Int)} : xs.Nodup ↔ ∀ (i j : Nat) x, xs[i]? = some x → xs[j]? = some x → i = j := by
  constructor
  · intro h i j x h1 h2
    exact (List.getElem?_inj (List.getElem?_eq_some_iff.1 h1).1 h).1 (h1.trans h2.symm)
  · intro h
    rw [List.nodup_iff_pairwise_ne, List.pairwise_iff_getElem]
    intro i j hi hj hlt he
    have := h i j xs[i] (List.getElem?_eq_getElem hi) (by rw [List.getElem?_eq_getElem hj, he])
    omega
theorem swp_nodup {xs : List (Int × Int)} {q : Nat} (h : q < xs.length) (hn : xs.Nodup) : (swp xs q).Nodup := by
  rw [nodup_iff] at hn ⊢
  intro i j x h1 h2
  rw [swp_get h] at h1 h2
  by_cases hi : i < xs.length - 1 <;> by_cases hj : j < xs.length - 1
  · rw [if_pos hi] at h1
    rw [if_pos hj] at h2
    by_cases hiq : i = q <;> by_cases hjq : j = q
    · omega
    · rw [if_pos hiq] at h1; rw [if_neg hjq] at h2; have := hn _ _ _ h1 h2; omega
    · rw [if_neg hiq] at h1; rw [if_pos hjq] at h2; have := hn _ _ _ h1 h2; omega
    · rw [if_neg hiq] at h1; rw [if_neg hjq] at h2; exact hn _ _ _ h1 h2
  · rw [if_neg hj] at h2; cases h2
  · rw [if_neg hi] at h1; cases h1
  · rw [if_neg hi] at h1; cases h1
theorem ix_swp_last {xs : List (Int × Int)} {q : Nat} {y : Int × Int} (hn : xs.Nodup) (hy : xs[q]? = some y) (hq : q = xs.length - 1) : fput (ixF xs) y none = ixF (swp xs q) := by
  have hl := (List.getElem?_eq_some_iff.1 hy).1
  funext k
  apply opt_ext
  intro i
  rw [ix_iff (swp_nodup hl hn), swp_get hl]
  unfold fput
  have hn' := nodup_iff.1 hn
  constructor
  · intro h
    by_cases hk : k = y
    · rw [if_pos hk] at h; cases h
    · rw [if_neg hk, ix_iff hn] at h
      have h1 := (List.getElem?_eq_some_iff.1 h).1
      have h2 : i ≠ q := fun e => by subst e; rw [hy] at h; injection h with h; exact hk h.symm
      rw [if_pos (by omega), if_neg h2]
      exact h
  · intro h
    by_cases h1 : i < xs.length - 1
    · rw [if_pos h1, if_neg (by omega)] at h
      have hk : k ≠ y := fun e => by subst e; have := hn' _ _ _ h hy; omega
      rw [if_neg hk, ix_iff hn]
      exact h
    · rw [if_neg h1] at h; cases h
theorem ix_swp_mid {xs : List (Int × Int)} {q : Nat} {y z : Int × Int} (hn : xs.Nodup) (hy : xs[q]? = some y) (hz : xs[xs.length - 1]? = some z) (hq : q ≠ xs.length - 1) : fput (fput (ixF xs) y none) z (some q) = ixF (swp xs q) := by
  have hl := (List.getElem?_eq_some_iff.1 hy).1
  have hn' := nodup_iff.1 hn
  funext k
  apply opt_ext
  intro i
  rw [ix_iff (swp_nodup hl hn), swp_get hl]
  unfold fput
  constructor
  · intro h
    by_cases hk : k = z
    · rw [if_pos hk] at h
      injection h with h
      subst h
      rw [if_pos (by omega), if_pos rfl, hz, hk]
    · rw [if_neg hk] at h
      by_cases hky : k = y
      · rw [if_pos hky] at h; cases h
      · rw [if_neg hky, ix_iff hn] at h
        have h1 := (List.getElem?_eq_some_iff.1 h).1
        have h2 : i ≠ q := fun e => by subst e; rw [hy] at h; injection h with h; exact hky h.symm
        have h3 : i ≠ xs.length - 1 := fun e => by subst e; rw [hz] at h; injection h with h; exact hk h.symm
        rw [if_pos (by omega), if_neg h2]
        exact h
  · intro h
    by_cases h1 : i < xs.length - 1
    · rw [if_pos h1] at h
      by_cases h2 : i = q
      · rw [if_pos h2, hz] at h
        injection h with h
        rw [if_pos h.symm, h2]
      · rw [if_neg h2] at h
        have hk : k ≠ z := fun e => by subst e; have := hn' _ _ _ h hz; omega
        have hky : k ≠ y := fun e => by subst e; have := hn' _ _ _ h hy; omega
        rw [if_neg hk, if_neg hky, ix_iff hn]
        exact h
    · rw [if_neg h1] at h; cases h
/-- Columns of which the first k have been done. -/
def Grx (cs : List Int) (f g : Int → List Int) (k : Nat) (L : ColL) : Prop := L.length = cs.length ∧ ∀ j c, cs[j]? = some c → ∃ v, L[j]? = some (v, if j < k then f c else g c)
theorem grx_start {cs : List Int} {f g : Int → List Int} {L : ColL} (h : L.map (·.2) = cs.map g) : Grx cs f g 0 L := by
  have hl : L.length = cs.length := by simpa using congrArg List.length h
  refine ⟨hl, fun j c hc => ?_⟩
  have hj := (List.getElem?_eq_some_iff.1 hc).1
  have h1 := congrArg (fun l => l[j]?) h
  simp only [List.getElem?_map, hc, Option.map_some] at h1
  rw [List.getElem?_eq_getElem (by omega)] at h1 ⊢
  simp only [Option.map_some, Option.some.injEq] at h1
  exact ⟨L[j].1, by rw [if_neg (by omega), ← h1]⟩
theorem grx_end {cs : List Int} {f g : Int → List Int} {L : ColL} (h : Grx cs f g cs.length L) : L.map (·.2) = cs.map f := by
  apply List.ext_getElem?
  intro j
  simp only [List.getElem?_map]
  cases hc : cs[j]? with
  | none =>
    rw [List.getElem?_eq_none_iff] at hc
    rw [Option.map_none, Option.map_eq_none_iff, List.getElem?_eq_none_iff, h.1]
    exact hc
  | some c =>
    obtain ⟨v, hv⟩ := h.2 j c hc
    rw [hv, if_pos (List.getElem?_eq_some_iff.1 hc).1]
    simp
theorem grx_step {cs : List Int} {f g : Int → List Int} {k : Nat} {L : ColL} {c : Int} (h : Grx cs f g k L) (hc : cs[k]? = some c) (v : Value) : Grx cs f g (k + 1) (L.set k (v, f c)) := by
  refine ⟨by rw [List.length_set]; exact h.1, fun j c' hc' => ?_⟩
  by_cases hj : j = k
  · subst hj
    rw [hc] at hc'
    injection hc' with hc'
    subst hc'
    exact ⟨v, by rw [List.getElem?_set_self (by rw [h.1]; exact (List.getElem?_eq_some_iff.1 hc).1), if_pos (by omega)]⟩
  · obtain ⟨u, hu⟩ := h.2 j c' hc'
    refine ⟨u, ?_⟩
    rw [List.getElem?_set_ne (by omega), hu]
    by_cases h1 : j < k
    · rw [if_pos h1, if_pos (by omega)]
    · rw [if_neg h1, if_neg (by omega)]
theorem colOf_swp (R : List TRow) (q : Nat) (c : Int) : colOf (swp R q) c = swp (colOf R c) q := (swp_map _ _ _).symm
theorem idsOf_swp (R : List TRow) (q : Nat) : idsOf (swp R q) = swp (idsOf R) q := (swp_map _ _ _).symm
end Go.Proofs.YtkebkmbfglodlaaDoor
