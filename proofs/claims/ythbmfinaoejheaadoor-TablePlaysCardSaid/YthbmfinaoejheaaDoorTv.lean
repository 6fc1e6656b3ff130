/- TableMoves: what the rows are; plain Lean. -/
import Derived.Test.YthbmfinaoejheaaDoorTO
set_option linter.unusedVariables false
namespace Go.Proofs.YthbmfinaoejheaaDoor
def xr (x c : Int) : Int := bits .xor .i64 x c
def cellsM (x : Int) : List (Int × Int) := (List.range 16).map fun k : Nat => ((k : Int), xr x k)
def Mv (cs : List Int) (xs : List Int) (i : Nat) (R : List TRow) : Prop := R.length = i ∧ ∀ j, j < i → ∃ f x, R[j]? = some (((j : Int), 1), f) ∧ xs[j]? = some x ∧ ∀ c ∈ cs, f c = xr x c
theorem setR_far (cs : List Int) (R : List TRow) (q j : Nat) (c v : Int) (h : j ≠ q) : (setR cs R q c v)[j]? = R[j]? := by
  unfold setR
  split
  · rw [List.getElem?_modify]
    cases R[j]? <;> simp [Ne.symm h]
  · rfl
theorem putR_far (cs : List Int) : ∀ (l : List (Int × Int)) (R : List TRow) (q j : Nat), j ≠ q → (putR cs R q l)[j]? = R[j]?
  | [], _, _, _, _ => rfl
  | x :: l, R, q, j, h => by
    have := putR_far cs l (setR cs R q x.1 x.2) q j h
    rw [setR_far cs R q j _ _ h] at this
    exact this
theorem lastV_cells (x : Int) (k : Nat) (hk : k < 16) : lastV (cellsM x) k 0 = xr x k := by
  have h : ∀ n, n ≤ 16 → ∀ d, lastV ((List.range n).map fun k : Nat => ((k : Int), xr x k)) k d = if k < n then xr x k else d := by
    intro n
    induction n with
    | zero => intro _ d; rfl
    | succ n ih =>
      intro hn d
      rw [List.range_succ, List.map_append, List.map_singleton, lastV_snoc, ih (by omega)]
      by_cases h1 : n = k
      · subst h1
        simp
      · rw [if_neg (by simp only; omega)]
        by_cases h2 : k < n
        · rw [if_pos h2, if_pos (by omega)]
        · rw [if_neg h2, if_neg (by omega)]
  have := h 16 (Nat.le_refl _) 0
  rw [if_pos hk] at this
  exact this
theorem mv_nil (cs xs : List Int) : Mv cs xs 0 [] := ⟨rfl, fun j hj => absurd hj (Nat.not_lt_zero j)⟩
theorem mv_step {cs xs : List Int} {i : Nat} {R : List TRow} {x : Int} (hcs : ∀ c ∈ cs, 0 ≤ c ∧ c < 16) (h : Mv cs xs i R) (hx : xs[i]? = some x) : Mv cs xs (i + 1) (addR cs R ((i : Int), 1) (cellsM x)) := by
  refine ⟨by rw [addR_len, h.1], fun j hj => ?_⟩
  unfold addR
  by_cases hji : j = i
  · subst hji
    obtain ⟨f, h1, h2, h3⟩ := putR_get cs (cellsM x) (newR R ((j : Int), 1)) R.length (((j : Int), 1), fun _ => 0) (by simp [newR])
    rw [h.1] at h1
    refine ⟨f, x, by rw [h.1]; exact h1, hx, fun c hc => ?_⟩
    obtain ⟨h4, h5⟩ := hcs c hc
    obtain ⟨k, rfl⟩ : ∃ k : Nat, c = (k : Int) := ⟨c.toNat, by omega⟩
    rw [h3 _ hc]
    exact lastV_cells x k (by omega)
  · obtain ⟨f, y, h1, h2, h3⟩ := h.2 j (by omega)
    refine ⟨f, y, ?_, h2, h3⟩
    rw [putR_far cs _ _ _ _ (by rw [h.1]; exact hji)]
    unfold newR
    rw [List.getElem?_append_left (by rw [h.1]; omega)]
    exact h1
theorem mv_ids {cs xs : List Int} {i : Nat} {R : List TRow} (h : Mv cs xs i R) (j : Nat) : (idsOf R)[j]? = if j < i then some ((j : Int), 1) else none := by
  by_cases hj : j < i
  · obtain ⟨f, y, h1, _⟩ := h.2 j hj
    rw [if_pos hj]
    simp [idsOf, h1]
  · rw [if_neg hj, List.getElem?_eq_none (by rw [idsOf_len, h.1]; omega)]
theorem ixF_none {xs : List (Int × Int)} {k : Int × Int} (h : k ∉ xs) : ixF xs k = none := by
  unfold ixF
  rw [List.findIdx?_eq_none_iff]
  intro x hx
  simp only [decide_eq_false_iff_not]
  rintro rfl
  exact h hx
theorem mv_new {cs xs : List Int} {i : Nat} {R : List TRow} (h : Mv cs xs i R) : ixF (idsOf R) ((i : Int), 1) = none := by
  refine ixF_none fun hm => ?_
  obtain ⟨j, hj⟩ := List.mem_iff_getElem?.1 hm
  rw [mv_ids h] at hj
  split at hj
  · rename_i hlt
    simp at hj
    omega
  · cases hj
theorem mv_nodup {cs xs : List Int} {i : Nat} {R : List TRow} (h : Mv cs xs i R) : (idsOf R).Nodup := by
  rw [nodup_iff]
  intro a b x h1 h2
  rw [mv_ids h] at h1 h2
  split at h1
  · split at h2
    · rw [← h2] at h1
      simp at h1
      omega
    · cases h2
  · cases h1
theorem mv_ok {cs xs : List Int} {i : Nat} {R : List TRow} (h : Mv cs xs i R) (hi : i ≤ 1000) : ∀ x ∈ idsOf R, okId x := by
  intro x hx
  obtain ⟨j, hj⟩ := List.mem_iff_getElem?.1 hx
  rw [mv_ids h] at hj
  split at hj
  · injection hj with hj
    subst hj
    refine ⟨⟨?_, ?_⟩, ⟨?_, ?_⟩⟩ <;> simp only <;> omega
  · cases hj
/-- From which row the i-th has come. -/
def frm (n q i : Nat) : Nat := if i = q then n - 1 else i
theorem swp_row {cs xs : List Int} {n : Nat} {R : List TRow} (h : Mv cs xs n R) {q : Nat} (hq : q < n) (i : Nat) (hi : i < n - 1) : ∃ f x, (swp R q)[i]? = some ((((frm n q i : Nat) : Int), 1), f) ∧ xs[frm n q i]? = some x ∧ ∀ c ∈ cs, f c = xr x c := by
  obtain ⟨f, x, h1, h2, h3⟩ := h.2 (frm n q i) (by unfold frm; split <;> omega)
  refine ⟨f, x, ?_, h2, h3⟩
  rw [swp_get (by rw [h.1]; exact hq), h.1, if_pos hi, ← h1]
  unfold frm
  split <;> rfl
theorem swp_rowI {cs xs : List Int} {n : Nat} {R : List TRow} (h : Mv cs xs n R) {q : Nat} (hq : q < n) (i : Nat) (hi : i < n - 1) : rowI (swp R q) (((frm n q i : Nat) : Int), 1) = (i : Int) := by
  obtain ⟨f, x, h1, _⟩ := swp_row h hq i hi
  have hn : (idsOf (swp R q)).Nodup := by rw [idsOf_swp]; exact swp_nodup (by rw [idsOf_len, h.1]; exact hq) (mv_nodup h)
  unfold rowI
  rw [(ix_iff hn _ i).2 (by simp [idsOf, h1])]
theorem swp_gone {cs xs : List Int} {n : Nat} {R : List TRow} (h : Mv cs xs n R) {q : Nat} (hq : q < n) : rowI (swp R q) ((q : Int), 1) = -1 := by
  unfold rowI
  rw [ixF_none]
  intro hm
  obtain ⟨j, hj⟩ := List.mem_iff_getElem?.1 hm
  have hj1 : j < n - 1 := by
    have := (List.getElem?_eq_some_iff.1 hj).1
    rwa [idsOf_len, swp_len (by rw [h.1]; exact hq), h.1] at this
  obtain ⟨f, x, h1, _⟩ := swp_row h hq j hj1
  have h2 : (idsOf (swp R q))[j]? = some (((frm n q j : Nat) : Int), 1) := by simp [idsOf, h1]
  rw [h2] at hj
  simp [frm] at hj
  split at hj <;> omega
theorem swp_val {cs xs : List Int} {n : Nat} {R : List TRow} (h : Mv cs xs n R) {q : Nat} (hq : q < n) (i : Nat) (hi : i < n - 1) (c : Int) : ∃ x, xs[frm n q i]? = some x ∧ hasR cs (swp R q) i c = decide (c ∈ cs) ∧ (c ∈ cs → getV cs (swp R q) i c = xr x c) := by
  obtain ⟨f, x, h1, h2, h3⟩ := swp_row h hq i hi
  have hl := (List.getElem?_eq_some_iff.1 h1).1
  have hh : hasR cs (swp R q) i c = decide (c ∈ cs) := by
    unfold hasR
    rw [decide_eq_decide]
    exact ⟨fun h => h.1, fun h => ⟨h, by omega, by omega⟩⟩
  refine ⟨x, h2, hh, fun hc => ?_⟩
  unfold getV valR
  rw [hh, decide_eq_true hc]
  simp only [if_true, Int.toNat_natCast, h1]
  exact h3 c hc
end Go.Proofs.YthbmfinaoejheaaDoor
