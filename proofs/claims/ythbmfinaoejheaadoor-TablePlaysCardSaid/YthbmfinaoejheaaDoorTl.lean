/- What a new row holds; plain Lean. -/
import Derived.Test.YthbmfinaoejheaaDoorTw
set_option linter.unusedVariables false
namespace Go.Proofs.YthbmfinaoejheaaDoor
def lastV (l : List (Int × Int)) (c d : Int) : Int := l.foldl (fun a x => if x.1 = c then x.2 else a) d
theorem lastV_snoc (l : List (Int × Int)) (x : Int × Int) (c d : Int) : lastV (l ++ [x]) c d = if x.1 = c then x.2 else lastV l c d := by simp [lastV]
theorem setR_get (cs : List Int) (R : List TRow) (q : Nat) (r : TRow) (h : R[q]? = some r) (c v : Int) : (setR cs R q c v)[q]? = some (r.1, if c ∈ cs then upd r.2 c v else r.2) ∧ (setR cs R q c v).length = R.length := by
  have hl := (List.getElem?_eq_some_iff.1 h).1
  unfold setR
  by_cases hc : c ∈ cs
  · have hh : hasR cs R q c = true := by simp [hasR, hc, hl]
    rw [hh, if_pos rfl, if_pos hc]
    simp [h]
  · have hh : hasR cs R q c = false := by simp [hasR, hc]
    rw [hh, if_neg hc]
    simp [h]
theorem putR_get (cs : List Int) : ∀ (l : List (Int × Int)) (R : List TRow) (q : Nat) (r : TRow), R[q]? = some r → ∃ f, (putR cs R q l)[q]? = some (r.1, f) ∧ (putR cs R q l).length = R.length ∧ ∀ c ∈ cs, f c = lastV l c (r.2 c)
  | [], R, q, r, h => ⟨r.2, h, rfl, fun _ _ => rfl⟩
  | x :: l, R, q, r, h => by
    obtain ⟨h1, h2⟩ := setR_get cs R q r h x.1 x.2
    obtain ⟨f, h3, h4, h5⟩ := putR_get cs l (setR cs R q x.1 x.2) q _ h1
    refine ⟨f, h3, by rw [h2] at h4; exact h4, fun c hc => ?_⟩
    rw [h5 c hc]
    unfold lastV
    rw [List.foldl_cons]
    congr 1
    simp only
    by_cases hx : x.1 = c
    · subst hx
      rw [if_pos rfl, if_pos hc]
      simp [upd]
    · rw [if_neg hx]
      by_cases hx2 : x.1 ∈ cs
      · rw [if_pos hx2]
        simp [upd, Ne.symm hx]
      · rw [if_neg hx2]
theorem cells_val (cs : List Int) (id : Int × Int) (l : List (Int × Int)) (c : Int) (hc : c ∈ cs) : getV cs (addR cs [] id l) 0 c = lastV l c 0 ∧ hasR cs (addR cs [] id l) 0 c = true ∧ (colC cs (addR cs [] id l) c).length = 1 := by
  obtain ⟨f, h1, h2, h3⟩ := putR_get cs l (newR [] id) 0 (id, fun _ => 0) rfl
  have h1' : (addR cs [] id l)[0]? = some (id, f) := h1
  have h2' : (addR cs [] id l).length = 1 := h2
  have hh : hasR cs (addR cs [] id l) 0 c = true := by simp [hasR, hc, h2']
  refine ⟨?_, hh, ?_⟩
  · unfold getV valR
    rw [hh, if_pos rfl]
    simp [h1', h3 c hc]
  · unfold colC
    rw [if_pos hc, colOf_len, h2']
theorem cells_none (cs : List Int) (R : List TRow) (c : Int) (hc : c ∉ cs) : getV cs R 0 c = 0 ∧ hasR cs R 0 c = false ∧ (colC cs R c).length = 0 := by
  have hh : hasR cs R 0 c = false := by simp [hasR, hc]
  refine ⟨?_, hh, ?_⟩
  · unfold getV
    rw [hh]
    rfl
  · unfold colC
    rw [if_neg hc]
    rfl
theorem addR_len (cs : List Int) (R : List TRow) (id : Int × Int) (l : List (Int × Int)) : (addR cs R id l).length = R.length + 1 := by
  obtain ⟨f, h1, h2, h3⟩ := putR_get cs l (newR R id) R.length (id, fun _ => 0) (by simp [newR])
  have : (addR cs R id l).length = (newR R id).length := h2
  rw [this]
  simp [newR]
end Go.Proofs.YthbmfinaoejheaaDoor
