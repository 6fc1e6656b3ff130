/- EcsRows: what is kept. Plain Lean. -/
import Derived.Test.YtkebkmbfglodlaaDoorEs16
set_option linter.unusedVariables false
set_option linter.unusedSimpArgs false
namespace Go.Proofs.YtkebkmbfglodlaaDoor
open Go.RowKit
/-- One table of the mask 1: its rows are the entities in order. -/
def One (D : List TD) (made : List (Int × Int)) (xs : List Int) : Prop :=
  (made = [] ∧ D = []) ∨ ∃ p R, D = [(1, p, R)] ∧ idsOf R = made ∧ ∀ (j : Nat) (x : TRow) (v : Int), R[j]? = some x → xs[j]? = some v → x.2 0 = v
theorem maskC_one (c : Nat) (v : Int) (hc : c < 16) : maskC [((c : Int), v)] = some (2 ^ c) := by
  unfold maskC addC
  simp
  omega
theorem One.spawn {D D' : List TD} {made : List (Int × Int)} {xs : List Int} (h : One D made xs) {id : Int × Int} {v : Int} (hv : xs[made.length]? = some v) (hP : PutD D 1 id [((0 : Int), v)] D') : One D' (made ++ [id]) xs := by
  have hb : bitsN 1 = [0] := by decide
  rcases h with ⟨rfl, rfl⟩ | ⟨p, R, rfl, hids, hval⟩
  · rcases hP with ⟨i, p, R, hi, _⟩ | ⟨_, p, rfl⟩
    · simp at hi
    · refine .inr ⟨p, addR (bitsN 1) [] id [((0 : Int), v)], rfl, by rw [addR_ids]; rfl, ?_⟩
      intro j x v' hx hv'
      obtain ⟨h1, _, f, h3, h4⟩ := addR_parts (bitsN 1) [] id [((0 : Int), v)]
      have hj := (List.getElem?_eq_some_iff.1 hx).1
      rw [h1] at hj
      obtain rfl : j = 0 := by simpa using hj
      have h3' : (addR (bitsN 1) [] id [((0 : Int), v)])[0]? = some (id, f) := h3
      rw [h3'] at hx
      injection hx with hx
      subst hx
      have hv2 : xs[0]? = some v := hv
      rw [hv2] at hv'
      injection hv' with hv'
      subst hv'
      show f 0 = v
      rw [h4 0 (by rw [hb]; simp)]
      simp [lastV]
  · rcases hP with ⟨i, p', R', hi, rfl⟩ | ⟨hn, _⟩
    · have hil := (List.getElem?_eq_some_iff.1 hi).1
      obtain rfl : i = 0 := by simpa using hil
      simp at hi
      obtain ⟨rfl, rfl⟩ := hi
      refine .inr ⟨p, addR (bitsN 1) R id [((0 : Int), v)], rfl, by rw [addR_ids, hids], ?_⟩
      intro j x v' hx hv'
      obtain ⟨h1, h2, f, h3, h4⟩ := addR_parts (bitsN 1) R id [((0 : Int), v)]
      have hj := (List.getElem?_eq_some_iff.1 hx).1
      rw [h1] at hj
      by_cases hl : j < R.length
      · rw [h2 j hl] at hx
        exact hval j x v' hx hv'
      · obtain rfl : j = R.length := by omega
        rw [h3] at hx
        injection hx with hx
        subst hx
        have hml : made.length = R.length := by rw [← hids]; simp [idsOf]
        rw [hml] at hv
        rw [hv] at hv'
        injection hv' with hv'
        subst hv'
        show f 0 = v
        rw [h4 0 (by rw [hb]; simp)]
        simp [lastV]
    · unfold tf at hn
      simp at hn
theorem One.len {D : List TD} {made : List (Int × Int)} {xs : List Int} (h : One D made xs) : D.length ≤ 1 := by
  rcases h with ⟨_, rfl⟩ | ⟨p, R, rfl, _⟩ <;> simp
theorem One.pos {D : List TD} {made : List (Int × Int)} {xs : List Int} (h : One D made xs) {k : Nat} {id : Int × Int} {v : Int} (hk : made[k]? = some id) (hv : xs[k]? = some v) : ∃ p R f, D = [(1, p, R)] ∧ idsOf R = made ∧ R[k]? = some (id, f) ∧ f 0 = v := by
  rcases h with ⟨rfl, _⟩ | ⟨p, R, rfl, hids, hval⟩
  · simp at hk
  · rw [← hids] at hk
    unfold idsOf at hk
    rw [List.getElem?_map] at hk
    cases hR : R[k]? with
    | none => rw [hR] at hk; cases hk
    | some x =>
      rw [hR] at hk
      obtain ⟨a, f⟩ := x
      simp at hk
      subst hk
      exact ⟨p, R, f, rfl, hids, hR, hval k _ v hR hv⟩
theorem keys_13 {ss : List Int} {f : Nat → Option Nat} (h : KeysOf f ss) (h1 : ∀ m, (f m).isSome = true ↔ m = 1 ∨ m = 3) : ss = [1, 3] := by
  have hp : ss.Perm [1, 3] := by
    refine (List.perm_ext_iff_of_nodup (List.nodup_iff_pairwise_ne.2 (h.1.imp fun h => by omega)) (by decide)).2 fun x => ?_
    rw [h.2 x]
    constructor
    · rintro ⟨m, rfl, hm⟩
      rcases (h1 m).1 hm with rfl | rfl <;> simp
    · intro hx
      simp at hx
      rcases hx with rfl | rfl
      · exact ⟨1, rfl, (h1 1).2 (.inl rfl)⟩
      · exact ⟨3, rfl, (h1 3).2 (.inr rfl)⟩
  exact hp.eq_of_pairwise (le := fun a b : Int => a < b) (fun a b _ _ h1 h2 => by omega) h.1 (by decide)
end Go.Proofs.YtkebkmbfglodlaaDoor
