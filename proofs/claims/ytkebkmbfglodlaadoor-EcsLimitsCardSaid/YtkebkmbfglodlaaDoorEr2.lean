/- EcsRows: what Put leaves. Plain Lean. -/
import Derived.Test.YtkebkmbfglodlaaDoorEr0
set_option linter.unusedVariables false
set_option linter.unusedSimpArgs false
namespace Go.Proofs.YtkebkmbfglodlaaDoor
open Go.RowKit
theorem WF.moved {sl : List (Int × Bool)} {D D' : List TD} {M : Int × Int → Option Nat} {n i m p k m' : Nat} {R : List TRow} {id : Int × Int} {f : Int → Int} {cells : List (Int × Int)} (h : WF sl D M n) (hi : D[i]? = some (m, p, R)) (hk : R[k]? = some (id, f)) (hm' : m' < 65536) (hP : PutD (D.set i (m, p, swp R k)) m' id cells D') : WF sl D' (fput M id (some m')) (n + 1) := by
  have hM : M id = some m := h.back i m p R hi id (List.mem_map.2 ⟨_, List.mem_of_getElem? hk, rfl⟩)
  have h1 := (h.wt.out hi hk).put hm' (h.ok id m hM) (by unfold fput; simp) hP
  rw [fput_fput] at h1
  refine h1.wf fun id' => ?_
  unfold fput
  by_cases e : id' = id
  · subst e
    rw [if_pos rfl, ← h.alive id', hM]
    rfl
  · rw [if_neg e]; exact h.alive id'
theorem rows_facts {sl : List (Int × Bool)} {D D' : List TD} {M : Int × Int → Option Nat} {n k p : Nat} {R : List TRow} {made : List (Int × Int)} {xs : List Int} {id : Int × Int} {f : Int → Int} (hWF : WF sl D M n) (hD : D = [(1, p, R)]) (hids : idsOf R = made) (hv : ∀ (j : Nat) (x : TRow) (v : Int), R[j]? = some x → xs[j]? = some v → x.2 0 = v) (hR : R[k]? = some (id, f)) (hP : PutD (D.set 0 (1, p, swp R k)) (1 ||| 2 ^ 1) id (cellsOf (bitsN 1) (id, f) ++ [(((1 : Nat) : Int), (5 : Int))]) D') :
    WF sl D' (fput M id (some (1 ||| 2 ^ 1))) (n + 1) ∧ D'.length = 2 ∧ (∀ ss, KeysOf (tf D') ss → queryF D' 1 0 ss = swp made k ++ [id]) ∧ ∀ (i : Nat) (a : Int × Int) (v : Int), made[i]? = some a → xs[i]? = some v → ∃ m f', Ent D' a m f' ∧ m < 65536 ∧ m.testBit 0 = true ∧ f' 0 = v := by
  have hi : D[0]? = some (1, p, R) := by rw [hD]; rfl
  have h1 := hWF.moved hi hR (by decide) hP
  have hWT := hWF.wt
  have hP0 := hP
  subst hD
  have e0 : [((1 : Nat), p, R)].set 0 (1, p, swp R k) = [(1, p, swp R k)] := rfl
  rw [e0] at hP
  obtain ⟨p', hD'⟩ : ∃ p', D' = [(1, p, swp R k), (3, p', addR (bitsN 3) [] id (cellsOf (bitsN 1) (id, f) ++ [(((1 : Nat) : Int), (5 : Int))]))] := by
    rcases hP with ⟨j, p', Q, hj, _⟩ | ⟨_, p', h⟩
    · exfalso
      have hjl := (List.getElem?_eq_some_iff.1 hj).1
      obtain rfl : j = 0 := by simpa using hjl
      simp at hj
    · exact ⟨p', h⟩
  refine ⟨h1, by rw [hD']; rfl, fun ss hss => ?_, fun i a v ha hxv => ?_⟩
  · have h13 : ss = [1, 3] := keys_13 hss fun m => by
      rw [hD']
      unfold tf tf tf
      by_cases e1 : m = 1
      · subst e1; simp
      · by_cases e3 : m = 3
        · subst e3; simp
        · simp [e1, e3, Ne.symm e1, Ne.symm e3]
    rw [h13, hD']
    have t1 : takes 1 0 1 = true := by decide
    have t3 : takes 1 0 3 = true := by decide
    have e : queryF [(1, p, swp R k), (3, p', addR (bitsN 3) [] id (cellsOf (bitsN 1) (id, f) ++ [(((1 : Nat) : Int), (5 : Int))]))] 1 0 [1, 3] = idsOf (swp R k) ++ (idsOf (addR (bitsN 3) [] id (cellsOf (bitsN 1) (id, f) ++ [(((1 : Nat) : Int), (5 : Int))])) ++ []) := by
      unfold queryF
      rw [List.flatMap_cons, List.flatMap_cons, List.flatMap_nil, t1, t3]
      rfl
    rw [e, List.append_nil, idsOf_swp, addR_ids, hids]
    rfl
  · rw [← hids] at ha
    unfold idsOf at ha
    rw [List.getElem?_map] at ha
    cases hx : R[i]? with
    | none => rw [hx] at ha; cases ha
    | some x =>
      rw [hx] at ha
      obtain ⟨a', g⟩ := x
      simp at ha
      subst ha
      have hgv : g 0 = v := hv i _ v hx hxv
      by_cases e : a' = id
      · subst e
        obtain ⟨f', hE, hf⟩ := Ent.putN hP0
        have hik : i = k := by
          have hn := hWT.rnd 0 1 p R rfl
          have e1 : (idsOf R)[i]? = some a' := by simp [idsOf, hx]
          have e2 : (idsOf R)[k]? = some a' := by simp [idsOf, hR]
          exact (List.getElem?_inj (List.getElem?_eq_some_iff.1 e1).1 hn).1 (e1.trans e2.symm)
        subst hik
        rw [hR] at hx
        injection hx with hx
        injection hx with _ hx
        subst hx
        refine ⟨1 ||| 2 ^ 1, f', hE, by decide, by decide, ?_⟩
        rw [hf 0 (by decide), lastV_snoc, if_neg (by decide), lastV_cellsOf, if_pos (by decide)]
        exact hgv
      · exact ⟨1, g, (Ent.outO hWT hi hR ⟨0, p, R, rfl, List.mem_of_getElem? hx⟩ e).putO hP0, by decide, by decide, hgv⟩
end Go.Proofs.YtkebkmbfglodlaaDoor
