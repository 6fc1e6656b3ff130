/- A store: values; the places of entities. Plain Lean but for the contract of Make. -/
import Derived.Test.YtkebkmbfglodlaaDoorEs14
set_option linter.unusedVariables false
set_option linter.unusedSimpArgs false
namespace Go.Proofs.YtkebkmbfglodlaaDoor
open Go.RowKit
def Ent (D : List TD) (id : Int × Int) (m : Nat) (f : Int → Int) : Prop := ∃ (i p : Nat) (R : List TRow), D[i]? = some (m, p, R) ∧ (id, f) ∈ R
section
variable {D D' : List TD} {M : Int × Int → Option Nat} {n : Nat}
theorem Ent.mask (h : WT D M n) {id : Int × Int} {m : Nat} {f : Int → Int} (he : Ent D id m f) : M id = some m := by
  obtain ⟨i, p, R, hi, hr⟩ := he
  exact h.back i m p R hi id (List.mem_map.2 ⟨_, hr, rfl⟩)
theorem Ent.at_ {id : Int × Int} {m : Nat} {f : Int → Int} (he : Ent D id m f) : ∃ (i p k : Nat) (R : List TRow), D[i]? = some (m, p, R) ∧ R[k]? = some (id, f) := by
  obtain ⟨i, p, R, hi, hr⟩ := he
  obtain ⟨k, hk⟩ := List.mem_iff_getElem?.1 hr
  exact ⟨i, p, k, R, hi, hk⟩
theorem Ent.repl {i m p : Nat} {R R' : List TRow} (hi : D[i]? = some (m, p, R)) {id : Int × Int} {m' : Nat} {f' : Int → Int} (he : Ent D id m' f') (hR : (id, f') ∈ R → (id, f') ∈ R') : Ent (D.set i (m, p, R')) id m' f' := by
  have hil := (List.getElem?_eq_some_iff.1 hi).1
  obtain ⟨j, p', Q, hj, hq⟩ := he
  by_cases e : i = j
  · subst e
    rw [hi] at hj
    injection hj with hj
    injection hj with h1 h2
    injection h2 with h2 h3
    subst h1; subst h3
    exact ⟨i, p, R', by rw [List.getElem?_set_self hil], hR hq⟩
  · exact ⟨j, p', Q, by rw [List.getElem?_set_ne e]; exact hj, hq⟩
theorem Ent.outO (h : WT D M n) {i m p k : Nat} {R : List TRow} {id : Int × Int} {f : Int → Int} (hi : D[i]? = some (m, p, R)) (hk : R[k]? = some (id, f)) {id' : Int × Int} {m' : Nat} {f' : Int → Int} (he : Ent D id' m' f') (hne : id' ≠ id) : Ent (D.set i (m, p, swp R k)) id' m' f' :=
  he.repl hi fun hr => (mem_swp (rows_nodup (h.rnd i m p R hi)) hk _).2 ⟨hr, fun e => hne (congrArg Prod.fst e)⟩
theorem Ent.putO {m : Nat} {id : Int × Int} {cells : List (Int × Int)} (hP : PutD D m id cells D') {id' : Int × Int} {m' : Nat} {f' : Int → Int} (he : Ent D id' m' f') : Ent D' id' m' f' := by
  rcases hP with ⟨i, p, R, hi, rfl⟩ | ⟨hn, p, rfl⟩
  · refine he.repl hi fun hr => ?_
    obtain ⟨k, hk⟩ := List.mem_iff_getElem?.1 hr
    exact List.mem_iff_getElem?.2 ⟨k, by rw [(addR_parts _ _ _ _).2.1 k (List.getElem?_eq_some_iff.1 hk).1]; exact hk⟩
  · obtain ⟨j, p', Q, hj, hq⟩ := he
    exact ⟨j, p', Q, by rw [List.getElem?_append_left (List.getElem?_eq_some_iff.1 hj).1]; exact hj, hq⟩
theorem Ent.putN {m : Nat} {id : Int × Int} {cells : List (Int × Int)} (hP : PutD D m id cells D') : ∃ f, Ent D' id m f ∧ ∀ c ∈ bitsN m, f c = lastV cells c 0 := by
  rcases hP with ⟨i, p, R, hi, rfl⟩ | ⟨hn, p, rfl⟩
  · obtain ⟨_, _, f, h3, h4⟩ := addR_parts (bitsN m) R id cells
    exact ⟨f, ⟨i, p, _, by rw [List.getElem?_set_self (List.getElem?_eq_some_iff.1 hi).1], List.mem_of_getElem? h3⟩, h4⟩
  · obtain ⟨_, _, f, h3, h4⟩ := addR_parts (bitsN m) [] id cells
    exact ⟨f, ⟨D.length, p, addR (bitsN m) [] id cells, by simp, List.mem_of_getElem? h3⟩, h4⟩
theorem Ent.setO {i m p k : Nat} {R : List TRow} {id : Int × Int} {f : Int → Int} (hi : D[i]? = some (m, p, R)) (hk : R[k]? = some (id, f)) (c v : Int) {id' : Int × Int} {m' : Nat} {f' : Int → Int} (he : Ent D id' m' f') (hne : id' ≠ id) : Ent (D.set i (m, p, setR (bitsN m) R k c v)) id' m' f' := by
  refine he.repl hi fun hr => ?_
  obtain ⟨j, hj⟩ := List.mem_iff_getElem?.1 hr
  refine List.mem_iff_getElem?.2 ⟨j, ?_⟩
  rw [setR_far]
  · exact hj
  · rintro rfl
    rw [hk] at hj
    injection hj with hj
    exact hne (congrArg Prod.fst hj).symm
theorem Ent.setN {i m p k : Nat} {R : List TRow} {id : Int × Int} {f : Int → Int} (hi : D[i]? = some (m, p, R)) (hk : R[k]? = some (id, f)) (c v : Int) (hc : c ∈ bitsN m) : Ent (D.set i (m, p, setR (bitsN m) R k c v)) id m (upd f c v) := by
  have h := (setR_get (bitsN m) R k _ hk c v).1
  rw [if_pos hc] at h
  exact ⟨i, p, _, by rw [List.getElem?_set_self (List.getElem?_eq_some_iff.1 hi).1], List.mem_of_getElem? h⟩
end
theorem lastV_none : ∀ (l : List (Int × Int)) (c d : Int), (∀ x ∈ l, x.1 ≠ c) → lastV l c d = d
  | [], _, _, _ => rfl
  | x :: l, c, d, h => by
    unfold lastV
    rw [List.foldl_cons, if_neg (h x (by simp))]
    exact lastV_none l c d fun y hy => h y (List.mem_cons_of_mem _ hy)
theorem lastV_cellsOf (cs : List Int) (id : Int × Int) (f : Int → Int) (c d : Int) : lastV (cellsOf cs (id, f)) c d = if c ∈ cs then f c else d := by
  induction cs generalizing d with
  | nil => rfl
  | cons x cs ih =>
    have e : lastV (cellsOf (x :: cs) (id, f)) c d = lastV (cellsOf cs (id, f)) c (if x = c then f x else d) := rfl
    rw [e, ih]
    by_cases h1 : c ∈ cs
    · simp [h1]
    · by_cases h2 : x = c
      · subst h2; simp
      · simp [h1, h2, Ne.symm h2]
/-! the places -/
theorem has_iff {sl : List (Int × Bool)} {i g : Int} : I.hasB sl i g = true ↔ 0 ≤ i ∧ sl[i.toNat]? = some (g, true) := by
  constructor
  · intro h
    obtain ⟨h1, _, h2⟩ := I.hasB_at h
    exact ⟨h1, h2⟩
  · rintro ⟨h1, h2⟩
    have hl := (List.getElem?_eq_some_iff.1 h2).1
    unfold I.hasB
    rw [List.getD_eq_getElem?_getD, h2]
    simp [h1]
    omega
theorem drop_alive {sl : List (Int × Bool)} {id : Int × Int} (h : hasI sl id = true) (id' : Int × Int) : hasI (sl.set id.1.toNat (id.2, false)) id' = (hasI sl id' && !decide (id' = id)) := by
  obtain ⟨a1, a2⟩ := id
  obtain ⟨b1, b2⟩ := id'
  obtain ⟨h1, h2⟩ := has_iff.1 h
  have hl := (List.getElem?_eq_some_iff.1 h2).1
  rw [Bool.eq_iff_iff, Bool.and_eq_true]
  unfold hasI
  rw [has_iff, has_iff, List.getElem?_set]
  simp only
  by_cases e : a1.toNat = b1.toNat
  · rw [if_pos e, if_pos hl]
    constructor
    · rintro ⟨_, h⟩; cases h
    · rintro ⟨⟨hb, h3⟩, h4⟩
      exfalso
      rw [← e, h2] at h3
      injection h3 with h3
      injection h3 with h3 _
      have : b1 = a1 := by omega
      subst this; subst h3
      simp at h4
  · rw [if_neg e]
    constructor
    · rintro ⟨hb, h3⟩
      refine ⟨⟨hb, h3⟩, ?_⟩
      have : b1 ≠ a1 := by rintro rfl; exact e rfl
      simp [this]
    · exact fun h => h.1
theorem mk_ok {room : Int} {m : Nat} {sl : List (Int × Bool)} {fr : List Int} {made : List (Int × Int)} {there : List Bool} {n : Int} (h : I.Inv room m sl fr made there n) (hr : room ≤ 1000) (hm : m ≤ 1000) (hn : n < room) (pi : Nat) :
    ∃ id sl' fr', MkOk pi room sl fr id sl' fr' ∧ id ∉ made ∧ fr'.length ≤ m ∧ I.Inv room (m + 1) sl' fr' (made ++ [id]) (there ++ [true]) (n + 1) := by
  have hsl := h.slen
  rcases List.eq_nil_or_concat fr with rfl | ⟨f0, i, rfl⟩
  · have hlt : (sl.length : Int) < room := by
      by_cases h1 : (sl.length : Int) < room
      · exact h1
      · exact ((h.full h1).2 hn).elim
    obtain ⟨_, h2, h3⟩ := h.next hlt
    refine ⟨_, _, _, ⟨I.make_more pi room sl (by omega) (by omega), ⟨⟨by simp only; omega, by simp only; omega⟩, by simp only; omega, by simp only; omega⟩, ?_, fun id' => ?_⟩, h2, Nat.zero_le _, h3⟩
    · rw [Bool.eq_false_iff]
      intro hh
      have := (I.hasB_at hh).2.1
      simp at this
    · obtain ⟨b1, b2⟩ := id'
      rw [Bool.eq_iff_iff, Bool.or_eq_true]
      unfold hasI
      rw [has_iff, has_iff, decide_eq_true_eq]
      simp only
      constructor
      · rintro ⟨hb, h4⟩
        by_cases hl : b1.toNat < sl.length
        · rw [List.getElem?_append_left hl] at h4
          exact .inr ⟨hb, h4⟩
        · rw [List.getElem?_append_right (by omega)] at h4
          have h5 := (List.getElem?_eq_some_iff.1 h4).1
          have h6 : b1.toNat - sl.length = 0 := by simp at h5; omega
          rw [h6] at h4
          simp at h4
          refine .inl ?_
          rw [Prod.mk.injEq]
          exact ⟨by omega, by omega⟩
      · rintro (e | ⟨hb, h4⟩)
        · rw [Prod.mk.injEq] at e
          obtain ⟨rfl, rfl⟩ := e
          refine ⟨by omega, ?_⟩
          simp
        · exact ⟨hb, by rw [List.getElem?_append_left (List.getElem?_eq_some_iff.1 h4).1]; exact h4⟩
  · rw [List.concat_eq_append] at h ⊢
    obtain ⟨h0, _, g, hg, hgm, hg1, h2, h3⟩ := h.pop
    have hl := (List.getElem?_eq_some_iff.1 hg).1
    have e : wrap64 (g + 1) = g + 1 := by unfold wrap64; omega
    have hd := I.make_pop pi room sl f0 i (g, false) h0 hg
    simp only [e] at hd
    have hslm := h.slenm
    refine ⟨(i, g + 1), _, _, ⟨hd, ⟨⟨by simp only; omega, by simp only; omega⟩, by simp only; omega, by simp only; omega⟩, ?_, fun id' => ?_⟩, h2, by have := h.flen; simp at this; omega, h3⟩
    · rw [Bool.eq_false_iff]
      intro hh
      have := (has_iff.1 hh).2
      simp only at this
      rw [hg] at this
      injection this with this
      injection this with _ this
      cases this
    · obtain ⟨b1, b2⟩ := id'
      rw [Bool.eq_iff_iff, Bool.or_eq_true]
      unfold hasI
      rw [has_iff, has_iff, decide_eq_true_eq, List.getElem?_set]
      simp only
      by_cases e1 : i.toNat = b1.toNat
      · rw [if_pos e1, if_pos hl]
        constructor
        · rintro ⟨hb, h4⟩
          injection h4 with h4
          injection h4 with h4 _
          exact .inl (by rw [Prod.mk.injEq]; exact ⟨by omega, h4.symm⟩)
        · rintro (e2 | ⟨hb, h4⟩)
          · rw [Prod.mk.injEq] at e2
            obtain ⟨rfl, rfl⟩ := e2
            exact ⟨h0, rfl⟩
          · exfalso
            rw [← e1, hg] at h4
            injection h4 with h4
            injection h4 with _ h4
            cases h4
      · rw [if_neg e1]
        constructor
        · exact fun h => .inr h
        · rintro (e2 | h4)
          · rw [Prod.mk.injEq] at e2
            exact absurd (by rw [e2.1]) e1
          · exact h4
end Go.Proofs.YtkebkmbfglodlaaDoor
