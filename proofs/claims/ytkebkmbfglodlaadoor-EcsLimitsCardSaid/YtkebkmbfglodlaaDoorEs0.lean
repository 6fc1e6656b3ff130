/- A store, by what it holds. No condition; plain definitions and lemmas. -/
import Derived.Test.YtkebkmbfglodlaaDoorSk5
import Derived.Test.YtkebkmbfglodlaaDoorTn
import Derived.Test.YtkebkmbfglodlaaDoorId5
import Derived.Test.YtkebkmbfglodlaaDoorRowz
set_option linter.unusedVariables false
set_option linter.unusedSimpArgs false
set_option maxRecDepth 100000
namespace Go.Proofs.YtkebkmbfglodlaaDoor
open Go.RowKit
/-! a list of assertions -/
def Hp.many {α : Type} (g : α → Hp) (L : List α) : Hp := Hp.seps (L.map g)
namespace At
variable {F0 : Nat → Prop} {w0 w : World} {l : List Hp} {α : Type} {g : α → Hp} {L : List α} {x : α}
theorem manyOut (n i : Nat) (h : At F0 w0 w (Hp.seps l)) (ha : l[n]? = some (Hp.many g L)) (hi : L[i]? = some x) : At F0 w0 w (Hp.seps (g x :: l.set n (Hp.many g (L.eraseIdx i)))) := by
  have h1 : At F0 w0 w (((g x).sep (Hp.many g (L.eraseIdx i))).sep (Hp.seps (l.eraseIdx n))) := (h.pick n ha).map fun w F hh => by
    refine Hp.comm (Hp.imp (Hp.comm hh) fun FB hB => ?_)
    have := Hp.pick (L.map g) i (g x) (by simp [hi]) hB
    rw [map_erase] at this
    exact this
  have h2 := h1.put (idx_lt ha)
  have h3 := h2.flat n (A := g x) (B := Hp.many g (L.eraseIdx i)) (by rw [List.getElem?_set_self (idx_lt ha)])
  rw [List.set_set] at h3
  exact h3
theorem manyIn (n i : Nat) (h : At F0 w0 w (Hp.seps (g x :: l))) (ha : l[n]? = some (Hp.many g (L.eraseIdx i))) (hi : i < L.length) : At F0 w0 w (Hp.seps (l.set n (Hp.many g (L.set i x)))) := by
  have h1 : At F0 w0 w ((Hp.many g (L.set i x)).sep (Hp.seps (l.eraseIdx n))) := h.map fun w F hh => by
    have h2 := Hp.assoc' (Hp.imp hh fun FB hB => Hp.pick l n _ ha hB)
    refine Hp.comm (Hp.imp (Hp.comm h2) fun FB hB => ?_)
    have h3 := Hp.put (L.map g) i (g x) (by simpa using hi) (by rw [map_erase]; exact hB)
    unfold Hp.many
    rw [List.map_set]
    exact h3
  exact h1.put (idx_lt ha)
theorem manyNil (g : α → Hp) (h : At F0 w0 w (Hp.seps l)) : At F0 w0 w (Hp.seps (Hp.many g [] :: l)) := h.map fun w F hh => Hp.emp_sep hh
theorem manyAdd (n : Nat) (h : At F0 w0 w (Hp.seps (g x :: l))) (ha : l[n]? = some (Hp.many g L)) : At F0 w0 w (Hp.seps (l.set n (Hp.many g (L ++ [x])))) := by
  have h1 : At F0 w0 w ((Hp.many g (L ++ [x])).sep (Hp.seps (l.eraseIdx n))) := h.map fun w F hh => by
    have h2 := Hp.assoc' (Hp.imp hh fun FB hB => Hp.pick l n _ ha hB)
    refine Hp.comm (Hp.imp (Hp.comm h2) fun FB hB => ?_)
    unfold Hp.many
    rw [List.map_append]
    exact Hp.seps_append (L.map g) [g x] FB (Hp.imp (Hp.comm hB) fun F2 h2 => Hp.comm (Hp.emp_sep h2))
  exact h1.put (idx_lt ha)
end At
/-! the tables -/
abbrev TD := Nat × Nat × List TRow
def tf : List TD → Nat → Option Nat
  | [], _ => none
  | d :: D, m => if d.1 = m then some d.2.1 else tf D m
abbrev tbH (d : TD) : Hp := isTb d.2.1 (bitsN d.1) d.2.2
def masksOf (D : List TD) : List Nat := D.map (·.1)
theorem tf_some {D : List TD} {m p : Nat} (h : tf D m = some p) : ∃ (i : Nat) (R : List TRow), D[i]? = some (m, p, R) := by
  induction D with
  | nil => cases h
  | cons d D ih =>
    unfold tf at h
    by_cases e : d.1 = m
    · rw [if_pos e] at h
      injection h with h
      exact ⟨0, d.2.2, by subst e; subst h; rfl⟩
    · rw [if_neg e] at h
      obtain ⟨i, R, hi⟩ := ih h
      exact ⟨i + 1, R, by simpa using hi⟩
theorem tf_none {D : List TD} {m : Nat} : tf D m = none ↔ m ∉ masksOf D := by
  induction D with
  | nil => simp [tf, masksOf]
  | cons d D ih =>
    unfold tf
    by_cases e : d.1 = m
    · rw [if_pos e]; simp [masksOf, e]
    · rw [if_neg e, ih]; simp [masksOf, Ne.symm e]
theorem tf_at {D : List TD} (hn : (masksOf D).Nodup) {i m p : Nat} {R : List TRow} (h : D[i]? = some (m, p, R)) : tf D m = some p := by
  induction D generalizing i with
  | nil => simp at h
  | cons d D ih =>
    unfold tf
    cases i with
    | zero =>
      simp at h
      subst h
      rw [if_pos rfl]
    | succ i =>
      simp at h
      have hm : m ∈ masksOf D := List.mem_map.2 ⟨_, List.mem_of_getElem? h, rfl⟩
      have hn' : d.1 ∉ masksOf D ∧ (masksOf D).Nodup := by simpa [masksOf] using hn
      rw [if_neg (by intro e; rw [e] at hn'; exact hn'.1 hm)]
      exact ih hn'.2 h
theorem tf_set {D : List TD} {i m p : Nat} {R R' : List TRow} (h : D[i]? = some (m, p, R)) : tf (D.set i (m, p, R')) = tf D := by
  induction D generalizing i with
  | nil => simp at h
  | cons d D ih =>
    cases i with
    | zero =>
      simp at h
      subst h
      funext x
      rfl
    | succ i =>
      simp at h
      funext x
      simp only [List.set_cons_succ, tf, ih h]
theorem masks_set {D : List TD} {i m p : Nat} {R R' : List TRow} (h : D[i]? = some (m, p, R)) : masksOf (D.set i (m, p, R')) = masksOf D := by
  unfold masksOf
  rw [List.map_set]
  obtain ⟨hi, e⟩ := List.getElem?_eq_some_iff.1 h
  apply List.ext_getElem?
  intro j
  rw [List.getElem?_set]
  split
  · rename_i hj
    subst hj
    simp [h, hi, e]
  · rfl
theorem tf_snoc {D : List TD} {m p : Nat} {R : List TRow} (h : tf D m = none) : tf (D ++ [(m, p, R)]) = fput (tf D) m (some p) := by
  funext x
  unfold fput
  induction D with
  | nil =>
    simp only [List.nil_append, tf]
    by_cases e : m = x
    · subst e; simp
    · rw [if_neg e, if_neg (Ne.symm e)]
  | cons d D ih =>
    unfold tf at h
    by_cases e : d.1 = m
    · rw [if_pos e] at h; cases h
    · rw [if_neg e] at h
      simp only [List.cons_append, tf, ih h]
      by_cases e2 : d.1 = x
      · rw [if_pos e2, if_neg (fun e3 => e (e2.trans e3)), if_pos e2]
      · rw [if_neg e2]
        by_cases e3 : x = m
        · rw [if_pos e3, if_pos e3]
        · rw [if_neg e3, if_neg e3, if_neg e2]
/-- How many entries the map of tables has. -/
theorem MapIs.count {w : World} {b n : Nat} {D : List TD} (h : MapIs w Tryd.prog 35 b n encM evP (tf D)) (hn : (masksOf D).Nodup) : ∃ es clock, w.heap[b]? = some (.map es clock) ∧ es.size = D.length := by
  obtain ⟨es, clock, hb, _, _, hst, h1, h2⟩ := h
  refine ⟨es, clock, hb, ?_⟩
  have hd := ((MapKept.stamped_iff es clock).1 hst).2.2
  have hp : (es.toList.map (·.key)).Perm ((masksOf D).map encM) := by
    refine (List.perm_ext_iff_of_nodup ?_ ?_).2 fun v => ?_
    · exact List.pairwise_map.2 hd
    · exact List.pairwise_map.2 (hn.imp fun hne e => hne (encM_inj _ _ e))
    · rw [List.mem_map, List.mem_map]
      constructor
      · rintro ⟨e, he, rfl⟩
        obtain ⟨m, y, a1, _, a3⟩ := h1 e he
        refine ⟨m, ?_, a1.symm⟩
        apply Classical.byContradiction
        intro hm
        rw [tf_none.2 hm] at a3
        cases a3
      · rintro ⟨m, hm, rfl⟩
        have : tf D m ≠ none := fun e => (tf_none.1 e) hm
        obtain ⟨p, hp⟩ := Option.ne_none_iff_exists'.1 this
        obtain ⟨e, he, hk, _⟩ := h2 m p hp
        exact ⟨e, he, hk⟩
  have := hp.length_eq
  simpa [masksOf] using this
/-! the store -/
def stL (q pi bt bm : Nat) (most room : Int) (nm : Nat) (sl : List (Int × Bool)) (fr : List Int) (D : List TD) (M : Int × Int → Option Nat) (r : List Hp) : List Hp :=
  Hp.blk q #[.pointer (some ⟨pi, 0, none⟩), .int .i64 most, .map (some bt), .map (some bm)] 70 :: I.isIds pi room sl fr :: Hp.mp Tryd.prog 35 bt D.length encM evP (tf D) :: Hp.mp Tryd.prog 31 bm nm encK encM M :: Hp.many tbH D :: r
end Go.Proofs.YtkebkmbfglodlaaDoor
