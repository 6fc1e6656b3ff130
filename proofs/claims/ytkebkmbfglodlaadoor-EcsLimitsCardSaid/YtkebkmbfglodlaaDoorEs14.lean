/- A store: what its ways keep. Plain Lean; no program in sight. -/
import Derived.Test.YtkebkmbfglodlaaDoorEs13
set_option linter.unusedVariables false
set_option linter.unusedSimpArgs false
namespace Go.Proofs.YtkebkmbfglodlaaDoor
open Go.RowKit
def lastV (l : List (Int × Int)) (c d : Int) : Int := l.foldl (fun a x => if x.1 = c then x.2 else a) d
theorem lastV_snoc (l : List (Int × Int)) (x : Int × Int) (c d : Int) : lastV (l ++ [x]) c d = if x.1 = c then x.2 else lastV l c d := by simp [lastV]
theorem setR_get (cs : List Int) (R : List TRow) (q : Nat) (r : TRow) (h : R[q]? = some r) (c v : Int) : (setR cs R q c v)[q]? = some (r.1, if c ∈ cs then upd r.2 c v else r.2) ∧ (setR cs R q c v).length = R.length := by
  have hl := (List.getElem?_eq_some_iff.1 h).1
  unfold setR
  by_cases hc : c ∈ cs
  · have hh : hasR cs R q c = true := by simp [hasR, hc, hl]
    rw [hh, if_pos rfl, if_pos hc]
    simp [h]
  · have hh : hasR cs R q c = false := by simp [hasR, hc]
    rw [hh, if_neg hc]
    simp [h]
theorem putR_get (cs : List Int) : ∀ (l : List (Int × Int)) (R : List TRow) (q : Nat) (r : TRow), R[q]? = some r → ∃ f, (putR cs R q l)[q]? = some (r.1, f) ∧ (putR cs R q l).length = R.length ∧ ∀ c ∈ cs, f c = lastV l c (r.2 c)
  | [], R, q, r, h => ⟨r.2, h, rfl, fun _ _ => rfl⟩
  | x :: l, R, q, r, h => by
    obtain ⟨h1, h2⟩ := setR_get cs R q r h x.1 x.2
    obtain ⟨f, h3, h4, h5⟩ := putR_get cs l (setR cs R q x.1 x.2) q _ h1
    refine ⟨f, h3, by rw [h2] at h4; exact h4, fun c hc => ?_⟩
    rw [h5 c hc]
    unfold lastV
    rw [List.foldl_cons]
    congr 1
    simp only
    by_cases hx : x.1 = c
    · subst hx
      rw [if_pos rfl, if_pos hc]
      simp [upd]
    · rw [if_neg hx]
      by_cases hx2 : x.1 ∈ cs
      · rw [if_pos hx2]
        simp [upd, Ne.symm hx]
      · rw [if_neg hx2]
theorem setR_far (cs : List Int) (R : List TRow) (q j : Nat) (c v : Int) (h : j ≠ q) : (setR cs R q c v)[j]? = R[j]? := by
  unfold setR
  split
  · rw [List.getElem?_modify]
    cases R[j]? <;> simp [Ne.symm h]
  · rfl
theorem putR_far (cs : List Int) : ∀ (l : List (Int × Int)) (R : List TRow) (q j : Nat), j ≠ q → (putR cs R q l)[j]? = R[j]?
  | [], _, _, _, _ => rfl
  | x :: l, R, q, j, h => by
    have := putR_far cs l (setR cs R q x.1 x.2) q j h
    rw [setR_far cs R q j _ _ h] at this
    exact this

theorem addR_parts (cs : List Int) (R : List TRow) (id : Int × Int) (l : List (Int × Int)) : (addR cs R id l).length = R.length + 1 ∧ (∀ j, j < R.length → (addR cs R id l)[j]? = R[j]?) ∧ ∃ f, (addR cs R id l)[R.length]? = some (id, f) ∧ ∀ c ∈ cs, f c = lastV l c 0 := by
  have h0 : (newR R id)[R.length]? = some (id, fun _ => 0) := by simp [newR]
  obtain ⟨f, h1, h2, h3⟩ := putR_get cs l (newR R id) R.length _ h0
  refine ⟨by unfold addR; rw [h2]; simp [newR], fun j hj => ?_, f, h1, h3⟩
  unfold addR
  rw [putR_far cs l (newR R id) R.length j (by omega)]
  simp [newR, List.getElem?_append_left hj]
theorem addR_ids (cs : List Int) (R : List TRow) (id : Int × Int) (l : List (Int × Int)) : idsOf (addR cs R id l) = idsOf R ++ [id] := by
  obtain ⟨h1, h2, f, h3, _⟩ := addR_parts cs R id l
  apply List.ext_getElem?
  intro j
  unfold idsOf
  rw [List.getElem?_map]
  by_cases hj : j < R.length
  · rw [h2 j hj, List.getElem?_append_left (by simpa using hj), List.getElem?_map]
  · by_cases he : j = R.length
    · subst he
      rw [h3, List.getElem?_append_right (by simp)]
      simp
    · rw [List.getElem?_eq_none (by omega), List.getElem?_eq_none (by simp; omega)]
      rfl
theorem mem_swp {α : Type} {xs : List α} (hn : xs.Nodup) {q : Nat} {y : α} (hy : xs[q]? = some y) (x : α) : x ∈ swp xs q ↔ x ∈ xs ∧ x ≠ y := by
  have hq := (List.getElem?_eq_some_iff.1 hy).1
  have inj : ∀ (i j : Nat) (z : α), xs[i]? = some z → xs[j]? = some z → i = j := fun i j z h1 h2 => by
    obtain ⟨hi, e1⟩ := List.getElem?_eq_some_iff.1 h1
    obtain ⟨hj, e2⟩ := List.getElem?_eq_some_iff.1 h2
    have hp := List.pairwise_iff_getElem.1 (List.nodup_iff_pairwise_ne.1 hn)
    rcases Nat.lt_trichotomy i j with h | h | h
    · exact absurd (e1.trans e2.symm) (hp i j hi hj h)
    · exact h
    · exact absurd (e2.trans e1.symm) (hp j i hj hi h)
  constructor
  · intro h
    obtain ⟨i, hi⟩ := List.mem_iff_getElem?.1 h
    rw [swp_get hq i] at hi
    split at hi
    · split at hi
      · rename_i h1 h2
        refine ⟨List.mem_of_getElem? hi, ?_⟩
        rintro rfl
        have := inj _ _ _ hi hy
        omega
      · rename_i h1 h2
        refine ⟨List.mem_of_getElem? hi, ?_⟩
        rintro rfl
        exact h2 (inj _ _ _ hi hy)
    · cases hi
  · rintro ⟨h, hne⟩
    obtain ⟨j, hj⟩ := List.mem_iff_getElem?.1 h
    have hjl := (List.getElem?_eq_some_iff.1 hj).1
    have hjq : j ≠ q := by rintro rfl; rw [hy] at hj; injection hj with hj; exact hne hj.symm
    by_cases hl : j < xs.length - 1
    · exact List.mem_iff_getElem?.2 ⟨j, by rw [swp_get hq j, if_pos hl, if_neg hjq]; exact hj⟩
    · refine List.mem_iff_getElem?.2 ⟨q, ?_⟩
      rw [swp_get hq q, if_pos (by omega), if_pos rfl, show xs.length - 1 = j by omega]
      exact hj
theorem rows_nodup {R : List TRow} (h : (idsOf R).Nodup) : R.Nodup := by
  unfold idsOf at h
  exact List.nodup_iff_pairwise_ne.2 ((List.pairwise_map.1 (List.nodup_iff_pairwise_ne.1 h)).imp fun h e => h (by rw [e]))
/-- The tables: each entity stands in just the table of its mask. -/
structure WT (D : List TD) (M : Int × Int → Option Nat) (n : Nat) : Prop where
  nd : (masksOf D).Nodup
  lt : ∀ m ∈ masksOf D, m < 65536
  ent : ∀ id m, M id = some m → ∃ (i p : Nat) (R : List TRow), D[i]? = some (m, p, R) ∧ id ∈ idsOf R
  back : ∀ (i m p : Nat) (R : List TRow), D[i]? = some (m, p, R) → ∀ x ∈ idsOf R, M x = some m
  rnd : ∀ (i m p : Nat) (R : List TRow), D[i]? = some (m, p, R) → (idsOf R).Nodup
  len : ∀ (i m p : Nat) (R : List TRow), D[i]? = some (m, p, R) → R.length ≤ n
  ok : ∀ id m, M id = some m → okId id
section
variable {D : List TD} {M M' : Int × Int → Option Nat} {n n' : Nat}
theorem WT.wf {sl : List (Int × Bool)} (h : WT D M n) (ha : ∀ id, (M id).isSome = hasI sl id) : WF sl D M n :=
  ⟨h.nd, h.lt, fun id m hm => by
    obtain ⟨i, p, R, hi, hx⟩ := h.ent id m hm
    obtain ⟨⟨id', f⟩, hr, rfl⟩ := List.mem_map.1 hx
    obtain ⟨k, hk⟩ := List.mem_iff_getElem?.1 hr
    exact ⟨i, p, R, k, f, hi, hk⟩, h.back, h.rnd, h.len, ha, h.ok⟩
theorem WF.wt {sl : List (Int × Bool)} (h : WF sl D M n) : WT D M n :=
  ⟨h.nd, h.lt, fun id m hm => by
    obtain ⟨i, p, R, k, f, hi, hk⟩ := h.ent id m hm
    exact ⟨i, p, R, hi, List.mem_map.2 ⟨_, List.mem_of_getElem? hk, rfl⟩⟩, h.back, h.rnd, h.len, h.ok⟩
theorem WT.empty : WT [] noM 0 := ⟨by simp [masksOf], by simp [masksOf], (fun id m h => by cases h), (fun i m p R h => by simp at h), (fun i m p R h => by simp at h), (fun i m p R h => by simp at h), (fun id m h => by cases h)⟩
theorem WT.one (h : WT D M n) {i j m p p' : Nat} {R R' : List TRow} (hi : D[i]? = some (m, p, R)) (hj : D[j]? = some (m, p', R')) : i = j := by
  have hp := List.pairwise_iff_getElem.1 (List.nodup_iff_pairwise_ne.1 h.nd)
  have e1 : (masksOf D)[i]? = some m := by simp [masksOf, hi]
  have e2 : (masksOf D)[j]? = some m := by simp [masksOf, hj]
  obtain ⟨h1, e1⟩ := List.getElem?_eq_some_iff.1 e1
  obtain ⟨h2, e2⟩ := List.getElem?_eq_some_iff.1 e2
  rcases Nat.lt_trichotomy i j with h | h | h
  · exact absurd (e1.trans e2.symm) (hp i j h1 h2 h)
  · exact h
  · exact absurd (e2.trans e1.symm) (hp j i h2 h1 h)
/-- One table's rows are changed. -/
theorem WT.repl (h : WT D M n) {i m p : Nat} {R R' : List TRow} (hi : D[i]? = some (m, p, R)) (hn' : n ≤ n') (hnd : (idsOf R').Nodup) (hlen : R'.length ≤ n') (hM : ∀ x, M' x = some m ↔ x ∈ idsOf R') (hO : ∀ x m', m' ≠ m → (M' x = some m' ↔ M x = some m')) (hok : ∀ x ∈ idsOf R', okId x) : WT (D.set i (m, p, R')) M' n' := by
  have hil := (List.getElem?_eq_some_iff.1 hi).1
  have hat : ∀ (j m' p' : Nat) (Q : List TRow), (D.set i (m, p, R'))[j]? = some (m', p', Q) → (j = i ∧ m' = m ∧ Q = R') ∨ (m' ≠ m ∧ D[j]? = some (m', p', Q)) := by
    intro j m' p' Q hj
    rw [List.getElem?_set] at hj
    split at hj
    · rename_i e
      injection hj with hj
      injection hj with h1 h2
      injection h2 with h2 h3
      exact .inl ⟨e.symm, h1.symm, h3.symm⟩
    · rename_i e
      refine .inr ⟨?_, hj⟩
      rintro rfl
      exact e (h.one hi hj)
  refine ⟨by rw [masks_set hi]; exact h.nd, by rw [masks_set hi]; exact h.lt, ?_, ?_, ?_, ?_, ?_⟩
  · intro x m' hx
    by_cases e : m' = m
    · subst e
      exact ⟨i, p, R', by rw [List.getElem?_set_self hil], (hM x).1 hx⟩
    · obtain ⟨j, p', Q, hj, hxQ⟩ := h.ent x m' ((hO x m' e).1 hx)
      refine ⟨j, p', Q, ?_, hxQ⟩
      rw [List.getElem?_set_ne]
      · exact hj
      · rintro rfl
        rw [hi] at hj
        injection hj with hj
        injection hj with h1
        exact e h1.symm
  · intro j m' p' Q hj x hx
    rcases hat j m' p' Q hj with ⟨_, rfl, rfl⟩ | ⟨e, hj'⟩
    · exact (hM x).2 hx
    · exact (hO x m' e).2 (h.back j m' p' Q hj' x hx)
  · intro j m' p' Q hj
    rcases hat j m' p' Q hj with ⟨_, rfl, rfl⟩ | ⟨e, hj'⟩
    · exact hnd
    · exact h.rnd j m' p' Q hj'
  · intro j m' p' Q hj
    rcases hat j m' p' Q hj with ⟨_, rfl, rfl⟩ | ⟨e, hj'⟩
    · exact hlen
    · exact Nat.le_trans (h.len j m' p' Q hj') hn'
  · intro x m' hx
    by_cases e : m' = m
    · subst e; exact hok x ((hM x).1 hx)
    · exact h.ok x m' ((hO x m' e).1 hx)
theorem WT.all (h : WT D M n) {i m p : Nat} {R : List TRow} (hi : D[i]? = some (m, p, R)) (x : Int × Int) : M x = some m ↔ x ∈ idsOf R := by
  constructor
  · intro hx
    obtain ⟨j, p', Q, hj, hxQ⟩ := h.ent x m hx
    obtain rfl := h.one hi hj
    rw [hi] at hj
    injection hj with hj
    injection hj with _ h2
    injection h2 with _ h3
    subst h3
    exact hxQ
  · exact h.back i m p R hi x
theorem WT.out (h : WT D M n) {i m p k : Nat} {R : List TRow} {id : Int × Int} {f : Int → Int} (hi : D[i]? = some (m, p, R)) (hk : R[k]? = some (id, f)) : WT (D.set i (m, p, swp R k)) (fput M id none) n := by
  have hkl := (List.getElem?_eq_some_iff.1 hk).1
  have hnd := h.rnd i m p R hi
  have hki : (idsOf R)[k]? = some id := by simp [idsOf, hk]
  have hmem : ∀ x, x ∈ idsOf (swp R k) ↔ x ∈ idsOf R ∧ x ≠ id := fun x => by rw [idsOf_swp]; exact mem_swp hnd hki x
  refine h.repl hi (Nat.le_refl _) (by rw [idsOf_swp]; exact swp_nodup (by simpa [idsOf] using hkl) hnd) (by rw [swp_len hkl]; have := h.len i m p R hi; omega) (fun x => ?_) (fun x m' hm' => ?_) (fun x hx => h.ok x m (h.back i m p R hi x ((hmem x).1 hx).1))
  · rw [hmem, ← h.all hi x]
    unfold fput
    by_cases e : x = id
    · subst e; simp
    · simp [e]
  · unfold fput
    by_cases e : x = id
    · subst e
      have := (h.all hi x).2 (List.mem_of_getElem? hki)
      simp [this, Ne.symm hm']
    · simp [e]
theorem WT.put (h : WT D M n) {m : Nat} {id : Int × Int} {cells : List (Int × Int)} {D' : List TD} (hm : m < 65536) (hid : okId id) (hf : M id = none) (hP : PutD D m id cells D') : WT D' (fput M id (some m)) (n + 1) := by
  rcases hP with ⟨i, p, R, hi, rfl⟩ | ⟨hn, p, rfl⟩
  · have hnot : id ∉ idsOf R := fun hx => by rw [h.back i m p R hi id hx] at hf; cases hf
    refine h.repl hi (Nat.le_succ _) ?_ (by rw [(addR_parts _ _ _ _).1]; have := h.len i m p R hi; omega) (fun x => ?_) (fun x m' hm' => ?_) (fun x hx => ?_)
    · rw [addR_ids]
      exact List.nodup_append.2 ⟨h.rnd i m p R hi, by simp, fun a ha b hb => by simp at hb; subst hb; exact fun e => hnot (e ▸ ha)⟩
    · rw [addR_ids, List.mem_append, ← h.all hi x]
      unfold fput
      by_cases e : x = id
      · subst e; simp
      · simp [e]
    · unfold fput
      by_cases e : x = id
      · subst e; simp [hf, Ne.symm hm']
      · simp [e]
    · rw [addR_ids, List.mem_append] at hx
      rcases hx with hx | hx
      · exact h.ok x m (h.back i m p R hi x hx)
      · simp at hx; subst hx; exact hid
  · have hnm := tf_none.1 hn
    have hnone : ∀ x, M x ≠ some m := fun x hx => by
      obtain ⟨i, p', R, hi, _⟩ := h.ent x m hx
      exact hnm (List.mem_map.2 ⟨_, List.mem_of_getElem? hi, rfl⟩)
    have hids : idsOf (addR (bitsN m) [] id cells) = [id] := by rw [addR_ids]; rfl
    have hat : ∀ (j m' p' : Nat) (Q : List TRow), (D ++ [(m, p, addR (bitsN m) [] id cells)])[j]? = some (m', p', Q) → (m' = m ∧ Q = addR (bitsN m) [] id cells) ∨ (m' ≠ m ∧ D[j]? = some (m', p', Q)) := by
      intro j m' p' Q hj
      by_cases hl : j < D.length
      · rw [List.getElem?_append_left hl] at hj
        refine .inr ⟨?_, hj⟩
        rintro rfl
        exact hnm (List.mem_map.2 ⟨_, List.mem_of_getElem? hj, rfl⟩)
      · rw [List.getElem?_append_right (by omega)] at hj
        have : j - D.length = 0 := by have := (List.getElem?_eq_some_iff.1 hj).1; simp at this; omega
        rw [this] at hj
        simp at hj
        exact .inl ⟨hj.1.symm, hj.2.2.symm⟩
    refine ⟨masks_snoc h.nd hn, ?_, ?_, ?_, ?_, ?_, ?_⟩
    · intro x hx
      unfold masksOf at hx
      rw [List.map_append, List.mem_append] at hx
      rcases hx with hx | hx
      · exact h.lt x hx
      · simp at hx; subst hx; exact hm
    · intro x m' hx
      unfold fput at hx
      by_cases e : x = id
      · subst e
        rw [if_pos rfl] at hx
        injection hx with hx
        subst hx
        exact ⟨D.length, p, addR (bitsN m) [] x cells, by simp, by rw [hids]; simp⟩
      · rw [if_neg e] at hx
        obtain ⟨j, p', Q, hj, hxQ⟩ := h.ent x m' hx
        exact ⟨j, p', Q, by rw [List.getElem?_append_left (List.getElem?_eq_some_iff.1 hj).1]; exact hj, hxQ⟩
    · intro j m' p' Q hj x hx
      unfold fput
      rcases hat j m' p' Q hj with ⟨rfl, rfl⟩ | ⟨e, hj'⟩
      · rw [hids] at hx; simp at hx; subst hx; simp
      · have h1 := h.back j m' p' Q hj' x hx
        rw [if_neg (by rintro rfl; rw [h1] at hf; cases hf)]
        exact h1
    · intro j m' p' Q hj
      rcases hat j m' p' Q hj with ⟨rfl, rfl⟩ | ⟨e, hj'⟩
      · rw [hids]; simp
      · exact h.rnd j m' p' Q hj'
    · intro j m' p' Q hj
      rcases hat j m' p' Q hj with ⟨rfl, rfl⟩ | ⟨e, hj'⟩
      · rw [(addR_parts _ _ _ _).1]; simp
      · exact Nat.le_succ_of_le (h.len j m' p' Q hj')
    · intro x m' hx
      unfold fput at hx
      by_cases e : x = id
      · subst e; exact hid
      · rw [if_neg e] at hx; exact h.ok x m' hx
theorem WT.set (h : WT D M n) {i m p k : Nat} {R : List TRow} {id : Int × Int} {f : Int → Int} (hi : D[i]? = some (m, p, R)) (hk : R[k]? = some (id, f)) (c v : Int) : WT (D.set i (m, p, setR (bitsN m) R k c v)) M n := by
  have hids : idsOf (setR (bitsN m) R k c v) = idsOf R := by
    unfold setR
    split
    · rw [Int.toNat_natCast]; exact idsOf_set R k c v
    · rfl
  refine h.repl hi (Nat.le_refl _) (by rw [hids]; exact h.rnd i m p R hi) (by have := (setR_get (bitsN m) R k _ hk c v).2; rw [this]; exact h.len i m p R hi) (fun x => ?_) (fun x m' hm' => Iff.rfl) (fun x hx => ?_)
  · rw [hids]; exact h.all hi x
  · rw [hids] at hx; exact h.ok x m (h.back i m p R hi x hx)
theorem fput_fput (x : Int × Int) (a b : Option Nat) : fput (fput M x a) x b = fput M x b := by
  funext y
  unfold fput
  by_cases e : y = x <;> simp [e]
end
end Go.Proofs.YtkebkmbfglodlaaDoor
