/- The plain law of a tree that is laid: Parents, Ends, Kids. No program in sight. -/
import Derived.Test.YtfgpdpccfpilaaaLayFlatOrder
set_option linter.unusedVariables false
namespace Go.Proofs.Ytfgpdpccfpilaaa.OpenFlatOrder
open Go.Proofs.Ytfgpdpccfpilaaa.PFlatOrder
mutual
def FN : S27 → Int → Nat → List S39
  | ⟨a0, a1, a2, s3, e, kids, ws⟩, par, o => ⟨a0, a1, a2, ((o + cntNs kids + 1 : Nat) : Int), par, s3, e, ws⟩ :: FNs kids o (o + 1)
def FNs : List S27 → Nat → Nat → List S39
  | [], _, _ => []
  | x :: xs, i, o => FN x i o ++ FNs xs i (o + cntN x)
end
mutual
theorem FN_len : ∀ (x : S27) (par : Int) (o : Nat), (FN x par o).length = cntN x
  | ⟨a0, a1, a2, s3, e, kids, ws⟩, par, o => by rw [FN, List.length_cons, FNs_len kids, cntN]
theorem FNs_len : ∀ (xs : List S27) (i o : Nat), (FNs xs i o).length = cntNs xs
  | [], i, o => by rw [FNs, cntNs]; rfl
  | x :: xs, i, o => by rw [FNs, List.length_append, FN_len x, FNs_len xs, cntNs]
end
theorem cntN_pos (x : S27) : 1 ≤ cntN x := by obtain ⟨a0, a1, a2, s3, e, kids, ws⟩ := x; rw [cntN]; omega
theorem endAt_mid (l : List S39) (r : S39) (m : List S39) : endAt (l ++ r :: m) l.length = l ++ ⟨r.f0, r.f1, r.f2, ((l.length + m.length + 1 : Nat) : Int), r.f4, r.f5, r.f6, r.f7⟩ :: m := by
  unfold endAt
  rw [List.getElem?_append_right (Nat.le_refl _), Nat.sub_self, List.getElem?_cons_zero]
  simp only []
  rw [List.set_append_right _ _ (Nat.le_refl _), Nat.sub_self, List.set_cons_zero, List.length_append, List.length_cons]
  rfl
mutual
theorem lay_FN : ∀ (x : S27) (par : Int) (l : List S39), lay x par l = l ++ FN x par l.length
  | ⟨a0, a1, a2, s3, e, kids, ws⟩, par, l => by
    rw [lay, lays_FNs kids, List.length_append, List.length_singleton, List.append_assoc, List.singleton_append, endAt_mid, FNs_len, FN]
    rfl
theorem lays_FNs : ∀ (xs : List S27) (i : Nat) (l : List S39), lays xs i l = l ++ FNs xs i l.length
  | [], i, l => by rw [lays, FNs, List.append_nil]
  | x :: xs, i, l => by rw [lays, lays_FNs xs, lay_FN x, FNs, List.length_append, FN_len, List.append_assoc]
end
mutual
theorem FN_row : ∀ (x : S27) (par : Int) (o j : Nat) (r : S39), (FN x par o)[j]? = some r → (j = 0 ∧ r.f4 = par ∧ r.f3 = ((o + cntN x : Nat) : Int)) ∨ (0 < j ∧ (o : Int) ≤ r.f4 ∧ r.f4 < o + j ∧ (o + j : Int) < r.f3 ∧ r.f3 ≤ o + cntN x)
  | ⟨a0, a1, a2, s3, e, kids, ws⟩, par, o, 0, r, h => by
    rw [FN, List.getElem?_cons_zero] at h
    obtain rfl := Option.some.inj h
    exact .inl ⟨rfl, rfl, by rw [cntN]; rfl⟩
  | ⟨a0, a1, a2, s3, e, kids, ws⟩, par, o, j + 1, r, h => by
    rw [FN, List.getElem?_cons_succ] at h
    have := FNs_row kids o (o + 1) (by omega) j r h
    rw [cntN]
    refine .inr ⟨by omega, by omega, by omega, by omega, by omega⟩
theorem FNs_row : ∀ (xs : List S27) (i o : Nat), i < o → ∀ (j : Nat) (r : S39), (FNs xs i o)[j]? = some r → (r.f4 = i ∨ (o : Int) ≤ r.f4) ∧ r.f4 < o + j ∧ (o + j : Int) < r.f3 ∧ r.f3 ≤ o + cntNs xs
  | [], i, o, hi, j, r, h => by rw [FNs] at h; simp at h
  | x :: xs, i, o, hi, j, r, h => by
    have hp := cntN_pos x
    rw [FNs] at h
    rw [cntNs]
    by_cases hj : j < cntN x
    · rw [List.getElem?_append_left (by rw [FN_len]; exact hj)] at h
      have := FN_row x i o j r h
      omega
    · rw [List.getElem?_append_right (by rw [FN_len]; omega), FN_len] at h
      have := FNs_row xs i (o + cntN x) (by omega) (j - cntN x) r h
      omega
end
def pars (L : List S39) (i : Nat) (j : Nat) : Bool := match L[j]? with
  | some r => decide (r.f4 = (i : Int))
  | none => false
def starts : List S27 → Nat → List Nat
  | [], _ => []
  | x :: xs, o => o :: starts xs (o + cntN x)
def Chain (L : List S39) : Nat → List Nat → Nat → Prop
  | a, [], e => a = e
  | a, k :: ks, e => k = a ∧ ∃ r n, L[k]? = some r ∧ r.f3 = ((n : Nat) : Int) ∧ Chain L n ks e
structure Good (L : List S39) (i : Nat) : Prop where
  h : ∃ r e, L[i]? = some r ∧ r.f3 = ((e : Nat) : Int) ∧ i < e ∧ r.f4 < i ∧ (0 ≤ r.f4 → ∃ rp, L[r.f4.toNat]? = some rp ∧ r.f3 ≤ rp.f3) ∧ Chain L (i + 1) ((List.range L.length).filter (pars L i)) e
def Sub (L : List S39) (o : Nat) (M : List S39) : Prop := ∀ j, j < M.length → L[o + j]? = M[j]?
def Out (L : List S39) (o n : Nat) : Prop := ∀ j r, L[j]? = some r → j < o ∨ o + n ≤ j → r.f4 < (o : Int) ∨ ((o + n : Nat) : Int) ≤ r.f4
theorem Sub.left {L M N : List S39} {o : Nat} (h : Sub L o (M ++ N)) : Sub L o M := fun j hj => by
  rw [h j (by rw [List.length_append]; omega), List.getElem?_append_left hj]
theorem Sub.right {L M N : List S39} {o : Nat} (h : Sub L o (M ++ N)) : Sub L (o + M.length) N := fun j hj => by
  rw [show o + M.length + j = o + (M.length + j) by omega, h (M.length + j) (by rw [List.length_append]; omega), List.getElem?_append_right (by omega), Nat.add_sub_cancel_left]
theorem Sub.row {L M : List S39} {o : Nat} (h : Sub L o M) {j : Nat} {r : S39} (hr : L[j]? = some r) (h1 : o ≤ j) (h2 : j < o + M.length) : M[j - o]? = some r := by
  rw [← h (j - o) (by omega), show o + (j - o) = j by omega]; exact hr
theorem filter_none {p : Nat → Bool} : ∀ (n a : Nat), (∀ j, a ≤ j → j < a + n → p j = false) → (List.range' a n).filter p = []
  | 0, a, h => rfl
  | n + 1, a, h => by
    rw [List.range'_succ, List.filter_cons_of_neg (by rw [h a (by omega) (by omega)]; simp)]
    exact filter_none n (a + 1) fun j h1 h2 => h j (by omega) (by omega)
theorem pars_false {L : List S39} {i j : Nat} (h : ∀ r, L[j]? = some r → r.f4 ≠ i) : pars L i j = false := by
  unfold pars
  split
  · rename_i r hr
    exact decide_eq_false (h r hr)
  · rfl
theorem pars_true {L : List S39} {i j : Nat} {r : S39} (h : L[j]? = some r) (e : r.f4 = i) : pars L i j = true := by
  unfold pars
  rw [h]
  exact decide_eq_true e
/-- The starts of what lies side by side. -/
theorem starts_filter : ∀ (xs : List S27) (i o : Nat) (L : List S39), i < o → Sub L o (FNs xs i o) → (List.range' o (cntNs xs)).filter (pars L i) = starts xs o
  | [], i, o, L, hi, h => by rw [cntNs, starts]; rfl
  | x :: xs, i, o, L, hi, h => by
    have hp := cntN_pos x
    rw [FNs] at h
    have h2 := h.right
    rw [FN_len] at h2
    have ih := starts_filter xs i (o + cntN x) L (by omega) h2
    have h1 := h.left
    obtain ⟨m, hm⟩ : ∃ m, cntN x = m + 1 := ⟨cntN x - 1, by omega⟩
    have hL := h1 0 (by rw [FN_len]; omega)
    rw [Nat.add_zero] at hL
    obtain ⟨r, hr⟩ : ∃ r, (FN x i o)[0]? = some r := ⟨_, List.getElem?_eq_getElem (by rw [FN_len]; omega)⟩
    rw [hr] at hL
    have hr0 := FN_row x i o 0 r hr
    rw [cntNs, ← List.range'_append_1, List.filter_append, ih, starts, hm, List.range'_succ, List.filter_cons_of_pos (pars_true hL (by omega)), filter_none m (o + 1) fun j ha hb => pars_false fun r' hr' => ?_]
    · rfl
    · have := FN_row x i o (j - o) r' (h1.row hr' (by omega) (by rw [FN_len]; omega))
      omega
theorem chain_starts : ∀ (xs : List S27) (i o : Nat) (L : List S39), Sub L o (FNs xs i o) → Chain L o (starts xs o) (o + cntNs xs)
  | [], i, o, L, h => by rw [starts, Chain, cntNs]; rfl
  | x :: xs, i, o, L, h => by
    have hp := cntN_pos x
    rw [FNs] at h
    have h2 := h.right
    rw [FN_len] at h2
    have ih := chain_starts xs i (o + cntN x) L h2
    have hL := h.left 0 (by rw [FN_len]; omega)
    rw [Nat.add_zero] at hL
    obtain ⟨r, hr⟩ : ∃ r, (FN x i o)[0]? = some r := ⟨_, List.getElem?_eq_getElem (by rw [FN_len]; omega)⟩
    rw [hr] at hL
    have hr0 := FN_row x i o 0 r hr
    rw [starts, Chain, cntNs, ← Nat.add_assoc]
    exact ⟨rfl, r, _, hL, by omega, ih⟩
mutual
theorem good_node : ∀ (x : S27) (par : Int) (o : Nat) (L : List S39), Sub L o (FN x par o) → Out L o (cntN x) → par < o → (0 ≤ par → ∃ rp, L[par.toNat]? = some rp ∧ (o + cntN x : Int) ≤ rp.f3) → o + cntN x ≤ L.length → ∀ i, o ≤ i → i < o + cntN x → Good L i
  | ⟨a0, a1, a2, s3, e, kids, ws⟩, par, o, L, h, ho, hp, hpp, hlen, i, h1, h2 => by
    rw [FN] at h
    rw [cntN] at ho hpp h2 hlen
    have hL := h 0 (by rw [List.length_cons]; omega)
    rw [Nat.add_zero, List.getElem?_cons_zero] at hL
    have hS : Sub L (o + 1) (FNs kids o (o + 1)) := fun j hj => by
      have := h (j + 1) (by rw [List.length_cons]; omega)
      rw [List.getElem?_cons_succ] at this
      rw [← this, show o + 1 + j = o + (j + 1) by omega]
    by_cases hi : i = o
    · subst hi
      refine ⟨_, i + cntNs kids + 1, hL, rfl, by omega, hp, fun hp0 => ?_, ?_⟩
      · obtain ⟨rp, e1, e2⟩ := hpp hp0
        exact ⟨rp, e1, by simp only; omega⟩
      · have hc := chain_starts kids i (i + 1) L hS
        rw [show i + cntNs kids + 1 = i + 1 + cntNs kids by omega]
        have e1 : (List.range L.length).filter (pars L i) = starts kids (i + 1) := by
          obtain ⟨m, hm⟩ : ∃ m, L.length = (i + 1) + (cntNs kids + m) := ⟨L.length - (i + 1 + cntNs kids), by omega⟩
          have a1 : List.range' 0 ((i + 1) + (cntNs kids + m)) = List.range' 0 (i + 1) ++ (List.range' (i + 1) (cntNs kids) ++ List.range' (i + 1 + cntNs kids) m) := by
            rw [List.range'_append_1]
            have := @List.range'_append_1 0 (i + 1) (cntNs kids + m)
            rw [Nat.zero_add] at this
            exact this.symm
          rw [List.range_eq_range', hm, a1, List.filter_append, List.filter_append, starts_filter kids i (i + 1) L (by omega) hS,
            filter_none (i + 1) 0 fun j ha hb => pars_false fun r hr => ?_, filter_none m (i + 1 + cntNs kids) fun j ha hb => pars_false fun r hr => ?_, List.nil_append, List.append_nil]
          · have := ho j r hr (.inr (by omega))
            omega
          · by_cases hj : j = i
            · subst hj
              rw [hL] at hr
              obtain rfl := Option.some.inj hr
              simp only
              omega
            · have := ho j r hr (.inl (by omega))
              omega
        rw [e1]
        exact hc
    · refine good_nodes kids o (o + 1) L hS (fun j r hr hj => ?_) (by omega) ⟨_, hL, by simp only; omega⟩ (by omega) i (by omega) (by omega)
      rcases hj with hj | hj
      · by_cases hj2 : j = o
        · subst hj2
          rw [hL] at hr
          obtain rfl := Option.some.inj hr
          simp only
          omega
        · have := ho j r hr (.inl (by omega))
          omega
      · have := ho j r hr (.inr (by omega))
        omega
theorem good_nodes : ∀ (xs : List S27) (i o : Nat) (L : List S39), Sub L o (FNs xs i o) → Out L o (cntNs xs) → i < o → (∃ rp, L[i]? = some rp ∧ (o + cntNs xs : Int) ≤ rp.f3) → o + cntNs xs ≤ L.length → ∀ j, o ≤ j → j < o + cntNs xs → Good L j
  | [], i, o, L, h, ho, hi, hrp, hlen, j, h1, h2 => by rw [cntNs] at h2; omega
  | x :: xs, i, o, L, h, ho, hi, hrp, hlen, j, h1, h2 => by
    have hp := cntN_pos x
    obtain ⟨rp, e1, e2⟩ := hrp
    rw [FNs] at h
    rw [cntNs] at ho e2 h2 hlen
    have hS2 := h.right
    rw [FN_len] at hS2
    have hS1 := h.left
    by_cases hj : j < o + cntN x
    · refine good_node x i o L hS1 (fun k r hr hk => ?_) (by omega) (fun _ => ⟨rp, by rw [Int.toNat_natCast]; exact e1, by omega⟩) (by omega) j h1 hj
      rcases hk with hk | hk
      · have := ho k r hr (.inl hk)
        omega
      · by_cases hk2 : k < o + (cntN x + cntNs xs)
        · have := FNs_row xs i (o + cntN x) (by omega) _ r (hS2.row hr hk (by rw [FNs_len]; omega))
          omega
        · have := ho k r hr (.inr (by omega))
          omega
    · refine good_nodes xs i (o + cntN x) L hS2 (fun k r hr hk => ?_) (by omega) ⟨rp, e1, by omega⟩ (by omega) j (by omega) (by omega)
      rcases hk with hk | hk
      · by_cases hk2 : k < o
        · have := ho k r hr (.inl hk2)
          omega
        · have := FN_row x i o _ r (hS1.row hr (by omega) (by rw [FN_len]; omega))
          omega
      · have := ho k r hr (.inr (by omega))
        omega
end
/-- What holds of each place. -/
theorem lay_good (x : S27) (i : Nat) (hi : i < cntN x) : Good (lay x (-1) []) i ∧ ∃ r, (lay x (-1) [])[i]? = some r ∧ (r.f4 < 0 ↔ i = 0) := by
  have e : lay x (-1) [] = FN x (-1) 0 := by rw [lay_FN]; rfl
  rw [e]
  refine ⟨good_node x (-1) 0 _ (fun j hj => by rw [Nat.zero_add]) (fun j r hr hj => ?_) (by omega) (by omega) (by rw [FN_len]; omega) i (by omega) (by omega), ?_⟩
  · have := (List.getElem?_eq_some_iff.1 hr).1
    rw [FN_len] at this
    omega
  · obtain ⟨r, hr⟩ : ∃ r, (FN x (-1) 0)[i]? = some r := ⟨_, List.getElem?_eq_getElem (by rw [FN_len]; exact hi)⟩
    have := FN_row x (-1) 0 i r hr
    exact ⟨r, hr, by omega⟩
end Go.Proofs.Ytfgpdpccfpilaaa.OpenFlatOrder
