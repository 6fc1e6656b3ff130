/- Which lists are laid trees: the machine puts back just those. Plain. -/
import Derived.Test.YtfgpdpccfpilaaaPtFlatOrder
set_option linter.unusedVariables false
set_option linter.unusedSimpArgs false
namespace Go.Proofs.Ytfgpdpccfpilaaa.OpenFlatOrder
open Go.RowKit Go.Deep
open Go.Proofs.YtfgpdpccfpilaaaW.PrintWords Go.Proofs.YtfgpdpccfpilaaaW.PrintLast Go.Proofs.YtfgpdpccfpilaaaW.PrintMore Go.Proofs.Ytfgpdpccfpilaaa.PFlatOrder
theorem cntNs_zero (r : List S27) (h : cntNs r = 0) : r = [] := by
  cases r with
  | nil => rfl
  | cons k r => have := cntN_pos k; rw [cntNs] at h; omega
theorem cntNs_app : ∀ (a b : List S27), cntNs (a ++ b) = cntNs a + cntNs b
  | [], b => by rw [List.nil_append, cntNs]; omega
  | x :: a, b => by rw [List.cons_append, cntNs, cntNs, cntNs_app a b]; omega
theorem fls_app : ∀ (a b : List S27) (p pos : Nat), fls (a ++ b) p pos = fls a p pos ++ fls b p (pos + cntNs a)
  | [], b, p, pos => by rw [List.nil_append, fls, List.nil_append, cntNs, Nat.add_zero]
  | x :: a, b, p, pos => by rw [List.cons_append, fls, fls, fls_app a b, List.append_assoc, cntNs, Nat.add_assoc]
theorem Seg.app {L : List S39} {b : Nat} {s t : List S39} (h1 : Seg L b s) (h2 : Seg L (b + s.length) t) : Seg L b (s ++ t) := fun j hj => by
  by_cases hl : j < s.length
  · rw [List.getElem?_append_left hl]; exact h1 j hl
  · rw [List.getElem?_append_right (by omega)]
    have h3 := h2 (j - s.length) (by rw [List.length_append] at hj; omega)
    rw [← h3]
    congr 1
    omega
theorem Seg.cons {L : List S39} {b : Nat} {y : S39} {s : List S39} (h1 : L[b]? = some y) (h2 : Seg L (b + 1) s) : Seg L b (y :: s) := fun j hj => by
  cases j with
  | zero => simpa using h1
  | succ j =>
    rw [List.getElem?_cons_succ, ← h2 j (by simpa using hj)]
    congr 1
    omega
mutual
theorem seg_uniq : ∀ (x x' : S27) (L : List S39) (b : Nat) (p p' : Int), Seg L b (fl x p b) → Seg L b (fl x' p' b) → x = x'
  | ⟨a0, a1, a2, s3, e, kids, ws⟩, ⟨b0, b1, b2, t3, e', kids', ws'⟩, L, b, p, p', h, h' => by
    rw [fl] at h h'
    have h1 := h.head
    rw [h'.head] at h1
    have h1 := Option.some.inj h1
    simp only [S39.mk.injEq] at h1
    obtain ⟨r0, r1, r2, r3, _, r5, r6, r7⟩ := h1
    obtain ⟨r, hr⟩ := seg_prefix kids kids' L b (b + 1) h.tail h'.tail (by omega)
    have hz : cntNs r = 0 := by rw [hr, cntNs_app] at r3; omega
    rw [cntNs_zero r hz, List.append_nil] at hr
    rw [r0, r1, r2, r5, r6, r7, hr]
theorem seg_prefix : ∀ (ks ks' : List S27) (L : List S39) (b pos : Nat), Seg L pos (fls ks b pos) → Seg L pos (fls ks' b pos) → cntNs ks ≤ cntNs ks' → ∃ r, ks' = ks ++ r
  | [], ks', L, b, pos, _, _, _ => ⟨ks', rfl⟩
  | k :: ks, [], L, b, pos, _, _, h => by have := cntN_pos k; rw [cntNs, cntNs] at h; omega
  | k :: ks, k' :: ks', L, b, pos, h, h', hc => by
    rw [fls] at h h'
    have e := seg_uniq k k' L pos b b h.left h'.left
    subst e
    rw [cntNs, cntNs] at hc
    have h1 := h.right
    have h2 := h'.right
    rw [fl_len] at h1 h2
    obtain ⟨r, hr⟩ := seg_prefix ks ks' L b (pos + cntN k) h1 h2 (by omega)
    exact ⟨r, by rw [hr]; rfl⟩
end
/-- What a stack tells of the rows ahead of i. -/
def InvS (l : List S39) : Nat → Stk → Prop
  | i, [] => i = 0
  | i, (b, x) :: r => (∃ y, l[b]? = some y ∧ nodeOf y = { x with f5 := [] } ∧ y.f4 = topI r) ∧ i = b + 1 + cntNs x.f5 ∧ Seg l (b + 1) (fls x.f5 b (b + 1)) ∧ InvS l b r
theorem fl_of_row {l : List S39} {b : Nat} {x : S27} {y : S39} {p : Int} (hy : l[b]? = some y) (hn : nodeOf y = { x with f5 := [] }) (hp : y.f4 = p) (he : y.f3 = ((b + 1 + cntNs x.f5 : Nat) : Int)) (hs : Seg l (b + 1) (fls x.f5 b (b + 1))) : Seg l b (fl x p b) := by
  obtain ⟨a0, a1, a2, s3, e, kids, ws⟩ := x
  obtain ⟨y0, y1, y2, y3, y4, y5, y6, y7⟩ := y
  simp only [nodeOf, S27.mk.injEq] at hn he hp
  obtain ⟨rfl, rfl, rfl, rfl, rfl, _, rfl⟩ := hn
  rw [fl]
  refine Seg.cons ?_ hs
  rw [hy, he, hp, show b + 1 + cntNs kids = b + (cntNs kids + 1) by omega]
theorem inv_pop {l : List S39} {i b j : Nat} {t x : S27} {r : Stk} (h : InvS l i ((b, t) :: (j, x) :: r)) (he : endI l b = (i : Int)) : InvS l i ((j, addK x t) :: r) := by
  obtain ⟨⟨y, hy, hn, hp⟩, hi, hs, ⟨z, hz, hzn, hzp⟩, hb, hsx, hr⟩ := h
  have hE : y.f3 = (i : Int) := by unfold endI at he; rw [hy] at he; exact he
  have hseg := fl_of_row hy hn hp (by rw [hE, hi]) hs
  have ht : cntN t = 1 + cntNs t.f5 := by obtain ⟨a0, a1, a2, s3, e, kids, ws⟩ := t; rw [cntN]; simp only; omega
  refine ⟨⟨z, hz, ?_, hzp⟩, ?_, ?_, hr⟩
  · rw [hzn]; rfl
  · simp only [addK]
    rw [cntNs_app, cntNs, cntNs, ht]
    omega
  · simp only [addK]
    rw [fls_app, fls, fls, List.append_nil]
    refine hsx.app ?_
    rw [fls_len, ← hb]
    exact hseg
theorem inv_popw (l : List S39) (i : Nat) : ∀ (k : Nat) (S : Stk), InvS l i S → InvS l i (popw l i k S)
  | 0, S, h => h
  | k + 1, [], h => h
  | k + 1, [_], h => h
  | k + 1, (b, t) :: (j, x) :: r, h => by
    rw [popw]
    split
    · rename_i he
      exact inv_popw l i k _ (inv_pop h he)
    · exact h
theorem inv_run (l : List S39) : ∀ (i : Nat) (S : Stk), runB l i = some S → InvS l i S
  | 0, S, h => by rw [runB] at h; rw [← Option.some.inj h]; rfl
  | i + 1, S, h => by
    rw [runB] at h
    obtain ⟨S0, h0, h1⟩ := Option.bind_eq_some_iff.1 h
    have hI := inv_run l i S0 h0
    unfold stepB at h1
    cases hy : l[i]? with
    | none => rw [hy] at h1; cases h1
    | some y =>
      rw [hy] at h1
      simp only at h1
      split at h1
      · cases h1
      · rename_i hb1
        split at h1
        · cases h1
        · rw [← Option.some.inj h1]
          refine inv_popw l (i + 1) _ _ ⟨⟨y, hy, ?_, ?_⟩, ?_, ?_, hI⟩
          · rfl
          · have hb : bad1 l i y S0 = false := by simpa using hb1
            unfold bad1 at hb
            have h2 : (y.f4 != topI S0) = false := by
              cases h3 : (y.f4 != topI S0) with
              | false => rfl
              | true => rw [h3] at hb; simp at hb
            simpa using h2
          · simp [nodeOf, cntNs]
          · simp only [nodeOf]
            intro j hj
            rw [fls] at hj
            simp at hj
theorem back_only (l : List S39) (x : S27) (h : backB l = some x) : l = fl x (-1) 0 := by
  unfold backB at h
  split at h
  · rename_i b x' hr
    split at h
    · rename_i hE
      obtain rfl := Option.some.inj h
      obtain ⟨⟨y, hy, hn, hp⟩, hi, hs, hb⟩ := inv_run l _ _ hr
      have hb0 : b = 0 := hb
      subst hb0
      have hy3 : y.f3 = ((0 + 1 + cntNs x'.f5 : Nat) : Int) := by unfold endI at hE; rw [hy] at hE; rw [← hi]; exact hE
      have hseg := fl_of_row hy hn hp hy3 hs
      have hcn : cntN x' = 1 + cntNs x'.f5 := by obtain ⟨a0, a1, a2, s3, e, kids, ws⟩ := x'; rw [cntN]; simp only; omega
      apply List.ext_getElem?
      intro j
      by_cases hj : j < l.length
      · have h2 := hseg j (by rw [fl_len, hcn]; omega)
        rw [Nat.zero_add] at h2
        exact h2
      · rw [List.getElem?_eq_none (by omega), List.getElem?_eq_none (by rw [fl_len, hcn]; omega)]
    · cases h
  · cases h
theorem back_iff (l : List S39) (x : S27) : backB l = some x ↔ l = fl x (-1) 0 := ⟨back_only l x, fun h => by rw [h]; exact back_lay x⟩
end Go.Proofs.Ytfgpdpccfpilaaa.OpenFlatOrder
