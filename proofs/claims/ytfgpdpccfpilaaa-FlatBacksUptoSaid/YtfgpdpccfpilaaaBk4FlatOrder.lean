/- A laid tree in closed form; the machine puts it back. Plain. -/
import Derived.Test.YtfgpdpccfpilaaaBk2FlatOrder
set_option linter.unusedVariables false
set_option linter.unusedSimpArgs false
namespace Go.Proofs.Ytfgpdpccfpilaaa.OpenFlatOrder
open Go.RowKit Go.Deep
open Go.Proofs.YtfgpdpccfpilaaaW.PrintWords Go.Proofs.YtfgpdpccfpilaaaW.PrintLast Go.Proofs.YtfgpdpccfpilaaaW.PrintMore Go.Proofs.Ytfgpdpccfpilaaa.PFlatOrder
mutual
def fl : S27 → Int → Nat → List S39
  | ⟨a0, a1, a2, s3, e, kids, ws⟩, par, b => ⟨a0, a1, a2, ((b + (cntNs kids + 1) : Nat) : Int), par, s3, e, ws⟩ :: fls kids b (b + 1)
def fls : List S27 → Nat → Nat → List S39
  | [], _, _ => []
  | x :: xs, p, b => fl x (p : Int) b ++ fls xs p (b + cntN x)
end
mutual
theorem fl_len : ∀ (x : S27) (par : Int) (b : Nat), (fl x par b).length = cntN x
  | ⟨a0, a1, a2, s3, e, kids, ws⟩, par, b => by rw [fl, List.length_cons, fls_len kids, cntN]
theorem fls_len : ∀ (xs : List S27) (p b : Nat), (fls xs p b).length = cntNs xs
  | [], p, b => by rw [fls, cntNs]; rfl
  | x :: xs, p, b => by rw [fls, List.length_append, fl_len x, fls_len xs, cntNs]
end
mutual
theorem lay_eq : ∀ (x : S27) (par : Int) (l : List S39), lay x par l = l ++ fl x par l.length
  | ⟨a0, a1, a2, s3, e, kids, ws⟩, par, l => by
    rw [lay, lays_eq kids, fl]
    unfold endAt
    rw [List.length_append, List.length_append, fls_len]
    simp only [List.length_singleton]
    rw [List.append_assoc, List.getElem?_append_right (Nat.le_refl _), Nat.sub_self]
    simp only [List.singleton_append, List.getElem?_cons_zero, rowOf]
    rw [List.set_append_right _ _ (Nat.le_refl _), Nat.sub_self, List.set_cons_zero, List.length_append, List.length_singleton, show l.length + 1 + cntNs kids = l.length + (cntNs kids + 1) by omega]
theorem lays_eq : ∀ (xs : List S27) (i : Nat) (l : List S39), lays xs i l = l ++ fls xs i l.length
  | [], i, l => by rw [lays, fls, List.append_nil]
  | x :: xs, i, l => by rw [lays, lays_eq xs, lay_eq x, fls, List.append_assoc, List.length_append, fl_len]
end
theorem cntN_pos (x : S27) : 1 ≤ cntN x := by
  obtain ⟨a0, a1, a2, s3, e, kids, ws⟩ := x
  rw [cntN]
  omega
def Seg (L : List S39) (b : Nat) (s : List S39) : Prop := ∀ j, j < s.length → L[b + j]? = s[j]?
theorem Seg.head {L : List S39} {b : Nat} {y : S39} {s : List S39} (h : Seg L b (y :: s)) : L[b]? = some y := by
  have := h 0 (by simp)
  simpa using this
theorem Seg.tail {L : List S39} {b : Nat} {y : S39} {s : List S39} (h : Seg L b (y :: s)) : Seg L (b + 1) s := fun j hj => by
  have := h (j + 1) (by simpa using hj)
  rw [List.getElem?_cons_succ] at this
  rw [← this]
  congr 1
  omega
theorem Seg.left {L : List S39} {b : Nat} {s t : List S39} (h : Seg L b (s ++ t)) : Seg L b s := fun j hj => by
  have := h j (by simp; omega)
  rwa [List.getElem?_append_left hj] at this
theorem Seg.right {L : List S39} {b : Nat} {s t : List S39} (h : Seg L b (s ++ t)) : Seg L (b + s.length) t := fun j hj => by
  have := h (s.length + j) (by simp; omega)
  rw [List.getElem?_append_right (by omega), Nat.add_sub_cancel_left] at this
  rw [← this]
  congr 1
  omega
/-- A stack on which a node may stand that ends at e. -/
def Fit (L : List S39) (b e : Nat) (p : Int) (S : Stk) : Prop := topI S = p ∧ e ≤ L.length ∧ (S = [] → b = 0) ∧ ∀ i x r, S = (i, x) :: r → (e : Int) ≤ endI L i
theorem popw_stay (L : List S39) (at_ k : Nat) (i : Nat) (x : S27) (r : Stk) (h : endI L i ≠ (at_ : Int)) : popw L at_ k ((i, x) :: r) = (i, x) :: r := by
  cases k with
  | zero => rfl
  | succ k =>
    cases r with
    | nil => rfl
    | cons q r => obtain ⟨j, y⟩ := q; rw [popw, if_neg h]
theorem popw_go (L : List S39) (at_ k : Nat) (i j : Nat) (x y : S27) (r : Stk) (h : endI L i = (at_ : Int)) : popw L at_ (k + 1) ((i, x) :: (j, y) :: r) = popw L at_ k ((j, addK y x) :: r) := by rw [popw, if_pos h]
theorem step_at {L : List S39} {b e : Nat} {p : Int} {S : Stk} {y : S39} (hy : L[b]? = some y) (he : y.f3 = (e : Int)) (hp : y.f4 = p) (hbe : b < e) (hF : Fit L b e p S) (hr : runB L b = some S) :
    runB L (b + 1) = some (popw L (b + 1) (S.length + 1) ((b, nodeOf y) :: S)) := by
  obtain ⟨h1, h2, h3, h4⟩ := hF
  have hb1 : bad1 L b y S = false := by
    unfold bad1
    rw [h1, hp, he]
    have e1 : (p != p) = false := by simp
    have e2 : decide ((e : Int) ≤ (b : Int)) = false := decide_eq_false (by omega)
    have e3 : decide ((L.length : Int) < (e : Int)) = false := decide_eq_false (by omega)
    rw [e1, e2, e3]
    cases S with
    | nil => rw [h3 rfl]; simp
    | cons q r =>
      obtain ⟨i, x⟩ := q
      have h5 : ¬ p < 0 := by rw [← h1]; simp only [topI]; omega
      rw [decide_eq_false h5]; rfl
  have hb2 : bad2 L y S = false := by
    cases S with
    | nil => rfl
    | cons q r =>
      obtain ⟨i, x⟩ := q
      have := h4 i x r rfl
      unfold bad2
      rw [he]
      exact decide_eq_false (by omega)
  rw [runB, hr, Option.bind_some, stepB, hy]
  simp [hb1, hb2]
mutual
theorem run_fl : ∀ (x : S27) (L : List S39) (b : Nat) (p : Int) (S : Stk), Seg L b (fl x p b) → Fit L b (b + cntN x) p S → runB L b = some S → runB L (b + cntN x) = some (popw L (b + cntN x) (S.length + 1) ((b, x) :: S))
  | ⟨a0, a1, a2, s3, e, kids, ws⟩, L, b, p, S, hs, hF, hr => by
    rw [fl] at hs
    rw [cntN] at hF ⊢
    have h1 := step_at hs.head rfl rfl (by omega) hF hr
    have hE : endI L b = ((b + (cntNs kids + 1) : Nat) : Int) := by unfold endI; rw [hs.head]
    have h2 := run_fls kids L b (b + 1) ⟨a0, a1, a2, s3, e, [], ws⟩ S hs.tail (by rw [hE]; omega) (by have := hF.2.1; omega) h1
    rw [show b + 1 + cntNs kids = b + (cntNs kids + 1) by omega] at h2
    exact h2
theorem run_fls : ∀ (ks : List S27) (L : List S39) (b pos : Nat) (x : S27) (S : Stk), Seg L pos (fls ks b pos) → endI L b = ((pos + cntNs ks : Nat) : Int) → pos + cntNs ks ≤ L.length → runB L pos = some (popw L pos (S.length + 1) ((b, x) :: S)) →
    runB L (pos + cntNs ks) = some (popw L (pos + cntNs ks) (S.length + 1) ((b, { x with f5 := x.f5 ++ ks }) :: S))
  | [], L, b, pos, x, S, hs, hE, hl, hr => by
    obtain ⟨x0, x1, x2, x3, x4, x5, x6⟩ := x
    rw [cntNs, Nat.add_zero, List.append_nil]
    exact hr
  | k :: ks, L, b, pos, x, S, hs, hE, hl, hr => by
    rw [fls] at hs
    rw [cntNs] at hE hl ⊢
    have hk := cntN_pos k
    rw [popw_stay _ _ _ _ _ _ (by rw [hE]; omega)] at hr
    have hF : Fit L pos (pos + cntN k) (b : Int) ((b, x) :: S) := ⟨rfl, by omega, (fun h => by cases h), (fun i y r h => by
      injection h with h1 h2
      injection h1 with h1 h3
      rw [← h1, hE]
      omega)⟩
    have h1 := run_fl k L pos (b : Int) ((b, x) :: S) hs.left hF hr
    have hE2 : endI L pos = ((pos + cntN k : Nat) : Int) := by
      have h2 := hs.left
      obtain ⟨a0, a1, a2, s3, e, kids, ws⟩ := k
      rw [fl] at h2
      unfold endI
      rw [h2.head, cntN]
    rw [List.length_cons, popw_go _ _ _ _ _ _ _ _ hE2] at h1
    have hsr := hs.right
    rw [fl_len] at hsr
    have h3 := run_fls ks L b (pos + cntN k) (addK x k) S hsr (by rw [hE]; omega) (by omega) h1
    rw [show pos + (cntN k + cntNs ks) = pos + cntN k + cntNs ks by omega, h3]
    simp [addK]
end
theorem back_lay (x : S27) : backB (fl x (-1) 0) = some x := by
  have hl := fl_len x (-1) 0
  have h := run_fl x (fl x (-1) 0) 0 (-1) [] (fun j hj => by rw [Nat.zero_add]) ⟨rfl, by omega, fun _ => rfl, fun i y r h => by cases h⟩ rfl
  rw [Nat.zero_add, ← hl] at h
  have hE : endI (fl x (-1) 0) 0 = ((fl x (-1) 0).length : Int) := by
    rw [hl]
    obtain ⟨a0, a1, a2, s3, e, kids, ws⟩ := x
    unfold endI
    rw [fl, cntN]
    simp
  unfold backB
  rw [h]
  simp only [List.length_nil, popw]
  rw [if_pos hE]
/-! a part of a laid tree -/
mutual
theorem part_fl : ∀ (x : S27) (p : Int) (b j : Nat), j < cntN x → ∃ y q, ((fl x p b).drop j).take (cntN y) = fl y q (b + j) ∧ j + cntN y ≤ cntN x ∧ szN y ≤ szN x
  | ⟨a0, a1, a2, s3, e, kids, ws⟩, p, b, 0, h => ⟨⟨a0, a1, a2, s3, e, kids, ws⟩, p, by rw [List.drop_zero, List.take_of_length_le (by rw [fl_len]; exact Nat.le_refl _), Nat.add_zero], by omega, Nat.le_refl _⟩
  | ⟨a0, a1, a2, s3, e, kids, ws⟩, p, b, j + 1, h => by
    rw [cntN] at h
    obtain ⟨y, q, h1, h2, h3⟩ := part_fls kids b (b + 1) j (by omega)
    refine ⟨y, q, ?_, by rw [cntN]; omega, by rw [szN]; omega⟩
    rw [fl, List.drop_succ_cons, h1]
    congr 1
    omega
theorem part_fls : ∀ (xs : List S27) (p b j : Nat), j < cntNs xs → ∃ y q, ((fls xs p b).drop j).take (cntN y) = fl y q (b + j) ∧ j + cntN y ≤ cntNs xs ∧ szN y ≤ szNs xs
  | [], p, b, j, h => by rw [cntNs] at h; omega
  | x :: xs, p, b, j, h => by
    rw [cntNs] at h
    have hlx := fl_len x (p : Int) b
    by_cases hj : j < cntN x
    · obtain ⟨y, q, h1, h2, h3⟩ := part_fl x (p : Int) b j hj
      refine ⟨y, q, ?_, by rw [cntNs]; omega, by rw [szNs]; omega⟩
      rw [fls, List.drop_append_of_le_length (by omega), List.take_append_of_le_length (by rw [List.length_drop]; omega), h1]
    · obtain ⟨y, q, h1, h2, h3⟩ := part_fls xs p (b + cntN x) (j - cntN x) (by omega)
      refine ⟨y, q, ?_, by rw [cntNs]; omega, by rw [szNs]; omega⟩
      rw [fls, List.drop_append, List.drop_of_length_le (by omega), List.nil_append, hlx, h1]
      congr 1
      omega
end
def shf (d : Int) (r : S39) : S39 := { r with f3 := r.f3 - d, f4 := r.f4 - d }
mutual
theorem shf_fl : ∀ (x : S27) (p : Int) (b d : Nat), (fl x p (b + d)).map (shf d) = fl x (p - d) b
  | ⟨a0, a1, a2, s3, e, kids, ws⟩, p, b, d => by
    rw [fl, fl, List.map_cons, show b + d + 1 = b + 1 + d by omega, shf_fls kids b (b + 1) d]
    congr 1
    unfold shf
    simp only
    congr 1
    omega
theorem shf_fls : ∀ (xs : List S27) (p b d : Nat), (fls xs (p + d) (b + d)).map (shf d) = fls xs p b
  | [], p, b, d => by rw [fls, fls]; rfl
  | x :: xs, p, b, d => by
    rw [fls, fls, List.map_append, shf_fl x _ b d, show b + d + cntN x = b + cntN x + d by omega, shf_fls xs p _ d]
    congr 2
    omega
end
/-- The first one's Parent. -/
def rooted : List S39 → List S39
  | [] => []
  | r :: l => { r with f4 := -1 } :: l
theorem rooted_fl (x : S27) (p : Int) (b : Nat) : rooted (fl x p b) = fl x (-1) b := by
  obtain ⟨a0, a1, a2, s3, e, kids, ws⟩ := x
  rw [fl, fl, rooted]
end Go.Proofs.Ytfgpdpccfpilaaa.OpenFlatOrder
