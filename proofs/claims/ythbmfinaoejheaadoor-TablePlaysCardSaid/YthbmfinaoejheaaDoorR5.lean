/- The reference's table: Remove. -/
import Derived.Test.YthbmfinaoejheaaDoorR4
import Derived.Laws.IdiomCopy
set_option linter.unusedVariables false
namespace Go.Proofs.YthbmfinaoejheaaDoor
open Go.RowKit
def bitsTo (m k : Nat) : List Int := ((List.range k).filter fun i : Nat => m.testBit i).map fun i : Nat => (i : Int)
theorem bitsTo_snoc (m k : Nat) (hk : k < 16) : bitsTo m (k + 1) = if (k : Int) ∈ bitsN m then bitsTo m k ++ [(k : Int)] else bitsTo m k := by
  have h : ((k : Int) ∈ bitsN m) ↔ m.testBit k = true := by
    rw [mem_bitsN, Int.toNat_natCast]
    exact ⟨fun h => h.2.2, fun h => ⟨by omega, by omega, h⟩⟩
  unfold bitsTo
  rw [List.range_succ, List.filter_append, List.map_append]
  by_cases hb : m.testBit k = true
  · rw [if_pos (h.2 hb)]
    simp [hb]
  · rw [if_neg (fun h2 => hb (h.1 h2))]
    simp [hb]
def mixR (x y : TRow) (j : Nat) : TRow := ((if 0 < j then y.1.1 else x.1.1, if 1 < j then y.1.2 else x.1.2), fun c => if 0 ≤ c ∧ c + 2 < (j : Int) then y.2 c else x.2 c)
theorem encRow_0 (z : TRow) : (encRow z)[0]? = some (.int .i64 z.1.1) := rfl
theorem encRow_1 (z : TRow) : (encRow z)[1]? = some (.int .i64 z.1.2) := rfl
theorem encRow_c (z : TRow) (c : Nat) (h : c < 16) : (encRow z)[c + 2]? = some (.int .i64 (z.2 c)) := by rw [Nat.add_comm]; exact encRow_at z c h
theorem encRow_end (z : TRow) (c : Nat) (h : 16 ≤ c) : (encRow z)[c + 2]? = none := List.getElem?_eq_none (by rw [encRow_len]; omega)
theorem encRow_ext {l : List Value} {z : TRow} (h0 : l[0]? = some (.int .i64 z.1.1)) (h1 : l[1]? = some (.int .i64 z.1.2)) (h2 : ∀ c : Nat, c < 16 → l[c + 2]? = some (.int .i64 (z.2 c))) (hl : l.length = 18) : encRow z = l := by
  apply List.ext_getElem?
  intro i
  match i with
  | 0 => rw [encRow_0, h0]
  | 1 => rw [encRow_1, h1]
  | c + 2 =>
    by_cases h : c < 16
    · rw [encRow_c z c h, h2 c h]
    · rw [encRow_end z c (by omega), List.getElem?_eq_none (by omega)]
theorem mix_set (x y : TRow) (j : Nat) (hj : j < 18) (u : Value) (hu : (encRow y)[j]? = some u) : encRow (mixR x y (j + 1)) = (encRow (mixR x y j)).set j u := by
  match j, hj with
  | 0, _ =>
    rw [encRow_0] at hu
    injection hu with hu
    subst hu
    refine encRow_ext (by simp [encRow_len, mixR]) ?_ ?_ (by simp [encRow_len])
    · rw [List.getElem?_set_ne (by omega), encRow_1]
      simp [mixR]
    · intro c hc
      rw [List.getElem?_set_ne (by omega), encRow_c _ c hc]
      have e1 : ¬ ((c : Int) + 2 < 1) := by omega
      have e0 : ¬ ((c : Int) + 2 < 0) := by omega
      simp [mixR, e1, e0]
  | 1, _ =>
    rw [encRow_1] at hu
    injection hu with hu
    subst hu
    refine encRow_ext ?_ (by simp [encRow_len, mixR]) ?_ (by simp [encRow_len])
    · rw [List.getElem?_set_ne (by omega), encRow_0]
      simp [mixR]
    · intro c hc
      rw [List.getElem?_set_ne (by omega), encRow_c _ c hc]
      have e1 : ¬ ((c : Int) + 2 < 2) := by omega
      have e0 : ¬ ((c : Int) + 2 < 1) := by omega
      simp [mixR, e1, e0]
  | d + 2, hj =>
    rw [encRow_c y d (by omega)] at hu
    injection hu with hu
    subst hu
    refine encRow_ext ?_ ?_ ?_ (by simp [encRow_len])
    · rw [List.getElem?_set_ne (by omega), encRow_0]
      simp [mixR]
    · rw [List.getElem?_set_ne (by omega), encRow_1]
      simp [mixR]
    · intro c hc
      by_cases hcd : c = d
      · subst hcd
        rw [List.getElem?_set_self (by rw [encRow_len]; omega)]
        have e1 : (0 : Int) ≤ (c : Int) ∧ (c : Int) + 2 < ((c + 2 + 1 : Nat) : Int) := by omega
        unfold mixR
        simp only [if_pos e1]
      · rw [List.getElem?_set_ne (by omega), encRow_c _ c hc]
        unfold mixR
        simp only
        by_cases e1 : (0 : Int) ≤ (c : Int) ∧ (c : Int) + 2 < ((d + 2 : Nat) : Int)
        · rw [if_pos e1, if_pos (by omega)]
        · rw [if_neg e1, if_neg (by omega)]
theorem setCells_snoc (g : Nat) (v : Value) : ∀ (vs : List Value) (o : Nat) (w : World), w.setCells g o (vs ++ [v]) = (w.setCells g o vs).setCell ⟨g, o + vs.length, none⟩ v
  | [], o, w => rfl
  | u :: vs, o, w => by
    show (w.setCell ⟨g, o, none⟩ u).setCells g (o + 1) (vs ++ [v]) = _
    rw [setCells_snoc g v vs (o + 1)]
    show _ = ((w.setCell ⟨g, o, none⟩ u).setCells g (o + 1) vs).setCell _ v
    rw [List.length_cons, Nat.add_assoc, Nat.add_comm 1]
theorem setRowAt {F0 : Nat → Prop} {w0 w : World} {l : List Hp} {g k c : Nat} {R : List TRow} (n : Nat) (h : At F0 w0 w (Hp.seps l)) (ha : l[n]? = some (Hp.row 70 18 encRow (.slice (some ⟨g, 0, none⟩) k c) R)) (i : Nat) (x y : TRow) (hx : R[i]? = some x) :
    ∀ j, j ≤ 18 → At F0 w0 (w.setCells g (i * 18) ((encRow y).take j)) (Hp.seps (l.set n (Hp.row 70 18 encRow (.slice (some ⟨g, 0, none⟩) k c) (R.set i (mixR x y j)))))
  | 0, _ => by
    have h1 : mixR x y 0 = x := by
      unfold mixR
      rw [if_neg (by omega), if_neg (by omega)]
      have : (fun c => if 0 ≤ c ∧ c + 2 < ((0 : Nat) : Int) then y.2 c else x.2 c) = x.2 := by
        funext c
        rw [if_neg (by omega)]
      rw [this]
    have hl := (List.getElem?_eq_some_iff.1 hx)
    have h2 : R.set i x = R := by rw [← hl.2]; exact List.set_getElem_self hl.1
    rw [h1, h2, List.take_zero]
    have hn := At.idx_lt ha
    have h3 : l.set n (Hp.row 70 18 encRow (.slice (some ⟨g, 0, none⟩) k c) R) = l := by
      have := (List.getElem?_eq_some_iff.1 ha).2
      rw [← this]
      exact List.set_getElem_self hn
    rw [h3]
    exact h
  | j + 1, hj => by
    have ih := setRowAt n h ha i x y hx j (by omega)
    have hn := At.idx_lt ha
    have hlr := (List.getElem?_eq_some_iff.1 hx).1
    obtain ⟨u, hu⟩ : ∃ u, (encRow y)[j]? = some u := ⟨_, List.getElem?_eq_getElem (by rw [encRow_len]; omega)⟩
    have h1 := ih.setAt n (by rw [List.getElem?_set_self hn]) encRow_len i j (mixR x y j) (mixR x y (j + 1)) u (by rw [List.getElem?_set_self hlr]) (by omega) (mix_set x y j (by omega) u hu)
    rw [List.set_set, List.set_set] at h1
    rw [← take_snoc hu, setCells_snoc, List.length_take, encRow_len, Nat.min_eq_left (by omega)]
    exact h1
theorem row_congr {α : Type} {e size : Nat} {enc : α → List Value} {v : Value} {xs ys : List α} (h : xs.map enc = ys.map enc) : Hp.row e size enc v xs = Hp.row e size enc v ys := by
  have h1 : xs.length = ys.length := by simpa using congrArg List.length h
  have h2 : xs.flatMap enc = ys.flatMap enc := by rw [List.flatMap_def, List.flatMap_def, h]
  unfold Hp.row Rw
  simp only [h1, h2]
theorem rt_congr {q m : Nat} {R S : List TRow} (h : R.map encRow = S.map encRow) : isRt q m R = isRt q m S := by
  unfold isRt
  congr 1
  funext sv
  rw [row_congr h]
theorem mix_all (x y : TRow) : encRow (mixR x y 18) = encRow y := by
  refine encRow_ext ?_ ?_ ?_ (encRow_len _)
  · rw [encRow_0]; simp [mixR]
  · rw [encRow_1]; simp [mixR]
  · intro c hc
    rw [encRow_c y c hc]
    unfold mixR
    simp only
    rw [if_pos (by omega)]
end Go.Proofs.YthbmfinaoejheaaDoor
