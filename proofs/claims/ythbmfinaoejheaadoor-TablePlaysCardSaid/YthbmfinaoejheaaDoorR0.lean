/- The reference's table in memory: has, Row, Get, Set. -/
import Derived.Test.YthbmfinaoejheaaDoorTM2
set_option linter.unusedVariables false
namespace Go.Proofs.YthbmfinaoejheaaDoor
open Go.RowKit
def encRow (x : TRow) : List Value := .int .i64 x.1.1 :: .int .i64 x.1.2 :: (List.range 16).map fun k : Nat => .int .i64 (x.2 k)
theorem encRow_len (x : TRow) : (encRow x).length = 18 := by simp [encRow]
theorem one_row (x : TRow) : ∀ u ∈ encRow x, u.oneCell' = true := by
  intro u hu
  simp only [encRow, List.mem_cons, List.mem_map] at hu
  rcases hu with rfl | rfl | ⟨k, _, rfl⟩ <;> rfl
theorem encRow_at (x : TRow) (c : Nat) (h : c < 16) : (encRow x)[2 + c]? = some (.int .i64 (x.2 c)) := by
  unfold encRow
  rw [Nat.add_comm, List.getElem?_cons_succ, List.getElem?_cons_succ]
  simp [h]
theorem encRow_set (id : Int × Int) (f : Int → Int) (c : Nat) (h : c < 16) (v : Int) : encRow (id, upd f c v) = (encRow (id, f)).set (2 + c) (.int .i64 v) := by
  unfold encRow
  rw [Nat.add_comm 2 c, List.set_cons_succ, List.set_cons_succ]
  congr 2
  apply List.ext_getElem?
  intro j
  simp only [List.getElem?_map, List.getElem?_set]
  by_cases hj : c = j
  · subst hj
    simp [h, upd]
  · rw [if_neg hj]
    cases hr : (List.range 16)[j]? with
    | none => rfl
    | some y =>
      have hy : y = j := by
        have := (List.getElem?_eq_some_iff.1 hr).2
        simpa using this.symm
      subst hy
      have : ¬ ((y : Int) = (c : Int)) := by omega
      simp [upd, this]
theorem Tryd.infoR : (Tryd.prog.info? 70).map (fun i => (i.zero.isSome, i.size, i.bytes)) = some (true, 18, 144) := by kernel_rfl
def isRt (q m : Nat) (R : List TRow) : Hp := Hp.ex fun sv => Hp.seps [Hp.blk q #[.int .u16 (m : Nat), sv] 67, Hp.row 70 18 encRow sv R]
section
variable {F0 : Nat → Prop} {w0 w : World} {q m : Nat} {R : List TRow} {r : List Hp}
theorem rt_open (h : At F0 w0 w (Hp.seps (isRt q m R :: r))) : ∃ A c, R.length ≤ c ∧ R.length ≤ 9223372036854775807 ∧ At F0 w0 w (Hp.seps (Hp.blk q #[.int .u16 (m : Nat), .slice A R.length c] 67 :: Hp.row 70 18 encRow (.slice A R.length c) R :: r)) := by
  obtain ⟨sv, h⟩ := h.openAt (f := fun sv => [Hp.blk q #[.int .u16 (m : Nat), sv] 67, Hp.row 70 18 encRow sv R]) 0 rfl
  obtain ⟨A, c, rfl, h1, h2⟩ := (h.rowAt 1 rfl).shape
  exact ⟨A, c, h1, h2, h⟩
theorem rt_close {sv : Value} (h : At F0 w0 w (Hp.seps (Hp.blk q #[.int .u16 (m : Nat), sv] 67 :: Hp.row 70 18 encRow sv R :: r))) : At F0 w0 w (Hp.seps (isRt q m R :: r)) :=
  At.closeL (f := fun sv => [Hp.blk q #[.int .u16 (m : Nat), sv] 67, Hp.row 70 18 encRow sv R]) sv h
end
set_option maxHeartbeats 3200000 in
theorem has_blk (q m : Nat) (hm : m < 65536) (comp : Int) (w : World) (hp : w.cell? ⟨q, 0, none⟩ = some (.int .u16 (m : Nat))) : Calls Tryd.prog 31 #[.pointer (some ⟨q, 0, none⟩), .int .i64 comp] w fun e w' => e = .returned (.bool (decide (comp ∈ bitsN m))) ∧ Below w.heap.size w w' := by
  have hnot := not_bit m comp
  by_cases h0 : comp < 0
  · have t0 : decide (0 ≤ comp) = false := decide_eq_false (by omega)
    rw [hnot (.inl h0)]
    clear hnot h0
    go_enter Tryd.func31, Tryd.ntmps31
    go_wp2
    go_ret
    exact ⟨rfl, Below.refl _ _⟩
  · by_cases h16 : comp < 16
    · obtain ⟨k, rfl⟩ : ∃ k : Nat, comp = (k : Int) := ⟨comp.toNat, by omega⟩
      have t1 : decide ((k : Int) < 16) = true := decide_eq_true h16
      have e2 : (k : Int) % 18446744073709551616 = (k : Int) := by omega
      have hmin : min k 16 = k := Nat.min_eq_left (by omega)
      have hB := bit_val m k hm (by omega)
      obtain ⟨B, hBB⟩ : ∃ B, decide ((k : Int) ∈ bitsN m) = B := ⟨_, rfl⟩
      rw [hBB]
      have hv : bits .and .u16 ((m : Int) / 2 ^ k) 1 = if B then 1 else 0 := by
        rw [hB]
        by_cases h : (k : Int) ∈ bitsN m
        · rw [if_pos h]; rw [decide_eq_true h] at hBB; rw [← hBB]; rfl
        · rw [if_neg h]; rw [decide_eq_false h] at hBB; rw [← hBB]; rfl
      clear hnot h0 hB hBB h16
      cases B with
      | true =>
        simp only [if_true] at hv
        go_enter Tryd.func31, Tryd.ntmps31
        go_wp2
        go_ret
        exact ⟨rfl, Below.refl _ _⟩
      | false =>
        simp only [Bool.false_eq_true, if_false] at hv
        go_enter Tryd.func31, Tryd.ntmps31
        go_wp2
        go_ret
        exact ⟨rfl, Below.refl _ _⟩
    · have t0 : decide (0 ≤ comp) = true := decide_eq_true (by omega)
      have t1 : decide (comp < 16) = false := decide_eq_false h16
      rw [hnot (.inr (by omega))]
      clear hnot h0 h16
      go_enter Tryd.func31, Tryd.ntmps31
      go_wp2
      go_ret
      exact ⟨rfl, Below.refl _ _⟩
end Go.Proofs.YthbmfinaoejheaaDoor
