/- Items: their order, and the functions that compare them. -/
import Derived.Test.YthnojjlaicajhaaOwn
import Derived.Test.YthnojjlaicajhaaProg
namespace Go.Proofs.Ythnojjlaicajhaa
open Go.RowKit
structure Item where
  key : Int
  seq : Int
  what : Int
deriving DecidableEq
def encItem (x : Item) : List Value := [.int .i64 x.key, .int .i64 x.seq, .int .i64 x.what]
def Item.val (x : Item) : Value := .agg #[.int .i64 x.key, .int .i64 x.seq, .int .i64 x.what]
theorem encItem_len (x : Item) : (encItem x).length = 3 := rfl
def Item.lt (a b : Item) : Prop := a.key < b.key ∨ (a.key = b.key ∧ (a.seq < b.seq ∨ (a.seq = b.seq ∧ a.what < b.what)))
instance (a b : Item) : Decidable (a.lt b) := by unfold Item.lt; exact inferInstance
theorem Item.irrefl (a : Item) : ¬ a.lt a := by unfold Item.lt; omega
theorem Item.trans {a b c : Item} (h : a.lt b) (k : b.lt c) : a.lt c := by unfold Item.lt at *; omega
theorem Item.le_trans {a b c : Item} (h : ¬ b.lt a) (k : ¬ c.lt b) : ¬ c.lt a := by unfold Item.lt at *; omega
theorem Item.asymm {a b : Item} (h : a.lt b) : ¬ b.lt a := by unfold Item.lt at *; omega
theorem Item.antisymm {a b : Item} (h : ¬ a.lt b) (k : ¬ b.lt a) : a = b := by
  cases a; cases b; unfold Item.lt at *; simp only [Item.mk.injEq] at *; omega
def cmp (a b : Int) : Int := if a < b then -1 else if b < a then 1 else 0
def or3 (a b c : Int) : Int := if a ≠ 0 then a else if b ≠ 0 then b else if c ≠ 0 then c else 0
set_option linter.unusedSimpArgs false in
theorem or3_lt (a b : Item) : decide (or3 (cmp a.key b.key) (cmp a.seq b.seq) (cmp a.what b.what) < 0) = decide (a.lt b) := by
  unfold or3 cmp Item.lt
  apply decide_eq_decide.2
  by_cases h1 : a.key < b.key
  · simp [h1]
  · by_cases h2 : b.key < a.key
    · simp [h1, h2]; omega
    · by_cases h3 : a.seq < b.seq
      · have : a.key = b.key := by omega
        simp [h1, h2, h3, this]
      · by_cases h4 : b.seq < a.seq
        · have : a.key = b.key := by omega
          simp [h1, h2, h3, h4, this]; omega
        · have e1 : a.key = b.key := by omega
          have e2 : a.seq = b.seq := by omega
          by_cases h5 : a.what < b.what
          · simp [h5, e1, e2]
          · by_cases h6 : b.what < a.what
            · simp [h5, h6, e1, e2]
            · simp [h5, h6, e1, e2]
set_option maxHeartbeats 1600000 in
theorem before_does (a b : Item) (w : World) : Calls Try.prog 13 #[a.val, b.val] w fun e w' => e = .returned (.bool (decide (a.lt b))) ∧ Below w.heap.size w w' := by
  obtain ⟨a1, a2, a3⟩ := a
  obtain ⟨b1, b2, b3⟩ := b
  generalize hr : decide (Item.lt ⟨a1, a2, a3⟩ ⟨b1, b2, b3⟩) = r
  have HR := As.mk hr
  clear hr
  unfold Item.val
  by_cases h1 : a1 = b1
  · have HR1 := As.mk h1
    have t1 : (a1 != b1) = false := by simp [h1]
    clear h1
    by_cases h2 : a2 = b2
    · have HR2 := As.mk h2
      have t2 : (a2 != b2) = false := by simp [h2]
      clear h2
      have HR3 : As (r = decide (a3 < b3)) := ⟨by rw [← HR.out]; apply decide_eq_decide.2; have := HR1.out; have := HR2.out; unfold Item.lt; simp only; omega⟩
      go_enter Try.func13, Try.ntmps13
      go_wp2
      go_ret
      exact ⟨by rw [HR3.out]; rfl, (by repeat (first | exact Below.refl _ _ | refine bl_drewN ?_ _ | refine Below.drew ?_ | refine bl_alloc ?_ _ | refine bl_set ?_ (by first | (simp; done) | omega | (simp; omega)) _))⟩
    · have HR2 := As.mk h2
      have t2 : (a2 != b2) = true := by simp [h2]
      clear h2
      have HR3 : As (r = decide (a2 < b2)) := ⟨by rw [← HR.out]; apply decide_eq_decide.2; have := HR1.out; have := HR2.out; unfold Item.lt; simp only; omega⟩
      go_enter Try.func13, Try.ntmps13
      go_wp2
      go_ret
      exact ⟨by rw [HR3.out]; rfl, (by repeat (first | exact Below.refl _ _ | refine bl_drewN ?_ _ | refine Below.drew ?_ | refine bl_alloc ?_ _ | refine bl_set ?_ (by first | (simp; done) | omega | (simp; omega)) _))⟩
  · have HR1 := As.mk h1
    have t1 : (a1 != b1) = true := by simp [h1]
    clear h1
    have HR3 : As (r = decide (a1 < b1)) := ⟨by rw [← HR.out]; apply decide_eq_decide.2; have := HR1.out; unfold Item.lt; simp only; omega⟩
    go_enter Try.func13, Try.ntmps13
    go_wp2
    go_ret
    exact ⟨by rw [HR3.out]; rfl, (by repeat (first | exact Below.refl _ _ | refine bl_drewN ?_ _ | refine Below.drew ?_ | refine bl_alloc ?_ _ | refine bl_set ?_ (by first | (simp; done) | omega | (simp; omega)) _))⟩
set_option maxHeartbeats 1600000 in
theorem nan_does (a : Int) (w : World) : Calls Try.prog 19 #[.int .i64 a] w fun e w' => e = .returned (.bool false) ∧ w = w' := by
  go_enter Try.func19, Try.ntmps19
  go_wp2
  go_ret
  exact ⟨by simp, rfl⟩
set_option maxHeartbeats 1600000 in
theorem cmp_does (a b : Int) (w : World) : Calls Try.prog 18 #[.int .i64 a, .int .i64 b] w fun e w' => e = .returned (.int .i64 (cmp a b)) ∧ w = w' := by
  generalize hr : cmp a b = r
  unfold cmp at hr
  by_cases h1 : a < b
  · have t1 : decide (a < b) = true := decide_eq_true h1
    rw [if_pos h1] at hr
    clear h1
    have HR : As (r = -1) := ⟨hr.symm⟩
    clear hr
    go_enter Try.func18, Try.ntmps18
    go_wp2_with (go_at_call 19; refine (nan_does _ _).mono ?_; rintro e w9 ⟨rfl, rfl⟩)
    go_ret
    exact ⟨by rw [HR.out]; rfl, rfl⟩
  · by_cases h2 : b < a
    · have t1 : decide (a < b) = false := decide_eq_false h1
      have t2 : decide (b < a) = true := decide_eq_true h2
      rw [if_neg h1, if_pos h2] at hr
      clear h1 h2
      have HR : As (r = 1) := ⟨hr.symm⟩
      clear hr
      go_enter Try.func18, Try.ntmps18
      go_wp2_with (go_at_call 19; refine (nan_does _ _).mono ?_; rintro e w9 ⟨rfl, rfl⟩)
      go_ret
      exact ⟨by rw [HR.out]; rfl, rfl⟩
    · have t1 : decide (a < b) = false := decide_eq_false h1
      have t2 : decide (b < a) = false := decide_eq_false h2
      rw [if_neg h1, if_neg h2] at hr
      clear h1 h2
      have HR : As (r = 0) := ⟨hr.symm⟩
      clear hr
      go_enter Try.func18, Try.ntmps18
      go_wp2_with (go_at_call 19; refine (nan_does _ _).mono ?_; rintro e w9 ⟨rfl, rfl⟩)
      go_ret
      exact ⟨by rw [HR.out]; rfl, rfl⟩
end Go.Proofs.Ythnojjlaicajhaa
