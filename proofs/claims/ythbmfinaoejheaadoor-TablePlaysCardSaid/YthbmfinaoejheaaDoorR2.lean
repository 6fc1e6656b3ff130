/- The reference's table: Get, Set. -/
import Derived.Test.YthbmfinaoejheaaDoorR1
set_option linter.unusedVariables false
namespace Go.Proofs.YthbmfinaoejheaaDoor
open Go.RowKit
theorem hasR_eq (cs : List Int) (R : List TRow) (row comp : Int) : hasR cs R row comp = (decide (comp ∈ cs) && (decide (0 ≤ row) && decide (row < (R.length : Int)))) := by
  unfold hasR
  rw [Bool.decide_and, Bool.decide_and]
set_option maxHeartbeats 6400000 in
theorem rget_does (q m : Nat) (hm : m < 65536) (R : List TRow) (row comp : Int) : Does Tryd.prog 20 #[.pointer (some ⟨q, 0, none⟩), .int .i64 row, .int .i64 comp] (isRt q m R) (fun e B => e = .returned (.tuple #[.int .i64 (getV (bitsN m) R row comp), .bool (hasR (bitsN m) R row comp)]) ∧ B = isRt q m R) := by
  refine Does.of fun w F hS => ?_
  obtain ⟨A, c, hc, hn, hS⟩ := rt_open hS.toL
  obtain ⟨V, hV⟩ : ∃ V, getV (bitsN m) R row comp = V := ⟨_, rfl⟩
  have hh := hasR_eq (bitsN m) R row comp
  rw [hV]
  have q0 := (hS.cellAt 0 rfl 0).trans rfl
  have q1 := (hS.cellAt 0 rfl 1).trans rfl
  by_cases h0 : row < 0
  · have t0 : decide (row < 0) = true := decide_eq_true h0
    rw [decide_eq_false (show ¬ 0 ≤ row by omega), Bool.false_and, Bool.and_false] at hh
    obtain rfl : V = 0 := by rw [← hV]; unfold getV; rw [hh]; rfl
    rw [hh]
    clear hh hV h0
    go_enter Tryd.func20, Tryd.ntmps20
    go_wp2
    go_ret2
    exact At.post (rt_close hS).ofL ⟨rfl, rfl⟩
  · have t0 : decide (row < 0) = false := decide_eq_false h0
    by_cases h1 : (R.length : Int) ≤ row
    · have t1 : decide ((R.length : Int) ≤ row) = true := decide_eq_true h1
      rw [decide_eq_false (show ¬ row < (R.length : Int) by omega), Bool.and_false, Bool.and_false] at hh
      obtain rfl : V = 0 := by rw [← hV]; unfold getV; rw [hh]; rfl
      rw [hh]
      clear hh hV h0 h1
      go_enter Tryd.func20, Tryd.ntmps20
      go_wp2
      go_ret2
      exact At.post (rt_close hS).ofL ⟨rfl, rfl⟩
    · have HH := As.mk (has_blk q m hm comp w q0)
      obtain ⟨k, rfl⟩ : ∃ k : Nat, row = (k : Int) := ⟨row.toNat, by omega⟩
      have t1 : decide ((R.length : Int) ≤ (k : Int)) = false := decide_eq_false h1
      have t1' : decide (R.length ≤ k) = false := decide_eq_false (by omega)
      rw [decide_eq_true (show (0 : Int) ≤ (k : Int) by omega), decide_eq_true (show (k : Int) < (R.length : Int) by omega), Bool.and_true, Bool.and_true] at hh
      by_cases hcm : comp ∈ bitsN m
      · rw [decide_eq_true hcm] at HH hh
        have hb := (mem_bitsN m comp).1 hcm
        obtain ⟨j, rfl⟩ : ∃ j : Nat, comp = (j : Int) := ⟨comp.toNat, by omega⟩
        obtain ⟨x, hx⟩ : ∃ x, R[k]? = some x := ⟨_, List.getElem?_eq_getElem (by omega)⟩
        obtain rfl : V = x.2 j := by rw [← hV]; unfold getV valR; rw [hh]; simp [hx]
        obtain ⟨gr, rfl, hgr, hcell⟩ := (hS.rowAt 1 rfl).cell encRow_len k _ hx
        have c0 := (hcell (2 + j) (by omega)).1
        rw [encRow_at x j (by omega)] at c0
        have HC := As.mk c0
        have m0 : (k : Int) < (R.length : Int) := by omega
        have m1 : (j : Int) < 16 := hb.2.1
        rw [hh]
        clear hh hV h0 h1 hcm hb hx hcell c0
        go_enter Tryd.func20, Tryd.ntmps20
        go_wp2_with fail
        refine HH.out.mono ?_
        rintro e w1 ⟨rfl, hb⟩
        have hS1 := hS.below hb
        have c0 := (hb.cell (p := ⟨gr, k * 18 + (2 + j), none⟩) hgr).trans HC.out
        rw [← Nat.add_assoc] at c0
        clear q0 q1 hS hb
        have q0 := (hS1.cellAt 0 rfl 0).trans rfl
        have q1 := (hS1.cellAt 0 rfl 1).trans rfl
        go_wp2_with fail
        go_ret2
        exact At.post (rt_close hS1).ofL ⟨rfl, rfl⟩
      · rw [decide_eq_false hcm] at HH hh
        obtain rfl : V = 0 := by rw [← hV]; unfold getV; rw [hh]; rfl
        rw [hh]
        clear hh hV h0 h1 hcm
        go_enter Tryd.func20, Tryd.ntmps20
        go_wp2_with fail
        refine HH.out.mono ?_
        rintro e w1 ⟨rfl, hb⟩
        have hS1 := hS.below hb
        clear q0 q1 hS hb
        go_wp2_with fail
        go_ret2
        exact At.post (rt_close hS1).ofL ⟨rfl, rfl⟩
theorem modify_set {α : Type} : ∀ (R : List α) (k : Nat) (x : α), R[k]? = some x → ∀ f : α → α, R.modify k f = R.set k (f x)
  | [], k, x, h, f => by simp at h
  | y :: R, 0, x, h, f => by
    simp at h
    subst h
    rfl
  | y :: R, k + 1, x, h, f => by
    have := modify_set R k x (by simpa using h) f
    simp [List.modify_succ_cons, this]
set_option maxHeartbeats 6400000 in
theorem rset_does (q m : Nat) (hm : m < 65536) (R : List TRow) (row comp v : Int) : Does Tryd.prog 19 #[.pointer (some ⟨q, 0, none⟩), .int .i64 row, .int .i64 comp, .int .i64 v] (isRt q m R) (fun e B => e = .returned (.bool (hasR (bitsN m) R row comp)) ∧ B = isRt q m (setR (bitsN m) R row comp v)) := by
  refine Does.of fun w F hS => ?_
  obtain ⟨A, c, hc, hn, hS⟩ := rt_open hS.toL
  obtain ⟨V, hV⟩ : ∃ V, setR (bitsN m) R row comp v = V := ⟨_, rfl⟩
  have hh := hasR_eq (bitsN m) R row comp
  rw [hV]
  have q0 := (hS.cellAt 0 rfl 0).trans rfl
  have q1 := (hS.cellAt 0 rfl 1).trans rfl
  by_cases h0 : row < 0
  · have t0 : decide (row < 0) = true := decide_eq_true h0
    rw [decide_eq_false (show ¬ 0 ≤ row by omega), Bool.false_and, Bool.and_false] at hh
    obtain rfl : V = R := by rw [← hV]; unfold setR; rw [hh]; rfl
    rw [hh]
    clear hh hV h0
    go_enter Tryd.func19, Tryd.ntmps19
    go_wp2
    go_ret
    exact At.post (rt_close hS).ofL ⟨rfl, rfl⟩
  · have t0 : decide (row < 0) = false := decide_eq_false h0
    by_cases h1 : (R.length : Int) ≤ row
    · have t1 : decide ((R.length : Int) ≤ row) = true := decide_eq_true h1
      rw [decide_eq_false (show ¬ row < (R.length : Int) by omega), Bool.and_false, Bool.and_false] at hh
      obtain rfl : V = R := by rw [← hV]; unfold setR; rw [hh]; rfl
      rw [hh]
      clear hh hV h0 h1
      go_enter Tryd.func19, Tryd.ntmps19
      go_wp2
      go_ret
      exact At.post (rt_close hS).ofL ⟨rfl, rfl⟩
    · have HH := As.mk (has_blk q m hm comp w q0)
      obtain ⟨k, rfl⟩ : ∃ k : Nat, row = (k : Int) := ⟨row.toNat, by omega⟩
      have t1 : decide ((R.length : Int) ≤ (k : Int)) = false := decide_eq_false h1
      have t1' : decide (R.length ≤ k) = false := decide_eq_false (by omega)
      rw [decide_eq_true (show (0 : Int) ≤ (k : Int) by omega), decide_eq_true (show (k : Int) < (R.length : Int) by omega), Bool.and_true, Bool.and_true] at hh
      by_cases hcm : comp ∈ bitsN m
      · rw [decide_eq_true hcm] at HH hh
        have hb := (mem_bitsN m comp).1 hcm
        obtain ⟨j, rfl⟩ : ∃ j : Nat, comp = (j : Int) := ⟨comp.toNat, by omega⟩
        obtain ⟨x, hx⟩ : ∃ x, R[k]? = some x := ⟨_, List.getElem?_eq_getElem (by omega)⟩
        obtain rfl : V = R.set k (x.1, upd x.2 j v) := by rw [← hV]; unfold setR; rw [hh, if_pos rfl, Int.toNat_natCast]; exact modify_set R k x hx _
        obtain ⟨gr, rfl, hgr, hcell⟩ := (hS.rowAt 1 rfl).cell encRow_len k _ hx
        have HJ : As (j < 16) := ⟨by omega⟩
        have HXX := As.mk hx
        have m0 : (k : Int) < (R.length : Int) := by omega
        have m1 : (j : Int) < 16 := hb.2.1
        rw [hh]
        clear hh hV h0 h1 hcm hb hx hcell
        go_enter Tryd.func19, Tryd.ntmps19
        go_wp2_with fail
        refine HH.out.mono ?_
        rintro e w1 ⟨rfl, hb⟩
        have hS1 := hS.below hb
        have c0 := (hS1.rowAt 1 rfl).at_ encRow_len k x HXX.out (2 + j) (by have := HJ.out; omega)
        rw [encRow_at x j HJ.out, ← Nat.add_assoc] at c0
        have c1 := c0.1
        have f1 := c0.2
        have hS2 := hS1.setAt 1 rfl encRow_len k (2 + j) x (x.1, upd x.2 j v) (.int .i64 v) HXX.out (by have := HJ.out; omega) (encRow_set x.1 x.2 j HJ.out v)
        rw [← Nat.add_assoc] at hS2
        have HS2 := As.mk hS2
        clear c0 hS2
        clear q0 q1 hS hb
        have q0 := (hS1.cellAt 0 rfl 0).trans rfl
        have q1 := (hS1.cellAt 0 rfl 1).trans rfl
        go_wp2_with fail
        go_ret
        exact At.post (rt_close (by have h := HS2.out; exact h)).ofL ⟨rfl, rfl⟩
      · rw [decide_eq_false hcm] at HH hh
        obtain rfl : V = R := by rw [← hV]; unfold setR; rw [hh]; rfl
        rw [hh]
        clear hh hV h0 h1 hcm
        go_enter Tryd.func19, Tryd.ntmps19
        go_wp2_with fail
        refine HH.out.mono ?_
        rintro e w1 ⟨rfl, hb⟩
        have hS1 := hS.below hb
        clear q0 q1 hS hb
        go_wp2_with fail
        go_ret
        exact At.post (rt_close hS1).ofL ⟨rfl, rfl⟩
end Go.Proofs.YthbmfinaoejheaaDoor
