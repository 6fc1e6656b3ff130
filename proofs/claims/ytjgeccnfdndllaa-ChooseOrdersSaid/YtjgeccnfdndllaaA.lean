/- The best of a row of whole numbers. -/
import Derived.Test.YtjgeccnfdndllaaOwn
import Derived.Test.YtjgeccnfdndllaaProg
namespace Go.Proofs.Ytjgeccnfdndllaa
open Go.RowKit
def encInt (x : Int) : List Value := [.int .i64 x]
theorem encInt_len (x : Int) : (encInt x).length = 1 := rfl
/-- `r` is the place of the greatest of the first `n`, the first of those alike; below 0 where there is none. -/
def IsBest (n : Nat) (xs : List Int) (r : Int) : Prop :=
  (n = 0 ∧ r = -1) ∨ (0 ≤ r ∧ r < n ∧ ∃ m, xs[r.toNat]? = some m ∧ (∀ i x, i < n → xs[i]? = some x → x ≤ m) ∧ ∀ (i : Nat) x, (i : Int) < r → xs[i]? = some x → x < m)
theorem IsBest.first {xs : List Int} {x r : Int} (hx : xs[0]? = some x) (hr : r = 0) : IsBest 1 xs r := by
  subst hr
  refine .inr ⟨by omega, by omega, x, hx, ?_, ?_⟩
  · intro i y hi hy
    have : i = 0 := by omega
    subst this
    rw [hx] at hy; injection hy; omega
  · intro i y hi; omega
theorem IsBest.more {xs : List Int} {x m r : Int} {n : Nat} (h : IsBest n xs r) (h0 : 0 ≤ r) (hm : xs[r.toNat]? = some m) (hx : xs[n]? = some x) (hlt : m < x) : IsBest (n + 1) xs n := by
  rcases h with ⟨h1, h2⟩ | ⟨h1, h2, m', hm', h3, h4⟩
  · omega
  · rw [hm] at hm'; injection hm' with e; subst e
    refine .inr ⟨by omega, by omega, x, by simpa using hx, ?_, ?_⟩
    · intro i y hi hy
      by_cases hin : i = n
      · subst hin; rw [hx] at hy; injection hy; omega
      · have := h3 i y (by omega) hy; omega
    · intro i y hi hy
      have := h3 i y (by omega) hy; omega
theorem IsBest.stay {xs : List Int} {x m r : Int} {n : Nat} (h : IsBest n xs r) (h0 : 0 ≤ r) (hm : xs[r.toNat]? = some m) (hx : xs[n]? = some x) (hle : x ≤ m) : IsBest (n + 1) xs r := by
  rcases h with ⟨h1, h2⟩ | ⟨h1, h2, m', hm', h3, h4⟩
  · omega
  · rw [hm] at hm'; injection hm' with e; subst e
    refine .inr ⟨h1, by omega, m, hm, ?_, h4⟩
    intro i y hi hy
    by_cases hin : i = n
    · subst hin; rw [hx] at hy; injection hy; omega
    · exact h3 i y (by omega) hy
theorem IsBest.lt {xs : List Int} {r : Int} {n : Nat} (h : IsBest n xs r) : r < n := by
  rcases h with ⟨h1, h2⟩ | ⟨h1, h2, _⟩ <;> omega

set_option maxHeartbeats 1600000 in
theorem best_does (v : Value) (xs : List Int) (w : World) (h : Rd w 1 encInt v xs) : Calls Try.prog 7 #[v] w fun e w' => (∃ r, e = .returned (.int .i64 r) ∧ IsBest xs.length xs r) ∧ Below w.heap.size w w' := by
  obtain ⟨A, c, rfl, hc, hn⟩ := h.shape
  have HD := As.mk h
  clear h
  go_enter Try.func7, Try.ntmps7
  go_wp2
  go_loopw [3, 8] (fun o i wr => ∃ (k : Nat) (r : Int), k ≤ xs.length ∧ i = .int .i64 k ∧ o = .int .i64 r ∧ As (IsBest k xs r) ∧ As (Below w.heap.size w wr)) (fun _ i _ => xs.length - (intOf i).toNat)
  case atStart => exact ⟨0, -1, by omega, rfl, rfl, ⟨.inl ⟨rfl, rfl⟩⟩, ⟨(by repeat (first | exact Below.refl _ _ | refine bl_drewN ?_ _ | refine Below.drew ?_ | refine bl_alloc ?_ _ | refine bl_set ?_ (by first | (simp; done) | omega | (simp; omega)) _))⟩⟩
  case round =>
    obtain ⟨k, r, hk, rfl, rfl, HB, HW⟩ := hrel
    by_cases hlt : k < xs.length
    · obtain ⟨x, hx⟩ : ∃ x, xs[k]? = some x := ⟨_, List.getElem?_eq_getElem hlt⟩
      obtain ⟨b, off, rfl, hb, hcell⟩ := (HD.out.below HW.out).cells _ _ _ rfl k x hx
      have c0 := hcell 0 (by omega)
      simp only [encInt, List.getElem?_cons_zero, Nat.add_zero, Nat.mul_one] at c0
      have HX := As.mk hx
      have d0 : decide ((k : Int) < xs.length) = true := decide_eq_true (by omega)
      clear hcell hx
      by_cases hr : r < 0
      · have d1 : decide (r < 0) = true := decide_eq_true hr
        go_wp2
        refine ⟨⟨k + 1, k, by omega, by go_num, by go_num, ⟨?_⟩, HW⟩, by simp [intOf]; omega⟩
        rcases HB.out with ⟨h1, h2⟩ | ⟨h1, h2, _⟩
        · subst h1; exact IsBest.first HX.out rfl
        · omega
      · have hr0 : 0 ≤ r := by omega
        have hrl := HB.out.lt
        obtain ⟨m, hm⟩ : ∃ m, xs[r.toNat]? = some m := ⟨_, List.getElem?_eq_getElem (by omega)⟩
        obtain ⟨b2, off2, he, hb2, hcell⟩ := (HD.out.below HW.out).cells _ _ _ rfl r.toNat m hm
        injection he with he; injection he with he1 he2; subst he1; subst he2
        have c1 := hcell 0 (by omega)
        simp only [encInt, List.getElem?_cons_zero, Nat.add_zero, Nat.mul_one] at c1
        have d1 : decide (r < 0) = false := decide_eq_false hr
        have HM := As.mk hm
        clear hcell hm
        by_cases hgt : m < x
        · have d2 : decide (m < x) = true := decide_eq_true hgt
          go_wp2
          exact ⟨⟨k + 1, k, by omega, by go_num, by go_num, ⟨HB.out.more hr0 HM.out HX.out hgt⟩, HW⟩, by simp [intOf]; omega⟩
        · have d2 : decide (m < x) = false := decide_eq_false hgt
          go_wp2
          exact ⟨⟨k + 1, r, by omega, by go_num, by go_num, ⟨HB.out.stay hr0 HM.out HX.out (by omega)⟩, HW⟩, by simp [intOf]; omega⟩
    · have d0 : decide ((k : Int) < xs.length) = false := decide_eq_false (by omega)
      have hk2 : k = xs.length := by omega
      subst hk2
      go_wp2
      go_ret
      exact ⟨⟨r, rfl, HB.out⟩, HW.out⟩
end Go.Proofs.Ytjgeccnfdndllaa
