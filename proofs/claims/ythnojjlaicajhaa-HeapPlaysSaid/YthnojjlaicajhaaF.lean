/- lesser, and Pop. -/
import Derived.Test.YthnojjlaicajhaaE
import Derived.IntWalk
namespace Go.Proofs.Ythnojjlaicajhaa
open Go.RowKit
theorem ahead_true (a b : Item) (w : World) (h : a.lt b) : Calls Try.prog 16 #[a.val, b.val] w fun e w' => e = .returned (.bool true) ∧ Below w.heap.size w w' := by
  have := ahead_does a b w
  rw [decide_eq_true h] at this
  exact this
theorem ahead_false (a b : Item) (w : World) (h : ¬ a.lt b) : Calls Try.prog 16 #[a.val, b.val] w fun e w' => e = .returned (.bool false) ∧ Below w.heap.size w w' := by
  have := ahead_does a b w
  rw [decide_eq_false h] at this
  exact this
set_option maxHeartbeats 3200000 in
theorem lesser_does (p : Nat) (xs : List Item) (i : Nat) (hi : i < xs.length) (hm : xs.length ≤ 1000000) : Does Try.prog 15 #[.pointer (some ⟨p, 0, none⟩), .int .i64 (i : Nat)] (isHp 40 p xs)
    (fun e B => ∃ k : Nat, k < xs.length ∧ isLesser (fn xs) xs.length i k ∧ e = .returned (.int .i64 (k : Nat)) ∧ B = isHp 40 p xs) := by
  refine Does.of fun w F hS => ?_
  obtain ⟨sA, sc, hsc, hn, hS⟩ := hp_open hS
  have h0 := (hS.cellAt 0 rfl 0).trans rfl
  have hp := hS.ltAt 0 rfl
  by_cases h1 : 2 * i + 1 < xs.length
  · obtain ⟨a, ha⟩ : ∃ a, xs[2 * i + 1]? = some a := ⟨_, List.getElem?_eq_getElem h1⟩
    have d0 : decide ((xs.length : Int) ≤ 2 * (i : Int) + 1) = false := decide_eq_false (by omega)
    have e1 : IntKind.i64.wrap (2 * (i : Int) + 1 + 1) = 2 * (i : Int) + 2 := by rw [IntWalk.i64_in _ (by omega)]; omega
    by_cases h2 : 2 * i + 2 < xs.length
    · obtain ⟨b, hb⟩ : ∃ b, xs[2 * i + 2]? = some b := ⟨_, List.getElem?_eq_getElem h2⟩
      obtain ⟨gs, rfl, hgs⟩ := row_ptr (hS.rowAt 1 rfl) _ a ha
      obtain ⟨c0, c1, c2, _⟩ := item_cells (hS.rowAt 1 rfl) _ a ha
      obtain ⟨b0, b1, b2, _⟩ := item_cells (hS.rowAt 1 rfl) _ b hb
      have d1 : decide (2 * (i : Int) + 2 < (xs.length : Int)) = true := decide_eq_true (by omega)
      have n0 : (0 : Int) ≤ 2 * (i : Int) + 1 := by omega
      have n1 : (2 * (i : Int) + 1).toNat = 2 * i + 1 := by omega
      have n2 : (0 : Int) ≤ 2 * (i : Int) + 2 := by omega
      have m0 : 2 * (i : Int) + 1 < (xs.length : Int) := by omega
      have m1 : 2 * (i : Int) + 2 < (xs.length : Int) := by omega
      have n3 : (2 * (i : Int) + 2).toNat = 2 * i + 2 := by omega
      have HA := As.mk ha
      have HB := As.mk hb
      clear ha hb
      obtain ⟨a1, a2, a3⟩ := a
      obtain ⟨x1, x2, x3⟩ := b
      simp only at c0 c1 c2 b0 b1 b2
      by_cases hlt : Item.lt ⟨x1, x2, x3⟩ ⟨a1, a2, a3⟩
      · have HAh := As.mk (fun w => ahead_true ⟨x1, x2, x3⟩ ⟨a1, a2, a3⟩ w hlt)
        have HL : As (isLesser (fn xs) xs.length i (2 * i + 2)) := ⟨.inl ⟨h1, .inr rfl, h2, fun j hj hjn => by
          rcases hj with rfl | rfl
          · rw [fn_some HA.out, fn_some HB.out]; exact Item.asymm hlt
          · exact Item.irrefl _⟩⟩
        unfold Item.val at HAh
        clear hlt
        go_enter Try.func15, Try.ntmps15
        go_wp2
        go_still_tail 24, (by kernel_rfl)
        go_wp2_with fail
        refine (hS.drew.beside (HAh.out _)).mono ?_
        rintro e w1 ⟨rfl, hS1⟩
        clear hS h0 c0 c1 c2 b0 b1 b2
        go_wp2
        go_ret
        exact At.post (hp_close hS1) ⟨2 * i + 2, h2, HL.out, rfl, rfl⟩
      · have HAh := As.mk (fun w => ahead_false ⟨x1, x2, x3⟩ ⟨a1, a2, a3⟩ w hlt)
        have HL : As (isLesser (fn xs) xs.length i (2 * i + 1)) := ⟨.inl ⟨h1, .inl rfl, h1, fun j hj hjn => by
          rcases hj with rfl | rfl
          · exact Item.irrefl _
          · rw [fn_some HA.out, fn_some HB.out]; exact hlt⟩⟩
        unfold Item.val at HAh
        clear hlt
        go_enter Try.func15, Try.ntmps15
        go_wp2
        go_still_tail 24, (by kernel_rfl)
        go_wp2_with fail
        refine (hS.drew.beside (HAh.out _)).mono ?_
        rintro e w1 ⟨rfl, hS1⟩
        clear hS h0 c0 c1 c2 b0 b1 b2
        go_wp2
        go_ret
        exact At.post (hp_close hS1) ⟨2 * i + 1, h1, HL.out, rfl, rfl⟩
    · have d1 : decide (2 * (i : Int) + 2 < (xs.length : Int)) = false := decide_eq_false (by omega)
      have HA := As.mk ha
      clear ha
      go_enter Try.func15, Try.ntmps15
      go_wp2
      go_quiet (fail)
      go_wp2
      go_ret
      exact At.post (hp_close (hS.below (by repeat (first | exact Below.refl _ _ | refine bl_drewN ?_ _ | refine Below.drew ?_ | refine bl_alloc ?_ _ | refine bl_set ?_ (by first | (simp; done) | omega | (simp; omega)) _)))) ⟨2 * i + 1, h1, .inl ⟨h1, .inl rfl, h1, fun j hj hjn => by
          rcases hj with rfl | rfl
          · exact Item.irrefl _
          · omega⟩, rfl, rfl⟩
  · have d0 : decide ((xs.length : Int) ≤ 2 * (i : Int) + 1) = true := decide_eq_true (by omega)
    clear hsc
    go_enter Try.func15, Try.ntmps15
    go_wp2
    go_ret
    exact At.post (hp_close hS) ⟨i, hi, .inr ⟨by omega, rfl⟩, rfl, rfl⟩
end Go.Proofs.Ythnojjlaicajhaa
