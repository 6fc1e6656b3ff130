/- swap. -/
import Derived.Test.YthnojjlaicajhaaC
import Derived.Test.YthnojjlaicajhaaP
import Derived.BigRegion
namespace Go.Proofs.Ythnojjlaicajhaa
open Go.RowKit
set_option maxHeartbeats 3200000 in
theorem swap_does (p : Nat) (xs : List Item) (i k : Nat) (a b : Item) (hi : xs[i]? = some a) (hk : xs[k]? = some b) : Does Try.prog 14 #[.pointer (some ⟨p, 0, none⟩), .int .i64 (i : Nat), .int .i64 (k : Nat)] (isHp 40 p xs)
    (fun e B => e = .returned (.bool (decide (a.lt b))) ∧ B = isHp 40 p (if a.lt b then swapL xs i k a b else xs)) := by
  refine Does.of fun w F hS => ?_
  obtain ⟨sA, sc, hsc, hn, hS⟩ := hp_open hS
  have hil : i < xs.length := (List.getElem?_eq_some_iff.1 hi).1
  have hkl : k < xs.length := (List.getElem?_eq_some_iff.1 hk).1
  obtain ⟨gs, rfl, hgs⟩ := row_ptr (hS.rowAt 1 rfl) i a hi
  obtain ⟨c0, c1, c2, _⟩ := item_cells (hS.rowAt 1 rfl) i a hi
  obtain ⟨e0, e1, e2, _⟩ := item_cells (hS.rowAt 1 rfl) k b hk
  have h0 := (hS.cellAt 0 rfl 0).trans rfl
  have hp := hS.ltAt 0 rfl
  generalize hr : isHp 40 p (if a.lt b then swapL xs i k a b else xs) = R
  have HR := As.mk hr
  have HAh := As.mk (ahead_does a b)
  have HI := As.mk hi
  have HK := As.mk hk
  obtain ⟨a1, a2, a3⟩ := a
  obtain ⟨b1, b2, b3⟩ := b
  have d1 : decide ((i : Int) < 0) = false := decide_eq_false (by omega)
  have d2 : decide ((xs.length : Int) ≤ (i : Int)) = false := decide_eq_false (by omega)
  have d3 : decide ((k : Int) < 0) = false := decide_eq_false (by omega)
  have d4 : decide ((xs.length : Int) ≤ (k : Int)) = false := decide_eq_false (by omega)
  clear hsc hr hi hk
  unfold Item.val at HAh
  go_enter Try.func14, Try.ntmps14
  go_wp2
  go_still_tail 14, (by kernel_rfl)
  go_wp2_with fail
  refine (hS.drew.beside (HAh.out _)).mono ?_
  rintro e w1 ⟨rfl, hS1⟩
  clear hS h0 c0 c1 c2 e0 e1 e2 HAh hgs hp
  by_cases hlt : Item.lt ⟨a1, a2, a3⟩ ⟨b1, b2, b3⟩
  · have t1 : decide (Item.lt ⟨a1, a2, a3⟩ ⟨b1, b2, b3⟩) = true := decide_eq_true hlt
    have HR2 : As (R = isHp 40 p ((xs.set i ⟨b1, b2, b3⟩).set k ⟨a1, a2, a3⟩)) := ⟨by rw [← HR.out, if_pos hlt]; rfl⟩
    have hik : i ≠ k := by
      rintro rfl
      have h := HI.out.symm.trans HK.out
      injection h with h
      rw [h] at hlt
      exact Item.irrefl _ hlt
    have q1 : i * 3 ≠ k * 3 := by omega
    have q2 := q1.symm
    have hki := hik.symm
    have hsp : gs ≠ p := hS1.neGB 1 0 rfl rfl (by decide)
    have hps := hsp.symm
    obtain ⟨c0, c1, c2, z0, z1, z2⟩ := item_cells (hS1.rowAt 1 rfl) i _ HI.out
    obtain ⟨e0, e1, e2, y0, y1, y2⟩ := item_cells (hS1.rowAt 1 rfl) k _ HK.out
    have h0 := (hS1.cellAt 0 rfl 0).trans rfl
    simp only at c0 c1 c2 e0 e1 e2
    clear HR hlt
    simp only [t1]
    go_wp2
    go_region
    go_wp2
    go_ret
    have h2 := item_set 1 (item_set 1 hS1 rfl i _ ⟨b1, b2, b3⟩ HI.out) rfl k ⟨b1, b2, b3⟩ ⟨a1, a2, a3⟩ (by rw [List.getElem?_set_ne hik]; exact HK.out)
    exact At.post (hp_close h2.drew) ⟨by rw [t1]; rfl, HR2.out.symm⟩
  · have t1 : decide (Item.lt ⟨a1, a2, a3⟩ ⟨b1, b2, b3⟩) = false := decide_eq_false hlt
    have HR2 : As (R = isHp 40 p xs) := ⟨by rw [← HR.out, if_neg hlt]⟩
    clear HR hlt
    simp only [t1]
    go_wp2
    go_ret
    exact At.post (hp_close hS1) ⟨by rw [t1]; rfl, HR2.out.symm⟩
end Go.Proofs.Ythnojjlaicajhaa
