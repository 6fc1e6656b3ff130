/- alive; HeapSorts answers true for every list; no conditions. -/
import Derived.Test.YthnojjlaicajhaaJ
import Derived.Deep.RegionWith
import Derived.Deep.DeepCutAuto
namespace Go.Proofs.Ythnojjlaicajhaa
open Go.RowKit
theorem pop_cons (p : Nat) (x : Item) (xs : List Item) (hh : Heaped (x :: xs)) (hm : xs.length < 1000000) : Does Try.prog 11 #[.pointer (some ⟨p, 0, none⟩)] (isHp 40 p (x :: xs))
    (fun e B => ∃ ys, Heaped ys ∧ (x :: ys).Perm (x :: xs) ∧ e = .returned (.tuple #[x.val, .bool true]) ∧ B = isHp 40 p ys) := by
  intro w F hA
  by_cases hx : xs = []
  · subst hx
    refine (pop_one p x w F hA).mono fun e w' h => ?_
    obtain ⟨B, F', ⟨h1, h2⟩, h3⟩ := h
    exact ⟨B, F', ⟨[], heaped_nil, List.Perm.refl _, h1, h2⟩, h3⟩
  · refine (pop_more p x xs hx hh hm w F hA).mono fun e w' h => ?_
    obtain ⟨B, F', ⟨h1, ys, h2, h4, h5⟩, h3⟩ := h
    exact ⟨B, F', ⟨ys, h2, h4, h1, h5⟩, h3⟩
set_option maxHeartbeats 6400000 in
theorem alive_does (w : World) : Calls Try.prog 5 #[] w fun e w' => e = .returned (.bool true) ∧ Below w.heap.size w w' := by
  have hS : At (fun _ => False) w w (Hp.seps []) := At.start0 (Below.refl _ _)
  go_enter Try.func5, Try.ntmps5
  go_wp2_with fail
  refine (hS.callNew new_does).mono ?_
  rintro e w1 ⟨B, ⟨p, rfl, rfl⟩, hS1⟩
  go_wp2_with fail
  refine (hS1.callAt 0 rfl (pop_nil p)).mono ?_
  rintro e w2 ⟨B, ⟨rfl, rfl⟩, hS2⟩
  clear hS hS1
  go_wp2_with fail
  refine ((hS2.below (by repeat (first | exact Below.refl _ _ | refine bl_drewN ?_ _ | refine Below.drew ?_ | refine bl_alloc ?_ _ | refine bl_set ?_ (by first | (simp; done) | omega | (simp; omega)) _))).callAt 0 rfl (push_does p [] ⟨3, 0, 0⟩ heaped_nil (by simp))).mono ?_
  rintro e w3 ⟨B, ⟨rfl, ys, hh, hp, rfl⟩, hS3⟩
  obtain rfl : ys = [⟨3, 0, 0⟩] := List.perm_singleton.1 hp
  clear hp hh hS2
  go_wp2_with fail
  refine (hS3.callAt 0 rfl (peek_cons p ⟨3, 0, 0⟩ [])).mono ?_
  rintro e w4 ⟨B, ⟨rfl, rfl⟩, hS4⟩
  clear hS3
  unfold Item.val
  go_wp2_with (go_at_call 10; refine ((hS4.below (by repeat (first | exact Below.refl _ _ | refine bl_drewN ?_ _ | refine Below.drew ?_ | refine bl_alloc ?_ _ | refine bl_set ?_ (by first | (simp; done) | omega | (simp; omega)) _))).callAt 0 rfl (len_does p [⟨3, 0, 0⟩])).mono ?_; rintro e w5 ⟨B, ⟨rfl, rfl⟩, hS5⟩)
  go_ret
  exact ⟨rfl, hS5.bl⟩
end Go.Proofs.Ythnojjlaicajhaa
