/- The places of ids: the contracts of Has, Make, Drop, New and All over lists. -/
import Derived.Test.YtkebkmbfglodlaaDoorOwn
import Derived.Test.YtkebkmbfglodlaaDoorProg
namespace Go.Proofs.YtkebkmbfglodlaaDoor.I
open Go.RowKit
def encInt (x : Int) : List Value := [.int .i64 x]
def encSlot (x : Int × Bool) : List Value := [.int .i64 x.1, .bool x.2]
theorem encInt_len (x : Int) : (encInt x).length = 1 := rfl
theorem encSlot_len (x : Int × Bool) : (encSlot x).length = 2 := rfl
def isIds (p : Nat) (room : Int) (slots : List (Int × Bool)) (free : List Int) : Hp where
  H w F := ∃ sv fv, w.heap[p]? = some (.cells #[.int .i64 room, sv, fv] 115 (0, 0)) ∧ Rw w 117 2 encSlot sv slots ∧ Rw w 3 1 encInt fv free ∧ F p ∧ (∀ k, sv.ownBlock = some k → F k) ∧ (∀ k, fv.ownBlock = some k → F k) ∧ ∀ k, F k → k < w.heap.size
  lt := by rintro w F ⟨_, _, _, _, _, _, _, _, h⟩; exact h
  move := by
    rintro w w' F ⟨sv, fv, h1, h2, h3, h4, h5, h6, h7⟩ hm
    exact ⟨sv, fv, (hm _ h4).trans h1, h2.move (fun k hk => hm k (h5 k hk)), h3.move (fun k hk => hm k (h6 k hk)), h4, h5, h6, lt_move h7 hm⟩
def hasB (slots : List (Int × Bool)) (i g : Int) : Bool := decide (0 ≤ i ∧ i < slots.length) && ((slots.getD i.toNat (0, false)).2 && (slots.getD i.toNat (0, false)).1 == g)

set_option maxHeartbeats 400000 in
theorem has_does (p : Nat) (i g room : Int) (slots : List (Int × Bool)) (free : List Int) : Does Tryd.prog 61 #[.pointer (some ⟨p, 0, none⟩), .agg #[.int .i64 i, .int .i64 g]] (isIds p room slots free) (fun e B => e = .returned (.bool (hasB slots i g)) ∧ B = isIds p room slots free) := by
  intro w F hS
  obtain ⟨sv, fv, hb, hs, hf, _, hF1, _, _⟩ := id hS
  obtain ⟨sA, sc, rfl, hsc, hn⟩ := hs.shape
  obtain ⟨fA, fc, rfl, hfc, _⟩ := hf.shape
  have HS := As.mk hS
  clear hS
  have h1 : w.cell? ⟨p, 1, none⟩ = some (.slice sA slots.length sc) := (cell_of_blk hb 1).trans rfl
  have hp := lt_of_blk hb
  have HRs := As.mk hs
  clear hb hs hf hF1 hfc hsc
  generalize hr : hasB slots i g = r
  have HR := As.mk hr
  clear hr
  by_cases hi : 0 ≤ i ∧ i < slots.length
  · obtain ⟨hi0, hi1⟩ := hi
    obtain ⟨x, hx⟩ : ∃ x, slots[i.toNat]? = some x := ⟨_, List.getElem?_eq_getElem (by omega)⟩
    obtain ⟨ig, rfl, hlt, hcell⟩ := HRs.out.cell encSlot_len i.toNat x hx
    have c0 := (hcell 0 (by omega)).1
    have c1 := (hcell 1 (by omega)).1
    simp only [encSlot, List.getElem?_cons_zero, List.getElem?_cons_succ, Nat.add_zero] at c0 c1
    clear hcell
    have HX := As.mk hx
    clear hx
    obtain ⟨x1, x2⟩ := x
    have d1 : decide (i < 0) = false := decide_eq_false (by omega)
    have d2 : decide ((slots.length : Int) ≤ i) = false := decide_eq_false (by omega)
    have HR2 : As (r = (x2 && x1 == g)) := ⟨by
      rw [← HR.out]; unfold hasB
      rw [decide_eq_true ⟨hi0, hi1⟩, List.getD_eq_getElem?_getD, HX.out]; rfl⟩
    clear HR
    go_enter Tryd.func61, Tryd.ntmps61
    go_wp2
    go_quiet (fail)
    go_wp2
    cases x2 with
    | true =>
      go_region
      all_goals go_wp2
      all_goals go_ret
      all_goals exact Post.same HS.out (by repeat (first | exact Below.refl _ _ | refine bl_drewN ?_ _ | refine Below.drew ?_ | refine bl_alloc ?_ _ | refine bl_set ?_ (by first | (simp; done) | omega | (simp; omega)) _)) ⟨by rw [HR2.out]; first | rfl | simp, rfl⟩
    | false =>
      go_region
      all_goals go_wp2
      all_goals go_ret
      all_goals exact Post.same HS.out (by repeat (first | exact Below.refl _ _ | refine bl_drewN ?_ _ | refine Below.drew ?_ | refine bl_alloc ?_ _ | refine bl_set ?_ (by first | (simp; done) | omega | (simp; omega)) _)) ⟨by rw [HR2.out]; first | rfl | simp, rfl⟩
  · have HR2 : As (r = false) := ⟨by rw [← HR.out]; unfold hasB; rw [decide_eq_false hi]; rfl⟩
    clear HR
    have HN := As.mk hi
    clear hi
    go_enter Tryd.func61, Tryd.ntmps61
    go_wp2
    by_cases hi : i < 0
    · have d1 : decide (i < 0) = true := decide_eq_true hi
      clear hi
      go_quiet (fail)
      go_wp2
      go_ret
      exact Post.same HS.out (by repeat (first | exact Below.refl _ _ | refine bl_drewN ?_ _ | refine Below.drew ?_ | refine bl_alloc ?_ _ | refine bl_set ?_ (by first | (simp; done) | omega | (simp; omega)) _)) ⟨by rw [HR2.out]; first | rfl | simp, rfl⟩
    · have hi2 : (slots.length : Int) ≤ i := by have := HN.out; omega
      have d1 : decide (i < 0) = false := decide_eq_false hi
      have d2 : decide ((slots.length : Int) ≤ i) = true := decide_eq_true hi2
      clear hi hi2
      go_quiet (fail)
      go_wp2
      go_ret
      exact Post.same HS.out (by repeat (first | exact Below.refl _ _ | refine bl_drewN ?_ _ | refine Below.drew ?_ | refine bl_alloc ?_ _ | refine bl_set ?_ (by first | (simp; done) | omega | (simp; omega)) _)) ⟨by rw [HR2.out]; first | rfl | simp, rfl⟩
end Go.Proofs.YtkebkmbfglodlaaDoor.I
