/- SameInts; SameIds; alive. -/
import Derived.Test.YtkfkacdiekpkfaaS
namespace Go.Proofs.Ytkfkacdiekpkfaa
open Go.RowKit
attribute [local go_sem high] eq35
set_option maxHeartbeats 1600000 in
theorem sameints_does (u v : Value) (xs : List Int) (w : World) (hu : Rd w 1 encInt u xs) (hv : Rd w 1 encInt v xs) : Calls Try.prog 11 #[u, v] w fun e w' => e = .returned (.bool true) ∧ Below w.heap.size w w' := by
  obtain ⟨uA, uc, rfl, _, hn⟩ := hu.shape
  obtain ⟨vA, vc, rfl, _, _⟩ := hv.shape
  have HU := As.mk hu
  have HV := As.mk hv
  clear hu hv
  go_enter Try.func11, Try.ntmps11
  go_wp2
  go_loopw [5] (fun i wr => ∃ k : Nat, k ≤ xs.length ∧ i = .int .i64 k ∧ ∃ n, wr = w.drewN n) (fun i _ => xs.length - (intOf i).toNat)
  case atStart => exact ⟨0, Nat.zero_le _, rfl, 0, rfl⟩
  case round =>
    obtain ⟨k, hk, rfl, nn, rfl⟩ := hrel
    by_cases hlt : k < xs.length
    · obtain ⟨x, hx⟩ : ∃ x, xs[k]? = some x := ⟨_, List.getElem?_eq_getElem hlt⟩
      obtain ⟨b, off, rfl, _, hc⟩ := HU.out.cells _ _ _ rfl k _ hx
      obtain ⟨b2, off2, rfl, _, hc2⟩ := HV.out.cells _ _ _ rfl k _ hx
      have c0 := hc 0 (by omega)
      have e0 := hc2 0 (by omega)
      simp only [encInt, List.getElem?_cons_zero, Nat.add_zero, Nat.mul_one] at c0 e0
      clear hc hc2 hx
      go_wp2
      go_quiet (fail)
      go_wp2
      exact ⟨⟨k + 1, by omega, by go_num, _, rfl⟩, by simp [intOf]; omega⟩
    · obtain rfl : k = xs.length := by omega
      go_wp2
      go_ret
      exact ⟨rfl, (by repeat (first | exact Below.refl _ _ | refine bl_drewN ?_ _ | refine Below.drew ?_ | refine bl_alloc ?_ _ | refine bl_set ?_ (by first | (simp; done) | omega | (simp; omega)) _))⟩
set_option maxHeartbeats 1600000 in
theorem sameids_does (u v : Value) (xs : List (Int × Int)) (w : World) (hu : Rd w 2 encId u xs) (hv : Rd w 2 encId v xs) : Calls Try.prog 17 #[u, v] w fun e w' => e = .returned (.bool true) ∧ Below w.heap.size w w' := by
  obtain ⟨uA, uc, rfl, _, hn⟩ := hu.shape
  obtain ⟨vA, vc, rfl, _, _⟩ := hv.shape
  have HU := As.mk hu
  have HV := As.mk hv
  clear hu hv
  go_enter Try.func17, Try.ntmps17
  go_wp2
  go_loopw [5] (fun i wr => ∃ k : Nat, k ≤ xs.length ∧ i = .int .i64 k ∧ ∃ n, wr = w.drewN n) (fun i _ => xs.length - (intOf i).toNat)
  case atStart => exact ⟨0, Nat.zero_le _, rfl, 0, rfl⟩
  case round =>
    obtain ⟨k, hk, rfl, nn, rfl⟩ := hrel
    by_cases hlt : k < xs.length
    · obtain ⟨x, hx⟩ : ∃ x, xs[k]? = some x := ⟨_, List.getElem?_eq_getElem hlt⟩
      obtain ⟨b, off, rfl, _, hc⟩ := HU.out.cells _ _ _ rfl k _ hx
      obtain ⟨b2, off2, rfl, _, hc2⟩ := HV.out.cells _ _ _ rfl k _ hx
      have c0 := hc 0 (by omega)
      have c1 := hc 1 (by omega)
      have e0 := hc2 0 (by omega)
      have e1 := hc2 1 (by omega)
      obtain ⟨x1, x2⟩ := x
      simp only [encId, List.getElem?_cons_zero, List.getElem?_cons_succ, Nat.add_zero] at c0 c1 e0 e1
      clear hc hc2 hx
      go_wp2
      go_quiet (fail)
      go_wp2
      exact ⟨⟨k + 1, by omega, by go_num, _, rfl⟩, by simp [intOf]; omega⟩
    · obtain rfl : k = xs.length := by omega
      go_wp2
      go_ret
      exact ⟨rfl, (by repeat (first | exact Below.refl _ _ | refine bl_drewN ?_ _ | refine Below.drew ?_ | refine bl_alloc ?_ _ | refine bl_set ?_ (by first | (simp; done) | omega | (simp; omega)) _))⟩
theorem rd_blk {α : Type} {w : World} {g t size : Nat} {fr : Nat × Nat} {enc : α → List Value} (xs : List α) (he : ∀ x, (enc x).length = size) (h : w.heap[g]? = some (.cells (xs.flatMap enc).toArray t fr)) (hn : xs.length ≤ 9223372036854775807) : Rd w size enc (.slice (some ⟨g, 0, none⟩) xs.length xs.length) xs :=
  ⟨⟨_, _, rfl, Nat.le_refl _, hn⟩, fun A n c hv i x hx => by
    injection hv with h1 h2 h3
    subst h1
    refine ⟨g, 0, rfl, lt_of_blk h, fun j hj => ?_⟩
    rw [cell_of_blk h, Nat.zero_add]
    simpa using flat_get he xs i j x hx hj⟩
set_option maxHeartbeats 6400000 in
theorem alive_does (w : World) : Calls Try.prog 8 #[] w fun e w' => e = .returned (.bool true) ∧ Below w.heap.size w w' := by
  have hS : At (fun _ => False) w _ (Hp.seps [Hp.blk w.heap.size #[.int .i64 3, .int .i64 4] 3]) := (At.start0 (Below.refl _ _)).alloc _ _
  have HC := As.mk (share_does 5 (by omega) (.slice (some ⟨w.heap.size, 0, none⟩) 2 2) [3, 4] (w.alloc (.cells #[.int .i64 3, .int .i64 4] 3)) (rd_blk [3, 4] encInt_len (blk_alloc_new w _) (by simp)) (by simp))
  have e1 : shO (bz 5) [3, 4] = [3, 2] := by decide
  have e2 : wh (bz 5) [3, 4] = 1 := by decide
  rw [e1, e2] at HC
  clear e1 e2
  go_enter Try.func8, Try.ntmps8
  go_wp2_with fail
  refine HC.out.mono ?_
  rintro e w1 ⟨v, rfl, hb, hr, hn⟩
  have hS1 := hS.newRow hb hr hn
  obtain ⟨D, c, rfl, _, _⟩ := hr.shape
  clear hb hr hn hS HC
  go_wp2_with fail
  refine (hS1.callNew new_does).mono ?_
  rintro e w2 ⟨B, ⟨p, rfl, rfl⟩, hS2⟩
  clear hS1
  go_wp2_with fail
  refine (hS2.callAt 0 rfl (add_new p [] 0 0 1 (by decide) (by simp))).mono ?_
  rintro e w3 ⟨B, ⟨rfl, rfl⟩, hS3⟩
  clear hS2
  go_wp2_with fail
  refine (hS3.callAt 0 rfl (list_does p _ 0 (by simp) (by simp))).mono ?_
  rintro e w4 ⟨B, ⟨v, rfl, rfl⟩, hS4⟩
  obtain ⟨A4, c4, rfl, _, _⟩ := ((hS4.flats (l' := [_, _]) 0 rfl).rowAt 0 rfl).shape
  obtain ⟨g, hg, hgl, hcell⟩ := (hS4.rowAt 1 rfl).cell encInt_len 0 3 rfl
  obtain ⟨g', hg', _, hcell'⟩ := (hS4.rowAt 1 rfl).cell encInt_len 1 2 rfl
  subst hg
  injection hg' with hg'
  injection hg' with hg' _
  subst hg'
  have x0 := (hcell 0 (by omega)).1
  have x1 := (hcell' 0 (by omega)).1
  simp [encInt] at x0 x1
  clear hcell hcell'
  go_wp2_with fail
  go_ret
  exact ⟨rfl, hS4.bl⟩
end Go.Proofs.Ytkfkacdiekpkfaa
