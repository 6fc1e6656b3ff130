/- The reference's places: the contracts of NewIds, Has, Make, Drop and All over lists. -/
import Derived.Test.YthlfkkmhjmjenaaF
import Derived.Deep.RegionLaw
import Derived.Laws.StructEq
namespace Go.Proofs.Ythlfkkmhjmjenaa
open Go.RowKit
def encBool (x : Bool) : List Value := [.bool x]
theorem encBool_len (x : Bool) : (encBool x).length = 1 := rfl
theorem one_bool (x : Bool) : ∀ u ∈ encBool x, u.oneCell' = true := by
  intro u hu
  simp only [encBool, List.mem_singleton] at hu
  subst hu
  rfl
theorem Try.info4 : (Try.prog.info? 4).map (fun i => (i.zero, i.size, i.bytes)) = some (some (.bool false), 1, 1) := by kernel_rfl
/-- The reference's places: gens and live apart; the places as in isIds. -/
def isRef (p : Nat) (room : Int) (slots : List (Int × Bool)) (free : List Int) : Hp where
  H w F := ∃ gv lv fv, w.heap[p]? = some (.cells #[.int .i64 room, gv, lv, fv] 57 (0, 0)) ∧ Rw w 3 1 encInt gv (slots.map (·.1)) ∧ Rw w 4 1 encBool lv (slots.map (·.2)) ∧ Rw w 3 1 encInt fv free ∧
    F p ∧ (∀ k, gv.ownBlock = some k → F k) ∧ (∀ k, lv.ownBlock = some k → F k) ∧ (∀ k, fv.ownBlock = some k → F k) ∧ (∀ k, gv.ownBlock = some k → fv.ownBlock ≠ some k) ∧ ∀ k, F k → k < w.heap.size
  lt := by rintro w F ⟨_, _, _, _, _, _, _, _, _, _, _, _, h⟩; exact h
  move := by
    rintro w w' F ⟨gv, lv, fv, h1, h2, h3, h4, h5, h6, h7, h8, h9, h10⟩ hm
    exact ⟨gv, lv, fv, (hm _ h5).trans h1, h2.move (fun k hk => hm k (h6 k hk)), h3.move (fun k hk => hm k (h7 k hk)), h4.move (fun k hk => hm k (h8 k hk)), h5, h6, h7, h8, h9, lt_move h10 hm⟩

theorem within_does (room : Int) (w : World) : Calls Try.prog 19 #[.int .i64 room, .int .i64 0, .int .i64 100000] w fun e w' => e = .returned (.int .i64 (rm room)) ∧ w = w' := by
  generalize hr : rm room = r
  have HR := As.mk hr
  clear hr
  go_enter Try.func19, Try.ntmps19
  go_wp2
  all_goals go_ret
  all_goals
    refine ⟨?_, rfl⟩
    rw [← HR.out]
    unfold rm
    simp
    try (split <;> (try split) <;> omega)
set_option maxHeartbeats 800000 in
theorem rnew_does (room : Int) : Does Try.prog 12 #[.int .i64 room] Hp.emp (fun e B => ∃ p, e = .returned (.pointer (some ⟨p, 0, none⟩)) ∧ B = isRef p (rm room) [] []) := by
  intro w F hS
  have HS := As.mk hS
  clear hS
  go_enter Try.func12, Try.ntmps12
  go_wp2_with (go_at_call 19; refine (within_does room _).mono ?_; rintro e w1 ⟨rfl, rfl⟩)
  go_ret
  refine Post.new _ ⟨_, rfl, rfl⟩ ⟨.slice none 0 0, .slice none 0 0, .slice none 0 0, blk_alloc_new w _, Rw.nil _ _ _ _, Rw.nil _ _ _ _, Rw.nil _ _ _ _, foot_new (Nat.le_refl _) (by simp), by simp [Value.ownBlock], by simp [Value.ownBlock], by simp [Value.ownBlock], by simp [Value.ownBlock], foot_lt (Hp.lt _ HS.out) (by simp)⟩ ((Evo.refl _ _).alloc _)

theorem map1_get {slots : List (Int × Bool)} {i : Nat} {x : Int × Bool} (h : slots[i]? = some x) : (slots.map (·.1))[i]? = some x.1 := by rw [List.getElem?_map, h]; rfl
theorem map2_get {slots : List (Int × Bool)} {i : Nat} {x : Int × Bool} (h : slots[i]? = some x) : (slots.map (·.2))[i]? = some x.2 := by rw [List.getElem?_map, h]; rfl
set_option maxHeartbeats 1600000 in
theorem rhas_does (p : Nat) (i g room : Int) (slots : List (Int × Bool)) (free : List Int) : Does Try.prog 15 #[.pointer (some ⟨p, 0, none⟩), .agg #[.int .i64 i, .int .i64 g]] (isRef p room slots free) (fun e B => e = .returned (.bool (hasB slots i g)) ∧ B = isRef p room slots free) := by
  intro w F hS
  obtain ⟨gv, lv, fv, hb, hg, hl, hf, _⟩ := id hS
  obtain ⟨gA, gc, rfl, _, hn⟩ := hg.shape
  obtain ⟨lA, lc, rfl, _, _⟩ := hl.shape
  simp only [List.length_map] at hn hb hg hl
  have HS := As.mk hS
  clear hS
  have h1 : w.cell? ⟨p, 1, none⟩ = some (.slice gA slots.length gc) := (cell_of_blk hb 1).trans rfl
  have h2 : w.cell? ⟨p, 2, none⟩ = some (.slice lA slots.length lc) := (cell_of_blk hb 2).trans rfl
  have hp := lt_of_blk hb
  have HG := As.mk hg
  have HL := As.mk hl
  clear hb hg hl hf
  generalize hr : hasB slots i g = r
  have HR := As.mk hr
  clear hr
  by_cases hi : 0 ≤ i ∧ i < slots.length
  · obtain ⟨hi0, hi1⟩ := hi
    obtain ⟨x, hx⟩ : ∃ x, slots[i.toNat]? = some x := ⟨_, List.getElem?_eq_getElem (by omega)⟩
    obtain ⟨ig, rfl, hgl, hgc⟩ := HG.out.cell encInt_len i.toNat _ (map1_get hx)
    obtain ⟨il, rfl, hll, hlc⟩ := HL.out.cell encBool_len i.toNat _ (map2_get hx)
    have c0 := (hgc 0 (by omega)).1
    have c1 := (hlc 0 (by omega)).1
    simp only [encInt, encBool, List.getElem?_cons_zero, Nat.add_zero, Nat.mul_one] at c0 c1
    clear hgc hlc
    have HX := As.mk hx
    clear hx
    obtain ⟨x1, x2⟩ := x
    have d1 : decide (0 ≤ i) = true := decide_eq_true (by omega)
    have d2 : decide (i < (slots.length : Int)) = true := decide_eq_true (by omega)
    have HR2 : As (r = (x2 && x1 == g)) := ⟨by
      rw [← HR.out]; unfold hasB
      rw [decide_eq_true ⟨hi0, hi1⟩, List.getD_eq_getElem?_getD, HX.out]; rfl⟩
    clear HR
    go_enter Try.func15, Try.ntmps15
    go_wp2
    cases x2 with
    | true =>
      go_quiet (fail)
      go_wp2
      go_ret
      exact Post.same HS.out (by repeat (first | exact Below.refl _ _ | refine bl_drewN ?_ _ | refine Below.drew ?_ | refine bl_alloc ?_ _ | refine bl_set ?_ (by first | (simp; done) | omega | (simp; omega)) _)) ⟨by rw [HR2.out]; first | rfl | simp, rfl⟩
    | false =>
      go_quiet (fail)
      go_wp2
      go_ret
      exact Post.same HS.out (by repeat (first | exact Below.refl _ _ | refine bl_drewN ?_ _ | refine Below.drew ?_ | refine bl_alloc ?_ _ | refine bl_set ?_ (by first | (simp; done) | omega | (simp; omega)) _)) ⟨by rw [HR2.out]; first | rfl | simp, rfl⟩
  · have HR2 : As (r = false) := ⟨by rw [← HR.out]; unfold hasB; rw [decide_eq_false hi]; rfl⟩
    clear HR
    have HN := As.mk hi
    clear hi
    go_enter Try.func15, Try.ntmps15
    go_wp2
    by_cases hi : 0 ≤ i
    · have d1 : decide (0 ≤ i) = true := decide_eq_true hi
      have d2 : decide (i < (slots.length : Int)) = false := decide_eq_false (by have := HN.out; omega)
      clear hi
      go_quiet (fail)
      go_wp2
      go_ret
      exact Post.same HS.out (by repeat (first | exact Below.refl _ _ | refine bl_drewN ?_ _ | refine Below.drew ?_ | refine bl_alloc ?_ _ | refine bl_set ?_ (by first | (simp; done) | omega | (simp; omega)) _)) ⟨by rw [HR2.out]; first | rfl | simp, rfl⟩
    · have d1 : decide (0 ≤ i) = false := decide_eq_false hi
      clear hi
      go_quiet (fail)
      go_wp2
      go_ret
      exact Post.same HS.out (by repeat (first | exact Below.refl _ _ | refine bl_drewN ?_ _ | refine Below.drew ?_ | refine bl_alloc ?_ _ | refine bl_set ?_ (by first | (simp; done) | omega | (simp; omega)) _)) ⟨by rw [HR2.out]; first | rfl | simp, rfl⟩
end Go.Proofs.Ythlfkkmhjmjenaa
