/- ahead: the order of items. -/
import Derived.Test.YthnojjlaicajhaaA
import Derived.Test.YthnojjlaicajhaaMany
import Derived.Deep.RegionWith
namespace Go.Proofs.Ythnojjlaicajhaa
open Go.RowKit
theorem rd_blk {α : Type} {w : World} {g t size : Nat} {fr : Nat × Nat} {enc : α → List Value} (xs : List α) (he : ∀ x, (enc x).length = size) (h : w.heap[g]? = some (.cells (xs.flatMap enc).toArray t fr)) (hn : xs.length ≤ 9223372036854775807) : Rd w size enc (.slice (some ⟨g, 0, none⟩) xs.length xs.length) xs :=
  ⟨⟨_, _, rfl, Nat.le_refl _, hn⟩, fun A n c hv i x hx => by
    injection hv with h1 h2 h3
    subst h1
    refine ⟨g, 0, rfl, lt_of_blk h, fun j hj => ?_⟩
    rw [cell_of_blk h, Nat.zero_add]
    simpa using flat_get he xs i j x hx hj⟩
theorem rd_nil (w : World) (size : Nat) {α : Type} (enc : α → List Value) : Rd w size enc (.slice none 0 0) ([] : List α) := ⟨⟨none, 0, rfl, by simp, by simp⟩, by intro A n c hv i x hx; simp at hx⟩
def encInt (x : Int) : List Value := [.int .i64 x]
theorem encInt_len (x : Int) : (encInt x).length = 1 := rfl
def orOf : List Int → Int
  | [] => 0
  | x :: xs => if x = 0 then orOf xs else x
set_option maxHeartbeats 1600000 in
theorem or_does (v : Value) (xs : List Int) (w : World) (h : Rd w 1 encInt v xs) : Calls Try.prog 17 #[v] w fun e w' => e = .returned (.int .i64 (orOf xs)) ∧ Below w.heap.size w w' := by
  obtain ⟨A, c, rfl, hc, hn⟩ := h.shape
  have HD := As.mk h
  clear h
  generalize hr : orOf xs = r
  have HR := As.mk hr
  clear hr
  go_enter Try.func17, Try.ntmps17
  go_wp2
  go_loopw [8] (fun i wr => ∃ (k : Nat), k ≤ xs.length ∧ i = .int .i64 k ∧ As (orOf (xs.drop k) = r) ∧ As (Below w.heap.size w wr)) (fun i _ => xs.length - (intOf i).toNat)
  case atStart => exact ⟨0, by omega, rfl, ⟨HR.out⟩, ⟨(by repeat (first | exact Below.refl _ _ | refine bl_drewN ?_ _ | refine Below.drew ?_ | refine bl_alloc ?_ _ | refine bl_set ?_ (by first | (simp; done) | omega | (simp; omega)) _))⟩⟩
  case round =>
    obtain ⟨k, hk, rfl, HB, HW⟩ := hrel
    by_cases hlt : k < xs.length
    · obtain ⟨x, hx⟩ : ∃ x, xs[k]? = some x := ⟨_, List.getElem?_eq_getElem hlt⟩
      obtain ⟨b, off, rfl, hb, hcell⟩ := (HD.out.below HW.out).cells _ _ _ rfl k x hx
      have c0 := hcell 0 (by omega)
      simp only [encInt, List.getElem?_cons_zero, Nat.add_zero, Nat.mul_one] at c0
      have d0 : decide ((k : Int) < xs.length) = true := decide_eq_true (by omega)
      have hd : orOf (xs.drop k) = if x = 0 then orOf (xs.drop (k + 1)) else x := by
        rw [List.drop_eq_getElem_cons hlt]
        have : xs[k] = x := by rw [List.getElem?_eq_getElem hlt] at hx; exact Option.some.inj hx
        rw [this]; rfl
      have HX := As.mk (hd.symm.trans HB.out)
      clear hcell hx hd HB
      by_cases hz : x = 0
      · have d1 : (x != 0) = false := by simp [hz]
        have HB2 : As (orOf (xs.drop (k + 1)) = r) := ⟨by have := HX.out; rwa [if_pos hz] at this⟩
        clear HX hz
        go_wp2
        exact ⟨⟨k + 1, by omega, by go_num, HB2, HW⟩, by simp [intOf]; omega⟩
      · have d1 : (x != 0) = true := by simp [hz]
        have HB2 : As (x = r) := ⟨by have := HX.out; rwa [if_neg hz] at this⟩
        clear HX hz
        go_wp2
        go_ret
        exact ⟨by rw [← HB2.out]; rfl, HW.out⟩
    · have d0 : decide ((k : Int) < xs.length) = false := decide_eq_false (by omega)
      have HB2 : As (r = 0) := ⟨by rw [← HB.out, List.drop_of_length_le (by omega)]; rfl⟩
      clear HB
      go_wp2
      go_ret
      exact ⟨by rw [HB2.out]; rfl, HW.out⟩
theorem orOf3 (a b : Item) : decide (orOf [cmp a.key b.key, cmp a.seq b.seq, cmp a.what b.what] < 0) = decide (a.lt b) := by
  rw [← or3_lt]
  congr 2
  unfold or3
  simp only [orOf]
  split <;> (try split) <;> (try split) <;> simp_all
theorem cmp_same {a b x : Int} (h : cmp a b = x) (w : World) : Calls Try.prog 18 #[.int .i64 a, .int .i64 b] w fun e w' => e = .returned (.int .i64 x) ∧ w' = w := by
  subst h
  exact (cmp_does a b w).mono fun e w' h => ⟨h.1, h.2.symm⟩
set_option maxHeartbeats 1600000 in
theorem ahead_does (a b : Item) (w : World) : Calls Try.prog 16 #[a.val, b.val] w fun e w' => e = .returned (.bool (decide (a.lt b))) ∧ Below w.heap.size w w' := by
  have HR := As.mk (orOf3 a b)
  obtain ⟨a1, a2, a3⟩ := a
  obtain ⟨b1, b2, b3⟩ := b
  generalize decide (Item.lt ⟨a1, a2, a3⟩ ⟨b1, b2, b3⟩) = r at HR
  simp only at HR
  unfold Item.val
  have HR2 : ∃ x1 x2 x3, As (cmp a1 b1 = x1) ∧ As (cmp a2 b2 = x2) ∧ As (cmp a3 b3 = x3) ∧ As (decide (orOf [x1, x2, x3] < 0) = r) := ⟨_, _, _, ⟨rfl⟩, ⟨rfl⟩, ⟨rfl⟩, HR⟩
  obtain ⟨x1, x2, x3, H1, H2, H3, H4⟩ := HR2
  clear HR
  go_enter Try.func16, Try.ntmps16
  go_wp2
  generalize hW : (w.alloc (.cells #[.int .i64 a1, .int .i64 a2, .int .i64 a3] 32)).alloc (.cells #[.int .i64 b1, .int .i64 b2, .int .i64 b3] 32) = W
  have hw1 : W.heap[w.heap.size]? = some (.cells #[.int .i64 a1, .int .i64 a2, .int .i64 a3] 32 (0, 0)) := by rw [← hW, blk_alloc_far (by simp)]; exact blk_new rfl
  have hw2 : W.heap[w.heap.size + 1]? = some (.cells #[.int .i64 b1, .int .i64 b2, .int .i64 b3] 32 (0, 0)) := by rw [← hW]; exact blk_new (by simp)
  have HW : As (Below w.heap.size w W) := ⟨by rw [← hW]; exact (by repeat (first | exact Below.refl _ _ | refine bl_drewN ?_ _ | refine Below.drew ?_ | refine bl_alloc ?_ _ | refine bl_set ?_ (by first | (simp; done) | omega | (simp; omega)) _))⟩
  have c1 := (cell_of_blk hw1 0).trans rfl
  have c2 := (cell_of_blk hw1 1).trans rfl
  have c3 := (cell_of_blk hw1 2).trans rfl
  have e1 := (cell_of_blk hw2 0).trans rfl
  have e2 := (cell_of_blk hw2 1).trans rfl
  have e3 := (cell_of_blk hw2 2).trans rfl
  clear hW hw1 hw2
  refine wp_region_still_tail 15 (by kernel_rfl) (by kernel_rfl) ?_
  simp only [List.take_succ_cons, List.take_zero, List.drop_succ_cons, List.drop_zero]
  still_step
  still_step
  still_step
  still_step
  still_call (cmp_same H1.out _)
  still_step
  still_step
  still_step
  still_step
  still_call (cmp_same H2.out _)
  still_step
  still_step
  still_step
  still_step
  still_call (cmp_same H3.out _)
  refine wpStill_nil ?_
  go_wp2_with (go_at_call 17; refine (or_does _ [x1, x2, x3] _ (rd_blk [x1, x2, x3] encInt_len (by first | exact blk_new rfl | exact blk_new (by simp) | exact blk_new_drew (by simp) | exact blk_new_drewN (by simp)) (by simp))).mono ?_; generalize ho : orOf [x1, x2, x3] = o at H4; have HO := As.mk ho; clear ho; rintro e w8 ⟨rfl, hb⟩; have HB := As.mk hb; clear hb)
  go_ret
  exact ⟨by rw [← H4.out]; rfl, (bl_alloc (Below.drew HW.out) _).trans (Below.mono HB.out (by have := HW.out.size; simp; omega))⟩
end Go.Proofs.Ythnojjlaicajhaa
