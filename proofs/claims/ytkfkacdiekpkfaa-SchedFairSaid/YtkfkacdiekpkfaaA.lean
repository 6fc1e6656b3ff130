/- slices.Index and Contains over entities; a ring in memory: New and Add. -/
import Derived.Test.YtkfkacdiekpkfaaAt
import Derived.Test.YtkfkacdiekpkfaaProg
import Derived.Laws.StructEq
import Derived.Deep.RegionLaw
import Derived.Deep.RegionWith
import Derived.IntWalk
namespace Go.Proofs.Ytkfkacdiekpkfaa
open Go.RowKit
def encId (x : Int × Int) : List Value := [.int .i64 x.1, .int .i64 x.2]
theorem encId_len (x : Int × Int) : (encId x).length = 2 := rfl
theorem one_id (x : Int × Int) : ∀ u ∈ encId x, u.oneCell' = true := by intro u hu; simp [encId] at hu; rcases hu with rfl | rfl <;> rfl
theorem Try.info35 : (Try.prog.info? 35).map (fun i => (i.zero, i.size, i.bytes)) = some (some (.agg #[.int .i64 0, .int .i64 0]), 2, 16) := by kernel_rfl
theorem eq35 (d : Nat) (w : World) (x0 y0 x1 y1 : Int) :
    (Op.equalIn (d + 2) 35 (.agg #[.int .i64 x0, .int .i64 x1]) (.agg #[.int .i64 y0, .int .i64 y1])).run Try.prog w = .ok (x0 == y0 && (x1 == y1)) w := by
  refine seq_of Try.underlying35 (by kernel_rfl) ?_
  refine seq_cons (by rfl) (by go_simp; rfl) (by go_simp; rfl) (by go_simp) ?_
  exact seq_last (by rfl) (by go_simp; rfl) (by go_simp; rfl) (by go_simp)
attribute [local go_sem high] eq35
theorem ret_i {k : IntKind} {a b : Int} (h : a = b) : Ending.returned (.int k a) = .returned (.int k b) := by rw [h]
def posF : List (Int × Int) → Int × Int → Nat → Int
  | [], _, _ => -1
  | y :: ys, x, k => if y = x then k else posF ys x (k + 1)
def pos (xs : List (Int × Int)) (x : Int × Int) : Int := posF xs x 0
theorem posF_spec : ∀ (xs : List (Int × Int)) (x : Int × Int) (k : Nat), (x ∉ xs ∧ posF xs x k = -1) ∨ ∃ i, posF xs x k = ((k + i : Nat) : Int) ∧ xs[i]? = some x ∧ ∀ j, j < i → xs[j]? ≠ some x
  | [], x, k => .inl ⟨by simp, rfl⟩
  | y :: ys, x, k => by
    by_cases h : y = x
    · subst h
      exact .inr ⟨0, by simp [posF], rfl, fun j hj => by omega⟩
    · rcases posF_spec ys x (k + 1) with ⟨h1, h2⟩ | ⟨i, h1, h2, h3⟩
      · exact .inl ⟨by simp [h1, Ne.symm h], by simp [posF, h, h2]⟩
      · refine .inr ⟨i + 1, by simp only [posF, if_neg h, h1]; omega, h2, fun j hj => ?_⟩
        cases j with
        | zero => simpa using h
        | succ j => exact h3 j (by omega)
theorem pos_spec (xs : List (Int × Int)) (x : Int × Int) : (x ∉ xs ∧ pos xs x = -1) ∨ ∃ i : Nat, pos xs x = (i : Int) ∧ xs[i]? = some x ∧ ∀ j, j < i → xs[j]? ≠ some x := by
  rcases posF_spec xs x 0 with h | ⟨i, h1, h2, h3⟩
  · exact .inl h
  · exact .inr ⟨i, by rw [Nat.zero_add] at h1; exact h1, h2, h3⟩
set_option maxHeartbeats 1600000 in
theorem index_does (v : Value) (xs : List (Int × Int)) (a b : Int) (w : World) (hd : Rd w 2 encId v xs) : Calls Try.prog 28 #[v, .agg #[.int .i64 a, .int .i64 b]] w fun e w' => e = .returned (.int .i64 (pos xs (a, b))) ∧ Below w.heap.size w w' := by
  obtain ⟨A, c, rfl, hc, hn⟩ := hd.shape
  have HD := As.mk hd
  clear hd
  generalize hr : pos xs (a, b) = r
  have HR := As.mk hr
  clear hr
  have hS := (At.start0 (Below.refl w.heap.size w)).alloc #[.int .i64 a, .int .i64 b] 35
  obtain ⟨q, hq⟩ : ∃ q, q = w.heap.size := ⟨_, rfl⟩
  rw [← hq] at hS
  have HQ := As.mk hq
  clear hq
  go_enter Try.func28, Try.ntmps28
  go_wp2
  rw [← HQ.out]
  clear HQ
  go_loopw [8] (fun iv wr => ∃ k : Nat, k ≤ xs.length ∧ iv = .int .i64 k ∧ As (posF (xs.drop k) (a, b) k = r) ∧ At (fun _ => False) w wr (Hp.seps [Hp.blk q #[.int .i64 a, .int .i64 b] 35])) (fun iv _ => xs.length - (intOf iv).toNat)
  case atStart => exact ⟨0, by omega, rfl, HR, hS⟩
  case round =>
    clear hS HR
    obtain ⟨k, hk, rfl, HP, hS⟩ := hrel
    by_cases hlt : k < xs.length
    · obtain ⟨y, hy⟩ : ∃ y, xs[k]? = some y := ⟨_, List.getElem?_eq_getElem hlt⟩
      obtain ⟨bb, off, rfl, hb, hcell⟩ := (HD.out.below hS.bl).cells _ _ _ rfl k y hy
      have c0 := hcell 0 (by omega)
      have c1 := hcell 1 (by omega)
      obtain ⟨y1, y2⟩ := y
      simp only [encId, List.getElem?_cons_zero, List.getElem?_cons_succ, Nat.add_zero] at c0 c1
      have q0 := (hS.cellAt 0 rfl 0).trans rfl
      have q1 := (hS.cellAt 0 rfl 1).trans rfl
      have hd : posF (xs.drop k) (a, b) k = if (y1, y2) = (a, b) then (k : Int) else posF (xs.drop (k + 1)) (a, b) (k + 1) := by
        rw [List.drop_eq_getElem_cons hlt]
        have : xs[k] = (y1, y2) := (List.getElem?_eq_some_iff.1 hy).2
        rw [this]; rfl
      have HX := As.mk (hd.symm.trans HP.out)
      clear hcell hy hd HP
      by_cases he : (y1, y2) = (a, b)
      · obtain ⟨rfl, rfl⟩ := Prod.mk.inj he
        have HX2 : As ((k : Int) = r) := ⟨by have := HX.out; rwa [if_pos he] at this⟩
        clear HX he
        go_wp2
        go_quiet (fail)
        go_wp2
        go_ret
        exact ⟨ret_i HX2.out, hS.bl.trans (Below.mono (bl_drewN (Below.refl _ _) _) (hS.size))⟩
      · have t0 : (a == y1 && b == y2) = false := by
          simp only [Prod.mk.injEq] at he
          simp only [Bool.and_eq_false_iff, beq_eq_false_iff_ne, ne_eq]
          omega
        have HX2 : As (posF (xs.drop (k + 1)) (a, b) (k + 1) = r) := ⟨by have := HX.out; rwa [if_neg he] at this⟩
        clear HX he
        go_wp2
        go_quiet (fail)
        go_wp2
        exact ⟨⟨k + 1, by omega, by go_num, HX2, hS.below (by repeat (first | exact Below.refl _ _ | refine bl_drewN ?_ _ | refine Below.drew ?_ | refine bl_alloc ?_ _ | refine bl_set ?_ (by first | (simp; done) | omega | (simp; omega)) _))⟩, by simp [intOf]; omega⟩
    · obtain rfl : k = xs.length := by omega
      have HX : As ((-1 : Int) = r) := ⟨by have := HP.out; rwa [List.drop_length] at this⟩
      go_wp2
      go_ret
      exact ⟨ret_i HX.out, hS.bl⟩
set_option maxHeartbeats 1600000 in
theorem contains_does (v : Value) (xs : List (Int × Int)) (a b : Int) (w : World) (hd : Rd w 2 encId v xs) : Calls Try.prog 25 #[v, .agg #[.int .i64 a, .int .i64 b]] w fun e w' => e = .returned (.bool (decide (0 ≤ pos xs (a, b)))) ∧ Below w.heap.size w w' := by
  have HD := As.mk hd
  clear hd
  have hb0 : Below w.heap.size w (w.alloc (.cells #[.int .i64 a, .int .i64 b] 35)) := (by repeat (first | exact Below.refl _ _ | refine bl_drewN ?_ _ | refine Below.drew ?_ | refine bl_alloc ?_ _ | refine bl_set ?_ (by first | (simp; done) | omega | (simp; omega)) _))
  have HC := As.mk (index_does v xs a b (w.alloc (.cells #[.int .i64 a, .int .i64 b] 35)) (HD.out.below hb0))
  have HB := As.mk hb0
  clear hb0
  go_enter Try.func25, Try.ntmps25
  go_wp2_with fail
  refine HC.out.mono ?_
  rintro e w1 ⟨rfl, hb⟩
  have HB2 := As.mk hb
  clear hb
  go_wp2_with fail
  go_ret
  exact ⟨rfl, HB.out.trans (HB2.out.mono (by simp))⟩
end Go.Proofs.Ytkfkacdiekpkfaa
