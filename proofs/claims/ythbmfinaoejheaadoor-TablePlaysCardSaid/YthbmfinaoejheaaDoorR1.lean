/- The reference's table: Row, Get, Set. -/
import Derived.Test.YthbmfinaoejheaaDoorR0
set_option linter.unusedVariables false
namespace Go.Proofs.YthbmfinaoejheaaDoor
open Go.RowKit
theorem eqId (d : Nat) (w : World) (x0 y0 x1 y1 : Int) :
    (Op.equalIn (d + 2) 29 (.agg #[.int .i64 x0, .int .i64 x1]) (.agg #[.int .i64 y0, .int .i64 y1])).run Tryd.prog w = .ok (x0 == y0 && (x1 == y1)) w := by
  refine seq_of Tryd.underlying29 (by kernel_rfl) ?_
  refine seq_cons (by rfl) (by go_simp; rfl) (by go_simp; rfl) (by go_simp) ?_
  exact seq_last (by rfl) (by go_simp; rfl) (by go_simp; rfl) (by go_simp)
attribute [local go_sem high] eqId
def rowF : List TRow → Int × Int → Nat → Int
  | [], _, _ => -1
  | y :: ys, x, k => if y.1 = x then k else rowF ys x (k + 1)
theorem rowF_eq : ∀ (R : List TRow) (x : Int × Int) (k : Nat), rowF R x k = match ixF (idsOf R) x with | some i => ((k + i : Nat) : Int) | none => -1
  | [], _, _ => rfl
  | y :: ys, x, k => by
    by_cases h : y.1 = x
    · simp [rowF, idsOf, ixF, h, List.findIdx?_cons]
    · simp only [rowF, if_neg h, rowF_eq ys x (k + 1)]
      simp only [idsOf, ixF, List.map_cons, List.findIdx?_cons, decide_eq_false h]
      cases List.findIdx? (fun z => decide (z = x)) (List.map (fun x => x.1) ys) with
      | none => rfl
      | some i =>
        show ((k + 1 + i : Nat) : Int) = ((k + (i + 1) : Nat) : Int)
        omega
theorem rowF_zero (R : List TRow) (x : Int × Int) : rowF R x 0 = rowI R x := by
  rw [rowF_eq]
  unfold rowI
  cases ixF (idsOf R) x with
  | none => rfl
  | some i => simp
set_option maxHeartbeats 6400000 in
theorem rrow_does (q m : Nat) (R : List TRow) (id : Int × Int) : Does Tryd.prog 25 #[.pointer (some ⟨q, 0, none⟩), .agg #[.int .i64 id.1, .int .i64 id.2]] (isRt q m R) (fun e B => e = .returned (.int .i64 (rowI R id)) ∧ B = isRt q m R) := by
  refine Does.of fun w F hS => ?_
  obtain ⟨A, c, hc, hn, hS⟩ := rt_open hS.toL
  obtain ⟨a1, a2⟩ := id
  have hS := hS.alloc #[.int .i64 a1, .int .i64 a2] 29
  obtain ⟨g, hg⟩ : ∃ g, g = w.heap.size := ⟨_, rfl⟩
  obtain ⟨W, hW⟩ : ∃ W, W = w.alloc (.cells #[.int .i64 a1, .int .i64 a2] 29) := ⟨_, rfl⟩
  rw [← hW, ← hg] at hS
  have HW := As.mk hW
  have HQ := As.mk hg
  obtain ⟨V, hV⟩ : ∃ V, rowI R (a1, a2) = V := ⟨_, rfl⟩
  simp only
  rw [hV]
  have HV : As (rowF R (a1, a2) 0 = V) := ⟨by rw [rowF_zero]; exact hV⟩
  clear hW hg hV
  go_enter Tryd.func25, Tryd.ntmps25
  go_wp2
  rw [← HW.out, ← HQ.out]
  clear HW HQ
  go_loopg [5] R.length (fun g0 iv wr => ∃ k : Nat, k + g0 = R.length ∧ iv = .int .i64 k ∧ As (rowF (R.drop k) (a1, a2) k = V) ∧ At F w wr (Hp.seps [Hp.blk g #[.int .i64 a1, .int .i64 a2] 29, Hp.blk q #[.int .u16 (m : Nat), .slice A R.length c] 67, Hp.row 70 18 encRow (.slice A R.length c) R]))
  case atStart => exact ⟨0, by omega, rfl, HV, hS⟩
  case round =>
    clear hS HV
    obtain ⟨k, hk, rfl, HV, hS⟩ := hrel
    have HK := As.mk hk
    have g0 := (hS.cellAt 0 rfl 0).trans rfl
    have g1 := (hS.cellAt 0 rfl 1).trans rfl
    have q0 := (hS.cellAt 1 rfl 0).trans rfl
    have q1 := (hS.cellAt 1 rfl 1).trans rfl
    by_cases hlt : k < R.length
    · obtain ⟨x, hx⟩ : ∃ x, R[k]? = some x := ⟨_, List.getElem?_eq_getElem hlt⟩
      obtain ⟨gr, rfl, hgr, hcell⟩ := (hS.rowAt 2 rfl).cell encRow_len k _ hx
      have c0 := (hcell 0 (by decide)).1
      have c1 := (hcell 1 (by decide)).1
      have hdr : R.drop k = x :: R.drop (k + 1) := by rw [List.drop_eq_getElem_cons hlt, (List.getElem?_eq_some_iff.1 hx).2]
      have HV2 := HV.out
      rw [hdr] at HV2
      simp only [rowF] at HV2
      obtain ⟨⟨x1, x2⟩, f⟩ := x
      simp only [encRow, List.getElem?_cons_zero, List.getElem?_cons_succ, Nat.add_zero] at c0 c1
      have hm0 : (k : Int) < (R.length : Int) := by omega
      by_cases he : ((x1, x2) : Int × Int) = (a1, a2)
      · rw [if_pos he] at HV2
        injection he with he1 he2
        subst he1 he2
        have HV3 := As.mk HV2
        clear hk hcell hx hdr HV2 HV hlt
        go_wp2
        go_quiet (fail)
        go_wp2_with fail
        go_ret
        exact At.post (rt_close ((hS.below (by repeat (first | exact Below.refl _ _ | refine bl_drewN ?_ _ | refine Below.drew ?_ | refine bl_alloc ?_ _ | refine bl_set ?_ (by first | (simp; done) | omega | (simp; omega)) _))).sel [1, 1])).ofL ⟨ret_i HV3.out, rfl⟩
      · rw [if_neg he] at HV2
        have HV3 := As.mk HV2
        have t0 : (x1 == a1 && (x2 == a2)) = false := by
          rw [Bool.and_eq_false_iff, beq_eq_false_iff_ne, beq_eq_false_iff_ne]
          by_cases h : x1 = a1
          · exact .inr fun h2 => he (by rw [h, h2])
          · exact .inl h
        clear hk hcell hx hdr HV2 HV he
        go_wp2
        go_quiet (fail)
        go_wp2_with fail
        go_roundg (gk - 1)
        case measure => have := HK.out; omega
        case rel => exact ⟨k + 1, by have := HK.out; omega, by go_num, HV3, hS.below (by repeat (first | exact Below.refl _ _ | refine bl_drewN ?_ _ | refine Below.drew ?_ | refine bl_alloc ?_ _ | refine bl_set ?_ (by first | (simp; done) | omega | (simp; omega)) _))⟩
    · obtain rfl : k = R.length := by omega
      have HV3 : As ((-1 : Int) = V) := ⟨by have := HV.out; rw [List.drop_length] at this; exact this⟩
      clear hk HV hlt
      go_wp2_with fail
      go_ret
      exact At.post (rt_close (hS.sel [1, 1])).ofL ⟨ret_i HV3.out, rfl⟩
end Go.Proofs.YthbmfinaoejheaaDoor
