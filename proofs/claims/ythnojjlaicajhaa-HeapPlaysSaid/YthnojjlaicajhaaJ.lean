/- The reference: Pop; alive. -/
import Derived.Test.YthnojjlaicajhaaI
namespace Go.Proofs.Ythnojjlaicajhaa
open Go.RowKit
set_option maxHeartbeats 3200000 in
theorem rpop_nil (p : Nat) : Does Try.prog 12 #[.pointer (some ⟨p, 0, none⟩)] (isHp 29 p []) (fun e B => e = .returned (.tuple #[.agg #[.int .i64 0, .int .i64 0, .int .i64 0], .bool false]) ∧ B = isHp 29 p []) := by
  refine Does.of fun w F hS => ?_
  obtain ⟨sA, sc, hsc, hn, hS⟩ := hp_open hS
  have h0 : w.cell? ⟨p, 0, none⟩ = some (.slice sA 0 sc) := (hS.cellAt 0 rfl 0).trans rfl
  have hp := hS.ltAt 0 rfl
  go_enter Try.func12, Try.ntmps12
  go_wp2
  refine bodyPost_ret (v := .tuple #[.agg #[.int .i64 0, .int .i64 0, .int .i64 0], .bool false]) (by simp [results, Try.results12, go_sem]) rfl ?_
  exact At.post (hp_close (hS.below (by repeat (first | exact Below.refl _ _ | refine bl_drewN ?_ _ | refine Below.drew ?_ | refine bl_alloc ?_ _ | refine bl_set ?_ (by first | (simp; done) | omega | (simp; omega)) _)))) ⟨rfl, rfl⟩
set_option maxHeartbeats 6400000 in
theorem rpop_cons (p : Nat) (x : Item) (xs : List Item) (hm : xs.length ≤ 1000000) : Does Try.prog 12 #[.pointer (some ⟨p, 0, none⟩)] (isHp 29 p (x :: xs)) (fun e B => e = .returned (.tuple #[x.val, .bool true]) ∧ B = isHp 29 p xs) := by
  refine Does.of fun w F hS => ?_
  obtain ⟨sA, sc, hsc, hn, hS⟩ := hp_open hS
  obtain ⟨gs, rfl, hgs⟩ := row_ptr (hS.rowAt 1 rfl) 0 x rfl
  obtain ⟨c0, c1, c2, _⟩ := item_cells (hS.rowAt 1 rfl) 0 x rfl
  obtain ⟨A, hA, HR⟩ := tail_rd 1 (some ⟨gs, 0, none⟩) sc (x :: xs) (by simp)
  have h0 : w.cell? ⟨p, 0, none⟩ = some (.slice (some ⟨gs, 0, none⟩) (xs.length + 1) sc) := (hS.cellAt 0 rfl 0).trans rfl
  have z0 := hS.frozenAt 0 rfl 0
  have hp := hS.ltAt 0 rfl
  have hS := (hS.alloc #[.int .i64 0, .int .i64 0, .int .i64 0] 32).alloc #[.int .i64 x.key, .int .i64 x.seq, .int .i64 x.what] 32
  obtain ⟨x1, x2, x3⟩ := x
  simp only [Nat.zero_mul, Nat.zero_add] at c0 c1 c2
  have d0 : (((xs.length : Int) + 1) == 0) = false := beq_eq_false_iff_ne.2 (by omega)
  have m0 : (0 : Int) < (xs.length : Int) + 1 := by omega
  have m1 : (1 : Int) ≤ (xs.length : Int) + 1 := by omega
  have hA' : (if sc = 1 then (some ⟨gs, 0, none⟩ : Option Addr) else some ⟨gs, 3, none⟩) = A := by rw [← hA, Option.map_some, Addr.add_lit]
  have HR2 : As (∀ W, Rw W 32 3 encItem (.slice (some ⟨gs, 0, none⟩) (xs.length + 1) sc) (⟨x1, x2, x3⟩ :: xs) → Rd W 3 encItem (.slice A xs.length (sc - 1)) xs) := ⟨fun W h => HR.out W h⟩
  clear hA HR
  unfold Item.val
  go_enter Try.func12, Try.ntmps12
  go_wp2_with (at_builtin; refine rw_appendL rfl (.const (.slice none 0 0)) (.tmp 23) 22 32 3 encItem (.agg #[.int .i64 0, .int .i64 0, .int .i64 0]) 24 rfl Try.underlying22 Try.info32 rfl (by decide) (.slice none 0 0) (.slice A xs.length (sc - 1)) ([] : List Item) xs rfl rfl (HR2.out _ ((hS.below (by repeat (first | exact Below.refl _ _ | refine bl_drewN ?_ _ | refine Below.drew ?_ | refine bl_alloc ?_ _ | refine bl_set ?_ (by first | (simp; done) | omega | (simp; omega)) _))).rowAt 3 rfl)) (Rw.nil _ _ _ _) encItem_len one_item ?c1 ?c2 ?c3)
  case c1 => simp only [maxLen]; omega
  case c2 => omega
  case c3 =>
    intro v1 w1 hA
    obtain ⟨A1, n1, c1', rfl⟩ := hA.row.slice
    have hT := At.appendLAt 0 hA (hS.nilRow 32 3 encItem) rfl (by repeat (first | exact Below.refl _ _ | refine bl_drewN ?_ _ | refine Below.drew ?_ | refine bl_alloc ?_ _ | refine bl_set ?_ (by first | (simp; done) | omega | (simp; omega)) _))
    clear hA
    have h0 := (hT.cellAt 3 rfl 0).trans rfl
    have f0 := hT.frozenAt 3 rfl 0
    have y0 := (hT.cellAt 2 rfl 0).trans rfl
    have y1 := (hT.cellAt 2 rfl 1).trans rfl
    have y2 := (hT.cellAt 2 rfl 2).trans rfl
    have yf0 := hT.frozenAt 2 rfl 0
    have yf1 := hT.frozenAt 2 rfl 1
    have yf2 := hT.frozenAt 2 rfl 2
    have ylt := hT.ltAt 2 rfl
    have r0 := (hT.cellAt 1 rfl 0).trans rfl
    have r1 := (hT.cellAt 1 rfl 1).trans rfl
    have r2 := (hT.cellAt 1 rfl 2).trans rfl
    have n01 := hT.neBB 1 2 rfl rfl (by decide)
    have n01' := n01.symm
    have n02 := hT.neBB 1 3 rfl rfl (by decide)
    have n02' := n02.symm
    have n12 := hT.neBB 2 3 rfl rfl (by decide)
    have n12' := n12.symm
    simp only [World.size_alloc] at *
    go_wp2
    have h4 := (((hT.setBlkAt 3 rfl 0 (.slice A1 n1 c1')).setBlkAt 2 rfl 0 (.int .i64 x1)).setBlkAt 2 rfl 1 (.int .i64 x2)).setBlkAt 2 rfl 2 (.int .i64 x3)
    have e0 := (h4.cellAt 2 rfl 0).trans rfl
    have e1 := (h4.cellAt 2 rfl 1).trans rfl
    have e2 := (h4.cellAt 2 rfl 2).trans rfl
    refine bodyPost_ret (v := .tuple #[.agg #[.int .i64 x1, .int .i64 x2, .int .i64 x3], .bool true]) (by simp [results, Try.results12, go_sem, e0, e1, e2]) rfl ?_
    have h5 := h4.sel [3, 0]
    exact At.post (hp_close h5) ⟨rfl, rfl⟩
end Go.Proofs.Ythnojjlaicajhaa
