/- HeapSorts answers true for every list; no conditions. -/
import Derived.Test.YthnojjlaicajhaaK
namespace Go.Proofs.Ythnojjlaicajhaa
open Go.RowKit
theorem take_snoc' {xs : List Item} {i : Nat} {x : Item} (h : xs[i]? = some x) : xs.take (i + 1) = xs.take i ++ [x] := by
  obtain ⟨hi, rfl⟩ := List.getElem?_eq_some_iff.1 h
  exact List.take_succ_eq_append_getElem hi
set_option maxRecDepth 100000 in
set_option maxHeartbeats 12800000 in
theorem sorts_walk (lv : Value) (l : List Item) (w : World) (hd : Rd w 3 encItem lv l) : Calls Try.prog 4 #[lv] w fun e w' => e = .returned (.bool true) ∧ Below w.heap.size w w' := by
  obtain ⟨dA, dc, rfl, hdc, hdn⟩ := hd.shape
  have HD := As.mk hd
  clear hd
  go_enter Try.func4, Try.ntmps4
  go_wp2_with fail
  refine (alive_does w).mono ?_
  rintro e w1 ⟨rfl, hb⟩
  have hS1 := At.start0 hb
  clear hb
  by_cases hg : l.length ≤ 200
  · have d3 : decide (200 < (l.length : Int)) = false := decide_eq_false (by omega)
    have d4 : decide (200 < l.length) = false := decide_eq_false (by omega)
    go_wp2_with fail
    refine (hS1.callNew new_does).mono ?_
    rintro e w2 ⟨B, ⟨p, rfl, rfl⟩, hS2⟩
    clear hS1
    go_wp2_with fail
    go_loopw [5] (fun iv wr => ∃ (i : Nat) (ys : List Item), i ≤ l.length ∧ iv = .int .i64 i ∧ As (Heaped ys) ∧ As (ys.Perm (l.take i)) ∧ At (fun _ => False) w wr (Hp.seps [isHp 40 p ys])) (fun iv _ => l.length - (intOf iv).toNat)
    case atStart => exact ⟨0, [], by omega, rfl, ⟨heaped_nil⟩, ⟨List.Perm.refl _⟩, hS2⟩
    case round =>
      clear hS2
      obtain ⟨i, ys, hi, rfl, HH, HP, hS⟩ := hrel
      by_cases hlt : i < l.length
      · obtain ⟨x, hx⟩ : ∃ x, l[i]? = some x := ⟨_, List.getElem?_eq_getElem hlt⟩
        obtain ⟨db, doff, rfl, hdb, hdcell⟩ := (HD.out.below hS.bl).cells _ _ _ rfl i _ hx
        have c0 := hdcell 0 (by omega)
        have c1 := hdcell 1 (by omega)
        have c2 := hdcell 2 (by omega)
        obtain ⟨x1, x2, x3⟩ := x
        simp only [encItem, List.getElem?_cons_zero, List.getElem?_cons_succ, Nat.add_zero] at c0 c1 c2
        have HX := As.mk hx
        have hyl : ys.length ≤ 1000000 := by have := HP.out.length_eq; rw [List.length_take] at this; omega
        have HC := As.mk (push_does p ys ⟨x1, x2, x3⟩ HH.out hyl)
        clear hdcell hx hyl
        unfold Item.val at HC
        go_wp2_with fail
        refine (hS.callAt 0 rfl HC.out).mono ?_
        rintro e w3 ⟨B, ⟨rfl, zs, hh, hp, rfl⟩, hS3⟩
        have HH2 := As.mk hh
        have HP2 : As (zs.Perm (l.take (i + 1))) := ⟨by rw [take_snoc' HX.out]; exact hp.trans (List.Perm.append_right _ HP.out)⟩
        clear hh hp hS c0 c1 c2
        go_wp2_with fail
        go_roundw
        case rel => exact ⟨i + 1, zs, by omega, by go_num, HH2, HP2, hS3⟩
        case measure => simp [intOf]; omega
      · obtain rfl : i = l.length := by omega
        rw [List.take_length] at HP
        have hyl : ys.length = l.length := HP.out.length_eq
        have HL := As.mk hyl
        clear hyl
        have hS3 := hS.alloc #[.int .i64 0, .int .i64 0, .int .i64 0] 32
        obtain ⟨r, hr⟩ : ∃ r, r = wr.heap.size := ⟨_, rfl⟩
        rw [← hr] at hS3
        have HR := As.mk hr
        clear hr
        go_wp2_with fail
        rw [← HR.out]
        clear HR
        go_loopw [7] (fun iv wr => ∃ (i : Nat) (ys : List Item) (was : Item), i + ys.length = l.length ∧ iv = .int .i64 i ∧ As (Heaped ys) ∧ As (0 < i → ∀ y ∈ ys, ¬ y.lt was) ∧ At (fun _ => False) w wr (Hp.seps [Hp.blk r #[.int .i64 was.key, .int .i64 was.seq, .int .i64 was.what] 32, isHp 40 p ys])) (fun iv _ => l.length - (intOf iv).toNat)
        case atStart => exact ⟨0, ys, ⟨0, 0, 0⟩, by rw [HL.out]; omega, rfl, HH, ⟨fun h => by omega⟩, hS3⟩
        case round =>
          clear hS3 hS HL HH HP
          obtain ⟨i, ys, was, hi, rfl, HH, HW, hS⟩ := hrel
          cases ys with
          | cons y ys =>
            have hlt : i < l.length := by simp at hi; omega
            have hyl : ys.length < 1000000 := by simp at hi; omega
            have HC := As.mk (pop_cons p y ys HH.out hyl)
            have HN : As (0 < i → ¬ y.lt was) := ⟨fun h => HW.out h y (by simp)⟩
            have HRt : As (∀ z ∈ ys, ¬ z.lt y) := ⟨fun z hz => heaped_get0 HH.out (x := y) rfl z (by simp [hz])⟩
            have HI := As.mk hi
            obtain ⟨y1, y2, y3⟩ := y
            unfold Item.val at HC
            clear hi hyl HW HH
            go_wp2_with fail
            refine (hS.callAt 1 rfl HC.out).mono ?_
            rintro e w3 ⟨B, ⟨zs, hh, hp, rfl, rfl⟩, hS3⟩
            have HH2 := As.mk hh
            have hp2 : zs.Perm ys := (List.perm_cons _).1 hp
            have HW2 : As (∀ z ∈ zs, ¬ z.lt ⟨y1, y2, y3⟩) := ⟨fun z hz => HRt.out z (hp2.mem_iff.1 hz)⟩
            have HL2 : As (zs.length = ys.length) := ⟨hp2.length_eq⟩
            clear hh hp hp2 hS HRt HC
            have hS4 := hS3.alloc #[.int .i64 y1, .int .i64 y2, .int .i64 y3] 32
            have r0 := (hS3.cellAt 0 rfl 0).trans rfl
            have r1 := (hS3.cellAt 0 rfl 1).trans rfl
            have r2 := (hS3.cellAt 0 rfl 2).trans rfl
            have rf0 := hS3.frozenAt 0 rfl 0
            have rf1 := hS3.frozenAt 0 rfl 1
            have rf2 := hS3.frozenAt 0 rfl 2
            have rlt := hS3.ltAt 0 rfl
            have n0 := hS4.neBB 0 1 rfl rfl (by decide)
            have n1 := n0.symm
            by_cases hi0 : i = 0
            · subst hi0
              clear HN
              go_wp2_with fail
              exact ⟨⟨1, zs, ⟨y1, y2, y3⟩, by have := HI.out; rw [List.length_cons] at this; rw [HL2.out]; omega, by go_num, HH2, ⟨fun _ => HW2.out⟩, (((hS3.setBlkAt 0 rfl 0 (.int .i64 y1)).setBlkAt 0 rfl 1 (.int .i64 y2)).setBlkAt 0 rfl 2 (.int .i64 y3)).below (by repeat (first | exact Below.refl _ _ | refine bl_drewN ?_ _ | refine Below.drew ?_ | refine bl_alloc ?_ _ | refine bl_set ?_ (by first | (simp; done) | omega | (simp; omega)) _))⟩, by simp [intOf]; omega⟩
            · have t0 : decide ((0 : Int) < (i : Int)) = true := decide_eq_true (by omega)
              have HB := As.mk (fun w => before_does ⟨y1, y2, y3⟩ was w)
              have HF : As (decide (Item.lt ⟨y1, y2, y3⟩ was) = false) := ⟨decide_eq_false (HN.out (by omega))⟩
              rw [HF.out] at HB
              unfold Item.val at HB
              clear HN
              go_wp2_with fail
              refine (hS4.beside (HB.out _)).mono ?_
              rintro e w5 ⟨rfl, hS5⟩
              clear r0 r1 r2 rf0 rf1 rf2 rlt n0 n1 hS4 hS3 HB
              have r0 := (hS5.cellAt 1 rfl 0).trans rfl
              have r1 := (hS5.cellAt 1 rfl 1).trans rfl
              have r2 := (hS5.cellAt 1 rfl 2).trans rfl
              have rf0 := hS5.frozenAt 1 rfl 0
              have rf1 := hS5.frozenAt 1 rfl 1
              have rf2 := hS5.frozenAt 1 rfl 2
              have rlt := hS5.ltAt 1 rfl
              have x0 := (hS5.cellAt 0 rfl 0).trans rfl
              have x1 := (hS5.cellAt 0 rfl 1).trans rfl
              have x2 := (hS5.cellAt 0 rfl 2).trans rfl
              have n0 := hS5.neBB 0 1 rfl rfl (by decide)
              have n1 := n0.symm
              go_wp2_with fail
              exact ⟨⟨i + 1, zs, ⟨y1, y2, y3⟩, by have := HI.out; rw [List.length_cons] at this; rw [HL2.out]; omega, by go_num, HH2, ⟨fun _ => HW2.out⟩, (((hS5.setBlkAt 1 rfl 0 (.int .i64 y1)).setBlkAt 1 rfl 1 (.int .i64 y2)).setBlkAt 1 rfl 2 (.int .i64 y3)).tail⟩, by simp [intOf]; omega⟩
          | nil =>
            have hi2 : i = l.length := by simpa using hi
            subst hi2
            clear hi
            go_wp2_with (go_at_call 10; refine (hS.callAt 1 rfl (len_does p [])).mono ?_; rintro e w5 ⟨B, ⟨rfl, rfl⟩, hS5⟩)
            go_ret
            exact ⟨rfl, hS5.bl⟩
  · have HG := As.mk hg
    clear hg
    go_wp2_with fail
    all_goals first | (exfalso; have := HG.out; omega) | (go_ret; exact ⟨rfl, hS1.bl⟩)
end Go.Proofs.Ythnojjlaicajhaa
