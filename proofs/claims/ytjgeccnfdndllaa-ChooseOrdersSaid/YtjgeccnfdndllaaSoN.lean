/- ChooseOrders: the walk of the law; no conditions. -/
import Derived.Test.YtjgeccnfdndllaaSoM
import Derived.Deep.RegionLaw
import Derived.BigQuiet
set_option linter.unusedVariables false
set_option linter.unusedSimpArgs false
set_option maxRecDepth 100000
namespace Go.Proofs.Ytjgeccnfdndllaa
open Go.RowKit
set_option maxHeartbeats 51200000 in
theorem orders_walk (v : Value) (xs : List Int) (w : World) (h : Rd w 1 encInt v xs) : Calls Try.prog 5 #[v] w fun e w' => e = .returned (.bool true) ∧ Below w.heap.size w w' := by
  obtain ⟨A, c, rfl, hc, hn⟩ := h.shape
  have HD := As.mk h
  clear h
  obtain ⟨N, hN⟩ : ∃ N, N = xs.length := ⟨_, rfl⟩
  have HN := As.mk hN
  rw [← hN] at hc hn ⊢
  by_cases hg : N ≤ 60
  · have t1 : decide ((60 : Int) < (N : Int)) = false := decide_eq_false (by omega)
    have hmk := run_make_row' (P := Try.prog) 34 4 (.bool false) 1 Try.underlying34 Try.info4 rfl .i64 .i64 N (by omega) (by omega)
    have HO := As.mk (fun (W : World) (hR : Rd W 1 encInt (.slice A xs.length c) xs) => order_does A c xs hR (by omega))
    rw [← hN] at HO
    clear hN
    go_enter Try.func5, Try.ntmps5
    go_wp2_with fail
    refine (alive_does w).mono ?_
    rintro e w1 ⟨rfl, hb⟩
    have HB := As.mk hb
    clear hb
    go_wp2_with fail
    refine (HO.out _ (by have := HD.out.below HB.out; rw [← HN.out] at this; exact this)).mono ?_
    rintro e w2 ⟨ov, S, lst, rfl, HS, hS⟩
    have hSl := HS.out.1
    obtain ⟨D, n0, cc, rfl⟩ := (hS.rowAt 0 rfl).slice
    obtain rfl : n0 = N := by have := ((hS.rowAt 0 rfl).rd encInt_len).len; omega
    have hS2 := hS.newRow (w1 := w2.alloc (.cells (madeCells #[.bool false] n0) 4)) (by repeat (first | exact Below.refl _ _ | refine bl_drewN ?_ _ | refine Below.drew ?_ | refine bl_alloc ?_ _ | refine bl_set ?_ (by first | (simp; done) | omega | (simp; omega)) _)) (rw_made w2 4 (.bool false) n0 encB false rfl (by simp only [maxLen]; omega)) (by simp [Value.ownBlock])
    obtain ⟨gd, hgd⟩ : ∃ gd, gd = w2.heap.size := ⟨_, rfl⟩
    obtain ⟨W1, hW1⟩ : ∃ W1, W1 = w2.alloc (.cells (madeCells #[.bool false] n0) 4) := ⟨_, rfl⟩
    rw [← hgd, ← hW1] at hS2
    have HW1 := As.mk hW1
    have HGd := As.mk hgd
    clear hS hW1 hgd hSl HO
    go_wp2_with fail
    rw [← HW1.out, ← HGd.out]
    clear HW1 HGd hmk
    go_loopg [6] n0 (fun g0 iv wr => ∃ i : Nat, i + g0 = n0 ∧ iv = .int .i64 i ∧ At (fun _ => False) w1 wr (Hp.seps (Hp.row 4 1 encB (.slice (some ⟨gd, 0, none⟩) n0 n0) (tab n0 (usedF S i)) :: Hp.row 3 1 encInt (.slice D n0 cc) S :: lst)))
    case atStart => exact ⟨0, Nat.zero_add _, rfl, by rw [usedF_zero]; exact hS2⟩
    case round =>
      clear hS2
      obtain ⟨i, hi, rfl, hS⟩ := hrel
      by_cases hlt : i < n0
      · obtain ⟨j, hj, hjn, hju⟩ := seg_get HS.out.2 HS.out.1 hlt
        obtain ⟨gs, rfl⟩ : ∃ gs, D = some ⟨gs, 0, none⟩ := by
          cases D with
          | none => have := (hS.rowAt 1 rfl).none_nil; have h1 := HS.out.1; rw [this.2.2] at h1; simp at h1; omega
          | some q => obtain ⟨g, rfl, _⟩ := (hS.rowAt 1 rfl).head0; exact ⟨g, rfl⟩
        have HI := As.mk hi
        have s1 : IntKind.i64.wrap ((i : Int) + 1) = ((i + 1 : Nat) : Int) := by rw [IntKind.wrap_i64]; omega
        have bl := HB.out.trans (Below.mono hS.bl HB.out.size)
        have HC := As.mk (HD.out.below bl)
        obtain ⟨wj, hwj⟩ : ∃ wj, xs[j]? = some wj := ⟨_, List.getElem?_eq_getElem (by have := HN.out; omega)⟩
        obtain ⟨b, off, rfl, hb, hcell⟩ := (HD.out.below bl).cells A n0 c (by rw [HN.out]) j wj hwj
        have c3 := hcell 0 (by omega)
        simp only [encInt, List.getElem?_cons_zero, Nat.add_zero, Nat.mul_one] at c3
        have c1 := ((hS.rowAt 1 rfl).at1 i j hj).1
        obtain ⟨c2, f2⟩ := (hS.rowAt 0 rfl).at_ encB_len j false (by rw [tab_get _ _ _ hjn]; simp [usedF, hju]) 0 (by decide)
        rw [Nat.mul_one, Nat.add_zero] at c2 f2
        replace c2 : wr.cell? ⟨gd, j, none⟩ = some (.bool false) := c2
        have hin : (i : Int) < (n0 : Int) := by omega
        have hjn2 : (j : Int) < (n0 : Int) := by omega
        have HS2 : As (∀ k, At (fun _ => False) w1 ((wr.drewN k).setCell ⟨gd, j, none⟩ (.bool true)) (Hp.seps (Hp.row 4 1 encB (.slice (some ⟨gd, 0, none⟩) n0 n0) (tab n0 (usedF S (i + 1))) :: Hp.row 3 1 encInt (.slice (some ⟨gs, 0, none⟩) n0 cc) S :: lst))) := ⟨fun k => by
          have hS2 := (hS.drewN k).setAt 0 rfl encB_len j 0 false true (.bool true) (by rw [tab_get _ _ _ hjn]; simp [usedF, hju]) (by decide) rfl
          rw [Nat.mul_one, Nat.add_zero, tab_set, usedF_succ hj] at hS2
          exact hS2⟩
        have hjb : j ≤ 60 := by omega
        have HJ := As.mk (⟨hj, hwj⟩ : _ ∧ _)
        have d1 : decide ((j : Int) < 0) = false := decide_eq_false (by omega)
        have d2 : decide (n0 ≤ j) = false := decide_eq_false (by omega)
        have d2' : decide ((n0 : Int) ≤ (j : Int)) = false := decide_eq_false (by omega)
        clear bl hb hcell hi hwj hjn
        go_upto_region 11 with fail
        simp only [List.append]
        go_cut [106] (fun tv wc => tv = .bool false ∧ ∃ k, wc = wr.drewN k)
        case first =>
          clear HS2 HI
          by_cases hi0 : i = 0
          · subst hi0
            clear hS hj hju
            go_big_quiet (fail)
            go_wp2_with fail
            go_meet
            exact ⟨rfl, _, rfl⟩
          · obtain ⟨p, hp⟩ : ∃ p : Nat, S[i - 1]? = some (p : Int) := by
              obtain ⟨p, hp, _, _⟩ := seg_get HS.out.2 HS.out.1 (show i - 1 < n0 by omega)
              exact ⟨p, hp⟩
            have hpn : p < n0 := by
              have := HS.out.2.mem (List.mem_of_getElem? hp)
              have := HS.out.1
              omega
            obtain ⟨wp, hwp⟩ : ∃ wp, xs[p]? = some wp := ⟨_, List.getElem?_eq_getElem (by have := HN.out; omega)⟩
            obtain ⟨b', off', he, _, hcell⟩ := HC.out.cells _ _ _ rfl p wp hwp
            injection he with he
            injection he with he1 he2
            subst he1; subst he2
            have c4 := hcell 0 (by omega)
            simp only [encInt, List.getElem?_cons_zero, Nat.add_zero, Nat.mul_one] at c4
            obtain ⟨i1, hi1⟩ : ∃ i1, i1 = i - 1 := ⟨_, rfl⟩
            rw [← hi1] at hp
            have c5 := ((hS.rowAt 1 rfl).at1 i1 p hp).1
            have s2 : IntKind.i64.wrap ((i : Int) - 1) = (i1 : Int) := by rw [IntKind.wrap_i64]; omega
            have hi1n : (i1 : Int) < (n0 : Int) := by omega
            have hpn2 : (p : Int) < (n0 : Int) := by omega
            have hst := seg_step (N := n0) HS.out.2 (show 0 < i by omega) (by rw [← hi1]; exact hp) hj hwp HJ.out.2
            have d3 : decide ((0 : Int) < (i : Int)) = true := decide_eq_true (by omega)
            have d3' : decide (0 < i) = true := decide_eq_true (by omega)
            have d4 : decide (wp < wj) = false := decide_eq_false hst.1
            by_cases hww : wp = wj
            · have d6 : decide ((j : Int) < (p : Int)) = false := decide_eq_false (by have := hst.2 hww; omega)
              have d6' : decide (j < p) = false := decide_eq_false (by have := hst.2 hww; omega)
              subst hww
              clear hS hj hju hst hcell hwp hp hi1 hi0
              go_big_quiet (fail)
              go_wp2_with fail
              go_meet
              exact ⟨rfl, _, rfl⟩
            · have d5 : (wp == wj) = false := by rw [beq_eq_false_iff_ne]; exact hww
              clear hS hj hju hst hcell hwp hp hi1 hi0 hww
              go_big_quiet (fail)
              go_wp2_with fail
              go_meet
              exact ⟨rfl, _, rfl⟩
        case rest =>
          obtain ⟨rfl, k, rfl⟩ := hcut
          clear hS
          go_wp2_with fail
          go_roundg (n0 - (i + 1))
          case measure => have := HI.out; omega
          case rel => exact ⟨i + 1, by omega, by go_num, HS2.out k⟩
      · obtain rfl : i = n0 := by omega
        have HBL := As.mk (HB.out.trans (Below.mono hS.bl HB.out.size))
        clear hi hn hc
        by_cases h0 : i = 0
        · subst h0
          clear hS
          go_upto_region 14 with fail
          go_big_quiet (fail)
          go_wp2_with fail
          go_ret
          exact ⟨rfl, bl_drewN HBL.out _⟩
        · obtain ⟨j, hj, hjn, _⟩ := seg_get HS.out.2 HS.out.1 (show 0 < i by omega)
          obtain ⟨gs, rfl⟩ : ∃ gs, D = some ⟨gs, 0, none⟩ := by
            cases D with
            | none => have := (hS.rowAt 1 rfl).none_nil; have h1 := HS.out.1; rw [this.2.2] at h1; simp at h1; omega
            | some q => obtain ⟨g, rfl, _⟩ := (hS.rowAt 1 rfl).head0; exact ⟨g, rfl⟩
          have hin : (0 : Int) < (i : Int) := by omega
          have hin2 : 0 < i := by omega
          have b0 : ((i : Int) == 0) = false := by rw [beq_eq_false_iff_ne]; omega
          have HKp : As (∀ V : World, Below wr.heap.size wr V → V.cell? ⟨gs, 0, none⟩ = some (.int .i64 j)) := ⟨fun V hb => (((hS.below hb).rowAt 1 rfl).at1 0 j hj).1⟩
          have HC : As (∀ V : World, Below wr.heap.size wr V → Calls Try.prog 7 #[.slice A i c] V fun e w' => e = .returned (.int .i64 j) ∧ Below wr.heap.size wr w') := ⟨fun V hb => by
            have hbV := HBL.out.trans (Below.mono hb HBL.out.size)
            have h := best_does (.slice A i c) xs V (by have := HD.out.below hbV; rw [← HN.out] at this; exact this)
            refine h.mono fun e w' hh => ?_
            obtain ⟨⟨r, rfl, hr⟩, hb2⟩ := hh
            rw [← seg_best HS.out.2 HS.out.1 HN.out.symm (show 0 < i by omega) hj hr]
            exact ⟨rfl, hb.trans (Below.mono hb2 hb.size)⟩⟩
          clear hS hj hjn h0
          go_upto_region 14 with fail
          go_region_held3 (fun V => V.cell? ⟨gs, 0, none⟩ = some (.int .i64 j)) (first | with_reducible exact HKp.out _ HB3.out | exact HKp.out _ (by repeat (first | exact Below.refl _ _ | refine bl_drewN ?_ _ | refine Below.drew ?_ | refine bl_alloc ?_ _ | refine bl_set ?_ (by first | (simp; done) | omega | (simp; omega)) _))) (first | (go_at_call 7; refine (HC.out _ (by repeat (first | exact Below.refl _ _ | refine bl_drewN ?_ _ | refine Below.drew ?_ | refine bl_alloc ?_ _ | refine bl_set ?_ (by first | (simp; done) | omega | (simp; omega)) _))).mono ?_; rintro e w3 ⟨rfl, hb3⟩; have HB3 := As.mk hb3; clear hb3))
          all_goals (go_wp2_with fail)
          all_goals (go_ret)
          all_goals (exact ⟨rfl, HBL.out.trans (Below.mono (by first | exact HB3.out | exact bl_drewN HB3.out _ | exact bl_drew HB3.out) HBL.out.size)⟩)
  · have t1 : decide ((60 : Int) < (N : Int)) = true := decide_eq_true (by omega)
    have t2 : decide (60 < N) = true := decide_eq_true (by omega)
    clear hN
    go_enter Try.func5, Try.ntmps5
    go_wp2_with fail
    refine (alive_does w).mono ?_
    rintro e w1 ⟨rfl, hb⟩
    go_wp2_with fail
    refine bodyPost_ret (v := .bool true) (by simp [results, Try.results5, go_sem]) rfl ⟨rfl, ?_⟩
    first | exact hb | exact bl_drew hb | exact bl_drewN hb _
end Go.Proofs.Ytjgeccnfdndllaa
