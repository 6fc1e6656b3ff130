/- A table: Remove. -/
import Derived.Test.YtkebkmbfglodlaaDoorTp
set_option linter.unusedVariables false
set_option maxRecDepth 100000
namespace Go.Proofs.YtkebkmbfglodlaaDoor
open Go.RowKit
open Go.Maps (Keyed)
def cellsOf (cs : List Int) (r : TRow) : List (Int × Int) := cs.map fun c => (c, r.2 c)
theorem Tryd.infoC : (Tryd.prog.info? 33).map (fun i => (i.zero, i.size, i.bytes)) = some (some (.agg #[.int .i64 0, .int .i64 0]), 2, 16) := by kernel_rfl
theorem cellsOf_take {cs : List Int} {r : TRow} {k : Nat} {c : Int} (h : cs[k]? = some c) : (cellsOf cs r).take k ++ [(c, r.2 c)] = (cellsOf cs r).take (k + 1) := take_snoc (by simp [cellsOf, h])
set_option maxHeartbeats 6400000 in
theorem rem_none (p : Nat) (cs : List Int) (R : List TRow) (row : Int) (hr : row < 0 ∨ (R.length : Int) ≤ row) : Does Tryd.prog 62 #[.pointer (some ⟨p, 0, none⟩), .int .i64 row] (isTb p cs R) (fun e B => e = .returned (.tuple #[.slice none 0 0, .bool false]) ∧ B = isTb p cs R) := by
  refine Does.of fun w F hS => ?_
  obtain ⟨Ac, cc, Ak, ck, Ai, ci, b, n, L, h⟩ := tb_open hS.toL
  have HT := As.mk h
  have hS := h.at_
  have p0 := (hS.cellAt 0 rfl 0).trans rfl
  have p1 := (hS.cellAt 0 rfl 1).trans rfl
  have p2 := (hS.cellAt 0 rfl 2).trans rfl
  have p3 := (hS.cellAt 0 rfl 3).trans rfl
  clear h hS
  by_cases h2 : row < 0
  · have t2 : decide (row < 0) = true := decide_eq_true h2
    clear hr h2
    go_enter Tryd.func62, Tryd.ntmps62
    go_wp2
    go_ret2
    exact At.post HT.out.close.ofL ⟨rfl, rfl⟩
  · have t2 : decide (row < 0) = false := decide_eq_false h2
    have t3 : decide ((R.length : Int) ≤ row) = true := decide_eq_true (by omega)
    clear hr h2
    go_enter Tryd.func62, Tryd.ntmps62
    go_wp2
    go_ret2
    exact At.post HT.out.close.ofL ⟨rfl, rfl⟩
set_option maxHeartbeats 12800000 in
theorem rem_some (p : Nat) (cs : List Int) (hcl : cs.length ≤ 1000) (R : List TRow) (q : Nat) (r : TRow) (hr : R[q]? = some r) (hn : (idsOf R).Nodup) (hk : ∀ x ∈ idsOf R, okId x) (hm : R.length ≤ 1000000) : Does Tryd.prog 62 #[.pointer (some ⟨p, 0, none⟩), .int .i64 (q : Nat)] (isTb p cs R) (fun e B => ∃ v, e = .returned (.tuple #[v, .bool true]) ∧ B = Hp.seps [Hp.row 33 2 encId v (cellsOf cs r), isTb p cs (swp R q)]) := by
  refine Does.of fun w F hS => ?_
  obtain ⟨Ac, cc, Ak, ck, Ai, ci, b, n, L, h⟩ := tb_open hS.toL
  clear hS
  have hq := (List.getElem?_eq_some_iff.1 hr).1
  obtain ⟨z, hz⟩ : ∃ z, R[R.length - 1]? = some z := ⟨_, List.getElem?_eq_getElem (by omega)⟩
  obtain ⟨N, hN⟩ : ∃ N, R.length = N + 1 := ⟨R.length - 1, by omega⟩
  have HG := As.mk (grx_start (f := fun c => swp (colOf R c) q) h.cols)
  have hS := h.at_.nilRow 33 2 encId
  have t2 : decide ((q : Int) < 0) = false := decide_eq_false (by omega)
  have hmc := h.mc
  have HX := As.mk (And.intro hr hz)
  have HK := As.mk hk
  have HN := As.mk hn
  rw [hN] at hS
  have hqn : q < N + 1 := by omega
  have t3 : decide ((N : Int) + 1 ≤ (q : Int)) = false := decide_eq_false (by omega)
  have t3' : decide (N + 1 ≤ q) = false := decide_eq_false (by omega)
  have HNN := As.mk hN
  have hN6 : N ≤ 1000000 := by omega
  clear hr hz h hk hn hm hN hq
  have p0 := (hS.cellAt 1 rfl 0).trans rfl
  have p1 := (hS.cellAt 1 rfl 1).trans rfl
  have p2 := (hS.cellAt 1 rfl 2).trans rfl
  have p3 := (hS.cellAt 1 rfl 3).trans rfl
  go_enter Tryd.func62, Tryd.ntmps62
  go_wp2_with fail
  go_loopg [7, 33] cs.length (fun g0 ov iv wr => ∃ (k : Nat) (L' : ColL), k + g0 = cs.length ∧ iv = .int .i64 k ∧ As (Grx cs (fun c => swp (colOf R c) q) (colOf R) k L') ∧ At F w wr (Hp.seps (Hp.row 33 2 encId ov ((cellsOf cs r).take k) :: tbX p cs (.slice Ac cs.length cc) (.slice Ak cs.length ck) (.slice Ai (N + 1) ci) b n L' (idsOf R) (ixF (idsOf R)) [])))
  case atStart => exact ⟨0, L, by omega, rfl, HG, hS⟩
  case round =>
    clear hS p0 p1 p2 p3
    obtain ⟨k, L', hk, rfl, HG', hS⟩ := hrel
    have HK' := As.mk hk
    by_cases hlt : k < cs.length
    · obtain ⟨x, hx⟩ : ∃ x, cs[k]? = some x := ⟨_, List.getElem?_eq_getElem hlt⟩
      obtain ⟨v, hv⟩ := HG'.out.2 k x hx
      rw [if_neg (by omega)] at hv
      have hO := hS.rowsOut 4 k rfl hv
      have hcn : (colOf R x).length = N + 1 := by rw [colOf_len, HNN.out]
      obtain ⟨A, c, rfl, h1, h2⟩ := (hO.rowAt 0 rfl).shape
      rw [hcn] at hO hv h1
      obtain ⟨gz, rfl, hgz, hcell⟩ := (hO.rowAt 4 rfl).cell encV_len k _ (by rw [List.getElem?_map, hv]; rfl)
      have c0 := (hcell 0 (by decide)).1
      have f0 := (hcell 0 (by decide)).2
      simp only [encV, Nat.mul_one, Nat.add_zero, List.getElem?_cons_zero] at c0 f0
      have hvq := colOf_get HX.out.1 x
      have hvz := colOf_get HX.out.2 x
      rw [HNN.out, Nat.add_sub_cancel] at hvz
      obtain ⟨gc, rfl, hgc, hcell2⟩ := (hO.rowAt 0 rfl).cell encI_len q _ hvq
      have d0 := (hcell2 0 (by decide)).1
      have e0 := (hcell2 0 (by decide)).2
      have d1 := ((hO.rowAt 0 rfl).at_ encI_len N _ hvz 0 (by decide)).1
      simp only [encI, Nat.mul_one, Nat.add_zero, List.getElem?_cons_zero] at d0 e0 d1
      obtain ⟨bx, boff, hbx, hbl, hbcell⟩ := ((hO.rowAt 3 rfl).rd encI_len).cells _ _ _ rfl k x hx
      subst hbx
      have b0 := hbcell 0 (by decide)
      simp only [encI, Nat.mul_one, Nat.add_zero, List.getElem?_cons_zero] at b0
      have HV := As.mk (And.intro hx hv)
      have HVV := As.mk (And.intro hvq hvz)
      obtain ⟨Ao, no, co, rfl⟩ := (hO.rowAt 1 rfl).slice
      have p0 := (hO.cellAt 2 rfl 0).trans rfl
      have p1 := (hO.cellAt 2 rfl 1).trans rfl
      have p2 := (hO.cellAt 2 rfl 2).trans rfl
      have p3 := (hO.cellAt 2 rfl 3).trans rfl
      have plt := hO.ltAt 2 rfl
      have HT := As.mk (cellsOf_take (r := r) hx)
      have mN : (N : Int) ≤ (c : Int) := by omega
      have HLc : As (((cellsOf cs r).take k).length ≤ 1000) := ⟨by simp [cellsOf]; omega⟩
      clear hS hx hv hcell hcell2 h1 h2 hk hvq hvz hbcell hcn
      go_wp2_with (at_builtin; refine rw_append rfl (.tmp 45) (.tmp 52) 34 33 2 encId (.agg #[.int .i64 0, .int .i64 0]) 16 rfl Tryd.underlying34 Tryd.infoC rfl (by decide) (.slice Ao no co) ((cellsOf cs r).take k) (x, r.2 x) rfl _ rfl (by first | exact blk_new (by simp) | exact blk_new_drew (by simp)) ((hO.below (by repeat (first | exact Below.refl _ _ | refine bl_drewN ?_ _ | refine Below.drew ?_ | refine bl_alloc ?_ _ | refine bl_set ?_ (by first | (simp; done) | omega | (simp; omega)) _))).rowAt 1 rfl) encId_len (one_id _) ?c1 ?c2 ?c3)
      case c1 => have := HLc.out; simp only [maxLen]; omega
      case c2 => have := HLc.out; omega
      case c3 =>
        intro v1 w2 hA
        obtain ⟨A2, n2, c2, rfl⟩ := hA.row.slice
        have hS3 := At.appendAt 1 hA hO rfl (by repeat (first | exact Below.refl _ _ | refine bl_drewN ?_ _ | refine Below.drew ?_ | refine bl_alloc ?_ _ | refine bl_set ?_ (by first | (simp; done) | omega | (simp; omega)) _))
        rw [HT.out] at hS3
        clear hA hO p0 p1 p2 p3 c0 f0 d0 e0 d1 b0
        have d0 := ((hS3.rowAt 0 rfl).at_ encI_len q _ HVV.out.1 0 (by decide))
        have d1 := ((hS3.rowAt 0 rfl).at_ encI_len N _ HVV.out.2 0 (by decide)).1
        have glt := hS3.row_lt 0 rfl
        simp only [encI, Nat.mul_one, Nat.add_zero, List.getElem?_cons_zero] at d0 d1
        have e0 := d0.2
        have d00 := d0.1
        have hS4 := hS3.setAt 0 rfl encI_len q 0 (r.2 x) (z.2 x) (.int .i64 (z.2 x)) HVV.out.1 (by decide) rfl
        simp only [Nat.mul_one, Nat.add_zero] at hS4
        clear d0
        have x1 := (hS4.cellAt 2 rfl 1).trans rfl
        have plt4 := hS4.ltAt 2 rfl
        have y0 := (hS4.rowAt 4 rfl).at_ encV_len k _ (by rw [List.getElem?_map, HV.out.2]; rfl) 0 (by decide)
        have zlt := hS4.row_lt 4 rfl
        simp only [encV, Nat.mul_one, Nat.add_zero, List.getElem?_cons_zero] at y0
        have y1 := y0.1
        have yf := y0.2
        clear y0 hS3
        go_wp2_with fail
        generalize w2.setCell ⟨gc, q, none⟩ (.int .i64 (z.2 x)) = W3 at hS4 x1 plt4 zlt y1 yf ⊢
        go_still_tail 9, (by kernel_rfl)
        go_wp2_with fail
        have hS5 := hS4.drew.setAt 4 rfl encV_len k 0 _ (.slice (some ⟨gc, 0, none⟩) N c) (.slice (some ⟨gc, 0, none⟩) N c) (by rw [List.getElem?_map, HV.out.2]; rfl) (by decide) rfl
        simp only [Nat.mul_one, Nat.add_zero] at hS5
        have hS6 := hS5.takeAt 0 N rfl encI_len (by rw [List.length_set, colOf_len, HNN.out]; omega)
        have hsw : ((colOf R x).set q (z.2 x)).take N = swp (colOf R x) q := by
          rw [swp_eq (z := z.2 x) (by rw [colOf_len, HNN.out]; exact HVV.out.2), colOf_len, HNN.out]; rfl
        rw [hsw] at hS6
        have hS7 := hS6.rowsIn (v := .slice (some ⟨gc, 0, none⟩) N c) (xs := swp (colOf R x) q) 4 k rfl (List.getElem?_eq_some_iff.1 HV.out.2).1
        have HG2 := As.mk (grx_step HG'.out HV.out.1 (.slice (some ⟨gc, 0, none⟩) N c))
        have hS8 : At F w _ (Hp.seps (Hp.row 33 2 encId (.slice A2 n2 c2) ((cellsOf cs r).take (k + 1)) :: tbX p cs (.slice (some ⟨bx, boff, none⟩) cs.length cc) (.slice (some ⟨gz, 0, none⟩) cs.length ck) (.slice Ai (N + 1) ci) b n (L'.set k (.slice (some ⟨gc, 0, none⟩) N c, swp (colOf R x) q)) (idsOf R) (ixF (idsOf R)) [])) := hS7.as _ (by unfold tbX; rw [List.map_set]; rfl)
        clear hS4 hS5 hS6 hS7 HG' hsw x1 y1 yf d00 d1 e0
        go_roundg (gk - 1)
        case measure => have := HK'.out; omega
        case rel => exact ⟨k + 1, _, by have := HK'.out; omega, by go_num, HG2, hS8⟩
    · obtain rfl : k = cs.length := by omega
      have HG2 := As.mk (grx_end HG'.out)
      have hlen : (cellsOf cs r).take cs.length = cellsOf cs r := List.take_of_length_le (by simp [cellsOf])
      rw [hlen] at hS
      clear HG' HK' hlen hk hlt HG
      have hq1 : (idsOf R)[q]? = some r.1 := by simp [idsOf, HX.out.1]
      have hz1 : (idsOf R)[N]? = some z.1 := by have := HX.out.2; rw [HNN.out, Nat.add_sub_cancel] at this; simp [idsOf, this]
      have hidl : (idsOf R).length = N + 1 := by rw [idsOf_len, HNN.out]
      obtain ⟨gi, rfl, hgi, hcell⟩ := (hS.rowAt 5 rfl).cell encId_len q _ hq1
      have i0 := (hcell 0 (by decide)).1
      have i1 := (hcell 1 (by decide)).1
      simp only [encId, List.getElem?_cons_zero, List.getElem?_cons_succ, Nat.add_zero] at i0 i1
      obtain ⟨ka, hka⟩ := key_ok r.1 (HK.out _ (List.mem_of_getElem? hq1))
      obtain ⟨kb, hkb⟩ := key_ok z.1 (HK.out _ (List.mem_of_getElem? hz1))
      have HKa := As.mk hka
      have HKb := As.mk hkb
      have HQ1 := As.mk (And.intro hq1 hz1)
      have HIL := As.mk hidl
      have mi : (N : Int) ≤ (ci : Int) := by have := (hS.rowAt 5 rfl).shape; obtain ⟨A', c', h1, h2, _⟩ := this; injection h1 with _ _ h3; subst h3; rw [hidl] at h2; omega
      obtain ⟨⟨ra, rb⟩, rv⟩ := r
      obtain ⟨⟨za, zb⟩, zv⟩ := z
      simp only at i0 i1
      have m2 : (q : Int) < (N : Int) + 1 := by omega
      have m3 : (N : Int) < (N : Int) + 1 := by omega
      clear hcell hq1 hz1 hidl hka hkb hcl
      have p0 := (hS.cellAt 1 rfl 0).trans rfl
      have p1 := (hS.cellAt 1 rfl 1).trans rfl
      have p2 := (hS.cellAt 1 rfl 2).trans rfl
      have p3 := (hS.cellAt 1 rfl 3).trans rfl
      go_wp2_with fail
      go_still_tail 11, (by kernel_rfl)
      refine rw_mapDelete rfl (.tmp 74) (.tmp 81) 124 rfl 3 Klaw encK_inj Tryd.underlying124 rfl (hS.drew.mpAt 6 rfl) (ra, rb) _ rfl HKa.out ?c1
      case c1 =>
        intro w2 hm2 hg2
        have hS2 := hS.drew.mpGrown 6 rfl hm2 hg2
        clear hm2 hg2 hS p0 p1 p2 p3 i0 i1
        by_cases hqN : q = N
        · have HF := As.mk (ix_swp_last HN.out HQ1.out.1 (by rw [HIL.out]; exact hqN))
          have t5 : ((q : Int) != (N : Int)) = false := by subst hqN; simp
          have t6 : ((q : Int) == (N : Int)) = true := by subst hqN; simp
          have HSW : As ((idsOf R).take N = idsOf (swp R q)) := ⟨by
            rw [idsOf_swp, swp_eq (by rw [HIL.out]; exact HQ1.out.2), HIL.out, Nat.add_sub_cancel, hqN, List.take_set_of_le (Nat.le_refl _)]⟩
          have hS3 := hS2.takeAt 5 N rfl encId_len (by rw [HIL.out]; omega)
          rw [HSW.out] at hS3
          have HSl := As.mk hS3
          clear hS3 hqN
          have p0 := (hS2.cellAt 1 rfl 0).trans rfl
          have p1 := (hS2.cellAt 1 rfl 1).trans rfl
          have p2 := (hS2.cellAt 1 rfl 2).trans rfl
          have p3 := (hS2.cellAt 1 rfl 3).trans rfl
          have pf0 := hS2.frozenAt 1 rfl 0
          have pf1 := hS2.frozenAt 1 rfl 1
          have pf2 := hS2.frozenAt 1 rfl 2
          have pf3 := hS2.frozenAt 1 rfl 3
          have plt := hS2.ltAt 1 rfl
          go_wp2_with fail
          go_ret2
          have hS4 := (HSl.out.setBlkAt 1 rfl 2 (.slice (some ⟨gi, 0, none⟩) N ci)).sel [1, 1, 1, 1, 1, 1, 0]
          refine At.post ((tb_closeV (R := swp R q) (vc := .slice Ac cs.length cc) (vk := .slice Ak cs.length ck) (vi := .slice (some ⟨gi, 0, none⟩) N ci) (b := b) (n := n) (L := L') (hS4.as _ (by unfold tbV; rw [idsOf_swp, ← HF.out]; rfl)) ?_).sel [1, 0]) ⟨_, rfl, rfl⟩
          rw [HG2.out]
          exact List.map_congr_left fun c _ => (colOf_swp R q c).symm
        · have HF := As.mk (ix_swp_mid HN.out HQ1.out.1 (by rw [HIL.out]; exact HQ1.out.2) (by rw [HIL.out]; exact hqN))
          have t5 : ((q : Int) != (N : Int)) = true := by simp; omega
          have t6 : ((q : Int) == (N : Int)) = false := by simp; omega
          have HSW : As (((idsOf R).set q (za, zb)).take N = idsOf (swp R q)) := ⟨by
            rw [idsOf_swp, swp_eq (by rw [HIL.out]; exact HQ1.out.2), HIL.out, Nat.add_sub_cancel]⟩
          have p0 := (hS2.cellAt 1 rfl 0).trans rfl
          have p1 := (hS2.cellAt 1 rfl 1).trans rfl
          have p2 := (hS2.cellAt 1 rfl 2).trans rfl
          have p3 := (hS2.cellAt 1 rfl 3).trans rfl
          have pf0 := hS2.frozenAt 1 rfl 0
          have pf1 := hS2.frozenAt 1 rfl 1
          have pf2 := hS2.frozenAt 1 rfl 2
          have pf3 := hS2.frozenAt 1 rfl 3
          have plt := hS2.ltAt 1 rfl
          have j0 := ((hS2.rowAt 5 rfl).at_ encId_len N _ HQ1.out.2 0 (by decide)).1
          have j1 := ((hS2.rowAt 5 rfl).at_ encId_len N _ HQ1.out.2 1 (by decide)).1
          have k0 := ((hS2.rowAt 5 rfl).at_ encId_len q _ HQ1.out.1 0 (by decide)).2
          have k1 := ((hS2.rowAt 5 rfl).at_ encId_len q _ HQ1.out.1 1 (by decide)).2
          have k2 := ((hS2.rowAt 5 rfl).at_ encId_len q _ HQ1.out.1 0 (by decide)).1
          have k3 := ((hS2.rowAt 5 rfl).at_ encId_len q _ HQ1.out.1 1 (by decide)).1
          have klt := hS2.row_lt 5 rfl
          simp only [encId, List.getElem?_cons_zero, List.getElem?_cons_succ, Nat.add_zero] at j0 j1 k0 k1 k2 k3
          clear hqN
          go_wp2_with fail
          go_still_tail 13, (by kernel_rfl)
          go_wp2_with fail
          have hS4 := ((hS2.setAt 5 rfl encId_len q 0 (ra, rb) (za, rb) (.int .i64 za) HQ1.out.1 (by decide) rfl).setAt 5 rfl encId_len q 1 (za, rb) (za, zb) (.int .i64 zb) (by rw [List.getElem?_set_self (by rw [HIL.out]; exact hqn)]) (by decide) rfl).drew
          simp only [Nat.add_zero, List.set_set] at hS4
          clear hS2 p0 p1 p2 p3 pf0 pf1 pf2 pf3 plt j0 j1 k0 k1 k2 k3 klt
          generalize ((w2.setCell ⟨gi, q * 2, none⟩ (.int .i64 za)).setCell ⟨gi, q * 2 + 1, none⟩ (.int .i64 zb)).drew = W3 at hS4 ⊢
          have hS5 : At F w W3 (Hp.seps (Hp.row 33 2 encId u7 (cellsOf cs ((ra, rb), rv)) :: tbX p cs (.slice Ac cs.length cc) (.slice Ak cs.length ck) (.slice (some ⟨gi, 0, none⟩) (N + 1) ci) b n L' ((idsOf R).set q (za, zb)) (fput (ixF (idsOf R)) (ra, rb) none) [])) := hS4
          have p0 := (hS5.cellAt 1 rfl 0).trans rfl
          have p1 := (hS5.cellAt 1 rfl 1).trans rfl
          have p2 := (hS5.cellAt 1 rfl 2).trans rfl
          have p3 := (hS5.cellAt 1 rfl 3).trans rfl
          have hqs : ((idsOf R).set q (za, zb))[q]? = some (za, zb) := by rw [List.getElem?_set_self (by rw [HIL.out]; exact hqn)]
          have j0 := ((hS5.rowAt 5 rfl).at_ encId_len q _ hqs 0 (by decide)).1
          have j1 := ((hS5.rowAt 5 rfl).at_ encId_len q _ hqs 1 (by decide)).1
          simp only [encId, List.getElem?_cons_zero, List.getElem?_cons_succ, Nat.add_zero] at j0 j1
          clear hqs hS4
          go_still_tail 12, (by kernel_rfl)
          refine rw_mapUpdate rfl (.tmp 101) (.tmp 108) (.tmp 109) 124 rfl 3 Klaw encK_inj Tryd.underlying124 rfl (hS5.drew.mpAt 6 rfl) (za, zb) q _ rfl rfl HKb.out ?c2
          intro w4 hm2 hg2
          have hS6 := hS5.drew.mpGrown 6 rfl hm2 hg2
          rw [HF.out] at hS6
          clear hm2 hg2 hS5 p0 p1 p2 p3 j0 j1
          have p0 := (hS6.cellAt 1 rfl 0).trans rfl
          have p1 := (hS6.cellAt 1 rfl 1).trans rfl
          have p2 := (hS6.cellAt 1 rfl 2).trans rfl
          have p3 := (hS6.cellAt 1 rfl 3).trans rfl
          have pf0 := hS6.frozenAt 1 rfl 0
          have pf1 := hS6.frozenAt 1 rfl 1
          have pf2 := hS6.frozenAt 1 rfl 2
          have pf3 := hS6.frozenAt 1 rfl 3
          have plt := hS6.ltAt 1 rfl
          go_wp2_with fail
          have hS7 := hS6.takeAt 5 N rfl encId_len (by rw [List.length_set, HIL.out]; omega)
          rw [HSW.out] at hS7
          go_ret2
          have hS8 := (hS7.setBlkAt 1 rfl 2 (.slice (some ⟨gi, 0, none⟩) N ci)).sel [1, 1, 1, 1, 1, 1, 0]
          refine At.post ((tb_closeV (R := swp R q) (vc := .slice Ac cs.length cc) (vk := .slice Ak cs.length ck) (vi := .slice (some ⟨gi, 0, none⟩) N ci) (b := b) (n := n + 1) (L := L') (hS8.as _ (by unfold tbV; rw [idsOf_swp]; rfl)) ?_).sel [1, 0]) ⟨_, rfl, rfl⟩
          rw [HG2.out]
          exact List.map_congr_left fun c _ => (colOf_swp R q c).symm
end Go.Proofs.YtkebkmbfglodlaaDoor
