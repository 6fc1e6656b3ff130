/- laid lays a tree as 'lay' says. For trees of bounded size; no other condition. -/
import Derived.Test.YtfgpdpccfpilaaaLayFlatOrder
import Derived.Deep.RegionHeld3
import Derived.Deep.Cut
set_option linter.unusedVariables false
namespace Go.Proofs.Ytfgpdpccfpilaaa.OpenFlatOrder
open Go.RowKit Go.Deep
open Go.Proofs.YtfgpdpccfpilaaaW.PrintWords Go.Proofs.YtfgpdpccfpilaaaW.PrintLast Go.Proofs.YtfgpdpccfpilaaaW.PrintMore Go.Proofs.Ytfgpdpccfpilaaa.PFlatOrder
def LaidDo (n : Nat) : Prop := ∀ (w0 : World) (x : S27) (A7 : Option Addr) (c7 : Nat) (A8 : Option Addr) (c8 : Nat) (A9 : Option Addr) (c9 : Nat) (w : World) (A : Option Addr) (c : Nat) (l : List S39) (par : Int), szN x ≤ n → NodeIn w0 x A7 c7 A8 c8 A9 c9 → Below w0.heap.size w0 w → k39.R 39 w w0.heap.size tt (.slice A l.length c) l → l.length + szN x ≤ 4194304 →
  Calls Try.prog 19 #[.slice A l.length c, nodeV x A7 c7 A8 c8 A9 c9, .int .i64 par] w fun e w' => ∃ A' c', e = .returned (.slice A' (lay x par l).length c') ∧ Grows w w' w0.heap.size (.slice A l.length c) (.slice A' (lay x par l).length c') (lay x par l)
theorem pcells {V : World} {p : Nat} {a0 a1 a2 : Int} {s3 : ByteArray} {e0 e1 : Int} {e2 : ByteArray} {v7 v8 v9 : Value} (h : V.heap[p]? = some (.cells #[.int .i64 a0, .int .i64 a1, .int .i64 a2, .string s3, .int .i64 e0, .int .i64 e1, .string e2, v7, v8, v9] 27 (0, 0))) :
    V.cell? ⟨p, 0, none⟩ = some (.int .i64 a0) ∧ V.cell? ⟨p, 1, none⟩ = some (.int .i64 a1) ∧ V.cell? ⟨p, 2, none⟩ = some (.int .i64 a2) ∧ V.cell? ⟨p, 3, none⟩ = some (.string s3) ∧ V.cell? ⟨p, 4, none⟩ = some (.int .i64 e0) ∧ V.cell? ⟨p, 5, none⟩ = some (.int .i64 e1) ∧ V.cell? ⟨p, 6, none⟩ = some (.string e2) ∧ V.cell? ⟨p, 7, none⟩ = some v7 ∧ V.cell? ⟨p, 8, none⟩ = some v8 ∧ V.cell? ⟨p, 9, none⟩ = some v9 :=
  ⟨cell_of_blk h 0, cell_of_blk h 1, cell_of_blk h 2, cell_of_blk h 3, cell_of_blk h 4, cell_of_blk h 5, cell_of_blk h 6, cell_of_blk h 7, cell_of_blk h 8, cell_of_blk h 9⟩
set_option maxRecDepth 100000 in
set_option maxHeartbeats 12800000 in
theorem laid_step (n : Nat) (hn : n ≤ 2097151) (ih : LaidDo n) : LaidDo (n + 1) := by
  intro w0 x A7 c7 A8 c8 A9 c9 w A c l par hsz hN hB hR hl
  have hk := szN_parts x
  have hlen := len_szNs x.f5
  have HTk := As.mk (fun k y h => szNs_take x.f5 k y h)
  have HLy : As (lay x par l = endAt (lays x.f5 l.length (l ++ [rowOf x par])) l.length) := ⟨by obtain ⟨a0, a1, a2, s3, e, kids, ws⟩ := x; rw [lay]⟩
  have HRo : As (rowOf x par = ⟨x.f0, x.f1, x.f2, 0, par, x.f3, x.f4, x.f6⟩) := ⟨rfl⟩
  obtain ⟨RL, hRL⟩ : ∃ r, r = rowOf x par := ⟨_, rfl⟩
  obtain ⟨LY, hLY⟩ : ∃ r, r = lay x par l := ⟨_, rfl⟩
  rw [← hRL] at HLy HRo
  rw [← hLY] at HLy
  obtain ⟨a0, a1, a2, s3, ⟨e0, e1, e2, e3⟩, kids, ws⟩ := x
  unfold nodeV
  rw [← hLY]
  clear hRL hLY
  simp only at hk hlen HTk HLy HRo ⊢
  have HSz := As.mk (⟨hsz, hk, hl, hlen⟩ : _ ∧ _ ∧ _ ∧ _)
  obtain ⟨W, hW⟩ : ∃ W, W = w.alloc (.cells #[.int .i64 a0, .int .i64 a1, .int .i64 a2, .string s3, .int .i64 e0, .int .i64 e1, .string e2, .slice A7 e3.length c7, .slice A8 kids.length c8, .slice A9 ws.length c9] 27) := ⟨_, rfl⟩
  obtain ⟨p, hp⟩ : ∃ p, p = w.heap.size := ⟨_, rfl⟩
  have hbW : Below w.heap.size w W := by rw [hW]; exact (Below.refl _ _).alloc (Nat.le_refl _) _
  have hpb : W.heap[p]? = some (.cells #[.int .i64 a0, .int .i64 a1, .int .i64 a2, .string s3, .int .i64 e0, .int .i64 e1, .string e2, .slice A7 e3.length c7, .slice A8 kids.length c8, .slice A9 ws.length c9] 27 (0, 0)) := by rw [hW, hp]; exact ((At.start0 (Below.refl w.heap.size w)).alloc #[.int .i64 a0, .int .i64 a1, .int .i64 a2, .string s3, .int .i64 e0, .int .i64 e1, .string e2, .slice A7 e3.length c7, .slice A8 kids.length c8, .slice A9 ws.length c9] 27).blkAt 0 rfl
  have hpn : some p ≠ (Value.slice A l.length c).ownBlock := none_or (fun j e => by rw [hp]; exact Kd.R_lt hR j e)
  have hpW : p < W.heap.size := blk_lt hpb
  have hB0 : Below w0.heap.size w0 W := hB.trans (Below.mono hbW hB.size)
  have hRW := Kd.R_below hR hbW
  have HW := As.mk (⟨hW.symm, hp.symm⟩ : _ ∧ _)
  have HN := As.mk hN
  have HP := As.mk (⟨hpb, hpn, hpW⟩ : _ ∧ _ ∧ _)
  have HBW := As.mk (⟨hB, hbW, hB0⟩ : _ ∧ _ ∧ _)
  have HR := As.mk (⟨hR, hRW⟩ : _ ∧ _)
  have HC1 := As.mk (fun (V : World) (hb : Below W.heap.size W V) => (copy_all n (by omega)).2 ⟨e0, e1, e2, e3⟩ A7 c7 V (by omega) (Kd.C_below hN.g7 (hB0.trans (Below.mono hb hB0.size))) hN.l7)
  have HC2 := As.mk (fun (V : World) (hb : Below W.heap.size W V) => (copy_all n (by omega)).1 ws A9 c9 V (by omega) (Kd.C_below hN.g9 (hB0.trans (Below.mono hb hB0.size))) hN.l9)
  have HI := As.mk ih
  obtain ⟨L1, hL1⟩ : ∃ r, r = l ++ [RL] := ⟨_, rfl⟩
  rw [← hL1] at HLy
  have HL1 := As.mk hL1
  have HL1l : As (L1.length = l.length + 1) := ⟨by rw [hL1, List.length_append, List.length_singleton]⟩
  clear hL1
  have HSp : As (∀ V : World, V.heap[p]? = W.heap[p]? → (V.cell? ⟨p, 0, none⟩ = some (.int .i64 a0) ∧ V.cell? ⟨p, 1, none⟩ = some (.int .i64 a1) ∧ V.cell? ⟨p, 2, none⟩ = some (.int .i64 a2) ∧ V.cell? ⟨p, 3, none⟩ = some (.string s3) ∧ V.cell? ⟨p, 4, none⟩ = some (.int .i64 e0) ∧ V.cell? ⟨p, 5, none⟩ = some (.int .i64 e1) ∧ V.cell? ⟨p, 6, none⟩ = some (.string e2) ∧ V.cell? ⟨p, 7, none⟩ = some (.slice A7 e3.length c7) ∧ V.cell? ⟨p, 8, none⟩ = some (.slice A8 kids.length c8) ∧ V.cell? ⟨p, 9, none⟩ = some (.slice A9 ws.length c9))) := ⟨fun V hV => pcells (hV.trans hpb)⟩
  have HSb : As (∀ V : World, Below W.heap.size W V → V.heap[p]? = W.heap[p]?) := ⟨fun V hV => hV.block p hpW⟩
  obtain ⟨p0, p1, p2, p3, p4, p5, p6, p7, p8, p9⟩ := HSp.out W rfl
  have hkl := hN.g8.2.1
  clear hsz hk hl hlen hW hp hbW hpb hpn hpW hB0 hRW hN hB hR ih
  go_enter Try.func19, Try.ntmps19
  go_upto_region 2 with fail
  rw [HW.out.1, HW.out.2]
  clear HW
  go_cut [0] (fun v wc => ∃ A1 c1, v = .slice A1 L1.length c1 ∧ As (Grows w wc w0.heap.size (.slice A l.length c) (.slice A1 L1.length c1) L1) ∧ As (wc.heap[p]? = W.heap[p]? ∧ some p ≠ (Value.slice A1 L1.length c1).ownBlock ∧ W.heap.size ≤ wc.heap.size))
  case first =>
    go_region_held3 (fun V => V.cell? ⟨p, 0, none⟩ = some (.int .i64 a0) ∧ V.cell? ⟨p, 1, none⟩ = some (.int .i64 a1) ∧ V.cell? ⟨p, 2, none⟩ = some (.int .i64 a2) ∧ V.cell? ⟨p, 3, none⟩ = some (.string s3) ∧ V.cell? ⟨p, 4, none⟩ = some (.int .i64 e0) ∧ V.cell? ⟨p, 5, none⟩ = some (.int .i64 e1) ∧ V.cell? ⟨p, 6, none⟩ = some (.string e2) ∧ V.cell? ⟨p, 7, none⟩ = some (.slice A7 e3.length c7) ∧ V.cell? ⟨p, 8, none⟩ = some (.slice A8 kids.length c8) ∧ V.cell? ⟨p, 9, none⟩ = some (.slice A9 ws.length c9))
      (first | exact HSp.out _ (HSb.out _ (Below.drew (Below.refl _ _))) | exact HSp.out _ (HSb.out _ HB26.out) | exact HSp.out _ (HSb.out _ HB27.out) | exact HSp.out _ (HSb.out _ (HB26.out.alloc HB26.out.size _)) | exact HSp.out _ (HSb.out _ (HB27.out.alloc HB27.out.size _)) | exact HSp.out _ HEnd.out.1)
      (first
        | (go_at_call 26; (first | (have hV := HB27.out) | (have hV := Below.drew (Below.refl W.heap.size W))); refine (HC1.out _ hV).mono ?_; rintro e w1 ⟨v1, rfl, hb1, hR1⟩; obtain ⟨A1', c1', rfl⟩ := Kd.R_slice hR1; have HB26 := As.mk (hV.trans (Below.mono hb1 hV.size)); have HL26 := As.mk hb1; have HA1 := As.mk (fun (V : World) (h : Below w1.heap.size w1 V) => Kd.R_below (Kd.R_lower (Kd.R_mono (Kd.R_bound hR1) (ok' := fun k => W.heap.size ≤ k) (fun k hk => Nat.le_trans hV.size hk.2.1)) (Nat.le_trans HBW.out.2.2.size hV.size)) h); clear hV hb1 hR1)
        | (go_at_call 27; (first | (have hV := HB26.out) | (have hV := Below.drew (Below.refl W.heap.size W))); refine (HC2.out _ hV).mono ?_; rintro e w2 ⟨v2, rfl, hb2, hR2⟩; obtain ⟨A2', c2', rfl⟩ := Kd.R_slice hR2; have HB27 := As.mk (hV.trans (Below.mono hb2 hV.size)); have HL27 := As.mk hb2; have HA2 := As.mk (fun (V : World) (h : Below w2.heap.size w2 V) => Kd.R_below (Kd.R_lower (Kd.R_mono (Kd.R_bound hR2) (ok' := fun k => W.heap.size ≤ k) (fun k hk => Nat.le_trans hV.size hk.2.1)) (Nat.le_trans HBW.out.2.2.size hV.size)) h); clear hV hb2 hR2)
        | (refine Kd.R_append_step k39 (w0 := w0) w0.heap.size rfl (.tmp 12) (.tmp 29) 31 39 (.agg #[.int .i64 0, .int .i64 0, .int .i64 0, .int .i64 0, .int .i64 0, .string ⟨#[]⟩, .int .i64 0, .int .i64 0, .string ⟨#[]⟩, .slice none 0 0, .slice none 0 0]) 136 rfl Try.underlying31 infoF rfl (by decide) (by decide) (.slice A l.length c) l RL _ tt (fun k => W.heap.size ≤ k) rfl rfl (by rw [HRo.out]; exact k39_mkM _ w0.heap.size (fun k => W.heap.size ≤ k) ⟨a0, a1, a2, 0, par, s3, ⟨e0, e1, e2, e3⟩, ws⟩ (HA1.out _ (by first | exact Below.refl _ _ | exact HL26.out | exact HL27.out)) (HA2.out _ (by first | exact Below.refl _ _ | exact HL26.out | exact HL27.out))) (fun k hk => ⟨trivial, fun e => by have := Kd.R_lt HR.out.2 k e.symm; omega⟩) (fun _ _ => trivial) (Kd.R_below HR.out.2 (by first | exact HB26.out | exact HB27.out)) (HBW.out.2.2.trans (Below.mono (by first | exact HB26.out | exact HB27.out) HBW.out.2.2.size)) (Below.size (HBW.out.2.2.trans (Below.mono (by first | exact HB26.out | exact HB27.out) HBW.out.2.2.size))) (by have := HSz.out.2.2.1; omega) ?_; intro v3 w3 hR3 hB3 hg3 hat3; rw [← HL1.out] at hR3; obtain ⟨A3, c3, rfl⟩ := Kd.R_slice hR3; (first | (have hG : Grows w1 w3 w0.heap.size (.slice A l.length c) (.slice A3 L1.length c3) L1 := ⟨hR3, hg3, hat3⟩; have hbl := HB26.out) | (have hG : Grows w2 w3 w0.heap.size (.slice A l.length c) (.slice A3 L1.length c3) L1 := ⟨hR3, hg3, hat3⟩; have hbl := HB27.out)); have hK := hG.keeps (Nat.lt_of_lt_of_le HP.out.2.2 hbl.size) HP.out.2.1; have HEnd := As.mk (⟨hK.1.trans (HSb.out _ hbl), hK.2, Nat.le_trans hbl.size hG.g.size⟩ : w3.heap[p]? = W.heap[p]? ∧ some p ≠ (Value.slice A3 L1.length c3).ownBlock ∧ W.heap.size ≤ w3.heap.size); have HGr := As.mk (hG.from (HBW.out.2.1.trans (Below.mono hbl HBW.out.2.1.size))); clear hR3 hB3 hg3 hat3 hG hbl hK))
    all_goals (go_wp2_with fail)
    all_goals (go_meet)
    all_goals (exact ⟨_, _, rfl, HGr, HEnd⟩)
  case rest =>
    clear p0 p1 p2 p3 p4 p5 p6 p7 p8 p9
    obtain ⟨A1, c1, rfl, HG, HK⟩ := hcut
    obtain ⟨p0, p1, p2, p3, p4, p5, p6, p7, p8, p9⟩ := HSp.out _ HK.out.1
    go_wp2_with fail
    go_loopg [0, 34] kids.length (fun g0 vv iv wr => ∃ (k : Nat) (A2 : Option Addr) (c2 : Nat) (Lk : List S39), k + g0 = kids.length ∧ iv = .int .i64 k ∧ vv = .slice A2 Lk.length c2 ∧ As (Lk = lays (kids.take k) l.length L1) ∧ As (Grows w wr w0.heap.size (.slice A l.length c) (.slice A2 Lk.length c2) Lk) ∧ As (wr.heap[p]? = W.heap[p]? ∧ some p ≠ (Value.slice A2 Lk.length c2).ownBlock ∧ W.heap.size ≤ wr.heap.size))
    case atStart => exact ⟨0, A1, c1, L1, by omega, rfl, rfl, ⟨by rw [List.take_zero, lays]⟩, HG, HK⟩
    case round =>
      clear p0 p1 p2 p3 p4 p5 p6 p7 p8 p9 HG HK
      obtain ⟨k, A2, c2, Lk, hk, rfl, rfl, HE, HG, HK⟩ := hrel
      have HBr := As.mk (HG.out.bl HBW.out.1 HR.out.1)
      by_cases hlt : k < kids.length
      · obtain ⟨x, hx⟩ : ∃ x, kids[k]? = some x := ⟨_, List.getElem?_eq_getElem hlt⟩
        have HKk := As.mk hk
        have HT : As (lays (kids.take (k + 1)) l.length L1 = lay x l.length Lk) := ⟨by rw [lays_take hx, HE.out]⟩
        have HLm := As.mk (HTk.out k x hx)
        have HLl : As (Lk.length = L1.length + cntNs (kids.take k)) := ⟨by rw [HE.out, lays_len]⟩
        have hbr := HBr.out
        obtain ⟨b, off, X7, x7, X8, x8, X9, x9, rfl, hbl, hN1, u0, u1, u2, u3, u4, u5, u6, u7, u8, u9⟩ := node_at HN.out.g8 x hx
        have v0 := (hbr.cell (p := ⟨b, off + k * 10, none⟩) hbl).trans u0
        have v1 := (hbr.cell (p := ⟨b, off + k * 10 + 1, none⟩) hbl).trans u1
        have v2 := (hbr.cell (p := ⟨b, off + k * 10 + 2, none⟩) hbl).trans u2
        have v3 := (hbr.cell (p := ⟨b, off + k * 10 + 3, none⟩) hbl).trans u3
        have v4 := (hbr.cell (p := ⟨b, off + k * 10 + 4, none⟩) hbl).trans u4
        have v5 := (hbr.cell (p := ⟨b, off + k * 10 + 5, none⟩) hbl).trans u5
        have v6 := (hbr.cell (p := ⟨b, off + k * 10 + 6, none⟩) hbl).trans u6
        have v7 := (hbr.cell (p := ⟨b, off + k * 10 + 7, none⟩) hbl).trans u7
        have v8 := (hbr.cell (p := ⟨b, off + k * 10 + 8, none⟩) hbl).trans u8
        have v9 := (hbr.cell (p := ⟨b, off + k * 10 + 9, none⟩) hbl).trans u9
        clear u0 u1 u2 u3 u4 u5 u6 u7 u8 u9
        obtain ⟨LX, hLX⟩ : ∃ r, r = lay x l.length Lk := ⟨_, rfl⟩
        rw [← hLX] at HT
        obtain ⟨V, hV⟩ : ∃ V, V = wr.alloc (.cells #[.int .i64 x.f0, .int .i64 x.f1, .int .i64 x.f2, .string x.f3, .int .i64 x.f4.f0, .int .i64 x.f4.f1, .string x.f4.f2, .slice X7 x.f4.f3.length x7, .slice X8 x.f5.length x8, .slice X9 x.f6.length x9] 27) := ⟨_, rfl⟩
        have hbV : Below wr.heap.size wr V := by rw [hV]; exact (Below.refl _ _).alloc (Nat.le_refl _) _
        have HVb := As.mk hbV
        have HCC := As.mk (HI.out w0 x X7 x7 X8 x8 X9 x9 V A2 c2 Lk (l.length : Int) (by have := HSz.out.1; have := HSz.out.2.1; have := HLm.out; omega) hN1 (hbr.trans (Below.mono hbV hbr.size)) (Kd.R_below HG.out.R hbV) (by have := HSz.out.1; have := HSz.out.2.1; have := HSz.out.2.2.1; have := HLm.out; have := HLl.out; have := HL1l.out; omega))
        rw [← hLX] at HCC
        have HV := As.mk hV.symm
        unfold nodeV at HCC
        obtain ⟨z0, z1, z2, z3, ⟨z4, z5, z6, z7⟩, z8, z9⟩ := x
        simp only at v0 v1 v2 v3 v4 v5 v6 v7 v8 v9 HCC HV
        have hin : (k : Int) < (kids.length : Int) := by omega
        clear hk hx hN1 hbr hV hLX hbV
        obtain ⟨p0, p1, p2, p3, p4, p5, p6, p7, p8, p9⟩ := HSp.out _ HK.out.1
        go_wp2_with fail
        rw [HV.out]
        refine HCC.out.mono ?_
        rintro e w3 ⟨A3, c3, rfl, hG3⟩
        have hK3 := hG3.keeps (Nat.lt_of_lt_of_le HP.out.2.2 (Nat.le_trans HK.out.2.2 HVb.out.size)) HK.out.2.1
        have HK3 := As.mk (⟨(hK3.1.trans (HVb.out.block p (Nat.lt_of_lt_of_le HP.out.2.2 HK.out.2.2))).trans HK.out.1, hK3.2, Nat.le_trans HK.out.2.2 (Nat.le_trans HVb.out.size hG3.g.size)⟩ : w3.heap[p]? = W.heap[p]? ∧ some p ≠ (Value.slice A3 LX.length c3).ownBlock ∧ W.heap.size ≤ w3.heap.size)
        have HG3 := As.mk (HG.out.trans (hG3.from HVb.out))
        clear hK3 hG3 p0 p1 p2 p3 p4 p5 p6 p7 p8 p9
        go_wp2_with fail
        go_roundg (gk - 1)
        case measure => have := HKk.out; omega
        case rel => exact ⟨k + 1, A3, c3, LX, by have := HKk.out; omega, by go_num, rfl, ⟨HT.out.symm⟩, HG3, HK3⟩
      · obtain rfl : k = kids.length := by omega
        have hE := HE.out
        rw [List.take_length] at hE
        have hlk := lays_len kids l.length L1
        rw [← hE] at hlk
        have hl1 := HL1l.out
        obtain ⟨g, cap, e, _⟩ := Kd.R_form HG.out.R (by omega)
        injection e with e1 _ e3
        subst e1; subst e3
        obtain ⟨⟨u, hu⟩, hf, hg⟩ := end_set HG.out.R l.length (by omega)
        have hin : (l.length : Int) < (Lk.length : Int) := by omega
        have HEn : As (LY.length = Lk.length ∧ Grows w (wr.setCell ⟨g, l.length * 11 + 3, none⟩ (.int .i64 Lk.length)) w0.heap.size (.slice A l.length c) (.slice (some ⟨g, 0, none⟩) LY.length c2) LY) := by
          have e2 : LY = endAt Lk l.length := by rw [HLy.out, hE]
          have e3 : LY.length = Lk.length := by rw [e2, endAt_len]
          refine ⟨e3, ?_⟩
          have := HG.out.trans hg
          rw [e3, e2]
          exact this
        clear hE hlk hl1 hg
        obtain ⟨p0, p1, p2, p3, p4, p5, p6, p7, p8, p9⟩ := HSp.out _ HK.out.1
        go_wp2_with fail
        go_ret
        exact ⟨some ⟨g, 0, none⟩, c2, by rw [HEn.out.1]; rfl, HEn.out.2⟩
theorem laid_all : ∀ n, n ≤ 2097152 → LaidDo n
  | 0, _ => fun w0 x _ _ _ _ _ _ w A c l par hn _ _ _ _ => by have := szN_parts x; omega
  | n + 1, hn => laid_step n (by omega) (laid_all n (by omega))
end Go.Proofs.Ytfgpdpccfpilaaa.OpenFlatOrder
