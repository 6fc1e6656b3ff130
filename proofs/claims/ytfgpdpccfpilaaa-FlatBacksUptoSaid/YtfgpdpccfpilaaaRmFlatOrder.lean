/- The reference's flat lays a tree as 'lay' says; its rows share the tree's memory. -/
import Derived.Test.YtfgpdpccfpilaaaBk4FlatOrder
import Derived.Test.YtfgpdpccfpilaaaSameFFlatOrder
set_option linter.unusedVariables false
set_option linter.unusedSimpArgs false
namespace Go.Proofs.Ytfgpdpccfpilaaa.OpenFlatOrder
open Go.RowKit Go.Deep
open Go.Proofs.YtfgpdpccfpilaaaW.PrintWords Go.Proofs.YtfgpdpccfpilaaaW.PrintLast Go.Proofs.YtfgpdpccfpilaaaW.PrintMore Go.Proofs.Ytfgpdpccfpilaaa.PFlatOrder
structure Fw where
  y : S39
  A : Option Addr
  c : Nat
  B : Option Addr
  d : Nat
def encW (o : Fw) : List Value := [.int .i64 o.y.f0, .int .i64 o.y.f1, .int .i64 o.y.f2, .int .i64 o.y.f3, .int .i64 o.y.f4, .string o.y.f5, .int .i64 o.y.f6.f0, .int .i64 o.y.f6.f1, .string o.y.f6.f2, .slice o.A o.y.f6.f3.length o.c, .slice o.B o.y.f7.length o.d]
theorem encW_len (o : Fw) : (encW o).length = 11 := rfl
theorem one_W (o : Fw) : ∀ u ∈ encW o, u.oneCell' = true := by
  intro u hu
  simp only [encW, List.mem_cons, List.not_mem_nil, or_false] at hu
  rcases hu with rfl | rfl | rfl | rfl | rfl | rfl | rfl | rfl | rfl | rfl | rfl <;> rfl
structure GoodW (w : World) (o : Fw) : Prop where
  l9 : o.y.f6.f3.length ≤ o.c
  g9 : k24.C w o.A o.y.f6.f3.length o.y.f6.f3
  l10 : o.y.f7.length ≤ o.d
  g10 : k24.C w o.B o.y.f7.length o.y.f7
theorem GoodW.below {w w1 : World} {o : Fw} (h : GoodW w o) (hb : Below w.heap.size w w1) : GoodW w1 o := ⟨h.l9, Kd.C_below h.g9 hb, h.l10, Kd.C_below h.g10 hb⟩
theorem fw_C {w : World} {v : Value} {rs : List Fw} (h : Rw w 39 11 encW v rs) (hg : ∀ o ∈ rs, GoodW w o) : ∃ A c, v = .slice A rs.length c ∧ rs.length ≤ c ∧ k39.C w A (rs.map (·.y)).length (rs.map (·.y)) := by
  obtain ⟨A, c, rfl, h1, h2⟩ := h.shape
  refine ⟨A, c, rfl, h1, rfl, by rw [List.length_map]; exact h2, fun hn => ?_⟩
  rw [List.length_map] at hn
  obtain ⟨g, e, _, _⟩ := h.cell encW_len 0 rs[0] (List.getElem?_eq_getElem hn)
  subst e
  refine ⟨_, rfl, fun j p hj => ?_⟩
  rw [List.getElem?_map] at hj
  obtain ⟨o, ho, rfl⟩ := Option.map_eq_some_iff.1 hj
  have hgo := hg o (List.mem_of_getElem? ho)
  obtain ⟨g', e, _, hc⟩ := h.cell encW_len j o ho
  injection e with e; injection e with e; subst e
  refine ⟨encW o, rfl, k39_mk w o.y hgo.l9 hgo.g9 hgo.l10 hgo.g10, fun i u hu => ?_⟩
  have hi : i < 11 := (List.getElem?_eq_some_iff.1 hu).1
  rw [Addr.add_lit, Nat.zero_add]
  exact (hc i hi).1.trans hu
theorem cntNs_take : ∀ (kids : List S27) (k : Nat) (x : S27), kids[k]? = some x → cntNs (kids.take k) + cntN x ≤ cntNs kids
  | [], k, x, h => by simp at h
  | y :: l, 0, x, h => by
    obtain rfl : y = x := by simpa using h
    simp only [List.take_zero, cntNs]; omega
  | y :: l, k + 1, x, h => by
    have := cntNs_take l k x (by simpa using h)
    simp only [List.take_succ_cons, cntNs]; omega
def RF (n : Nat) : Prop := ∀ (wb : World) (x : S27) (A7 : Option Addr) (c7 : Nat) (A8 : Option Addr) (c8 : Nat) (A9 : Option Addr) (c9 : Nat) (w : World) (v : Value) (rs : List Fw) (l : List Hp) (par : Int), szN x ≤ n → NodeIn wb x A7 c7 A8 c8 A9 c9 → rs.length + cntN x ≤ 2097152 →
  (∀ o ∈ rs, GoodW wb o) → At (fun _ => False) wb w (Hp.seps (Hp.row 39 11 encW v rs :: l)) →
  Calls Try.prog 24 #[v, nodeV x A7 c7 A8 c8 A9 c9, .int .i64 par] w fun e w' => ∃ v' rs', e = .returned v' ∧ rs'.map (·.y) = lay x par (rs.map (·.y)) ∧ (∀ o ∈ rs', GoodW wb o) ∧ At (fun _ => False) wb w' (Hp.seps (Hp.row 39 11 encW v' rs' :: l))
theorem end_map (rs : List Fw) (i : Nat) (o : Fw) (h : rs[i]? = some o) : (rs.set i { o with y := { o.y with f3 := (rs.length : Int) } }).map (·.y) = endAt (rs.map (·.y)) i := by
  unfold endAt
  rw [List.getElem?_map, h]
  simp only [Option.map_some, List.map_set, List.length_map]
set_option maxRecDepth 100000 in
set_option maxHeartbeats 12800000 in
theorem rf_step (n : Nat) (ih : RF n) : RF (n + 1) := by
  intro wb x A7 c7 A8 c8 A9 c9 w v rs l par hsz hN hl hg hS
  have hk := szN_parts x
  have HTk := As.mk (fun k y h => szNs_take x.f5 k y h)
  have HLy : As (lay x par (rs.map (·.y)) = endAt (lays x.f5 rs.length (rs.map (·.y) ++ [rowOf x par])) rs.length) := ⟨by
    obtain ⟨a0, a1, a2, s3, e, kids, ws⟩ := x; rw [lay, List.length_map]⟩
  have HCn : As (cntN x = cntNs x.f5 + 1) := ⟨by obtain ⟨a0, a1, a2, s3, e, kids, ws⟩ := x; rw [cntN]⟩
  have HRo : As (rowOf x par = ⟨x.f0, x.f1, x.f2, 0, par, x.f3, x.f4, x.f6⟩) := ⟨rfl⟩
  have hkl := hN.g8.2.1
  obtain ⟨LY, hLY⟩ : ∃ r, r = lay x par (rs.map (·.y)) := ⟨_, rfl⟩
  rw [← hLY] at HLy ⊢
  obtain ⟨a0, a1, a2, s3, ⟨e0, e1, e2, e3⟩, kids, ws⟩ := x
  unfold nodeV
  simp only at hk HTk HLy HCn HRo hkl ⊢
  have HSz := As.mk (⟨hsz, hk, hl⟩ : _ ∧ _ ∧ _)
  have HN := As.mk hN
  have HG := As.mk hg
  have HI := As.mk ih
  obtain ⟨A0, c0, rfl, hc0, hn0⟩ := (hS.rowAt 0 rfl).shape
  obtain ⟨N0, hN0⟩ : ∃ N0, N0 = rs.length := ⟨_, rfl⟩
  have HN0 := As.mk hN0
  rw [← hN0] at hS hc0 hn0 HLy ⊢
  clear hsz hk hl hN hg ih hLY hN0
  have hS := hS.alloc #[.int .i64 a0, .int .i64 a1, .int .i64 a2, .string s3, .int .i64 e0, .int .i64 e1, .string e2, .slice A7 e3.length c7, .slice A8 kids.length c8, .slice A9 ws.length c9] 27
  obtain ⟨bx0, hbx0⟩ : ∃ q, q = w.heap.size := ⟨_, rfl⟩
  obtain ⟨W0, hW0⟩ : ∃ V, V = w.alloc (.cells #[.int .i64 a0, .int .i64 a1, .int .i64 a2, .string s3, .int .i64 e0, .int .i64 e1, .string e2, .slice A7 e3.length c7, .slice A8 kids.length c8, .slice A9 ws.length c9] 27) := ⟨_, rfl⟩
  rw [← hbx0, ← hW0] at hS
  have Hbx : As (w.alloc (.cells #[.int .i64 a0, .int .i64 a1, .int .i64 a2, .string s3, .int .i64 e0, .int .i64 e1, .string e2, .slice A7 e3.length c7, .slice A8 kids.length c8, .slice A9 ws.length c9] 27) = W0 ∧ w.heap.size = bx0) := ⟨hW0.symm, hbx0.symm⟩
  clear hbx0 hW0
  have p0 := (hS.cellAt 0 rfl 0).trans rfl
  have p1 := (hS.cellAt 0 rfl 1).trans rfl
  have p2 := (hS.cellAt 0 rfl 2).trans rfl
  have p3 := (hS.cellAt 0 rfl 3).trans rfl
  have p4 := (hS.cellAt 0 rfl 4).trans rfl
  have p5 := (hS.cellAt 0 rfl 5).trans rfl
  have p6 := (hS.cellAt 0 rfl 6).trans rfl
  have p7 := (hS.cellAt 0 rfl 7).trans rfl
  have p8 := (hS.cellAt 0 rfl 8).trans rfl
  have p9 := (hS.cellAt 0 rfl 9).trans rfl
  go_enter Try.func24, Try.ntmps24
  go_upto_region 1 with fail
  rw [Hbx.out.1, Hbx.out.2]
  clear Hbx
  go_wp2_with (at_builtin; refine rw_append rfl (.tmp 11) (.tmp 26) 31 39 11 encW (.agg #[.int .i64 0, .int .i64 0, .int .i64 0, .int .i64 0, .int .i64 0, .string ⟨#[]⟩, .int .i64 0, .int .i64 0, .string ⟨#[]⟩, .slice none 0 0, .slice none 0 0]) 136 rfl Try.underlying31 infoF rfl (by decide) (.slice A0 N0 c0) rs ⟨⟨a0, a1, a2, 0, par, s3, ⟨e0, e1, e2, e3⟩, ws⟩, A7, c7, A9, c9⟩ rfl _ rfl (by first | exact blk_new (by simp) | exact blk_new_drew (by simp)) ((hS.below (by repeat (first | exact Below.refl _ _ | refine bl_drewN ?_ _ | refine Below.drew ?_ | refine bl_alloc ?_ _ | refine bl_set ?_ (by first | (simp; done) | omega | (simp; omega)) _))).rowAt 1 rfl) encW_len (one_W _) ?c1 ?c2 ?c3)
  case c1 => have := HN0.out; have := HSz.out.2.2; simp only [maxLen]; omega
  case c2 => have := HN0.out; have := HSz.out.2.2; omega
  case c3 =>
    intro v1 w2 hA
    have hS2 := At.appendAt 1 hA hS rfl (by repeat (first | exact Below.refl _ _ | refine bl_drewN ?_ _ | refine Below.drew ?_ | refine bl_alloc ?_ _ | refine bl_set ?_ (by first | (simp; done) | omega | (simp; omega)) _))
    obtain ⟨R1, hR1⟩ : ∃ R1 : List Fw, R1 = rs ++ [⟨⟨a0, a1, a2, 0, par, s3, ⟨e0, e1, e2, e3⟩, ws⟩, A7, c7, A9, c9⟩] := ⟨_, rfl⟩
    have HR1 : As (R1.map (·.y) = rs.map (·.y) ++ [⟨a0, a1, a2, 0, par, s3, ⟨e0, e1, e2, e3⟩, ws⟩] ∧ R1.length = N0 + 1 ∧ ∀ o ∈ R1, GoodW wb o) := ⟨by
      refine ⟨by rw [hR1]; simp, by rw [hR1, HN0.out]; simp, fun o ho => ?_⟩
      rw [hR1, List.mem_append, List.mem_singleton] at ho
      rcases ho with ho | rfl
      · exact HG.out o ho
      · exact ⟨HN.out.l7, HN.out.g7, HN.out.l9, HN.out.g9⟩⟩
    rw [← hR1] at hS2
    clear hA hS hR1
    have hS3 : At (fun _ => False) wb w2 (Hp.seps (Hp.row 39 11 encW v1 R1 :: Hp.blk bx0 #[.int .i64 a0, .int .i64 a1, .int .i64 a2, .string s3, .int .i64 e0, .int .i64 e1, .string e2, .slice A7 e3.length c7, .slice A8 kids.length c8, .slice A9 ws.length c9] 27 :: l)) := hS2.map fun _ _ => Hp.swap
    clear hS2 p1 p2 p3 p4 p5 p6 p7 p8 p9
    go_wp2_with fail
    go_loopg [0, 8] kids.length (fun g0 v0 v8 wr => ∃ (k : Nat) (rk : List Fw), k + g0 = kids.length ∧ v8 = .int .i64 k ∧ As (rk.map (·.y) = lays (kids.take k) N0 (R1.map (·.y))) ∧ As (∀ o ∈ rk, GoodW wb o) ∧ At (fun _ => False) wb wr (Hp.seps (Hp.row 39 11 encW v0 rk :: Hp.blk bx0 #[.int .i64 a0, .int .i64 a1, .int .i64 a2, .string s3, .int .i64 e0, .int .i64 e1, .string e2, .slice A7 e3.length c7, .slice A8 kids.length c8, .slice A9 ws.length c9] 27 :: l)))
    case atStart => exact ⟨0, R1, by omega, rfl, ⟨by rw [List.take_zero, lays]⟩, ⟨HR1.out.2.2⟩, hS3⟩
    case round =>
      clear hS3
      obtain ⟨k, rk, hk, rfl, HE, HGk, hS⟩ := hrel
      have HK := As.mk hk
      obtain ⟨A1, c1, rfl, hc1, hn1⟩ := (hS.rowAt 0 rfl).shape
      have p0 := (hS.cellAt 1 rfl 0).trans rfl
      have p1 := (hS.cellAt 1 rfl 1).trans rfl
      have p2 := (hS.cellAt 1 rfl 2).trans rfl
      have p3 := (hS.cellAt 1 rfl 3).trans rfl
      have p4 := (hS.cellAt 1 rfl 4).trans rfl
      have p5 := (hS.cellAt 1 rfl 5).trans rfl
      have p6 := (hS.cellAt 1 rfl 6).trans rfl
      have p7 := (hS.cellAt 1 rfl 7).trans rfl
      have p8 := (hS.cellAt 1 rfl 8).trans rfl
      have p9 := (hS.cellAt 1 rfl 9).trans rfl
      have HLn : As (rk.length = N0 + 1 + cntNs (kids.take k)) := ⟨by
        have h := congrArg List.length HE.out
        rw [List.length_map, lays_len, List.length_map, HR1.out.2.1] at h
        exact h⟩
      by_cases hlt : k < kids.length
      · obtain ⟨x, hx⟩ : ∃ x, kids[k]? = some x := ⟨_, List.getElem?_eq_getElem hlt⟩
        have HT : As (lays (kids.take (k + 1)) N0 (R1.map (·.y)) = lay x N0 (rk.map (·.y))) := ⟨by rw [lays_take hx, HE.out]⟩
        have HLm := As.mk (HTk.out k x hx)
        obtain ⟨b, off, X7, x7, X8, x8, X9, x9, rfl, hbl, hN1, u0, u1, u2, u3, u4, u5, u6, u7, u8, u9⟩ := node_at HN.out.g8 x hx
        have hbr := hS.bl
        have v0 := (hbr.cell (p := ⟨b, off + k * 10, none⟩) hbl).trans u0
        have v1 := (hbr.cell (p := ⟨b, off + k * 10 + 1, none⟩) hbl).trans u1
        have v2 := (hbr.cell (p := ⟨b, off + k * 10 + 2, none⟩) hbl).trans u2
        have v3 := (hbr.cell (p := ⟨b, off + k * 10 + 3, none⟩) hbl).trans u3
        have v4 := (hbr.cell (p := ⟨b, off + k * 10 + 4, none⟩) hbl).trans u4
        have v5 := (hbr.cell (p := ⟨b, off + k * 10 + 5, none⟩) hbl).trans u5
        have v6 := (hbr.cell (p := ⟨b, off + k * 10 + 6, none⟩) hbl).trans u6
        have v7 := (hbr.cell (p := ⟨b, off + k * 10 + 7, none⟩) hbl).trans u7
        have v8 := (hbr.cell (p := ⟨b, off + k * 10 + 8, none⟩) hbl).trans u8
        have v9 := (hbr.cell (p := ⟨b, off + k * 10 + 9, none⟩) hbl).trans u9
        clear u0 u1 u2 u3 u4 u5 u6 u7 u8 u9
        have HC := As.mk (HI.out wb x X7 x7 X8 x8 X9 x9 _ _ rk _ (N0 : Int) (by have := HSz.out.1; have := HSz.out.2.1; have := HLm.out; omega) hN1 (by have := HSz.out.2.1; have := HSz.out.2.2; have := HLm.out; have := HLn.out; have := HCn.out; have := HN0.out; have := cntNs_take kids k x hx; omega) HGk.out hS)
        obtain ⟨z0, z1, z2, z3, ⟨z4, z5, z6, z7⟩, z8, z9⟩ := x
        unfold nodeV at HC
        simp only at v0 v1 v2 v3 v4 v5 v6 v7 v8 v9 HC
        have hin : (k : Int) < (kids.length : Int) := by omega
        clear hk hx hN1 hbr hS
        go_wp2_with fail
        refine HC.out.mono ?_
        rintro e w3 ⟨v', rk', rfl, hm, hg', hS⟩
        have HE2 := As.mk (hm.trans HT.out.symm)
        have HG2 := As.mk hg'
        obtain ⟨A2, c2, rfl, _, _⟩ := (hS.rowAt 0 rfl).shape
        clear hm hg' HC v0 v1 v2 v3 v4 v5 v6 v7 v8 v9 p0 p1 p2 p3 p4 p5 p6 p7 p8 p9
        go_wp2_with fail
        go_roundg (gk - 1)
        case measure => have := HK.out; omega
        case rel => exact ⟨k + 1, rk', by have := HK.out; omega, by go_num, HE2, HG2, hS⟩
      · obtain rfl : k = kids.length := by omega
        have hE := HE.out
        rw [List.take_length] at hE
        have hln := HLn.out
        rw [List.take_length] at hln
        have hin0 : N0 < rk.length := by omega
        obtain ⟨o, ho⟩ : ∃ o, rk[N0]? = some o := ⟨_, List.getElem?_eq_getElem hin0⟩
        obtain ⟨g, rfl, hgl, hcell⟩ := (hS.rowAt 0 rfl).cell encW_len N0 o ho
        have u3 := (hcell 3 (by omega)).1
        have f3 := (hcell 3 (by omega)).2
        simp only [encW, List.getElem?_cons_zero, List.getElem?_cons_succ] at u3
        have hS4 := hS.setAt 0 rfl encW_len N0 3 o { o with y := { o.y with f3 := (rk.length : Int) } } (.int .i64 rk.length) ho (by omega) rfl
        have HEn : As ((rk.set N0 { o with y := { o.y with f3 := (rk.length : Int) } }).map (·.y) = LY) := ⟨by
          rw [end_map rk N0 o ho, hE, HR1.out.1, HLy.out]
          have h := HRo.out
          rw [h]⟩
        have HGe : As (∀ q ∈ rk.set N0 { o with y := { o.y with f3 := (rk.length : Int) } }, GoodW wb q) := ⟨fun q hq => by
          rcases List.mem_or_eq_of_mem_set hq with h | h
          · exact HGk.out q h
          · have h2 := HGk.out o (List.mem_of_getElem? ho)
            rw [h]
            exact ⟨h2.l9, h2.g9, h2.l10, h2.g10⟩⟩
        have hin : (N0 : Int) < (rk.length : Int) := by omega
        clear hE hln hcell hk ho
        go_wp2_with fail
        go_ret
        first | exact ⟨_, _, rfl, HEn.out, HGe.out, (hS4.map fun _ _ => Hp.swap).tail⟩ | exact ⟨_, HEn.out, HGe.out, (hS4.map fun _ _ => Hp.swap).tail⟩ | exact ⟨_, rfl, _, HEn.out, HGe.out, (hS4.map fun _ _ => Hp.swap).tail⟩
theorem rf_all : ∀ n, RF n
  | 0 => fun wb x _ _ _ _ _ _ w v rs l par hn _ _ _ _ => by have := szN_parts x; omega
  | n + 1 => rf_step n (rf_all n)
end Go.Proofs.Ytfgpdpccfpilaaa.OpenFlatOrder
