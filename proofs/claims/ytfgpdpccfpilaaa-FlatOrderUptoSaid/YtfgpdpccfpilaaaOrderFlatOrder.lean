/- FlatOrder: the law's walk. -/
import Derived.Test.YtfgpdpccfpilaaaKidsFlatOrder
import Derived.Test.YtfgpdpccfpilaaaAliveFlatOrder
set_option linter.unusedVariables false
namespace Go.Proofs.Ytfgpdpccfpilaaa.OpenFlatOrder
open Go.RowKit Go.Deep
open Go.Proofs.YtfgpdpccfpilaaaW.PrintWords Go.Proofs.YtfgpdpccfpilaaaW.PrintLast Go.Proofs.YtfgpdpccfpilaaaW.PrintMore Go.Proofs.Ytfgpdpccfpilaaa.PFlatOrder
/-- A row's fields, where a list of rows is read. -/
theorem flat_at {w : World} {b off n : Nat} {L : List S39} (h : k39.C w (some ⟨b, off, none⟩) n L) {k : Nat} {r : S39} (hr : L[k]? = some r) : w.cell? ⟨b, off + k * 11 + 3, none⟩ = some (.int .i64 r.f3) ∧ w.cell? ⟨b, off + k * 11 + 4, none⟩ = some (.int .i64 r.f4) := by
  obtain ⟨b', off', cs, e, hbl, hcl, hK, hcell⟩ := C_lit h (by decide) r hr
  injection e with e
  injection e with e1 e2 _
  subst e1; subst e2
  obtain ⟨A9, c9, A10, c10, rfl, _, _, _, _⟩ := k39_open hK
  exact ⟨hcell 3 _ rfl, hcell 4 _ rfl⟩
theorem flat_ptr {w : World} {A : Option Addr} {n : Nat} {L : List S39} (h : k39.C w A n L) (h0 : 0 < L.length) : ∃ b off, A = some ⟨b, off, none⟩ ∧ b < w.heap.size := by
  obtain ⟨b, off, cs, e, hbl, _⟩ := C_lit h (by decide) L[0] (List.getElem?_eq_getElem h0)
  exact ⟨b, off, e, hbl⟩
theorem int_at {w : World} {A : Option Addr} {n k : Nat} {l : List Int} {x : Int} (h : (Kd.int .i64).C w A n l) (hx : l[k]? = some x) : ∃ b off, A = some ⟨b, off, none⟩ ∧ b < w.heap.size ∧ w.cell? ⟨b, off + k, none⟩ = some (.int .i64 x) := by
  obtain ⟨b, off, cs, e, hbl, hcl, hK, hcell⟩ := C_lit h (by decide) x hx
  obtain rfl : cs = [.int .i64 x] := hK
  have h2 : w.cell? ⟨b, off + k * 1 + 0, none⟩ = some (.int .i64 x) := hcell 0 _ rfl
  rw [show off + k * 1 + 0 = off + k by omega] at h2
  exact ⟨b, off, e, hbl, h2⟩
theorem kidI_len (l : List Nat) : (kidI l).length = l.length := by simp [kidI]
theorem kidI_at {l : List Nat} {j n : Nat} (h : l[j]? = some n) : (kidI l)[j]? = some (n : Int) := by simp [kidI, h]
set_option maxRecDepth 100000 in
set_option maxHeartbeats 12800000 in
theorem order_walk (v : Value) (x : S27) (w : World) (h : ∃ cs, v = .agg cs ∧ k27.K w x cs.toList ∧ szN x ≤ 1048576) : Calls Try.prog 6 #[v] w fun e w' => e = .returned (.bool true) ∧ Below w.heap.size w w' := by
  obtain ⟨cs, rfl, hK, hs⟩ := h
  obtain ⟨A7, c7, A8, c8, A9, c9, he, l7, g7, l8, g8, l9, g9⟩ := k27_open hK
  obtain ⟨csl⟩ := cs
  simp only at he
  subst he
  have hN : NodeIn w x A7 c7 A8 c8 A9 c9 := ⟨l7, g7, l8, g8, l9, g9⟩
  obtain ⟨W, hW⟩ : ∃ W, W = w.alloc (.cells #[.int .i64 x.f0, .int .i64 x.f1, .int .i64 x.f2, .string x.f3, .int .i64 x.f4.f0, .int .i64 x.f4.f1, .string x.f4.f2, .slice A7 x.f4.f3.length c7, .slice A8 x.f5.length c8, .slice A9 x.f6.length c9] 27) := ⟨_, rfl⟩
  obtain ⟨p, hp⟩ : ∃ p, p = w.heap.size := ⟨_, rfl⟩
  have hbW : Below w.heap.size w W := by rw [hW]; exact (Below.refl _ _).alloc (Nat.le_refl _) _
  have hpb : W.heap[p]? = some (.cells #[.int .i64 x.f0, .int .i64 x.f1, .int .i64 x.f2, .string x.f3, .int .i64 x.f4.f0, .int .i64 x.f4.f1, .string x.f4.f2, .slice A7 x.f4.f3.length c7, .slice A8 x.f5.length c8, .slice A9 x.f6.length c9] 27 (0, 0)) := by rw [hW, hp]; exact ((At.start0 (Below.refl w.heap.size w)).alloc _ 27).blkAt 0 rfl
  have hpl := blk_lt hpb
  have HPb := As.mk (fun (V : World) (hb : Below W.heap.size W V) => pcells ((hb.block p hpl).trans hpb))
  have HBW := As.mk hbW
  have HNV := As.mk (fun (V : World) (hb : Below W.heap.size W V) => hN.below (hbW.trans (Below.mono hb hbW.size)))
  have HBig := As.mk (fun (V : World) (hb : Below W.heap.size W V) => big_does x hs A7 c7 A8 c8 A9 c9 V (HNV.out V hb))
  have HCnt := As.mk (fun (V : World) (hb : Below W.heap.size W V) => count_does x hs A7 c7 A8 c8 A9 c9 V (HNV.out V hb))
  have HMk := As.mk (fun (V : World) (hb : Below W.heap.size W V) => make_does V x A7 c7 A8 c8 A9 c9 (by omega) (HNV.out V hb))
  obtain ⟨L, hL⟩ : ∃ L, L = lay x (-1) [] := ⟨_, rfl⟩
  have hll : L.length = cntN x := by rw [hL, lay_len]; simp
  have HGood : As (∀ i, i < L.length → Good L i ∧ ∃ r, L[i]? = some r ∧ (r.f4 < 0 ↔ i = 0)) := ⟨fun i hi => by rw [hL]; exact lay_good x i (by omega)⟩
  have hcs := cnt_szN x
  have hlen : L.length ≤ 1048576 := by omega
  rw [← hL] at HMk
  rw [← hll] at HCnt
  obtain ⟨bg, hbg⟩ : ∃ bg, bg = bigN x 0 := ⟨_, rfl⟩
  rw [← hbg] at HBig
  have HW := As.mk (⟨hW.symm, hp.symm⟩ : _ ∧ _)
  unfold nodeV at HBig HCnt HMk
  obtain ⟨p0, p1, p2, p3, p4, p5, p6, p7, p8, p9⟩ := HPb.out W (Below.refl _ _)
  clear hK hs l7 g7 l8 g8 l9 g9 hN hW hp hbW hpb hpl hL hll hcs hbg HNV
  obtain ⟨z0, z1, z2, z3, ⟨z4, z5, z6, z7⟩, z8, z9⟩ := x
  simp only at p0 p1 p2 p3 p4 p5 p6 p7 p8 p9 HBig HCnt HMk HPb HW ⊢
  go_enter Try.func6, Try.ntmps6
  go_upto_region 1 with fail
  rw [HW.out.1, HW.out.2]
  clear HW
  go_wp2_with fail
  refine (alive_does _).mono ?_
  rintro e w1 ⟨rfl, hb⟩
  have HB1 := As.mk hb
  clear hb p0 p1 p2 p3 p4 p5 p6 p7 p8 p9
  obtain ⟨p0, p1, p2, p3, p4, p5, p6, p7, p8, p9⟩ := HPb.out w1 HB1.out
  go_wp2_with fail
  refine (HBig.out w1 HB1.out).mono ?_
  rintro e w2 ⟨rfl, hb⟩
  have HB2 := As.mk (HB1.out.trans (Below.mono hb HB1.out.size))
  clear hb p0 p1 p2 p3 p4 p5 p6 p7 p8 p9
  obtain ⟨p0, p1, p2, p3, p4, p5, p6, p7, p8, p9⟩ := HPb.out w2 HB2.out
  cases bg with
  | true =>
    go_wp2_with fail
    go_ret
    exact ⟨rfl, HBW.out.trans (Below.mono HB2.out HBW.out.size)⟩
  | false =>
    go_wp2_with fail
    refine (HCnt.out w2 HB2.out).mono ?_
    rintro e w3 ⟨rfl, hb⟩
    have HB3 := As.mk (HB2.out.trans (Below.mono hb HB2.out.size))
    clear hb p0 p1 p2 p3 p4 p5 p6 p7 p8 p9
    obtain ⟨p0, p1, p2, p3, p4, p5, p6, p7, p8, p9⟩ := HPb.out w3 HB3.out
    by_cases h300 : (300 : Int) < (L.length : Int)
    · go_wp2_with fail
      go_ret
      exact ⟨rfl, HBW.out.trans (Below.mono HB3.out HBW.out.size)⟩
    · go_wp2_with fail
      refine (HMk.out w3 HB3.out).mono ?_
      rintro e w4 ⟨A, c, rfl, hR, hb⟩
      have HB4 := As.mk (HB3.out.trans (Below.mono hb HB3.out.size))
      clear hb p0 p1 p2 p3 p4 p5 p6 p7 p8 p9
      obtain ⟨hn1, hn2, hC⟩ := Kd.R_reads' hR
      have HC := As.mk (fun (V : World) (hb : Below w4.heap.size w4 V) => Kd.C_below hC hb)
      have HLc := As.mk hn2
      clear hR hn1 hn2 hC
      obtain ⟨p0, p1, p2, p3, p4, p5, p6, p7, p8, p9⟩ := HPb.out w4 HB4.out
      go_wp2_with fail
      refine (HCnt.out w4 HB4.out).mono ?_
      rintro e w5 ⟨rfl, hb⟩
      have HB5 := As.mk hb
      clear hb p0 p1 p2 p3 p4 p5 p6 p7 p8 p9
      go_wp2_with fail
      go_loopg [6] L.length (fun g0 iv wr => ∃ k : Nat, k + g0 = L.length ∧ iv = .int .i64 k ∧ As (Below w4.heap.size w4 wr))
      case atStart => exact ⟨0, by omega, rfl, HB5⟩
      case round =>
        obtain ⟨k, hk, rfl, HBr⟩ := hrel
        by_cases hlt : k < L.length
        · obtain ⟨hG, r0, hr0, hz⟩ := HGood.out k hlt
          obtain ⟨r, e, hr, he, hie, hpar, hrp, hch⟩ := hG.h
          rw [hr] at hr0
          obtain rfl := Option.some.inj hr0
          obtain ⟨b, off, rfl, hbl⟩ := flat_ptr (HC.out w4 (Below.refl _ _)) (by omega)
          have HKk := As.mk hk
          have HCh := As.mk hch
          obtain ⟨G, hGk⟩ : ∃ G, G = gk := ⟨_, rfl⟩
          have HG := As.mk hGk
          obtain ⟨t3, t4⟩ := flat_at (HC.out wr HBr.out) hr
          obtain ⟨pp, hpp⟩ : ∃ pp, pp = r.f4 := ⟨_, rfl⟩
          rw [← hpp] at t4 hpar hrp hz
          have he0 := he
          replace he := As.mk he
          rw [he0] at t3 hrp
          have hin : (k : Int) < (L.length : Int) := by omega
          have n1 : ¬ (k : Int) ≤ pp := by omega
          have n2 : ¬ (e : Int) ≤ (k : Int) := by omega
          clear hk hch hGk hG hpp he0
          by_cases hneg : pp < 0
          · have hk0 : k = 0 := hz.1 hneg
            have x1 : ((k : Int) == 0) = true := by rw [hk0]; rfl
            have x2 : decide (e ≤ k) = false := decide_eq_false (by omega)
            have d0 : decide ((k : Int) ≤ pp) = false := decide_eq_false n1
            have n3 : ¬ (0 : Int) ≤ pp := by omega
            have d1 : decide ((0 : Int) ≤ pp) = false := decide_eq_false n3
            have d2 : decide (pp < 0) = true := decide_eq_true hneg
            have d3 : decide ((e : Int) ≤ (k : Int)) = false := decide_eq_false n2
            clear hk0
            clear hz hrp
            go_wp2_with fail
            go_quiet (fail)
            go_wp2_with fail
            refine (kids_does L k (by omega) (some ⟨b, off, none⟩) c _ (HC.out _ (by have := HBr.out; repeat (first | exact this | refine Below.drew ?_ | refine bl_drewN ?_ _))) HLc.out).mono ?_
            rintro e1 w6 ⟨v, rfl, hRk, hb⟩
            obtain ⟨A2, c2, hv⟩ := Kd.R_slice hRk
            obtain ⟨KS, hKS⟩ : ∃ KS, KS = kidsOf L k := ⟨_, rfl⟩
            rw [← hKS] at hv hRk
            have hkl : KS.length ≤ L.length := by rw [hKS]; unfold kidsOf; exact Nat.le_trans (List.length_filter_le _ _) (by rw [List.length_range]; exact Nat.le_refl _)
            rw [kidI_len] at hv
            subst hv
            have HB6 : As (Below w4.heap.size w4 w6) := ⟨HBr.out.trans (Below.mono (Below.trans (by repeat (first | exact Below.refl _ _ | refine Below.drew ?_ | refine bl_drewN ?_ _)) (Below.mono hb (by first | exact Nat.le_refl _ | exact (Below.size (Below.drew (Below.refl _ _)))))) HBr.out.size)⟩
            have HCk := As.mk (Kd.R_reads' hRk).2.2
            have HCh2 : As (Chain L (k + 1) KS e) := ⟨by rw [hKS]; exact HCh.out⟩
            have HHr := As.mk hr
            clear hRk hb hKS t3 t4 hr
            go_wp2_with fail
            go_loopg [9, 10] KS.length (fun g0 tv jv wr2 => ∃ (j t : Nat), j + g0 = KS.length ∧ jv = .int .i64 j ∧ tv = .int .i64 t ∧ As (Chain L t (KS.drop j) e) ∧ wr2 = w6)
            case atStart => exact ⟨0, k + 1, by omega, rfl, by go_num, ⟨by rw [List.drop_zero]; exact HCh2.out⟩, rfl⟩
            case round =>
              obtain ⟨j, t, hj, rfl, rfl, HCj, rfl⟩ := hrel
              by_cases hjl : j < KS.length
              · obtain ⟨kk, hkk⟩ : ∃ kk, KS[j]? = some kk := ⟨_, List.getElem?_eq_getElem hjl⟩
                have hd : KS.drop j = kk :: KS.drop (j + 1) := by
                  rw [List.drop_eq_getElem_cons hjl]
                  rw [List.getElem?_eq_getElem hjl] at hkk
                  rw [Option.some.inj hkk]
                have hc := HCj.out
                rw [hd, Chain] at hc
                obtain ⟨rfl, r', n', hr', hf', hch'⟩ := hc
                obtain ⟨b2, off2, rfl, hb2, u⟩ := int_at HCk.out (kidI_at hkk)
                obtain ⟨v3, _⟩ := flat_at (HC.out _ HB6.out) hr'
                rw [hf'] at v3
                have hin1 : (j : Int) < (KS.length : Int) := by omega
                have hin2 : (kk : Int) < (L.length : Int) := by have := (List.getElem?_eq_some_iff.1 hr').1; omega
                have hin3 : ¬ (L.length : Int) ≤ (kk : Int) := by omega
                have HJ := As.mk hj
                have HN2 := As.mk hch'
                clear hkk hd hr' hf' hch' hj
                go_wp2_with fail
                go_roundg (gk - 1)
                case measure => have := HJ.out; omega
                case rel => exact ⟨j + 1, n', by have := HJ.out; omega, by go_num, rfl, HN2, rfl⟩
              · have hc := HCj.out
                rw [List.drop_of_length_le (by omega), Chain] at hc
                subst hc
                obtain ⟨v3, _⟩ := flat_at (HC.out _ HB6.out) HHr.out
                rw [he.out] at v3
                go_wp2_with fail
                go_roundg (G - 1)
                case measure => have := HKk.out; have := HG.out; omega
                case rel => exact ⟨k + 1, by have := HKk.out; have := HG.out; omega, by go_num, HB6⟩
          · obtain ⟨pn, rfl⟩ : ∃ pn : Nat, pp = (pn : Int) := ⟨pp.toNat, by omega⟩
            obtain ⟨rp, hrp1, hrp2⟩ := hrp (by omega)
            rw [Int.toNat_natCast] at hrp1
            obtain ⟨y3, _⟩ := flat_at (HC.out wr HBr.out) hrp1
            have hpn : (pn : Int) < (L.length : Int) := by have := (List.getElem?_eq_some_iff.1 hrp1).1; omega
            have hk0 : ¬ (k : Int) = 0 := by omega
            have hk0' : ¬ k = 0 := by omega
            have n4 : ¬ rp.f3 < (e : Int) := by omega
            have d1 : decide ((k : Int) ≤ (pn : Int)) = false := decide_eq_false n1
            have d2 : decide ((pn : Int) < 0) = false := decide_eq_false (by omega)
            have d3 : decide ((e : Int) ≤ (k : Int)) = false := decide_eq_false n2
            have d4 : decide ((0 : Int) ≤ (pn : Int)) = true := decide_eq_true (by omega)
            have d5 : decide (rp.f3 < (e : Int)) = false := decide_eq_false n4
            have d6 : decide ((k : Int) = 0) = false := decide_eq_false hk0
            have d7 : decide (k = 0) = false := decide_eq_false hk0'
            have d8 : decide (pn < 0) = false := decide_eq_false (by omega)
            have d9 : decide (k ≤ pn) = false := decide_eq_false (by omega)
            have x1 : ((k : Int) == 0) = false := beq_eq_false_iff_ne.mpr hk0
            have x2 : decide (e ≤ k) = false := decide_eq_false (by omega)
            clear hz hrp hrp1 hrp2
            go_wp2_with fail
            go_quiet (fail)
            go_wp2_with fail
            refine (kids_does L k (by omega) (some ⟨b, off, none⟩) c _ (HC.out _ (by have := HBr.out; repeat (first | exact this | refine Below.drew ?_ | refine bl_drewN ?_ _))) HLc.out).mono ?_
            rintro e1 w6 ⟨v, rfl, hRk, hb⟩
            obtain ⟨A2, c2, hv⟩ := Kd.R_slice hRk
            obtain ⟨KS, hKS⟩ : ∃ KS, KS = kidsOf L k := ⟨_, rfl⟩
            rw [← hKS] at hv hRk
            have hkl : KS.length ≤ L.length := by rw [hKS]; unfold kidsOf; exact Nat.le_trans (List.length_filter_le _ _) (by rw [List.length_range]; exact Nat.le_refl _)
            rw [kidI_len] at hv
            subst hv
            have HB6 : As (Below w4.heap.size w4 w6) := ⟨HBr.out.trans (Below.mono (Below.trans (by repeat (first | exact Below.refl _ _ | refine Below.drew ?_ | refine bl_drewN ?_ _)) (Below.mono hb (by first | exact Nat.le_refl _ | exact (Below.size (Below.drew (Below.refl _ _)))))) HBr.out.size)⟩
            have HCk := As.mk (Kd.R_reads' hRk).2.2
            have HCh2 : As (Chain L (k + 1) KS e) := ⟨by rw [hKS]; exact HCh.out⟩
            have HHr := As.mk hr
            clear hRk hb hKS t3 t4 hr
            go_wp2_with fail
            go_loopg [9, 10] KS.length (fun g0 tv jv wr2 => ∃ (j t : Nat), j + g0 = KS.length ∧ jv = .int .i64 j ∧ tv = .int .i64 t ∧ As (Chain L t (KS.drop j) e) ∧ wr2 = w6)
            case atStart => exact ⟨0, k + 1, by omega, rfl, by go_num, ⟨by rw [List.drop_zero]; exact HCh2.out⟩, rfl⟩
            case round =>
              obtain ⟨j, t, hj, rfl, rfl, HCj, rfl⟩ := hrel
              by_cases hjl : j < KS.length
              · obtain ⟨kk, hkk⟩ : ∃ kk, KS[j]? = some kk := ⟨_, List.getElem?_eq_getElem hjl⟩
                have hd : KS.drop j = kk :: KS.drop (j + 1) := by
                  rw [List.drop_eq_getElem_cons hjl]
                  rw [List.getElem?_eq_getElem hjl] at hkk
                  rw [Option.some.inj hkk]
                have hc := HCj.out
                rw [hd, Chain] at hc
                obtain ⟨rfl, r', n', hr', hf', hch'⟩ := hc
                obtain ⟨b2, off2, rfl, hb2, u⟩ := int_at HCk.out (kidI_at hkk)
                obtain ⟨v3, _⟩ := flat_at (HC.out _ HB6.out) hr'
                rw [hf'] at v3
                have hin1 : (j : Int) < (KS.length : Int) := by omega
                have hin2 : (kk : Int) < (L.length : Int) := by have := (List.getElem?_eq_some_iff.1 hr').1; omega
                have hin3 : ¬ (L.length : Int) ≤ (kk : Int) := by omega
                have HJ := As.mk hj
                have HN2 := As.mk hch'
                clear hkk hd hr' hf' hch' hj
                go_wp2_with fail
                go_roundg (gk - 1)
                case measure => have := HJ.out; omega
                case rel => exact ⟨j + 1, n', by have := HJ.out; omega, by go_num, rfl, HN2, rfl⟩
              · have hc := HCj.out
                rw [List.drop_of_length_le (by omega), Chain] at hc
                subst hc
                obtain ⟨v3, _⟩ := flat_at (HC.out _ HB6.out) HHr.out
                rw [he.out] at v3
                go_wp2_with fail
                go_roundg (G - 1)
                case measure => have := HKk.out; have := HG.out; omega
                case rel => exact ⟨k + 1, by have := HKk.out; have := HG.out; omega, by go_num, HB6⟩
        · obtain rfl : k = L.length := by omega
          go_wp2_with fail
          go_ret
          exact ⟨rfl, HBW.out.trans (Below.mono (HB4.out.trans (Below.mono HBr.out HB4.out.size)) HBW.out.size)⟩
end Go.Proofs.Ytfgpdpccfpilaaa.OpenFlatOrder
