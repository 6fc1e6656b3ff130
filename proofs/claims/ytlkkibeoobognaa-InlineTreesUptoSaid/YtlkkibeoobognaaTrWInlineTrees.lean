/- InlineTrees: the walk. -/
import Derived.Test.YtlkkibeoobognaaTrOInlineTrees
set_option linter.unusedVariables false
set_option linter.unusedSimpArgs false
set_option maxRecDepth 100000
namespace Go.Proofs.Ytlkkibeoobognaa.OpenInlineTrees
open Go.RowKit Go.Deep
open Go.Proofs.YtlkkibeoobognaaW.PrintWords Go.Proofs.YtlkkibeoobognaaW.PrintLast Go.Proofs.YtlkkibeoobognaaW.PrintMore Go.Proofs.Ytlkkibeoobognaa.PInlineTrees
set_option maxHeartbeats 51200000 in
theorem trees_walk (v : Value) (l : List S32) (s : ByteArray) (w : World) (h : ∃ A c, v = .slice A l.length c ∧ l.length ≤ c ∧ k32.C w A l.length l ∧ szTs l ≤ 1048576) : Calls Try.prog 3 #[v, .string s] w fun e w' => e = .returned (.bool true) ∧ Below w.heap.size w w' := by
  obtain ⟨A, c, rfl, hc, hC, hsz⟩ := h
  have HC := As.mk hC
  have HLc := As.mk hc
  have HZ : As (∀ t ∈ l, szN t.f1 ≤ 1048576) := ⟨fun t ht => by have := szT_mem l t ht; omega⟩
  have HA := As.mk (alive_does w)
  clear hC hc hsz
  go_enter Try.func3, Try.ntmps3
  go_wp2_with fail
  refine HA.out.mono ?_
  rintro e w1 ⟨rfl, hb⟩
  have HB1 := As.mk hb
  clear hb HA
  by_cases h12 : 12 < l.length
  · have h12i : (12 : Int) < (l.length : Int) := by omega
    go_wp2_with fail
    go_ret
    exact ⟨rfl, HB1.out⟩
  · have h12i : (l.length : Int) ≤ (12 : Int) := by omega
    have HL12 : As (l.length ≤ 12) := ⟨by omega⟩
    go_wp2_with fail
    go_loopg [6] l.length (fun g0 iv wr => ∃ i : Nat, i + g0 = l.length ∧ iv = .int .i64 i ∧ As (Below w.heap.size w wr))
    case atStart => exact ⟨0, by omega, rfl, HB1⟩
    case round =>
      clear HB1 h12 h12i
      obtain ⟨i, hi, rfl, HB⟩ := hrel
      by_cases hlt : i < l.length
      · obtain ⟨t, ht⟩ : ∃ t, l[i]? = some t := ⟨_, List.getElem?_eq_getElem hlt⟩
        have hzt : szN t.f1 ≤ 1048576 := HZ.out t (List.mem_of_getElem? ht)
        have hct := cnt_sz t.f1
        obtain ⟨b, off, A7, c7, A8, c8, A9, c9, hAe, hbl, hNI, u0, u1, u2, u3, u4, u5, u6, u7, u8, u9, u10⟩ := tree_at HC.out t ht
        subst hAe
        have HU := As.mk (fun (V : World) (hb : Below w.heap.size w V) (j : Nat) (x : Value) (hx : w.cell? ⟨b, off + i * 11 + j, none⟩ = some x) => (hb.cell (p := ⟨b, off + i * 11 + j, none⟩) hbl).trans hx)
        have HUs := As.mk (⟨u1, u2, u3, u4, u5, u6, u7, u8, u9, u10⟩ : _ ∧ _ ∧ _ ∧ _ ∧ _ ∧ _ ∧ _ ∧ _ ∧ _ ∧ _)
        have hin : (i : Int) < (l.length : Int) := by omega
        have s0 : IntKind.i64.wrap ((i : Int) + 1) = (i : Int) + 1 := by rw [IntKind.wrap_i64]; have := HL12.out; omega
        have HK := As.mk (⟨hi, hlt⟩ : _ ∧ _)
        have HBg := big_does wr t.f1 (hNI.below HB.out) (by omega)
        have HCn := As.mk (fun (V : World) (hb : Below w.heap.size w V) => by
          have h := rcount_does V t.f1 (hNI.below hb) (by omega)
          unfold nodeV at h
          exact h)
        unfold nodeV at HBg
        have HBg := As.mk HBg
        have v1 := HU.out _ HB.out 1 _ HUs.out.1
        have v2 := HU.out _ HB.out 2 _ HUs.out.2.1
        have v3 := HU.out _ HB.out 3 _ HUs.out.2.2.1
        have v4 := HU.out _ HB.out 4 _ HUs.out.2.2.2.1
        have v5 := HU.out _ HB.out 5 _ HUs.out.2.2.2.2.1
        have v6 := HU.out _ HB.out 6 _ HUs.out.2.2.2.2.2.1
        have v7 := HU.out _ HB.out 7 _ HUs.out.2.2.2.2.2.2.1
        have v8 := HU.out _ HB.out 8 _ HUs.out.2.2.2.2.2.2.2.1
        have v9 := HU.out _ HB.out 9 _ HUs.out.2.2.2.2.2.2.2.2.1
        have v10 := HU.out _ HB.out 10 _ HUs.out.2.2.2.2.2.2.2.2.2
        clear hi hlt ht hzt hct hNI u0 u1 u2 u3 u4 u5 u6 u7 u8 u9 u10
        go_wp2_with fail
        refine HBg.out.mono ?_
        rintro e w2 ⟨rfl, hb2⟩
        have HB2 := As.mk (HB.out.trans (Below.mono hb2 HB.out.size))
        clear hb2 HBg v1 v2 v3 v4 v5 v6 v7 v8 v9 v10
        cases hbg : bigN t.f1 0 with
        | true =>
          go_wp2_with fail
          go_ret
          exact ⟨rfl, HB2.out⟩
        | false =>
          have v1 := HU.out _ HB2.out 1 _ HUs.out.1
          have v2 := HU.out _ HB2.out 2 _ HUs.out.2.1
          have v3 := HU.out _ HB2.out 3 _ HUs.out.2.2.1
          have v4 := HU.out _ HB2.out 4 _ HUs.out.2.2.2.1
          have v5 := HU.out _ HB2.out 5 _ HUs.out.2.2.2.2.1
          have v6 := HU.out _ HB2.out 6 _ HUs.out.2.2.2.2.2.1
          have v7 := HU.out _ HB2.out 7 _ HUs.out.2.2.2.2.2.2.1
          have v8 := HU.out _ HB2.out 8 _ HUs.out.2.2.2.2.2.2.2.1
          have v9 := HU.out _ HB2.out 9 _ HUs.out.2.2.2.2.2.2.2.2.1
          have v10 := HU.out _ HB2.out 10 _ HUs.out.2.2.2.2.2.2.2.2.2
          have HCn2 := As.mk (HCn.out _ HB2.out)
          go_wp2_with fail
          refine HCn2.out.mono ?_
          rintro e w3 ⟨rfl, hb3⟩
          have HB3 := As.mk (HB2.out.trans (Below.mono hb3 HB2.out.size))
          clear hb3 HCn2 v1 v2 v3 v4 v5 v6 v7 v8 v9 v10 hbg
          by_cases h3 : 300 < cntN t.f1
          · have h3i : (300 : Int) < (cntN t.f1 : Int) := by omega
            go_wp2_with fail
            go_ret
            exact ⟨rfl, HB3.out⟩
          · have h3i : (cntN t.f1 : Int) ≤ (300 : Int) := by omega
            go_wp2_with fail
            go_roundg (gk - 1)
            case measure => have := HK.out; omega
            case rel => exact ⟨i + 1, by have := HK.out; omega, rfl, HB3⟩
      · obtain rfl : i = l.length := by omega
        have hne := top_ne l s HL12.out
        have hT := tree_does 60 (by omega) wr A c l ⟨Kd.C_below HC.out HB.out, HLc.out, HZ.out⟩ s hne
        have HI := As.mk (fun (V : World) (hb : Below w.heap.size w V) => by
          have h := rinline_does 60 (by omega) V A c l ⟨Kd.C_below HC.out hb, HLc.out, HZ.out⟩ (by have := HL12.out; omega) s hne
          unfold TreeTold nodeV at h
          exact h)
        have HCo : As (∀ y n, usedG (nodeF l 60) l s 1 [] 0 = .ok y n → n = cntN y) := ⟨fun y n h => top_cntN l 60 s y n h⟩
        generalize usedG (nodeF l 60) l s 1 [] 0 = res at hT HI HCo
        unfold TreeTold nodeV at hT
        have HT := As.mk hT
        clear hT hne hi hlt
        go_wp2_with fail
        refine HT.out.mono ?_
        rintro e w2 ⟨⟨oi, ox, O7, Oc7, O8, Oc8, O9, Oc9⟩, cd, rfl, hb2, hN1, hr1⟩
        have HB2 := As.mk (HB.out.trans (Below.mono hb2 HB.out.size))
        have HN1 := As.mk hN1
        have HR1 := As.mk hr1
        clear hb2 HT hN1 hr1
        have hS := At.start0 (Below.refl w2.heap.size w2)
        have hS := hS.alloc #[.int .i64 ox.f0, .int .i64 ox.f1, .int .i64 ox.f2, .string ox.f3, .int .i64 ox.f4.f0, .int .i64 ox.f4.f1, .string ox.f4.f2, .slice O7 ox.f4.f3.length Oc7, .slice O8 ox.f5.length Oc8, .slice O9 ox.f6.length Oc9] 30
        obtain ⟨k0, hk0⟩ : ∃ q, q = w2.heap.size := ⟨_, rfl⟩
        obtain ⟨K0, hK0⟩ : ∃ V, V = w2.alloc (.cells #[.int .i64 ox.f0, .int .i64 ox.f1, .int .i64 ox.f2, .string ox.f3, .int .i64 ox.f4.f0, .int .i64 ox.f4.f1, .string ox.f4.f2, .slice O7 ox.f4.f3.length Oc7, .slice O8 ox.f5.length Oc8, .slice O9 ox.f6.length Oc9] 30) := ⟨_, rfl⟩
        rw [← hk0, ← hK0] at hS
        have Hk : As (w2.alloc (.cells #[.int .i64 ox.f0, .int .i64 ox.f1, .int .i64 ox.f2, .string ox.f3, .int .i64 ox.f4.f0, .int .i64 ox.f4.f1, .string ox.f4.f2, .slice O7 ox.f4.f3.length Oc7, .slice O8 ox.f5.length Oc8, .slice O9 ox.f6.length Oc9] 30) = K0 ∧ w2.heap.size = k0) := ⟨hK0.symm, hk0.symm⟩
        clear hk0 hK0
        go_upto_region 10 with fail
        rw [Hk.out.1, Hk.out.2]
        clear Hk
        have HIn := As.mk (HI.out K0 (HB2.out.trans (Below.mono hS.bl HB2.out.size)))
        go_wp2_with fail
        refine HIn.out.mono ?_
        rintro e w3 ⟨⟨pi, px, P7, Pc7, P8, Pc8, P9, Pc9⟩, cd2, rfl, hb3, hN2, hr2⟩
        have hx : px = ox ∧ cd2 = cd ∧ cntN ox ≤ 4000 := by
          rcases HR1.out with ⟨h1, h2, h3⟩ | ⟨h1, n, h2, h3⟩
          · rcases hr2 with ⟨h4, h5, h6⟩ | ⟨h4, n', h5, h6⟩
            · rw [h2] at h5
              injection h5 with h5
              simp only at h3 h6
              exact ⟨by rw [h3, h6], h5.symm, by rw [h3]; simp [zN, cntN, cntNs]⟩
            · rw [h2] at h6; cases h6
          · rcases hr2 with ⟨h4, h5, h6⟩ | ⟨h4, n', h5, h6⟩
            · rw [h3] at h5; cases h5
            · have h7 := HCo.out _ _ h3
              rw [h3] at h6
              injection h6 with h6 h8
              simp only at h6 h7
              exact ⟨h6.symm, by rw [h1, h4], by omega⟩
        obtain ⟨hx1, hx2, hx3⟩ := hx
        have hx1 := hx1.symm
        have hx2 := hx2.symm
        subst hx1; subst hx2
        have HN2 := As.mk hN2
        have HC4 := As.mk hx3
        have hS3 := hS.below hb3
        clear hS hb3 HIn HI HCo HR1 hr2 hN2 hx3
        have hS3 := hS3.alloc #[.int .i64 ox.f0, .int .i64 ox.f1, .int .i64 ox.f2, .string ox.f3, .int .i64 ox.f4.f0, .int .i64 ox.f4.f1, .string ox.f4.f2, .slice P7 ox.f4.f3.length Pc7, .slice P8 ox.f5.length Pc8, .slice P9 ox.f6.length Pc9] 30
        obtain ⟨j0, hj0⟩ : ∃ q, q = w3.heap.size := ⟨_, rfl⟩
        obtain ⟨J0, hJ0⟩ : ∃ V, V = w3.alloc (.cells #[.int .i64 ox.f0, .int .i64 ox.f1, .int .i64 ox.f2, .string ox.f3, .int .i64 ox.f4.f0, .int .i64 ox.f4.f1, .string ox.f4.f2, .slice P7 ox.f4.f3.length Pc7, .slice P8 ox.f5.length Pc8, .slice P9 ox.f6.length Pc9] 30) := ⟨_, rfl⟩
        rw [← hj0, ← hJ0] at hS3
        have Hj : As (w3.alloc (.cells #[.int .i64 ox.f0, .int .i64 ox.f1, .int .i64 ox.f2, .string ox.f3, .int .i64 ox.f4.f0, .int .i64 ox.f4.f1, .string ox.f4.f2, .slice P7 ox.f4.f3.length Pc7, .slice P8 ox.f5.length Pc8, .slice P9 ox.f6.length Pc9] 30) = J0 ∧ w3.heap.size = j0) := ⟨hJ0.symm, hj0.symm⟩
        clear hj0 hJ0
        go_upto_region 11 with fail
        rw [Hj.out.1, Hj.out.2]
        have hwj : Below w3.heap.size w3 J0 := by rw [← Hj.out.1]; exact (Below.refl _ _).alloc (Nat.le_refl _) _
        clear Hj
        have HSn := samen_all (szN ox) ox O7 Oc7 O8 Oc8 O9 Oc9 P7 Pc7 P8 Pc8 P9 Pc9 J0 (Nat.le_refl _) (HN1.out.below hS3.bl) (HN2.out.below hwj)
        unfold nodeV at HSn
        have HSn := As.mk HSn
        have HWJ := As.mk hwj
        have y0 := (hS3.cellAt 1 rfl 0).trans rfl
        have y1 := (hS3.cellAt 1 rfl 1).trans rfl
        have y2 := (hS3.cellAt 1 rfl 2).trans rfl
        have y3 := (hS3.cellAt 1 rfl 3).trans rfl
        have y4 := (hS3.cellAt 1 rfl 4).trans rfl
        have y5 := (hS3.cellAt 1 rfl 5).trans rfl
        have y6 := (hS3.cellAt 1 rfl 6).trans rfl
        have y7 := (hS3.cellAt 1 rfl 7).trans rfl
        have y8 := (hS3.cellAt 1 rfl 8).trans rfl
        have y9 := (hS3.cellAt 1 rfl 9).trans rfl
        have z0 := (hS3.cellAt 0 rfl 0).trans rfl
        have z1 := (hS3.cellAt 0 rfl 1).trans rfl
        have z2 := (hS3.cellAt 0 rfl 2).trans rfl
        have z3 := (hS3.cellAt 0 rfl 3).trans rfl
        have z4 := (hS3.cellAt 0 rfl 4).trans rfl
        have z5 := (hS3.cellAt 0 rfl 5).trans rfl
        have z6 := (hS3.cellAt 0 rfl 6).trans rfl
        have z7 := (hS3.cellAt 0 rfl 7).trans rfl
        have z8 := (hS3.cellAt 0 rfl 8).trans rfl
        have z9 := (hS3.cellAt 0 rfl 9).trans rfl
        clear hwj
        go_wp2_with fail
        refine HSn.out.mono ?_
        rintro e w4 ⟨rfl, hb4⟩
        have hS4 := hS3.below hb4
        have HW4 := As.mk (HWJ.out.trans (Below.mono hb4 HWJ.out.size))
        clear hS3 hb4 HSn HWJ HN1 y0 y1 y2 y3 y4 y5 y6 y7 y8 y9 z0 z1 z2 z3 z4 z5 z6 z7 z8 z9
        go_wp2_with fail
        refine (num_does _ _).mono ?_
        rintro e w5 ⟨rfl, hb5⟩
        have hS5 := hS4.below hb5
        have HW5 := As.mk (HW4.out.trans (Below.mono hb5 HW4.out.size))
        have HB5 := As.mk (HB2.out.trans (Below.mono hS5.bl HB2.out.size))
        clear hS4 hb5 HW4
        go_upto_region 13 with fail
        have HKp : As (∀ V : World, Below w5.heap.size w5 V → (V.cell? ⟨j0, 0, none⟩ = some (.int .i64 ox.f0) ∧ V.cell? ⟨j0, 1, none⟩ = some (.int .i64 ox.f1) ∧ V.cell? ⟨j0, 2, none⟩ = some (.int .i64 ox.f2) ∧ V.cell? ⟨j0, 3, none⟩ = some (.string ox.f3) ∧ V.cell? ⟨j0, 4, none⟩ = some (.int .i64 ox.f4.f0) ∧ V.cell? ⟨j0, 5, none⟩ = some (.int .i64 ox.f4.f1) ∧ V.cell? ⟨j0, 6, none⟩ = some (.string ox.f4.f2) ∧ V.cell? ⟨j0, 7, none⟩ = some (.slice P7 ox.f4.f3.length Pc7) ∧ V.cell? ⟨j0, 8, none⟩ = some (.slice P8 ox.f5.length Pc8) ∧ V.cell? ⟨j0, 9, none⟩ = some (.slice P9 ox.f6.length Pc9))) := ⟨fun V hb => by
          have h := hS5.below hb
          exact ⟨(h.cellAt 0 rfl 0).trans rfl, (h.cellAt 0 rfl 1).trans rfl, (h.cellAt 0 rfl 2).trans rfl, (h.cellAt 0 rfl 3).trans rfl, (h.cellAt 0 rfl 4).trans rfl, (h.cellAt 0 rfl 5).trans rfl, (h.cellAt 0 rfl 6).trans rfl, (h.cellAt 0 rfl 7).trans rfl, (h.cellAt 0 rfl 8).trans rfl, (h.cellAt 0 rfl 9).trans rfl⟩⟩
        have HNp := As.mk (fun (V : World) (hb : Below w5.heap.size w5 V) => HN2.out.below (HW5.out.trans (Below.mono hb HW5.out.size)))
        have HCt := As.mk (fun (V : World) (hb : Below w5.heap.size w5 V) => by
          have h := count_does V ox (HNp.out V hb) (by have := HC4.out; omega)
          unfold nodeV at h
          exact h)
        have HRt := As.mk (fun (V : World) (hb : Below w5.heap.size w5 V) => by
          have h := rcount_does V ox (HNp.out V hb) (by have := HC4.out; omega)
          unfold nodeV at h
          exact h)
        have HDt := As.mk (fun (V : World) (hb : Below w5.heap.size w5 V) => by
          have h := depth_does V ox (HNp.out V hb) (by have := HC4.out; omega)
          unfold nodeV at h
          exact h)
        have HEt := As.mk (fun (V : World) (hb : Below w5.heap.size w5 V) => by
          have h := rdepth_does V ox (HNp.out V hb) (by have := HC4.out; omega)
          unfold nodeV at h
          exact h)
        clear hS5 HNp HN2 HW5
        go_region_held3 (fun V => V.cell? ⟨j0, 0, none⟩ = some (.int .i64 ox.f0) ∧ V.cell? ⟨j0, 1, none⟩ = some (.int .i64 ox.f1) ∧ V.cell? ⟨j0, 2, none⟩ = some (.int .i64 ox.f2) ∧ V.cell? ⟨j0, 3, none⟩ = some (.string ox.f3) ∧ V.cell? ⟨j0, 4, none⟩ = some (.int .i64 ox.f4.f0) ∧ V.cell? ⟨j0, 5, none⟩ = some (.int .i64 ox.f4.f1) ∧ V.cell? ⟨j0, 6, none⟩ = some (.string ox.f4.f2) ∧ V.cell? ⟨j0, 7, none⟩ = some (.slice P7 ox.f4.f3.length Pc7) ∧ V.cell? ⟨j0, 8, none⟩ = some (.slice P8 ox.f5.length Pc8) ∧ V.cell? ⟨j0, 9, none⟩ = some (.slice P9 ox.f6.length Pc9))
          (first | with_reducible exact HKp.out _ HBz.out | exact HKp.out _ (by repeat (first | exact Below.refl _ _ | refine bl_drewN ?_ _ | refine Below.drew ?_ | refine bl_alloc ?_ _ | refine bl_set ?_ (by first | (simp; done) | omega | (simp; omega)) _)))
          (first
            | (go_at_call 14; (first | (have hV := HBz.out) | (have hV := Below.drew (Below.refl w5.heap.size w5))); refine (HCt.out _ hV).mono ?_; rintro e w6 ⟨rfl, hb6⟩; have hz := hV.trans (Below.mono hb6 hV.size); (try clear HBz); have HBz := As.mk hz; clear hV hb6 hz)
            | (go_at_call 9; (first | (have hV := HBz.out) | (have hV := Below.drew (Below.refl w5.heap.size w5))); refine (HRt.out _ hV).mono ?_; rintro e w6 ⟨rfl, hb6⟩; have hz := hV.trans (Below.mono hb6 hV.size); (try clear HBz); have HBz := As.mk hz; clear hV hb6 hz)
            | (go_at_call 15; (first | (have hV := HBz.out) | (have hV := Below.drew (Below.refl w5.heap.size w5))); refine (HDt.out _ hV).mono ?_; rintro e w6 ⟨rfl, hb6⟩; have hz := hV.trans (Below.mono hb6 hV.size); (try clear HBz); have HBz := As.mk hz; clear hV hb6 hz)
            | (go_at_call 16; (first | (have hV := HBz.out) | (have hV := Below.drew (Below.refl w5.heap.size w5))); refine (HEt.out _ hV).mono ?_; rintro e w6 ⟨rfl, hb6⟩; have hz := hV.trans (Below.mono hb6 hV.size); (try clear HBz); have HBz := As.mk hz; clear hV hb6 hz))
        all_goals (go_wp2_with fail)
        all_goals (go_ret)
        all_goals (exact ⟨rfl, HB5.out.trans (Below.mono HBz.out HB5.out.size)⟩)
end Go.Proofs.Ytlkkibeoobognaa.OpenInlineTrees
