/- used: a tree of a name put in, given what node does. No condition but bounded sizes. -/
import Derived.Test.YtlkkibeoobognaaIn2InlineTrees
set_option linter.unusedVariables false
set_option linter.unusedSimpArgs false
set_option maxRecDepth 100000
namespace Go.Proofs.Ytlkkibeoobognaa.OpenInlineTrees
open Go.RowKit Go.Deep
open Go.Proofs.YtlkkibeoobognaaW.PrintWords Go.Proofs.YtlkkibeoobognaaW.PrintLast Go.Proofs.YtlkkibeoobognaaW.PrintMore Go.Proofs.Ytlkkibeoobognaa.PInlineTrees
theorem snoc_row {w : World} {O : Option Addr} {n oc : Nat} {op : List ByteArray} {s : ByteArray} (h : Rw w 9 1 encS (.slice O n oc) (op ++ [s])) : ∃ g, O = some ⟨g, 0, none⟩ ∧ n ≤ oc := by
  obtain ⟨g, e, _, _⟩ := h.cell encS_len 0 _ (List.getElem?_eq_getElem (show 0 < (op ++ [s]).length by simp))
  obtain ⟨A', c', e1, e2, e3⟩ := h.shape
  injection e1 with _ e1 e4
  exact ⟨g, e, by omega⟩
set_option maxHeartbeats 25600000 in
theorem used_step (m : Nat) (ih : NodeDo m) : UsedDo m := by
  intro w0 A c L hL s d n op w lst O oc P hd hn hop hres hS
  have HL := As.mk hL
  have HI := As.mk (ih w0 A c L hL)
  have HD := As.mk (⟨hd, hn, hop⟩ : _ ∧ _ ∧ _)
  have HRes := As.mk hres
  have hfind := find_does (w.alloc (.cells #[.int .i64 0, .int .i64 0, .int .i64 0, .string ⟨#[]⟩, .int .i64 0, .int .i64 0, .string ⟨#[]⟩, .slice none 0 0, .slice none 0 0, .slice none 0 0] 30)) s L A c (Kd.C_below hL.C (hS.bl.alloc hS.bl.size _)) hL.c
  have hrow := As.mk (fun (V : World) (h : At (fun _ => False) w0 V (Hp.seps (Hp.blk P #[.slice A L.length c, .slice O op.length oc, .int .i64 n] 59 :: Hp.row 9 1 encS (.slice O op.length oc) op :: lst))) => contains_does V O op.length oc op s (h.rowAt 1 rfl) (by omega))
  clear ih hd hn hop hres hL
  have hS := hS.alloc #[.int .i64 0, .int .i64 0, .int .i64 0, .string ⟨#[]⟩, .int .i64 0, .int .i64 0, .string ⟨#[]⟩, .slice none 0 0, .slice none 0 0, .slice none 0 0] 30
  obtain ⟨q0, hq0⟩ : ∃ q, q = w.heap.size := ⟨_, rfl⟩
  obtain ⟨W0, hW0⟩ : ∃ V, V = w.alloc (.cells #[.int .i64 0, .int .i64 0, .int .i64 0, .string ⟨#[]⟩, .int .i64 0, .int .i64 0, .string ⟨#[]⟩, .slice none 0 0, .slice none 0 0, .slice none 0 0] 30) := ⟨_, rfl⟩
  rw [← hq0, ← hW0] at hS
  have Hq : As (w.alloc (.cells #[.int .i64 0, .int .i64 0, .int .i64 0, .string ⟨#[]⟩, .int .i64 0, .int .i64 0, .string ⟨#[]⟩, .slice none 0 0, .slice none 0 0, .slice none 0 0] 30) = W0 ∧ w.heap.size = q0) := ⟨hW0.symm, hq0.symm⟩
  clear hq0 hW0
  rw [Hq.out.1] at hfind
  have HF := As.mk hfind
  clear hfind
  go_enter Try.func21, Try.ntmps21
  go_upto_region 1 with fail
  rw [Hq.out.1, Hq.out.2]
  clear Hq
  have p0 := (hS.cellAt 1 rfl 0).trans rfl
  have p1 := (hS.cellAt 1 rfl 1).trans rfl
  have p2 := (hS.cellAt 1 rfl 2).trans rfl
  go_wp2_with fail
  refine HF.out.mono ?_
  rintro e w1 ⟨r, rfl, hb, hr⟩
  have hS1 := hS.below hb
  clear hS hb p0 p1 p2
  have p0 := (hS1.cellAt 1 rfl 0).trans rfl
  have p1 := (hS1.cellAt 1 rfl 1).trans rfl
  have p2 := (hS1.cellAt 1 rfl 2).trans rfl
  have z0 := (hS1.cellAt 0 rfl 0).trans rfl
  have z1 := (hS1.cellAt 0 rfl 1).trans rfl
  have z2 := (hS1.cellAt 0 rfl 2).trans rfl
  have z3 := (hS1.cellAt 0 rfl 3).trans rfl
  have z4 := (hS1.cellAt 0 rfl 4).trans rfl
  have z5 := (hS1.cellAt 0 rfl 5).trans rfl
  have z6 := (hS1.cellAt 0 rfl 6).trans rfl
  have z7 := (hS1.cellAt 0 rfl 7).trans rfl
  have z8 := (hS1.cellAt 0 rfl 8).trans rfl
  have z9 := (hS1.cellAt 0 rfl 9).trans rfl
  have zf0 := hS1.frozenAt 0 rfl 0
  have zf1 := hS1.frozenAt 0 rfl 1
  have zf2 := hS1.frozenAt 0 rfl 2
  have zf3 := hS1.frozenAt 0 rfl 3
  have zf4 := hS1.frozenAt 0 rfl 4
  have zf5 := hS1.frozenAt 0 rfl 5
  have zf6 := hS1.frozenAt 0 rfl 6
  have zf7 := hS1.frozenAt 0 rfl 7
  have zf8 := hS1.frozenAt 0 rfl 8
  have zf9 := hS1.frozenAt 0 rfl 9
  have zlt := hS1.ltAt 0 rfl
  rcases hr with ⟨h0, rfl⟩ | ⟨i, t, hi, h0, rfl⟩
  · have HE : As (usedG (nodeF L m) L s d op n = .err 5) := ⟨by unfold usedG; rw [h0]⟩
    clear h0
    go_wp2_with fail
    refine bodyPost_ret (v := .tuple #[.agg #[.int .i64 0, .int .i64 0, .int .i64 0, .string ⟨#[]⟩, .int .i64 0, .int .i64 0, .string ⟨#[]⟩, .slice none 0 0, .slice none 0 0, .slice none 0 0], .int .i64 5]) (by simp [results, Try.results21, go_sem, z0, z1, z2, z3, z4, z5, z6, z7, z8, z9]) rfl ⟨O, oc, n, .inl ⟨5, HE.out, by decide, rfl, ?_⟩⟩
    have hS2 := ((((((((((hS1.setBlkAt 0 rfl 0 (.int .i64 0)).setBlkAt 0 rfl 1 (.int .i64 0)).setBlkAt 0 rfl 2 (.int .i64 0)).setBlkAt 0 rfl 3 (.string ⟨#[]⟩)).setBlkAt 0 rfl 4 (.int .i64 0)).setBlkAt 0 rfl 5 (.int .i64 0)).setBlkAt 0 rfl 6 (.string ⟨#[]⟩)).setBlkAt 0 rfl 7 (.slice none 0 0)).setBlkAt 0 rfl 8 (.slice none 0 0)).setBlkAt 0 rfl 9 (.slice none 0 0))
    exact hS2.tail
  · have hCn := hrow.out _ hS1.tail
    have HI0 := As.mk (⟨hi, h0⟩ : _ ∧ _)
    have hil : i < L.length := (List.getElem?_eq_some_iff.1 hi).1
    have hin : (i : Int) < (L.length : Int) := by omega
    clear hi h0
    cases hc : inS op s with
    | true =>
      rw [hc] at hCn
      have HCn := As.mk hCn
      have HE : As (usedG (nodeF L m) L s d op n = .err 8) := ⟨by unfold usedG; rw [HI0.out.2]; simp only []; rw [if_pos hc]⟩
      clear hCn hc
      go_wp2_with fail
      refine HCn.out.mono ?_
      rintro e w2 ⟨rfl, hb⟩
      have hS2 := hS1.below hb
      clear hb hS1 p0 p1 p2 z0 z1 z2 z3 z4 z5 z6 z7 z8 z9 zf0 zf1 zf2 zf3 zf4 zf5 zf6 zf7 zf8 zf9
      have z0 := (hS2.cellAt 0 rfl 0).trans rfl
      have z1 := (hS2.cellAt 0 rfl 1).trans rfl
      have z2 := (hS2.cellAt 0 rfl 2).trans rfl
      have z3 := (hS2.cellAt 0 rfl 3).trans rfl
      have z4 := (hS2.cellAt 0 rfl 4).trans rfl
      have z5 := (hS2.cellAt 0 rfl 5).trans rfl
      have z6 := (hS2.cellAt 0 rfl 6).trans rfl
      have z7 := (hS2.cellAt 0 rfl 7).trans rfl
      have z8 := (hS2.cellAt 0 rfl 8).trans rfl
      have z9 := (hS2.cellAt 0 rfl 9).trans rfl
      have zf0 := hS2.frozenAt 0 rfl 0
      have zf1 := hS2.frozenAt 0 rfl 1
      have zf2 := hS2.frozenAt 0 rfl 2
      have zf3 := hS2.frozenAt 0 rfl 3
      have zf4 := hS2.frozenAt 0 rfl 4
      have zf5 := hS2.frozenAt 0 rfl 5
      have zf6 := hS2.frozenAt 0 rfl 6
      have zf7 := hS2.frozenAt 0 rfl 7
      have zf8 := hS2.frozenAt 0 rfl 8
      have zf9 := hS2.frozenAt 0 rfl 9
      have zlt := hS2.ltAt 0 rfl
      go_wp2_with fail
      refine bodyPost_ret (v := .tuple #[.agg #[.int .i64 0, .int .i64 0, .int .i64 0, .string ⟨#[]⟩, .int .i64 0, .int .i64 0, .string ⟨#[]⟩, .slice none 0 0, .slice none 0 0, .slice none 0 0], .int .i64 8]) (by simp [results, Try.results21, go_sem, z0, z1, z2, z3, z4, z5, z6, z7, z8, z9]) rfl ⟨O, oc, n, .inl ⟨8, HE.out, by decide, rfl, ?_⟩⟩
      have hS3 := ((((((((((hS2.setBlkAt 0 rfl 0 (.int .i64 0)).setBlkAt 0 rfl 1 (.int .i64 0)).setBlkAt 0 rfl 2 (.int .i64 0)).setBlkAt 0 rfl 3 (.string ⟨#[]⟩)).setBlkAt 0 rfl 4 (.int .i64 0)).setBlkAt 0 rfl 5 (.int .i64 0)).setBlkAt 0 rfl 6 (.string ⟨#[]⟩)).setBlkAt 0 rfl 7 (.slice none 0 0)).setBlkAt 0 rfl 8 (.slice none 0 0)).setBlkAt 0 rfl 9 (.slice none 0 0))
      exact hS3.tail
    | false =>
      rw [hc] at hCn
      have HCn := As.mk hCn
      have HE : As (usedG (nodeF L m) L s d op n = nodeF L m t.f1 d (op ++ [s]) n) := ⟨by unfold usedG; rw [HI0.out.2]; simp only []; rw [if_neg (by rw [hc]; decide)]⟩
      clear hCn hc
      go_upto_region 5 with fail
      refine HCn.out.mono ?_
      rintro e w2 ⟨rfl, hb⟩
      have hS2 := hS1.below hb
      clear hb hS1 p0 p1 p2 z0 z1 z2 z3 z4 z5 z6 z7 z8 z9 zf0 zf1 zf2 zf3 zf4 zf5 zf6 zf7 zf8 zf9
      have p0 := (hS2.cellAt 1 rfl 0).trans rfl
      have p1 := (hS2.cellAt 1 rfl 1).trans rfl
      have p2 := (hS2.cellAt 1 rfl 2).trans rfl
      have pf0 := hS2.frozenAt 1 rfl 0
      have pf1 := hS2.frozenAt 1 rfl 1
      have pf2 := hS2.frozenAt 1 rfl 2
      have plt := hS2.ltAt 1 rfl
      go_wp2_with (at_builtin; refine rw_append rfl (.tmp 33) (.tmp 35) 57 9 1 encS (.string ⟨#[]⟩) 16 rfl Try.underlying57 infoS rfl (by decide) (.slice O op.length oc) op s rfl _ rfl (by first | exact blk_new (by simp) | exact blk_new_drew (by simp)) ((hS2.below (by repeat (first | exact Below.refl _ _ | refine bl_drewN ?_ _ | refine Below.drew ?_ | refine bl_alloc ?_ _ | refine bl_set ?_ (by first | (simp; done) | omega | (simp; omega)) _))).rowAt 2 rfl) encS_len (one_S _) ?c1 ?c2 ?c3)
      case c1 => have := HD.out.2.2; simp only [maxLen]; omega
      case c2 => have := HD.out.2.2; omega
      case c3 =>
        intro v1 w3 hA
        have hS3 := At.appendAt 2 hA hS2 rfl (by repeat (first | exact Below.refl _ _ | refine bl_drewN ?_ _ | refine Below.drew ?_ | refine bl_alloc ?_ _ | refine bl_set ?_ (by first | (simp; done) | omega | (simp; omega)) _))
        obtain ⟨A1, c1, hv1, _, _⟩ := hA.row.shape
        subst hv1
        rw [List.length_append, List.length_singleton] at hS3 ⊢
        clear hA hS2 p0 p1 p2 pf0 pf1 pf2 plt
        have p0 := (hS3.cellAt 1 rfl 0).trans rfl
        have p1 := (hS3.cellAt 1 rfl 1).trans rfl
        have p2 := (hS3.cellAt 1 rfl 2).trans rfl
        have pf0 := hS3.frozenAt 1 rfl 0
        have pf1 := hS3.frozenAt 1 rfl 1
        have pf2 := hS3.frozenAt 1 rfl 2
        have plt := hS3.ltAt 1 rfl
        have hS4 := hS3.setBlkAt 1 rfl 1 (.slice A1 (op.length + 1) c1)
        have hS5 := At.front 2 (At.front 2 hS4 rfl) rfl
        have hS5 : At (fun _ => False) w0 (w3.setCell ⟨P, 1, none⟩ (.slice A1 (op.length + 1) c1)) (Hp.seps (Hp.blk P #[.slice A L.length c, .slice A1 (op ++ [s]).length c1, .int .i64 n] 59 :: Hp.row 9 1 encS (.slice A1 (op ++ [s]).length c1) (op ++ [s]) :: Hp.blk q0 #[.int .i64 0, .int .i64 0, .int .i64 0, .string ⟨#[]⟩, .int .i64 0, .int .i64 0, .string ⟨#[]⟩, .slice none 0 0, .slice none 0 0, .slice none 0 0] 30 :: lst)) := by
          rw [List.length_append, List.length_singleton]
          exact hS5
        obtain ⟨b, off, A7, c7, A8, c8, A9, c9, hAe, hbl, hNI, u0, u1, u2, u3, u4, u5, u6, u7, u8, u9, u10⟩ := tree_at HL.out.C t HI0.out.1
        subst hAe
        have HU := As.mk (fun (V : World) (hb : Below w0.heap.size w0 V) (j : Nat) (x : Value) (hx : w0.cell? ⟨b, off + i * 11 + j, none⟩ = some x) => (hb.cell (p := ⟨b, off + i * 11 + j, none⟩) hbl).trans hx)
        have hz : szN t.f1 ≤ 1048576 := HL.out.z t (List.mem_of_getElem? HI0.out.1)
        have HCC := As.mk (HI.out t.f1 A7 c7 A8 c8 A9 c9 d n (op ++ [s]) _ _ A1 c1 P hNI hz HD.out.1 HD.out.2.1 (by rw [List.length_append, List.length_singleton]; have := HD.out.2.2; omega) (by rw [← HE.out]; exact HRes.out) hS5)
        have v1 := HU.out _ hS4.bl 1 _ u1
        have v2 := HU.out _ hS4.bl 2 _ u2
        have v3 := HU.out _ hS4.bl 3 _ u3
        have v4 := HU.out _ hS4.bl 4 _ u4
        have v5 := HU.out _ hS4.bl 5 _ u5
        have v6 := HU.out _ hS4.bl 6 _ u6
        have v7 := HU.out _ hS4.bl 7 _ u7
        have v8 := HU.out _ hS4.bl 8 _ u8
        have v9 := HU.out _ hS4.bl 9 _ u9
        have v10 := HU.out _ hS4.bl 10 _ u10
        have hne : b ≠ P := by have := At.newAt 1 hS4 rfl; omega
        unfold nodeV at HCC
        clear hS3 hS4 hS5 hNI hz u0 u1 u2 u3 u4 u5 u6 u7 u8 u9 u10
        go_wp2_with fail
        refine HCC.out.mono ?_
        rintro e w4 ⟨O2, oc2, n', (⟨cd, hr, hcd, rfl, hS6⟩ | ⟨o, hr, hn', rfl, hS6⟩)⟩
        · have HX := As.mk (⟨hr, hcd⟩ : _ ∧ _)
          clear hr hcd
          rw [List.length_append, List.length_singleton] at hS6
          clear HCC
          have hS6 := hS6.alloc #[.int .i64 0, .int .i64 0, .int .i64 0, .string ⟨#[]⟩, .int .i64 0, .int .i64 0, .string ⟨#[]⟩, .slice none 0 0, .slice none 0 0, .slice none 0 0] 30
          obtain ⟨k0, hk0⟩ : ∃ q, q = w4.heap.size := ⟨_, rfl⟩
          obtain ⟨K0, hK0⟩ : ∃ V, V = w4.alloc (.cells #[.int .i64 0, .int .i64 0, .int .i64 0, .string ⟨#[]⟩, .int .i64 0, .int .i64 0, .string ⟨#[]⟩, .slice none 0 0, .slice none 0 0, .slice none 0 0] 30) := ⟨_, rfl⟩
          rw [← hk0, ← hK0] at hS6
          have Hk : As (w4.alloc (.cells #[.int .i64 0, .int .i64 0, .int .i64 0, .string ⟨#[]⟩, .int .i64 0, .int .i64 0, .string ⟨#[]⟩, .slice none 0 0, .slice none 0 0, .slice none 0 0] 30) = K0 ∧ w4.heap.size = k0) := ⟨hK0.symm, hk0.symm⟩
          clear hk0 hK0
          obtain ⟨g, hg, hgc⟩ := snoc_row (hS6.rowAt 2 rfl)
          subst hg
          clear p0 p1 p2 pf0 pf1 pf2 plt hne v1 v2 v3 v4 v5 v6 v7 v8 v9 v10
          have p0 := (hS6.cellAt 1 rfl 0).trans rfl
          have p1 := (hS6.cellAt 1 rfl 1).trans rfl
          have p2 := (hS6.cellAt 1 rfl 2).trans rfl
          have pf0 := hS6.frozenAt 1 rfl 0
          have pf1 := hS6.frozenAt 1 rfl 1
          have pf2 := hS6.frozenAt 1 rfl 2
          have plt := hS6.ltAt 1 rfl
          go_upto_region 8 with fail
          rw [Hk.out.1, Hk.out.2]
          clear Hk
          have hsub : IntKind.i64.wrap (op.length : Int) = (op.length : Int) := by rw [IntKind.wrap_i64]; have := HD.out.2.2; omega
          have hle : op.length ≤ oc2 := by omega
          go_still_tail 14, (by kernel_rfl)
          have z0 := (hS6.cellAt 3 rfl 0).trans rfl
          have z1 := (hS6.cellAt 3 rfl 1).trans rfl
          have z2 := (hS6.cellAt 3 rfl 2).trans rfl
          have z3 := (hS6.cellAt 3 rfl 3).trans rfl
          have z4 := (hS6.cellAt 3 rfl 4).trans rfl
          have z5 := (hS6.cellAt 3 rfl 5).trans rfl
          have z6 := (hS6.cellAt 3 rfl 6).trans rfl
          have z7 := (hS6.cellAt 3 rfl 7).trans rfl
          have z8 := (hS6.cellAt 3 rfl 8).trans rfl
          have z9 := (hS6.cellAt 3 rfl 9).trans rfl
          have zf0 := hS6.frozenAt 3 rfl 0
          have zf1 := hS6.frozenAt 3 rfl 1
          have zf2 := hS6.frozenAt 3 rfl 2
          have zf3 := hS6.frozenAt 3 rfl 3
          have zf4 := hS6.frozenAt 3 rfl 4
          have zf5 := hS6.frozenAt 3 rfl 5
          have zf6 := hS6.frozenAt 3 rfl 6
          have zf7 := hS6.frozenAt 3 rfl 7
          have zf8 := hS6.frozenAt 3 rfl 8
          have zf9 := hS6.frozenAt 3 rfl 9
          have zlt := hS6.ltAt 3 rfl
          have y0 := (hS6.cellAt 0 rfl 0).trans rfl
          have y1 := (hS6.cellAt 0 rfl 1).trans rfl
          have y2 := (hS6.cellAt 0 rfl 2).trans rfl
          have y3 := (hS6.cellAt 0 rfl 3).trans rfl
          have y4 := (hS6.cellAt 0 rfl 4).trans rfl
          have y5 := (hS6.cellAt 0 rfl 5).trans rfl
          have y6 := (hS6.cellAt 0 rfl 6).trans rfl
          have y7 := (hS6.cellAt 0 rfl 7).trans rfl
          have y8 := (hS6.cellAt 0 rfl 8).trans rfl
          have y9 := (hS6.cellAt 0 rfl 9).trans rfl
          have hqp := hS6.neBB 3 1 rfl rfl (by decide)
          have hpq := hqp.symm
          have hkp := hS6.neBB 0 1 rfl rfl (by decide)
          have hpk := hkp.symm
          have hkq := hS6.neBB 0 3 rfl rfl (by decide)
          have hqk := hkq.symm
          go_wp2_with fail
          refine bodyPost_ret (v := .tuple #[.agg #[.int .i64 0, .int .i64 0, .int .i64 0, .string ⟨#[]⟩, .int .i64 0, .int .i64 0, .string ⟨#[]⟩, .slice none 0 0, .slice none 0 0, .slice none 0 0], .int .i64 cd]) (by simp [results, Try.results21, go_sem, z0, z1, z2, z3, z4, z5, z6, z7, z8, z9]) rfl ⟨some ⟨g, 0, none⟩, oc2, n', .inl ⟨cd, by rw [HE.out]; exact HX.out.1, HX.out.2, rfl, ?_⟩⟩
          have hS7 := hS6.setBlkAt 1 rfl 1 (.slice (some ⟨g, 0, none⟩) op.length oc2)
          have hS8 := hS7.takeAt 2 op.length rfl encS_len (by simp)
          rw [List.take_left] at hS8
          have hS9 := (((((((((((hS8).setBlkAt 3 rfl 0 (.int .i64 0)).setBlkAt 3 rfl 1 (.int .i64 0)).setBlkAt 3 rfl 2 (.int .i64 0)).setBlkAt 3 rfl 3 (.string ⟨#[]⟩)).setBlkAt 3 rfl 4 (.int .i64 0)).setBlkAt 3 rfl 5 (.int .i64 0)).setBlkAt 3 rfl 6 (.string ⟨#[]⟩)).setBlkAt 3 rfl 7 (.slice none 0 0)).setBlkAt 3 rfl 8 (.slice none 0 0)).setBlkAt 3 rfl 9 (.slice none 0 0)).drew
          exact (hS9.tail).dropAt 2 (by simp)
        · have HX := As.mk (⟨hr, hn'⟩ : _ ∧ _)
          clear hr hn'
          rw [List.length_append, List.length_singleton] at hS6
          clear HCC
          have hS6 := hS6.alloc #[.int .i64 o.x.f0, .int .i64 o.x.f1, .int .i64 o.x.f2, .string o.x.f3, .int .i64 o.x.f4.f0, .int .i64 o.x.f4.f1, .string o.x.f4.f2, .slice o.A o.x.f4.f3.length o.c, .slice o.B o.x.f5.length o.d, .slice o.C o.x.f6.length o.q] 30
          obtain ⟨k0, hk0⟩ : ∃ q, q = w4.heap.size := ⟨_, rfl⟩
          obtain ⟨K0, hK0⟩ : ∃ V, V = w4.alloc (.cells #[.int .i64 o.x.f0, .int .i64 o.x.f1, .int .i64 o.x.f2, .string o.x.f3, .int .i64 o.x.f4.f0, .int .i64 o.x.f4.f1, .string o.x.f4.f2, .slice o.A o.x.f4.f3.length o.c, .slice o.B o.x.f5.length o.d, .slice o.C o.x.f6.length o.q] 30) := ⟨_, rfl⟩
          rw [← hk0, ← hK0] at hS6
          have Hk : As (w4.alloc (.cells #[.int .i64 o.x.f0, .int .i64 o.x.f1, .int .i64 o.x.f2, .string o.x.f3, .int .i64 o.x.f4.f0, .int .i64 o.x.f4.f1, .string o.x.f4.f2, .slice o.A o.x.f4.f3.length o.c, .slice o.B o.x.f5.length o.d, .slice o.C o.x.f6.length o.q] 30) = K0 ∧ w4.heap.size = k0) := ⟨hK0.symm, hk0.symm⟩
          clear hk0 hK0
          obtain ⟨g, hg, hgc⟩ := snoc_row (hS6.rowAt 3 rfl)
          subst hg
          clear p0 p1 p2 pf0 pf1 pf2 plt hne v1 v2 v3 v4 v5 v6 v7 v8 v9 v10
          have p0 := (hS6.cellAt 2 rfl 0).trans rfl
          have p1 := (hS6.cellAt 2 rfl 1).trans rfl
          have p2 := (hS6.cellAt 2 rfl 2).trans rfl
          have pf0 := hS6.frozenAt 2 rfl 0
          have pf1 := hS6.frozenAt 2 rfl 1
          have pf2 := hS6.frozenAt 2 rfl 2
          have plt := hS6.ltAt 2 rfl
          go_upto_region 8 with fail
          rw [Hk.out.1, Hk.out.2]
          clear Hk
          have hsub : IntKind.i64.wrap (op.length : Int) = (op.length : Int) := by rw [IntKind.wrap_i64]; have := HD.out.2.2; omega
          have hle : op.length ≤ oc2 := by omega
          go_still_tail 14, (by kernel_rfl)
          have z0 := (hS6.cellAt 4 rfl 0).trans rfl
          have z1 := (hS6.cellAt 4 rfl 1).trans rfl
          have z2 := (hS6.cellAt 4 rfl 2).trans rfl
          have z3 := (hS6.cellAt 4 rfl 3).trans rfl
          have z4 := (hS6.cellAt 4 rfl 4).trans rfl
          have z5 := (hS6.cellAt 4 rfl 5).trans rfl
          have z6 := (hS6.cellAt 4 rfl 6).trans rfl
          have z7 := (hS6.cellAt 4 rfl 7).trans rfl
          have z8 := (hS6.cellAt 4 rfl 8).trans rfl
          have z9 := (hS6.cellAt 4 rfl 9).trans rfl
          have zf0 := hS6.frozenAt 4 rfl 0
          have zf1 := hS6.frozenAt 4 rfl 1
          have zf2 := hS6.frozenAt 4 rfl 2
          have zf3 := hS6.frozenAt 4 rfl 3
          have zf4 := hS6.frozenAt 4 rfl 4
          have zf5 := hS6.frozenAt 4 rfl 5
          have zf6 := hS6.frozenAt 4 rfl 6
          have zf7 := hS6.frozenAt 4 rfl 7
          have zf8 := hS6.frozenAt 4 rfl 8
          have zf9 := hS6.frozenAt 4 rfl 9
          have zlt := hS6.ltAt 4 rfl
          have y0 := (hS6.cellAt 0 rfl 0).trans rfl
          have y1 := (hS6.cellAt 0 rfl 1).trans rfl
          have y2 := (hS6.cellAt 0 rfl 2).trans rfl
          have y3 := (hS6.cellAt 0 rfl 3).trans rfl
          have y4 := (hS6.cellAt 0 rfl 4).trans rfl
          have y5 := (hS6.cellAt 0 rfl 5).trans rfl
          have y6 := (hS6.cellAt 0 rfl 6).trans rfl
          have y7 := (hS6.cellAt 0 rfl 7).trans rfl
          have y8 := (hS6.cellAt 0 rfl 8).trans rfl
          have y9 := (hS6.cellAt 0 rfl 9).trans rfl
          have hqp := hS6.neBB 4 2 rfl rfl (by decide)
          have hpq := hqp.symm
          have hkp := hS6.neBB 0 2 rfl rfl (by decide)
          have hpk := hkp.symm
          have hkq := hS6.neBB 0 4 rfl rfl (by decide)
          have hqk := hkq.symm
          go_wp2_with fail
          refine bodyPost_ret (v := .tuple #[.agg #[.int .i64 o.x.f0, .int .i64 o.x.f1, .int .i64 o.x.f2, .string o.x.f3, .int .i64 o.x.f4.f0, .int .i64 o.x.f4.f1, .string o.x.f4.f2, .slice o.A o.x.f4.f3.length o.c, .slice o.B o.x.f5.length o.d, .slice o.C o.x.f6.length o.q], .int .i64 0]) (by simp [results, Try.results21, go_sem, z0, z1, z2, z3, z4, z5, z6, z7, z8, z9]) rfl ⟨some ⟨g, 0, none⟩, oc2, n', .inr ⟨o, by rw [HE.out]; exact HX.out.1, HX.out.2, rfl, ?_⟩⟩
          have hS7 := hS6.setBlkAt 2 rfl 1 (.slice (some ⟨g, 0, none⟩) op.length oc2)
          have hS8 := hS7.takeAt 3 op.length rfl encS_len (by simp)
          rw [List.take_left] at hS8
          have hS9 := (((((((((((hS8).setBlkAt 4 rfl 0 (.int .i64 o.x.f0)).setBlkAt 4 rfl 1 (.int .i64 o.x.f1)).setBlkAt 4 rfl 2 (.int .i64 o.x.f2)).setBlkAt 4 rfl 3 (.string o.x.f3)).setBlkAt 4 rfl 4 (.int .i64 o.x.f4.f0)).setBlkAt 4 rfl 5 (.int .i64 o.x.f4.f1)).setBlkAt 4 rfl 6 (.string o.x.f4.f2)).setBlkAt 4 rfl 7 (.slice o.A o.x.f4.f3.length o.c)).setBlkAt 4 rfl 8 (.slice o.B o.x.f5.length o.d)).setBlkAt 4 rfl 9 (.slice o.C o.x.f6.length o.q)).drew
          exact (hS9.tail).dropAt 3 (by simp)
end Go.Proofs.Ytlkkibeoobognaa.OpenInlineTrees
