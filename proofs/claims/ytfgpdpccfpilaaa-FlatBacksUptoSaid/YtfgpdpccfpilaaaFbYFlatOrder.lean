/- FlatBacks: the reference's Back, Kids, SameInts; the opened list; the law's walk. -/
import Derived.Test.YtfgpdpccfpilaaaFb2FlatOrder
set_option linter.unnecessarySimpa false
set_option linter.unusedSimpArgs false
set_option linter.unusedVariables false
namespace Go.Proofs.Ytfgpdpccfpilaaa.OpenFlatOrder
open Go.RowKit Go.Deep
open Go.Proofs.YtfgpdpccfpilaaaW.PrintWords Go.Proofs.YtfgpdpccfpilaaaW.PrintLast Go.Proofs.YtfgpdpccfpilaaaW.PrintMore Go.Proofs.Ytfgpdpccfpilaaa.PFlatOrder
theorem seg_eq {l : List S39} {x : S27} (h : Seg l 0 (fl x (-1) 0)) (hc : cntN x = l.length) : l = fl x (-1) 0 := by
  apply List.ext_getElem?
  intro j
  by_cases hj : j < l.length
  · have h2 := h j (by rw [fl_len]; omega)
    rw [Nat.zero_add] at h2
    exact h2
  · rw [List.getElem?_eq_none (by omega), List.getElem?_eq_none (by rw [fl_len]; omega)]
theorem seg_self (x : S27) : Seg (fl x (-1) 0) 0 (fl x (-1) 0) := fun j _ => by rw [Nat.zero_add]
set_option maxRecDepth 100000 in
set_option maxHeartbeats 25600000 in
theorem rback_does (w : World) (A : Option Addr) (c : Nat) (l : List S39) (hC : k39.C w A l.length l) (hc : l.length ≤ c) (hl : l.length ≤ 1000000) :
    Calls Try.prog 15 #[.slice A l.length c] w fun e w' => ((∀ x, l ≠ fl x (-1) 0) ∧ e = .returned (.tuple #[.agg #[.int .i64 0, .int .i64 0, .int .i64 0, .string ⟨#[]⟩, .int .i64 0, .int .i64 0, .string ⟨#[]⟩, .slice none 0 0, .slice none 0 0, .slice none 0 0], .bool false]) ∧ Below w.heap.size w w') ∨
      (∃ o : Fr, l = fl o.x (-1) 0 ∧ e = .returned (.tuple #[.agg #[.int .i64 o.x.f0, .int .i64 o.x.f1, .int .i64 o.x.f2, .string o.x.f3, .int .i64 o.x.f4.f0, .int .i64 o.x.f4.f1, .string o.x.f4.f2, .slice o.A o.x.f4.f3.length o.c, .slice o.B o.x.f5.length o.d, .slice o.C o.x.f6.length o.q], .bool true]) ∧ At (fun _ => False) w w' (Hp.seps [hkN l.length w o])) := by
  have HI := As.mk (fun (V : World) (lst : List Hp) (h1 : 0 < l.length) (h2 : At (fun _ => False) w V (Hp.seps lst)) => rb_all l.length w A c l hC hc hl 0 (-1) V lst h1 (by omega) h2)
  have HLl := As.mk hl
  have hS := At.start0 (Below.refl w.heap.size w)
  clear hC hc hl
  have hS := hS.alloc #[.int .i64 0, .int .i64 0, .int .i64 0, .string ⟨#[]⟩, .int .i64 0, .int .i64 0, .string ⟨#[]⟩, .slice none 0 0, .slice none 0 0, .slice none 0 0] 27
  obtain ⟨q0, hq0⟩ : ∃ q, q = w.heap.size := ⟨_, rfl⟩
  obtain ⟨W0, hW0⟩ : ∃ V, V = w.alloc (.cells #[.int .i64 0, .int .i64 0, .int .i64 0, .string ⟨#[]⟩, .int .i64 0, .int .i64 0, .string ⟨#[]⟩, .slice none 0 0, .slice none 0 0, .slice none 0 0] 27) := ⟨_, rfl⟩
  rw [← hq0, ← hW0] at hS
  have Hq : As (w.alloc (.cells #[.int .i64 0, .int .i64 0, .int .i64 0, .string ⟨#[]⟩, .int .i64 0, .int .i64 0, .string ⟨#[]⟩, .slice none 0 0, .slice none 0 0, .slice none 0 0] 27) = W0 ∧ w.heap.size = q0) := ⟨hW0.symm, hq0.symm⟩
  clear hq0 hW0
  by_cases h0 : l.length = 0
  · have HNo : As (∀ x, l ≠ fl x (-1) 0) := ⟨fun x h => by have := cntN_pos x; have h2 := congrArg List.length h; rw [fl_len] at h2; omega⟩
    rw [h0]
    clear HI h0
    have z0 := (hS.cellAt 0 rfl 0).trans rfl
    have z1 := (hS.cellAt 0 rfl 1).trans rfl
    have z2 := (hS.cellAt 0 rfl 2).trans rfl
    have z3 := (hS.cellAt 0 rfl 3).trans rfl
    have z4 := (hS.cellAt 0 rfl 4).trans rfl
    have z5 := (hS.cellAt 0 rfl 5).trans rfl
    have z6 := (hS.cellAt 0 rfl 6).trans rfl
    have z7 := (hS.cellAt 0 rfl 7).trans rfl
    have z8 := (hS.cellAt 0 rfl 8).trans rfl
    have z9 := (hS.cellAt 0 rfl 9).trans rfl
    have zf0 := hS.frozenAt 0 rfl 0
    have zf1 := hS.frozenAt 0 rfl 1
    have zf2 := hS.frozenAt 0 rfl 2
    have zf3 := hS.frozenAt 0 rfl 3
    have zf4 := hS.frozenAt 0 rfl 4
    have zf5 := hS.frozenAt 0 rfl 5
    have zf6 := hS.frozenAt 0 rfl 6
    have zf7 := hS.frozenAt 0 rfl 7
    have zf8 := hS.frozenAt 0 rfl 8
    have zf9 := hS.frozenAt 0 rfl 9
    have zlt := hS.ltAt 0 rfl
    go_enter Try.func15, Try.ntmps15
    go_upto_region 1 with fail
    rw [Hq.out.1, Hq.out.2]
    have hw := Nat.le_of_eq Hq.out.2
    clear Hq
    go_wp2_with fail
    refine bodyPost_ret (v := .tuple #[.agg #[.int .i64 0, .int .i64 0, .int .i64 0, .string ⟨#[]⟩, .int .i64 0, .int .i64 0, .string ⟨#[]⟩, .slice none 0 0, .slice none 0 0, .slice none 0 0], .bool false]) (by simp [results, Try.results15, go_sem, z0, z1, z2, z3, z4, z5, z6, z7, z8, z9]) rfl (.inl ⟨HNo.out, rfl, ?_⟩)
    exact (bl_set (bl_set (bl_set (bl_set (bl_set (bl_set (bl_set (bl_set (bl_set (bl_set hS.bl hw _) hw _) hw _) hw _) hw _) hw _) hw _) hw _) hw _) hw _)
  · have t0 : ((l.length : Int) == 0) = false := beq_eq_false_iff_ne.2 (by omega)
    have HP := As.mk (show 0 < l.length by omega)
    clear h0
    go_enter Try.func15, Try.ntmps15
    go_upto_region 1 with fail
    rw [Hq.out.1, Hq.out.2]
    have hw := Nat.le_of_eq Hq.out.2
    clear Hq
    go_wp2_with fail
    refine (HI.out _ _ HP.out hS).mono ?_
    rintro e w1 ⟨o, (⟨rfl, hnf, hS1⟩ | ⟨t, rfl, hsg, ht, hle, hS1⟩)⟩
    · have HNo : As (∀ x, l ≠ fl x (-1) 0) := ⟨fun x h => by
        have h1 := hnf x (by rw [h]; exact seg_self x)
        have h2 := congrArg List.length h
        rw [fl_len] at h2
        omega⟩
      have t1 : ((-1 : Int) != (l.length : Int)) = true := by
        have : (-1 : Int) ≠ (l.length : Int) := by omega
        simpa using this
      clear hnf HI
      have hS1 := hS1.alloc #[.int .i64 o.x.f0, .int .i64 o.x.f1, .int .i64 o.x.f2, .string o.x.f3, .int .i64 o.x.f4.f0, .int .i64 o.x.f4.f1, .string o.x.f4.f2, .slice o.A o.x.f4.f3.length o.c, .slice o.B o.x.f5.length o.d, .slice o.C o.x.f6.length o.q] 27
      obtain ⟨k0, hk0⟩ : ∃ q, q = w1.heap.size := ⟨_, rfl⟩
      obtain ⟨K0, hK0⟩ : ∃ V, V = w1.alloc (.cells #[.int .i64 o.x.f0, .int .i64 o.x.f1, .int .i64 o.x.f2, .string o.x.f3, .int .i64 o.x.f4.f0, .int .i64 o.x.f4.f1, .string o.x.f4.f2, .slice o.A o.x.f4.f3.length o.c, .slice o.B o.x.f5.length o.d, .slice o.C o.x.f6.length o.q] 27) := ⟨_, rfl⟩
      rw [← hk0, ← hK0] at hS1
      have Hk : As (w1.alloc (.cells #[.int .i64 o.x.f0, .int .i64 o.x.f1, .int .i64 o.x.f2, .string o.x.f3, .int .i64 o.x.f4.f0, .int .i64 o.x.f4.f1, .string o.x.f4.f2, .slice o.A o.x.f4.f3.length o.c, .slice o.B o.x.f5.length o.d, .slice o.C o.x.f6.length o.q] 27) = K0 ∧ w1.heap.size = k0) := ⟨hK0.symm, hk0.symm⟩
      clear hk0 hK0
      go_upto_region 4 with fail
      rw [Hk.out.1, Hk.out.2]
      clear Hk
      have z0 := (hS1.cellAt 1 rfl 0).trans rfl
      have z1 := (hS1.cellAt 1 rfl 1).trans rfl
      have z2 := (hS1.cellAt 1 rfl 2).trans rfl
      have z3 := (hS1.cellAt 1 rfl 3).trans rfl
      have z4 := (hS1.cellAt 1 rfl 4).trans rfl
      have z5 := (hS1.cellAt 1 rfl 5).trans rfl
      have z6 := (hS1.cellAt 1 rfl 6).trans rfl
      have z7 := (hS1.cellAt 1 rfl 7).trans rfl
      have z8 := (hS1.cellAt 1 rfl 8).trans rfl
      have z9 := (hS1.cellAt 1 rfl 9).trans rfl
      have zf0 := hS1.frozenAt 1 rfl 0
      have zf1 := hS1.frozenAt 1 rfl 1
      have zf2 := hS1.frozenAt 1 rfl 2
      have zf3 := hS1.frozenAt 1 rfl 3
      have zf4 := hS1.frozenAt 1 rfl 4
      have zf5 := hS1.frozenAt 1 rfl 5
      have zf6 := hS1.frozenAt 1 rfl 6
      have zf7 := hS1.frozenAt 1 rfl 7
      have zf8 := hS1.frozenAt 1 rfl 8
      have zf9 := hS1.frozenAt 1 rfl 9
      have zlt := hS1.ltAt 1 rfl
      go_wp2_with fail
      refine bodyPost_ret (v := .tuple #[.agg #[.int .i64 0, .int .i64 0, .int .i64 0, .string ⟨#[]⟩, .int .i64 0, .int .i64 0, .string ⟨#[]⟩, .slice none 0 0, .slice none 0 0, .slice none 0 0], .bool false]) (by simp [results, Try.results15, go_sem, z0, z1, z2, z3, z4, z5, z6, z7, z8, z9]) rfl (.inl ⟨HNo.out, rfl, ?_⟩)
      exact (((((((((((hS1.setBlkAt 1 rfl 0 (.int .i64 0)).setBlkAt 1 rfl 1 (.int .i64 0)).setBlkAt 1 rfl 2 (.int .i64 0)).setBlkAt 1 rfl 3 (.string ⟨#[]⟩)).setBlkAt 1 rfl 4 (.int .i64 0)).setBlkAt 1 rfl 5 (.int .i64 0)).setBlkAt 1 rfl 6 (.string ⟨#[]⟩)).setBlkAt 1 rfl 7 (.slice none 0 0)).setBlkAt 1 rfl 8 (.slice none 0 0)).setBlkAt 1 rfl 9 (.slice none 0 0))).bl
    · have HSg := As.mk (⟨hsg, ht, hle⟩ : _ ∧ _ ∧ _)
      clear hsg ht hle HI
      have hS1 := hS1.alloc #[.int .i64 o.x.f0, .int .i64 o.x.f1, .int .i64 o.x.f2, .string o.x.f3, .int .i64 o.x.f4.f0, .int .i64 o.x.f4.f1, .string o.x.f4.f2, .slice o.A o.x.f4.f3.length o.c, .slice o.B o.x.f5.length o.d, .slice o.C o.x.f6.length o.q] 27
      obtain ⟨k0, hk0⟩ : ∃ q, q = w1.heap.size := ⟨_, rfl⟩
      obtain ⟨K0, hK0⟩ : ∃ V, V = w1.alloc (.cells #[.int .i64 o.x.f0, .int .i64 o.x.f1, .int .i64 o.x.f2, .string o.x.f3, .int .i64 o.x.f4.f0, .int .i64 o.x.f4.f1, .string o.x.f4.f2, .slice o.A o.x.f4.f3.length o.c, .slice o.B o.x.f5.length o.d, .slice o.C o.x.f6.length o.q] 27) := ⟨_, rfl⟩
      rw [← hk0, ← hK0] at hS1
      have Hk : As (w1.alloc (.cells #[.int .i64 o.x.f0, .int .i64 o.x.f1, .int .i64 o.x.f2, .string o.x.f3, .int .i64 o.x.f4.f0, .int .i64 o.x.f4.f1, .string o.x.f4.f2, .slice o.A o.x.f4.f3.length o.c, .slice o.B o.x.f5.length o.d, .slice o.C o.x.f6.length o.q] 27) = K0 ∧ w1.heap.size = k0) := ⟨hK0.symm, hk0.symm⟩
      clear hk0 hK0
      go_upto_region 4 with fail
      rw [Hk.out.1, Hk.out.2]
      clear Hk
      by_cases he : t = l.length
      · have t1 : ((t : Int) != (l.length : Int)) = false := by rw [he]; simp
        have HE : As (l = fl o.x (-1) 0) := ⟨seg_eq HSg.out.1 (by have := HSg.out.2.1; omega)⟩
        clear he
        have kk0 := (hS1.cellAt 0 rfl 0).trans rfl
        have kk1 := (hS1.cellAt 0 rfl 1).trans rfl
        have kk2 := (hS1.cellAt 0 rfl 2).trans rfl
        have kk3 := (hS1.cellAt 0 rfl 3).trans rfl
        have kk4 := (hS1.cellAt 0 rfl 4).trans rfl
        have kk5 := (hS1.cellAt 0 rfl 5).trans rfl
        have kk6 := (hS1.cellAt 0 rfl 6).trans rfl
        have kk7 := (hS1.cellAt 0 rfl 7).trans rfl
        have kk8 := (hS1.cellAt 0 rfl 8).trans rfl
        have kk9 := (hS1.cellAt 0 rfl 9).trans rfl
        have z0 := (hS1.cellAt 2 rfl 0).trans rfl
        have z1 := (hS1.cellAt 2 rfl 1).trans rfl
        have z2 := (hS1.cellAt 2 rfl 2).trans rfl
        have z3 := (hS1.cellAt 2 rfl 3).trans rfl
        have z4 := (hS1.cellAt 2 rfl 4).trans rfl
        have z5 := (hS1.cellAt 2 rfl 5).trans rfl
        have z6 := (hS1.cellAt 2 rfl 6).trans rfl
        have z7 := (hS1.cellAt 2 rfl 7).trans rfl
        have z8 := (hS1.cellAt 2 rfl 8).trans rfl
        have z9 := (hS1.cellAt 2 rfl 9).trans rfl
        have zf0 := hS1.frozenAt 2 rfl 0
        have zf1 := hS1.frozenAt 2 rfl 1
        have zf2 := hS1.frozenAt 2 rfl 2
        have zf3 := hS1.frozenAt 2 rfl 3
        have zf4 := hS1.frozenAt 2 rfl 4
        have zf5 := hS1.frozenAt 2 rfl 5
        have zf6 := hS1.frozenAt 2 rfl 6
        have zf7 := hS1.frozenAt 2 rfl 7
        have zf8 := hS1.frozenAt 2 rfl 8
        have zf9 := hS1.frozenAt 2 rfl 9
        have zlt := hS1.ltAt 2 rfl
        have hnq := hS1.neBB 0 2 rfl rfl (by decide)
        have hqn := hnq.symm
        go_wp2_with fail
        refine bodyPost_ret (v := .tuple #[.agg #[.int .i64 o.x.f0, .int .i64 o.x.f1, .int .i64 o.x.f2, .string o.x.f3, .int .i64 o.x.f4.f0, .int .i64 o.x.f4.f1, .string o.x.f4.f2, .slice o.A o.x.f4.f3.length o.c, .slice o.B o.x.f5.length o.d, .slice o.C o.x.f6.length o.q], .bool true]) (by simp [results, Try.results15, go_sem, z0, z1, z2, z3, z4, z5, z6, z7, z8, z9]) rfl (.inr ⟨o, HE.out, rfl, ?_⟩)
        have hS9 := ((((((((((hS1.setBlkAt 2 rfl 0 (.int .i64 o.x.f0)).setBlkAt 2 rfl 1 (.int .i64 o.x.f1)).setBlkAt 2 rfl 2 (.int .i64 o.x.f2)).setBlkAt 2 rfl 3 (.string o.x.f3)).setBlkAt 2 rfl 4 (.int .i64 o.x.f4.f0)).setBlkAt 2 rfl 5 (.int .i64 o.x.f4.f1)).setBlkAt 2 rfl 6 (.string o.x.f4.f2)).setBlkAt 2 rfl 7 (.slice o.A o.x.f4.f3.length o.c)).setBlkAt 2 rfl 8 (.slice o.B o.x.f5.length o.d)).setBlkAt 2 rfl 9 (.slice o.C o.x.f6.length o.q))
        exact hS9.sel [1]
      · have t1 : ((t : Int) != (l.length : Int)) = true := by
          have : (t : Int) ≠ (l.length : Int) := by omega
          simpa using this
        have HNo : As (∀ x, l ≠ fl x (-1) 0) := ⟨fun x h => he (by
          have h1 := HSg.out
          have h2 : o.x = x := seg_uniq o.x x l 0 (-1) (-1) h1.1 (by rw [h]; exact seg_self x)
          have h3 := congrArg List.length h
          rw [fl_len, ← h2] at h3
          omega)⟩
        clear he
        have z0 := (hS1.cellAt 2 rfl 0).trans rfl
        have z1 := (hS1.cellAt 2 rfl 1).trans rfl
        have z2 := (hS1.cellAt 2 rfl 2).trans rfl
        have z3 := (hS1.cellAt 2 rfl 3).trans rfl
        have z4 := (hS1.cellAt 2 rfl 4).trans rfl
        have z5 := (hS1.cellAt 2 rfl 5).trans rfl
        have z6 := (hS1.cellAt 2 rfl 6).trans rfl
        have z7 := (hS1.cellAt 2 rfl 7).trans rfl
        have z8 := (hS1.cellAt 2 rfl 8).trans rfl
        have z9 := (hS1.cellAt 2 rfl 9).trans rfl
        have zf0 := hS1.frozenAt 2 rfl 0
        have zf1 := hS1.frozenAt 2 rfl 1
        have zf2 := hS1.frozenAt 2 rfl 2
        have zf3 := hS1.frozenAt 2 rfl 3
        have zf4 := hS1.frozenAt 2 rfl 4
        have zf5 := hS1.frozenAt 2 rfl 5
        have zf6 := hS1.frozenAt 2 rfl 6
        have zf7 := hS1.frozenAt 2 rfl 7
        have zf8 := hS1.frozenAt 2 rfl 8
        have zf9 := hS1.frozenAt 2 rfl 9
        have zlt := hS1.ltAt 2 rfl
        go_wp2_with fail
        refine bodyPost_ret (v := .tuple #[.agg #[.int .i64 0, .int .i64 0, .int .i64 0, .string ⟨#[]⟩, .int .i64 0, .int .i64 0, .string ⟨#[]⟩, .slice none 0 0, .slice none 0 0, .slice none 0 0], .bool false]) (by simp [results, Try.results15, go_sem, z0, z1, z2, z3, z4, z5, z6, z7, z8, z9]) rfl (.inl ⟨HNo.out, rfl, ?_⟩)
        exact (((((((((((hS1.setBlkAt 2 rfl 0 (.int .i64 0)).setBlkAt 2 rfl 1 (.int .i64 0)).setBlkAt 2 rfl 2 (.int .i64 0)).setBlkAt 2 rfl 3 (.string ⟨#[]⟩)).setBlkAt 2 rfl 4 (.int .i64 0)).setBlkAt 2 rfl 5 (.int .i64 0)).setBlkAt 2 rfl 6 (.string ⟨#[]⟩)).setBlkAt 2 rfl 7 (.slice none 0 0)).setBlkAt 2 rfl 8 (.slice none 0 0)).setBlkAt 2 rfl 9 (.slice none 0 0))).bl
/-! Kids -/
def parz (L : List S39) (a : Int) (j : Nat) : Bool := match L[j]? with
  | some r => decide (r.f4 = a)
  | none => false
theorem kids_loopZ (L : List S39) (a : Int) (hL : L.length ≤ 2097152) : ∀ (j i : Nat) (acc : List Int), i + j = L.length → acc.length ≤ i →
    Evt (fun k => flat_Kids.l0 k a acc L (L.length : Int) (i : Int)) (acc ++ kidI ((List.range' i j).filter (parz L a)))
  | 0, i, acc, hi, hb => Evt.succ 0 fun k _ => by
    rw [flat_Kids.l0, if_neg (by omega)]; simp [kidI]
  | j + 1, i, acc, hi, hb => by
    have hlt : i < L.length := by omega
    have hg : L[i]? = some L[i] := List.getElem?_eq_getElem hlt
    have hpz : parz L a i = decide (L[i].f4 = a) := by unfold parz; rw [hg]
    by_cases hp : L[i].f4 = a
    · obtain ⟨K, hK⟩ := kids_loopZ L a hL j (i + 1) (acc ++ [(i : Int)]) (by omega) (by rw [List.length_append, List.length_singleton]; omega)
      refine Evt.succ K fun k hk => ?_
      have e1 := hK k hk
      rw [flat_Kids.l0, if_pos (by omega), if_pos (by omega), if_pos (by omega), rd_row L i hlt, if_pos hp, if_pos (by omega), w64 _ (by omega) (by omega), show ((i : Int) + 1) = ((i + 1 : Nat) : Int) by omega]
      simp only [] at e1
      rw [e1, List.range'_succ, List.filter_cons_of_pos (by rw [hpz]; exact decide_eq_true hp)]
      simp [kidI]
    · obtain ⟨K, hK⟩ := kids_loopZ L a hL j (i + 1) acc (by omega) (by omega)
      refine Evt.succ K fun k hk => ?_
      have e1 := hK k hk
      rw [flat_Kids.l0, if_pos (by omega), if_pos (by omega), if_pos (by omega), rd_row L i hlt, if_neg hp, w64 _ (by omega) (by omega), show ((i : Int) + 1) = ((i + 1 : Nat) : Int) by omega]
      simp only [] at e1
      rw [e1, List.range'_succ, List.filter_cons_of_neg (by rw [hpz, decide_eq_false hp]; simp)]
def kidZ (L : List S39) (a : Int) (k : Nat) : List Int := kidI ((List.range k).filter (parz L a))
theorem kidZ_succ (L : List S39) (a : Int) (k : Nat) : kidZ L a (k + 1) = if parz L a k then kidZ L a k ++ [(k : Int)] else kidZ L a k := by
  unfold kidZ
  rw [List.range_succ, List.filter_append]
  cases h : parz L a k <;> simp [h, kidI]
theorem kidZ_len (L : List S39) (a : Int) (k : Nat) : (kidZ L a k).length ≤ k := by
  unfold kidZ kidI
  rw [List.length_map]
  exact Nat.le_trans (List.length_filter_le _ _) (by simp)
theorem kidsZ_does (L : List S39) (a : Int) (hL : L.length ≤ 2097152) (A : Option Addr) (c : Nat) (w : World) (hC : k39.C w A L.length L) (hc : L.length ≤ c) :
    Calls Try.prog 17 #[.slice A L.length c, .int .i64 a] w fun e w' => ∃ v, e = .returned v ∧ Kd.R (Kd.int .i64) 3 w' w.heap.size (fun _ => True) v (kidZ L a L.length) ∧ Below w.heap.size w w' := by
  obtain ⟨K, hK⟩ := kids_loopZ L a hL L.length 0 [] (by omega) (Nat.le_refl _)
  have e := hK K (Nat.le_refl _)
  rw [List.nil_append, ← List.range_eq_range'] at e
  exact flat_Kids.calls K A c L a _ w hC hc e
def encZ (x : Int) : List Value := [.int .i64 x]
theorem encZ_len (x : Int) : (encZ x).length = 1 := rfl
theorem one_Z (x : Int) : ∀ u ∈ encZ x, u.oneCell' = true := by intro u hu; simp [encZ] at hu; subst hu; rfl
theorem info3z : (Try.prog.info? 3).map (fun i => (i.zero, i.size, i.bytes)) = some (some (.int .i64 0), 1, 8) := by kernel_rfl
theorem rd_of_int {w : World} {A : Option Addr} {c : Nat} {xs : List Int} (h : (Kd.int .i64).C w A xs.length xs) (hc : xs.length ≤ c) : Rd w 1 encZ (.slice A xs.length c) xs := by
  refine ⟨⟨A, c, rfl, hc, h.2.1⟩, fun A' n c' hv i x hx => ?_⟩
  injection hv with h1 h2 h3
  subst h1
  obtain ⟨b, off, cs, e, hbl, hcl, hK, hcell⟩ := C_lit h (by decide) x hx
  obtain rfl : cs = [.int .i64 x] := hK
  refine ⟨b, off, e, hbl, fun j hj => ?_⟩
  obtain rfl : j = 0 := by omega
  exact hcell 0 _ rfl
set_option maxRecDepth 100000 in
set_option maxHeartbeats 12800000 in
theorem rkids_does (L : List S39) (a : Int) (hL : L.length ≤ 1000000) (A : Option Addr) (c : Nat) (w : World) (hC : k39.C w A L.length L) (hc : L.length ≤ c) :
    Calls Try.prog 18 #[.slice A L.length c, .int .i64 a] w fun e w' => ∃ v, e = .returned v ∧ At (fun _ => False) w w' (Hp.seps [Hp.row 3 1 encZ v (kidZ L a L.length)]) := by
  have HC := As.mk hC
  have HL := As.mk hL
  have hS := (At.start0 (Below.refl w.heap.size w)).nilRow 3 1 encZ
  clear hC hc hL
  go_enter Try.func18, Try.ntmps18
  go_wp2_with fail
  go_loopg [5, 6] L.length (fun g0 v5 v6 wr => ∃ k : Nat, k + g0 = L.length ∧ v6 = .int .i64 k ∧ At (fun _ => False) w wr (Hp.seps [Hp.row 3 1 encZ v5 (kidZ L a k)]))
  case atStart => exact ⟨0, by omega, rfl, hS⟩
  case round =>
    clear hS
    obtain ⟨k, hk, rfl, hS⟩ := hrel
    obtain ⟨A1, n1, c1, rfl⟩ := (hS.rowAt 0 rfl).slice
    have HK := As.mk hk
    by_cases hlt : k < L.length
    · obtain ⟨y, hy⟩ : ∃ y, L[k]? = some y := ⟨_, List.getElem?_eq_getElem hlt⟩
      have hpz : parz L a k = decide (y.f4 = a) := by unfold parz; rw [hy]
      have hks := kidZ_succ L a k
      rw [hpz] at hks
      have HKs := As.mk hks
      have hkl := kidZ_len L a k
      obtain ⟨b, off, cs, rfl, hbl, hcl, hK, hcell⟩ := C_lit HC.out (by decide) y hy
      obtain ⟨_, _, _, _, rfl, _, _, _, _⟩ := k39_open hK
      have y4 := (hS.bl.cell (p := ⟨b, off + k * 11 + 4, none⟩) hbl).trans (hcell 4 _ rfl)
      have hin : (k : Int) < (L.length : Int) := by omega
      have hl1 := HL.out
      clear hcell hK hcl hk hks hpz hy
      by_cases hp : y.f4 = a
      · have t0 : (y.f4 == a) = true := by simpa using hp
        have HS2 : As (kidZ L a (k + 1) = kidZ L a k ++ [(k : Int)]) := ⟨by rw [HKs.out, if_pos (by simpa using hp)]⟩
        clear hp
        go_wp2_with (at_builtin; refine rw_append rfl (.tmp 20) (.tmp 22) 41 3 1 encZ (.int .i64 0) 8 rfl Try.underlying41 info3z rfl (by decide) (.slice A1 n1 c1) (kidZ L a k) (k : Int) rfl _ rfl (by first | exact blk_new (by simp) | exact blk_new_drew (by simp)) ((hS.below (by repeat (first | exact Below.refl _ _ | refine bl_drewN ?_ _ | refine Below.drew ?_ | refine bl_alloc ?_ _ | refine bl_set ?_ (by first | (simp; done) | omega | (simp; omega)) _))).rowAt 0 rfl) encZ_len (one_Z _) ?c1 ?c2 ?c3)
        case c1 => simp only [maxLen]; omega
        case c2 => omega
        case c3 =>
          intro v1 w2 hA
          have hS2 := At.appendAt 0 hA hS rfl (by repeat (first | exact Below.refl _ _ | refine bl_drewN ?_ _ | refine Below.drew ?_ | refine bl_alloc ?_ _ | refine bl_set ?_ (by first | (simp; done) | omega | (simp; omega)) _))
          rw [← HS2.out] at hS2
          clear hA hS y4
          go_wp2_with fail
          go_roundg (gk - 1)
          case measure => have := HK.out; omega
          case rel => exact ⟨k + 1, by have := HK.out; omega, by go_num, hS2⟩
      · have t0 : (y.f4 == a) = false := by simpa using hp
        have HS2 : As (kidZ L a (k + 1) = kidZ L a k) := ⟨by rw [HKs.out, if_neg (by simpa using hp)]⟩
        clear hp
        go_wp2_with fail
        go_roundg (gk - 1)
        case measure => have := HK.out; omega
        case rel => exact ⟨k + 1, by have := HK.out; omega, by go_num, by rw [HS2.out]; exact hS⟩
    · obtain rfl : k = L.length := by omega
      go_wp2_with fail
      go_ret
      exact ⟨_, rfl, hS⟩
set_option maxHeartbeats 1600000 in
theorem sameints_does (u v : Value) (xs : List Int) (w : World) (hu : Rd w 1 encZ u xs) (hv : Rd w 1 encZ v xs) : Calls Try.prog 16 #[u, v] w fun e w' => e = .returned (.bool true) ∧ Below w.heap.size w w' := by
  obtain ⟨uA, uc, rfl, _, hn⟩ := hu.shape
  obtain ⟨vA, vc, rfl, _, _⟩ := hv.shape
  have HU := As.mk hu
  have HV := As.mk hv
  clear hu hv
  go_enter Try.func16, Try.ntmps16
  go_wp2_with fail
  go_loopw [5] (fun i wr => ∃ k : Nat, k ≤ xs.length ∧ i = .int .i64 k ∧ ∃ n, wr = w.drewN n) (fun i _ => xs.length - (intOf i).toNat)
  case atStart => exact ⟨0, Nat.zero_le _, rfl, 0, rfl⟩
  case round =>
    obtain ⟨k, hk, rfl, nn, rfl⟩ := hrel
    by_cases hlt : k < xs.length
    · obtain ⟨x, hx⟩ : ∃ x, xs[k]? = some x := ⟨_, List.getElem?_eq_getElem hlt⟩
      obtain ⟨b, off, rfl, _, hc⟩ := HU.out.cells _ _ _ rfl k _ hx
      obtain ⟨b2, off2, rfl, _, hc2⟩ := HV.out.cells _ _ _ rfl k _ hx
      have c0 := hc 0 (by omega)
      have e0 := hc2 0 (by omega)
      simp only [encZ, List.getElem?_cons_zero, Nat.add_zero, Nat.mul_one] at c0 e0
      clear hc hc2 hx
      go_wp2
      go_quiet (fail)
      go_wp2
      exact ⟨⟨k + 1, by omega, by go_num, _, rfl⟩, by simp [intOf]; omega⟩
    · obtain rfl : k = xs.length := by omega
      go_wp2
      go_ret
      exact ⟨rfl, (by repeat (first | exact Below.refl _ _ | refine bl_drewN ?_ _ | refine Below.drew ?_ | refine bl_alloc ?_ _ | refine bl_set ?_ (by first | (simp; done) | omega | (simp; omega)) _))⟩
end Go.Proofs.Ytfgpdpccfpilaaa.OpenFlatOrder
namespace Go.Proofs.Ytfgpdpccfpilaaa.OpenFlatOrder
open Go.RowKit Go.ChangeShapes Go.WideShapes Go.Deep
open Go.Proofs.YtfgpdpccfpilaaaW.PrintWords Go.Proofs.YtfgpdpccfpilaaaW.PrintLast Go.Proofs.YtfgpdpccfpilaaaW.PrintMore Go.Proofs.Ytfgpdpccfpilaaa.PFlatOrder
def szF (y : S39) : Nat := szEs y.f7 + szE y.f6 + y.f5.size + 1
def szFs : List S39 → Nat
  | [] => 0
  | y :: l => szF y + szFs l
theorem szFs_app : ∀ (a b : List S39), szFs (a ++ b) = szFs a + szFs b
  | [], b => by simp [szFs]
  | y :: a, b => by rw [List.cons_append, szFs, szFs, szFs_app a b]; omega
theorem szF_mem : ∀ (l : List S39) (y : S39), y ∈ l → szF y ≤ szFs l
  | [], y, h => by simp at h
  | z :: l, y, h => by
    rw [szFs]
    rcases List.mem_cons.1 h with rfl | h
    · omega
    · have := szF_mem l y h; omega
mutual
theorem szN_fl : ∀ (x : S27) (p : Int) (b : Nat), szFs (fl x p b) = szN x
  | ⟨a0, a1, a2, s3, e, kids, ws⟩, p, b => by
    rw [fl, szFs, szNs_fl kids, szN, szF]
    simp only
    omega
theorem szNs_fl : ∀ (xs : List S27) (p b : Nat), szFs (fls xs p b) = szNs xs
  | [], p, b => by rw [fls, szFs, szNs]
  | x :: xs, p, b => by rw [fls, szFs_app, szN_fl x, szNs_fl xs, szNs]
end
section
variable {H : Type} {enc : TypeId × Value → H} {W : World} {spare : Nat → Bool} {held : Bool}
theorem cellsF : Try.prog.cellsOf 39 = 11 := by kernel_rfl
theorem elem_flat (n : Nat) (cs : List Value) (y : DataW H × List MemPlace) (h : DataW.trod enc Try.prog W 0 spare held n 39 cs = some y) : ∃ x : S39, k39.K W x cs ∧ szF x ≤ Rows.uptoBulk y.1 := by
  obtain ⟨xs, m, rfl, rfl, hl, hx, hf⟩ := DataW.trod_struct Try.underlying39 h
  rw [cellsF] at hl
  replace hx : xs.length = 8 := hx
  obtain ⟨x0, x1, x2, x3, x4, x5, x6, x7, rfl⟩ : ∃ a b c d e f g h, xs = [a, b, c, d, e, f, g, h] := by
    match xs, hx with
    | [a, b, c, d, e, f, g, h], _ => exact ⟨a, b, c, d, e, f, g, h, rfl⟩
  obtain ⟨c0, c1, c2, c3, c4, c5, c6, c7, c8, c9, c10, rfl⟩ : ∃ a b c d e f g h i j k, cs = [a, b, c, d, e, f, g, h, i, j, k] := by
    match cs, hl with
    | [a, b, c, d, e, f, g, h, i, j, k], _ => exact ⟨a, b, c, d, e, f, g, h, i, j, k, rfl⟩
  have f0 : DataW.trod enc Try.prog W 0 spare held m 3 (([c0, c1, c2, c3, c4, c5, c6, c7, c8, c9, c10].drop 0).take (Try.prog.cellsOf 3)) = some x0 := by have h := hf 0 _ rfl; exact h
  have f1 : DataW.trod enc Try.prog W 0 spare held m 3 (([c0, c1, c2, c3, c4, c5, c6, c7, c8, c9, c10].drop 1).take (Try.prog.cellsOf 3)) = some x1 := by have h := hf 1 _ rfl; exact h
  have f2 : DataW.trod enc Try.prog W 0 spare held m 3 (([c0, c1, c2, c3, c4, c5, c6, c7, c8, c9, c10].drop 2).take (Try.prog.cellsOf 3)) = some x2 := by have h := hf 2 _ rfl; exact h
  have f3 : DataW.trod enc Try.prog W 0 spare held m 3 (([c0, c1, c2, c3, c4, c5, c6, c7, c8, c9, c10].drop 3).take (Try.prog.cellsOf 3)) = some x3 := by have h := hf 3 _ rfl; exact h
  have f4 : DataW.trod enc Try.prog W 0 spare held m 3 (([c0, c1, c2, c3, c4, c5, c6, c7, c8, c9, c10].drop 4).take (Try.prog.cellsOf 3)) = some x4 := by have h := hf 4 _ rfl; exact h
  have f5 : DataW.trod enc Try.prog W 0 spare held m 9 (([c0, c1, c2, c3, c4, c5, c6, c7, c8, c9, c10].drop 5).take (Try.prog.cellsOf 9)) = some x5 := by have h := hf 5 _ rfl; exact h
  have f6 : DataW.trod enc Try.prog W 0 spare held m 24 (([c0, c1, c2, c3, c4, c5, c6, c7, c8, c9, c10].drop 6).take (Try.prog.cellsOf 24)) = some x6 := by have h := hf 6 _ rfl; exact h
  have f7 : DataW.trod enc Try.prog W 0 spare held m 22 (([c0, c1, c2, c3, c4, c5, c6, c7, c8, c9, c10].drop 10).take (Try.prog.cellsOf 22)) = some x7 := by have h := hf 7 _ rfl; exact h
  rw [cells3] at f0 f1 f2 f3 f4
  rw [cells9] at f5
  rw [cellsE] at f6
  rw [cellsEs] at f7
  obtain ⟨a0, h0, rfl, _⟩ := DataW.trod_int Try.underlying3 f0
  obtain ⟨a1, h1, rfl, _⟩ := DataW.trod_int Try.underlying3 f1
  obtain ⟨a2, h2, rfl, _⟩ := DataW.trod_int Try.underlying3 f2
  obtain ⟨a3, h3, rfl, _⟩ := DataW.trod_int Try.underlying3 f3
  obtain ⟨a4, h4, rfl, _⟩ := DataW.trod_int Try.underlying3 f4
  obtain ⟨s5, h5, rfl, _⟩ := DataW.trod_string Try.underlying9 f5
  obtain ⟨e6, h6, hz6⟩ := elem_expr m _ _ f6
  obtain ⟨A9, c9', he, hle, hCe⟩ := k24_open h6
  obtain ⟨A, c, l7, hA, hlc, hC, hz7⟩ := C_open k24 (m := szE) (ms := szEs) rfl (fun _ _ => rfl) (v := c10) Try.underlying22 (by rw [cellsE]; rfl) (fun n' cs' y' hn hy => elem_expr n' cs' y' hy) f7
  simp at h0 h1 h2 h3 h4 h5 he
  obtain ⟨rfl, rfl, rfl, rfl⟩ := he
  subst h0 h1 h2 h3 h4 h5 hA
  refine ⟨⟨a0, a1, a2, a3, a4, s5, e6, l7⟩, k39_mk W ⟨a0, a1, a2, a3, a4, s5, e6, l7⟩ hle hCe hlc hC, ?_⟩
  have hb5 := bulk_str (H := H) s5
  unfold szF
  simp only [Rows.uptoBulk, Rows.uptoBulkAll, List.map_cons, List.map_nil] at *
  omega
theorem open_flatsU {base : Nat} {v : Value} {d : DataW H} {p : List MemPlace} (hv : Value.okWide Try.prog W .any base 31 v) (hb : Rows.uptoBulk d ≤ 1048576)
    (h : DataW.Trod enc Try.prog W 0 (fun _ => true) true 31 v d p) : ∃ l : List S39, ∃ A c, v = .slice A l.length c ∧ l.length ≤ c ∧ k39.C W A l.length l ∧ szFs l ≤ 1048576 := by
  obtain ⟨a, len, cap, rfl⟩ := okWide_slice Try.underlying31 hv
  obtain ⟨fuel, hf⟩ := h
  have hf2 : DataW.trod enc Try.prog W 0 (fun _ => true) true fuel 31 [.slice a len cap] = some (d, p) := by simpa [Value.cells] using hf
  obtain ⟨A, c, l, hA, hlc, hC, hz⟩ := C_open k39 (m := szF) (ms := szFs) rfl (fun _ _ => rfl) Try.underlying31 (by rw [cellsF]; rfl) (fun n' cs' y' hn hy => elem_flat n' cs' y' hy) hf2
  exact ⟨l, A, c, hA, hlc, hC, by simp only at hz; omega⟩
end
end Go.Proofs.Ytfgpdpccfpilaaa.OpenFlatOrder
namespace Go.Proofs.Ytfgpdpccfpilaaa.OpenFlatOrder
open Go.RowKit Go.Deep
open Go.Proofs.YtfgpdpccfpilaaaW.PrintWords Go.Proofs.YtfgpdpccfpilaaaW.PrintLast Go.Proofs.YtfgpdpccfpilaaaW.PrintMore Go.Proofs.Ytfgpdpccfpilaaa.PFlatOrder
theorem zN_in (w : World) : NodeIn w zN none 0 none 0 none 0 := by
  obtain ⟨A7, c7, A8, c8, A9, c9, hc, l7, g7, l8, g8, l9, g9⟩ := k27_open (k27.K_of_M (zN_M w (fun _ => False)))
  simp only [List.cons.injEq, Value.slice.injEq, zN, List.length_nil, and_true] at hc
  obtain ⟨_, _, _, _, _, _, _, ⟨rfl, _, rfl⟩, ⟨rfl, _, rfl⟩, rfl, _, rfl⟩ := hc
  exact ⟨l7, g7, l8, g8, l9, g9⟩
set_option maxRecDepth 100000 in
set_option maxHeartbeats 25600000 in
theorem backs_walk (v : Value) (l : List S39) (a1 : Int) (w : World) (h : ∃ A c, v = .slice A l.length c ∧ l.length ≤ c ∧ k39.C w A l.length l ∧ szFs l ≤ 1048576) : Calls Try.prog 5 #[v, .int .i64 a1] w fun e w' => e = .returned (.bool true) ∧ Below w.heap.size w w' := by
  obtain ⟨A, c, rfl, hc, hC, hsz⟩ := h
  have HC := As.mk hC
  have HLc := As.mk hc
  have HSz := As.mk hsz
  clear hC hc hsz
  go_enter Try.func5, Try.ntmps5
  go_wp2_with fail
  refine (alive_does _).mono ?_
  rintro e w1 ⟨rfl, hb⟩
  have HB1 := As.mk hb
  clear hb
  by_cases h60 : 60 < l.length
  · have t0 : decide (60 < l.length) = true := decide_eq_true h60
    have t1 : decide ((60 : Int) < (l.length : Int)) = true := decide_eq_true (by omega)
    clear h60
    go_wp2_with fail
    go_ret
    exact ⟨rfl, HB1.out⟩
  · have t0 : decide (60 < l.length) = false := decide_eq_false h60
    have t1 : decide ((60 : Int) < (l.length : Int)) = false := decide_eq_false (by omega)
    have H60 := As.mk h60
    clear h60
    have HBd := As.mk (back_does w1 A c l (by have := H60.out; omega) HLc.out (Kd.C_below HC.out HB1.out) (fun y hy => by have h1 := szF_mem l y hy; have h2 := HSz.out; unfold szF at h1; omega))
    go_wp2_with fail
    refine HBd.out.mono ?_
    rintro e w2 (⟨hbad, rfl, hb⟩ | ⟨x, cm, hx, rfl, hS2⟩)
    · have HB2 := As.mk (HB1.out.trans (Below.mono hb HB1.out.size))
      have HNo : As (∀ x, l ≠ fl x (-1) 0) := ⟨fun x h => by rw [(back_iff l x).2 h] at hbad; cases hbad⟩
      clear hbad hb HBd
      have hS := At.start0 (Below.refl w2.heap.size w2)
      have hS := hS.alloc #[.int .i64 0, .int .i64 0, .int .i64 0, .string ⟨#[]⟩, .int .i64 0, .int .i64 0, .string ⟨#[]⟩, .slice none 0 0, .slice none 0 0, .slice none 0 0] 27
      obtain ⟨q0, hq0⟩ : ∃ q, q = w2.heap.size := ⟨_, rfl⟩
      obtain ⟨V0, hV0⟩ : ∃ V, V = w2.alloc (.cells #[.int .i64 0, .int .i64 0, .int .i64 0, .string ⟨#[]⟩, .int .i64 0, .int .i64 0, .string ⟨#[]⟩, .slice none 0 0, .slice none 0 0, .slice none 0 0] 27) := ⟨_, rfl⟩
      rw [← hq0, ← hV0] at hS
      have Hq : As (w2.alloc (.cells #[.int .i64 0, .int .i64 0, .int .i64 0, .string ⟨#[]⟩, .int .i64 0, .int .i64 0, .string ⟨#[]⟩, .slice none 0 0, .slice none 0 0, .slice none 0 0] 27) = V0 ∧ w2.heap.size = q0) := ⟨hV0.symm, hq0.symm⟩
      clear hq0 hV0
      go_upto_region 5 with fail
      rw [Hq.out.1, Hq.out.2]
      clear Hq
      have HBV := As.mk (HB2.out.trans (Below.mono hS.bl HB2.out.size))
      have HRb := As.mk (rback_does V0 A c l (Kd.C_below HC.out HBV.out) HLc.out (by have := H60.out; omega))
      go_wp2_with fail
      refine HRb.out.mono ?_
      rintro e w3 (⟨_, rfl, hb⟩ | ⟨o, ho, _, _⟩)
      case inr => exact absurd ho (HNo.out _)
      have hS := hS.below hb
      clear hb HRb
      have hS := hS.alloc #[.int .i64 0, .int .i64 0, .int .i64 0, .string ⟨#[]⟩, .int .i64 0, .int .i64 0, .string ⟨#[]⟩, .slice none 0 0, .slice none 0 0, .slice none 0 0] 27
      obtain ⟨r0, hr0⟩ : ∃ q, q = w3.heap.size := ⟨_, rfl⟩
      obtain ⟨R0, hR0⟩ : ∃ V, V = w3.alloc (.cells #[.int .i64 0, .int .i64 0, .int .i64 0, .string ⟨#[]⟩, .int .i64 0, .int .i64 0, .string ⟨#[]⟩, .slice none 0 0, .slice none 0 0, .slice none 0 0] 27) := ⟨_, rfl⟩
      rw [← hr0, ← hR0] at hS
      have Hr : As (w3.alloc (.cells #[.int .i64 0, .int .i64 0, .int .i64 0, .string ⟨#[]⟩, .int .i64 0, .int .i64 0, .string ⟨#[]⟩, .slice none 0 0, .slice none 0 0, .slice none 0 0] 27) = R0 ∧ w3.heap.size = r0) := ⟨hR0.symm, hr0.symm⟩
      clear hr0 hR0
      go_upto_region 6 with fail
      rw [Hr.out.1, Hr.out.2]
      clear Hr
      have HBq := As.mk HB2.out
      have HSn := As.mk (samen_all 16 zN none 0 none 0 none 0 none 0 none 0 none 0 R0 (by decide) (zN_in R0) (zN_in R0))
      unfold nodeV zN at HSn
      simp only [List.length_nil] at HSn
      have q0 := (hS.cellAt 1 rfl 0).trans rfl
      have q1 := (hS.cellAt 1 rfl 1).trans rfl
      have q2 := (hS.cellAt 1 rfl 2).trans rfl
      have q3 := (hS.cellAt 1 rfl 3).trans rfl
      have q4 := (hS.cellAt 1 rfl 4).trans rfl
      have q5 := (hS.cellAt 1 rfl 5).trans rfl
      have q6 := (hS.cellAt 1 rfl 6).trans rfl
      have q7 := (hS.cellAt 1 rfl 7).trans rfl
      have q8 := (hS.cellAt 1 rfl 8).trans rfl
      have q9 := (hS.cellAt 1 rfl 9).trans rfl
      have r0 := (hS.cellAt 0 rfl 0).trans rfl
      have r1 := (hS.cellAt 0 rfl 1).trans rfl
      have r2 := (hS.cellAt 0 rfl 2).trans rfl
      have r3 := (hS.cellAt 0 rfl 3).trans rfl
      have r4 := (hS.cellAt 0 rfl 4).trans rfl
      have r5 := (hS.cellAt 0 rfl 5).trans rfl
      have r6 := (hS.cellAt 0 rfl 6).trans rfl
      have r7 := (hS.cellAt 0 rfl 7).trans rfl
      have r8 := (hS.cellAt 0 rfl 8).trans rfl
      have r9 := (hS.cellAt 0 rfl 9).trans rfl
      go_wp2_with fail
      refine HSn.out.mono ?_
      rintro e w5 ⟨rfl, hb⟩
      have hS5 := hS.below hb
      have HB5 := As.mk (HBq.out.trans (Below.mono hS5.bl HBq.out.size))
      have HKd := As.mk (kidsZ_does l a1 (by have := H60.out; omega) A c w5 (Kd.C_below HC.out HB5.out) HLc.out)
      clear hb hS
      go_wp2_with fail
      refine HKd.out.mono ?_
      rintro e w6 ⟨v6, rfl, hR6, hb⟩
      obtain ⟨A6, c6, rfl, h6c, h6C⟩ := Kd.R_reads hR6
      have hS6 := hS5.below hb
      have HB6 := As.mk (HBq.out.trans (Below.mono hS6.bl HBq.out.size))
      have HRk := As.mk (rkids_does l a1 (by have := H60.out; omega) A c w6 (Kd.C_below HC.out HB6.out) HLc.out)
      have H6 := As.mk (⟨h6c, h6C⟩ : _ ∧ _)
      clear hb hS5 hR6 h6c h6C
      go_wp2_with fail
      refine HRk.out.mono ?_
      rintro e w7 ⟨v7, rfl, hS7r⟩
      have hS7 := hS6.below hS7r.bl
      have HB7 := As.mk (HBq.out.trans (Below.mono hS7.bl HBq.out.size))
      have hr7 := (hS7r.rowAt 0 rfl).rd encZ_len
      obtain ⟨A7', n7, c7', rfl⟩ := (hS7r.rowAt 0 rfl).slice
      have HSi := As.mk (sameints_does _ _ _ w7 (rd_of_int (Kd.C_below H6.out.2 hS7r.bl) H6.out.1) hr7)
      clear hS6 hS7r hr7
      go_wp2_with fail
      refine HSi.out.mono ?_
      rintro e w8 ⟨rfl, hb⟩
      have hS8 := hS7.below hb
      have HB8 := As.mk (HBq.out.trans (Below.mono hS8.bl HBq.out.size))
      clear hb hS7
      go_wp2_with fail
      go_ret
      exact ⟨rfl, HB8.out⟩
    · have hlx := (back_iff l x).1 hx
      have hxs : szN x = szFs l := by rw [hlx, szN_fl]
      obtain ⟨Fm, hA, _, _⟩ := hS2.out
      obtain ⟨F1, F2, hM, _, _, _⟩ := hA
      obtain ⟨B7, d7, B8, d8, B9, d9, hcm, m7, k7, m8, k8, m9, k9⟩ := k27_open (k27.K_of_M hM.1)
      have HNm : As (NodeIn w2 x B7 d7 B8 d8 B9 d9) := ⟨⟨m7, k7, m8, k8, m9, k9⟩⟩
      have HB2 := As.mk (HB1.out.trans (Below.mono hS2.bl HB1.out.size))
      have HLx := As.mk hlx
      have HXs : As (szN x ≤ 1048576) := ⟨by have := HSz.out; omega⟩
      subst hcm
      clear hM hS2 m7 k7 m8 k8 m9 k9 hx hlx hxs HBd
      have HMk := As.mk (fun (V : World) (hb : Below w2.heap.size w2 V) => make_does V x B7 d7 B8 d8 B9 d9 (by have := HXs.out; omega) (HNm.out.below hb))
      have HLay : As (lay x (-1) [] = l) := ⟨by rw [lay_eq]; exact HLx.out.symm⟩
      rw [HLay.out] at HMk
      have hS := At.start0 (Below.refl w2.heap.size w2)
      have hS := hS.alloc #[.int .i64 x.f0, .int .i64 x.f1, .int .i64 x.f2, .string x.f3, .int .i64 x.f4.f0, .int .i64 x.f4.f1, .string x.f4.f2, .slice B7 x.f4.f3.length d7, .slice B8 x.f5.length d8, .slice B9 x.f6.length d9] 27
      obtain ⟨q0, hq0⟩ : ∃ q, q = w2.heap.size := ⟨_, rfl⟩
      obtain ⟨V0, hV0⟩ : ∃ V, V = w2.alloc (.cells #[.int .i64 x.f0, .int .i64 x.f1, .int .i64 x.f2, .string x.f3, .int .i64 x.f4.f0, .int .i64 x.f4.f1, .string x.f4.f2, .slice B7 x.f4.f3.length d7, .slice B8 x.f5.length d8, .slice B9 x.f6.length d9] 27) := ⟨_, rfl⟩
      rw [← hq0, ← hV0] at hS
      have Hq : As (w2.alloc (.cells #[.int .i64 x.f0, .int .i64 x.f1, .int .i64 x.f2, .string x.f3, .int .i64 x.f4.f0, .int .i64 x.f4.f1, .string x.f4.f2, .slice B7 x.f4.f3.length d7, .slice B8 x.f5.length d8, .slice B9 x.f6.length d9] 27) = V0 ∧ w2.heap.size = q0) := ⟨hV0.symm, hq0.symm⟩
      clear hq0 hV0
      go_upto_region 5 with fail
      rw [Hq.out.1, Hq.out.2]
      clear Hq
      have HBV := As.mk (HB2.out.trans (Below.mono hS.bl HB2.out.size))
      have HRb := As.mk (rback_does V0 A c l (Kd.C_below HC.out HBV.out) HLc.out (by have := H60.out; omega))
      go_wp2_with fail
      refine HRb.out.mono ?_
      rintro e w3 (⟨hno, _, _⟩ | ⟨o, ho, rfl, hS3⟩)
      case inl => exact absurd HLx.out (hno x)
      obtain ⟨oi, ox, oA, oc, oB, od, oC, oq⟩ := o
      simp only at ho
      have hox : ox = x := seg_uniq ox x l 0 (-1) (-1) (by rw [ho]; exact seg_self ox) (by rw [HLx.out]; exact seg_self x)
      subst hox
      have HNo : As (NodeIn w3 ox oA oc oB od oC oq) := ⟨by
        obtain ⟨Fo, hAo, _, _⟩ := hS3.out
        obtain ⟨F3, F4, hN, _, _, _⟩ := hAo
        have hK := hkN_K _ V0 w3 _ F3 hS3.bl hN
        obtain ⟨A7, c7, A8, c8, A9, c9, hcm, m7, k7, m8, k8, m9, k9⟩ := k27_open hK
        simp only [nodC, List.cons.injEq, Value.slice.injEq, true_and, and_true] at hcm
        obtain ⟨⟨rfl, rfl⟩, ⟨rfl, rfl⟩, rfl, rfl⟩ := hcm
        exact ⟨m7, k7, m8, k8, m9, k9⟩⟩
      have hS := hS.below hS3.bl
      clear hS3 HRb ho
      obtain ⟨z0, z1, z2, z3, ⟨z4, z5, z6, z7⟩, z8, z9⟩ := ox
      have hS := hS.alloc #[.int .i64 z0, .int .i64 z1, .int .i64 z2, .string z3, .int .i64 z4, .int .i64 z5, .string z6, .slice oA z7.length oc, .slice oB z8.length od, .slice oC z9.length oq] 27
      obtain ⟨r0, hr0⟩ : ∃ q, q = w3.heap.size := ⟨_, rfl⟩
      obtain ⟨R0, hR0⟩ : ∃ V, V = w3.alloc (.cells #[.int .i64 z0, .int .i64 z1, .int .i64 z2, .string z3, .int .i64 z4, .int .i64 z5, .string z6, .slice oA z7.length oc, .slice oB z8.length od, .slice oC z9.length oq] 27) := ⟨_, rfl⟩
      rw [← hr0, ← hR0] at hS
      have Hr : As (w3.alloc (.cells #[.int .i64 z0, .int .i64 z1, .int .i64 z2, .string z3, .int .i64 z4, .int .i64 z5, .string z6, .slice oA z7.length oc, .slice oB z8.length od, .slice oC z9.length oq] 27) = R0 ∧ w3.heap.size = r0) := ⟨hR0.symm, hr0.symm⟩
      clear hr0 hR0
      go_upto_region 6 with fail
      rw [Hr.out.1, Hr.out.2]
      have hb3 : Below w3.heap.size w3 R0 := by rw [← Hr.out.1]; exact (Below.refl _ _).alloc (Nat.le_refl _) _
      clear Hr
      have HBq := As.mk HB2.out
      have HSn := As.mk (samen_all 1048576 _ B7 d7 B8 d8 B9 d9 oA oc oB od oC oq R0 HXs.out (HNm.out.below hS.bl) (HNo.out.below hb3))
      unfold nodeV at HSn
      simp only at HSn
      clear hb3
      have q0 := (hS.cellAt 1 rfl 0).trans rfl
      have q1 := (hS.cellAt 1 rfl 1).trans rfl
      have q2 := (hS.cellAt 1 rfl 2).trans rfl
      have q3 := (hS.cellAt 1 rfl 3).trans rfl
      have q4 := (hS.cellAt 1 rfl 4).trans rfl
      have q5 := (hS.cellAt 1 rfl 5).trans rfl
      have q6 := (hS.cellAt 1 rfl 6).trans rfl
      have q7 := (hS.cellAt 1 rfl 7).trans rfl
      have q8 := (hS.cellAt 1 rfl 8).trans rfl
      have q9 := (hS.cellAt 1 rfl 9).trans rfl
      have r0 := (hS.cellAt 0 rfl 0).trans rfl
      have r1 := (hS.cellAt 0 rfl 1).trans rfl
      have r2 := (hS.cellAt 0 rfl 2).trans rfl
      have r3 := (hS.cellAt 0 rfl 3).trans rfl
      have r4 := (hS.cellAt 0 rfl 4).trans rfl
      have r5 := (hS.cellAt 0 rfl 5).trans rfl
      have r6 := (hS.cellAt 0 rfl 6).trans rfl
      have r7 := (hS.cellAt 0 rfl 7).trans rfl
      have r8 := (hS.cellAt 0 rfl 8).trans rfl
      have r9 := (hS.cellAt 0 rfl 9).trans rfl
      go_wp2_with fail
      refine HSn.out.mono ?_
      rintro e w5 ⟨rfl, hb⟩
      have hS5 := hS.below hb
      have HB5 := As.mk (HBq.out.trans (Below.mono hS5.bl HBq.out.size))
      have HKd := As.mk (kidsZ_does l a1 (by have := H60.out; omega) A c w5 (Kd.C_below HC.out HB5.out) HLc.out)
      clear hb hS
      go_wp2_with fail
      refine HKd.out.mono ?_
      rintro e w6 ⟨v6, rfl, hR6, hb⟩
      obtain ⟨A6, c6, rfl, h6c, h6C⟩ := Kd.R_reads hR6
      have hS6 := hS5.below hb
      have HB6 := As.mk (HBq.out.trans (Below.mono hS6.bl HBq.out.size))
      have HRk := As.mk (rkids_does l a1 (by have := H60.out; omega) A c w6 (Kd.C_below HC.out HB6.out) HLc.out)
      have H6 := As.mk (⟨h6c, h6C⟩ : _ ∧ _)
      clear hb hS5 hR6 h6c h6C
      go_wp2_with fail
      refine HRk.out.mono ?_
      rintro e w7 ⟨v7, rfl, hS7r⟩
      have hS7 := hS6.below hS7r.bl
      have HB7 := As.mk (HBq.out.trans (Below.mono hS7.bl HBq.out.size))
      have hr7 := (hS7r.rowAt 0 rfl).rd encZ_len
      obtain ⟨A7', n7, c7', rfl⟩ := (hS7r.rowAt 0 rfl).slice
      have HSi := As.mk (sameints_does _ _ _ w7 (rd_of_int (Kd.C_below H6.out.2 hS7r.bl) H6.out.1) hr7)
      clear hS6 hS7r hr7
      go_wp2_with fail
      refine HSi.out.mono ?_
      rintro e w8 ⟨rfl, hb⟩
      have hS8 := hS7.below hb
      have HB8 := As.mk (HBq.out.trans (Below.mono hS8.bl HBq.out.size))
      clear hb hS7
      have q0 := (hS8.cellAt 1 rfl 0).trans rfl
      have q1 := (hS8.cellAt 1 rfl 1).trans rfl
      have q2 := (hS8.cellAt 1 rfl 2).trans rfl
      have q3 := (hS8.cellAt 1 rfl 3).trans rfl
      have q4 := (hS8.cellAt 1 rfl 4).trans rfl
      have q5 := (hS8.cellAt 1 rfl 5).trans rfl
      have q6 := (hS8.cellAt 1 rfl 6).trans rfl
      have q7 := (hS8.cellAt 1 rfl 7).trans rfl
      have q8 := (hS8.cellAt 1 rfl 8).trans rfl
      have q9 := (hS8.cellAt 1 rfl 9).trans rfl
      go_wp2_with fail
      have HMk2 := As.mk (HMk.out w8 hS8.bl)
      unfold nodeV at HMk2
      refine HMk2.out.mono ?_
      rintro e w9 ⟨A2, c2, rfl, hR, hb⟩
      obtain ⟨hn1, hn2, hC2⟩ := Kd.R_reads' hR
      have HB9 := As.mk (HB8.out.trans (Below.mono hb HB8.out.size))
      have HSf := As.mk (samef_does l (by have := H60.out; omega) A2 A c2 c w9 hC2 (Kd.C_below HC.out HB9.out) hn2 HLc.out)
      clear hR hb hn1 hn2 hC2
      go_wp2_with fail
      refine HSf.out.mono ?_
      rintro e w10 ⟨rfl, hb⟩
      have HB10 := As.mk (HB9.out.trans (Below.mono hb HB9.out.size))
      clear hb
      go_wp2_with fail
      go_ret
      exact ⟨rfl, HB10.out⟩
end Go.Proofs.Ytfgpdpccfpilaaa.OpenFlatOrder
