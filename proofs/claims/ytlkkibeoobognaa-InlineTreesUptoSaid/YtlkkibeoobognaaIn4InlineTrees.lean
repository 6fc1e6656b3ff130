/- node: trees put into a node, given used and node of less fuel. No condition but bounded sizes. Printed by genIn4.py. -/
import Derived.Test.YtlkkibeoobognaaIn3InlineTrees
set_option linter.unusedVariables false
set_option linter.unusedSimpArgs false
set_option maxRecDepth 100000
namespace Go.Proofs.Ytlkkibeoobognaa.OpenInlineTrees
open Go.RowKit Go.Deep
open Go.Proofs.YtlkkibeoobognaaW.PrintWords Go.Proofs.YtlkkibeoobognaaW.PrintLast Go.Proofs.YtlkkibeoobognaaW.PrintMore Go.Proofs.Ytlkkibeoobognaa.PInlineTrees
theorem kidsG_drop (f : S30 → Nat → Res) (l : List S30) (k : Nat) (x : S30) (hx : l[k]? = some x) (ks : List S30) (n : Nat) : kidsG f ks (l.drop k) n = (match f x n with
    | .out => .out
    | .err c => .err c
    | .ok y n1 => kidsG f (ks ++ [y]) (l.drop (k + 1)) n1) := by
  obtain ⟨h1, h2⟩ := List.getElem?_eq_some_iff.1 hx
  have hd : l.drop k = l[k] :: l.drop (k + 1) := List.drop_eq_getElem_cons h1
  rw [hd, h2, kidsG]
  cases f x n <;> rfl
set_option maxHeartbeats 51200000 in
theorem node_step (m : Nat) (iu : UsedDo m) (ih : NodeDo m) : NodeDo (m + 1) := by
  intro w0 A c L hL x A7 c7 A8 c8 A9 c9 d n op w lst O oc P hN hsz hd hn hop hres hS
  have HL := As.mk hL
  have HN := As.mk hN
  have HI := As.mk (ih w0 A c L hL)
  have HIU := As.mk (iu w0 A c L hL)
  have HD := As.mk (⟨hd, hn, hop, hsz, szN_parts x⟩ : _ ∧ _ ∧ _ ∧ _ ∧ _)
  have HRes := As.mk hres
  have HNF : As (nodeF L (m + 1) x d op n = _) := ⟨nodeF.eq_2 ..⟩
  unfold nodeV
  clear ih iu hd hn hop hres hL hN hsz
  have hS := hS.alloc #[.int .i64 x.f0, .int .i64 x.f1, .int .i64 x.f2, .string x.f3, .int .i64 x.f4.f0, .int .i64 x.f4.f1, .string x.f4.f2, .slice A7 x.f4.f3.length c7, .slice A8 x.f5.length c8, .slice A9 x.f6.length c9] 30
  obtain ⟨q0, hq0⟩ : ∃ q, q = w.heap.size := ⟨_, rfl⟩
  obtain ⟨W0, hW0⟩ : ∃ V, V = w.alloc (.cells #[.int .i64 x.f0, .int .i64 x.f1, .int .i64 x.f2, .string x.f3, .int .i64 x.f4.f0, .int .i64 x.f4.f1, .string x.f4.f2, .slice A7 x.f4.f3.length c7, .slice A8 x.f5.length c8, .slice A9 x.f6.length c9] 30) := ⟨_, rfl⟩
  rw [← hq0, ← hW0] at hS
  have hS := hS.alloc #[.int .i64 0, .int .i64 0, .int .i64 0, .string ⟨#[]⟩, .int .i64 0, .int .i64 0, .string ⟨#[]⟩, .slice none 0 0, .slice none 0 0, .slice none 0 0] 30
  obtain ⟨q1, hq1⟩ : ∃ q, q = W0.heap.size := ⟨_, rfl⟩
  obtain ⟨W1, hW1⟩ : ∃ V, V = W0.alloc (.cells #[.int .i64 0, .int .i64 0, .int .i64 0, .string ⟨#[]⟩, .int .i64 0, .int .i64 0, .string ⟨#[]⟩, .slice none 0 0, .slice none 0 0, .slice none 0 0] 30) := ⟨_, rfl⟩
  rw [← hq1, ← hW1] at hS
  have Hq : As (w.alloc (.cells #[.int .i64 x.f0, .int .i64 x.f1, .int .i64 x.f2, .string x.f3, .int .i64 x.f4.f0, .int .i64 x.f4.f1, .string x.f4.f2, .slice A7 x.f4.f3.length c7, .slice A8 x.f5.length c8, .slice A9 x.f6.length c9] 30) = W0 ∧ w.heap.size = q0 ∧ W0.alloc (.cells #[.int .i64 0, .int .i64 0, .int .i64 0, .string ⟨#[]⟩, .int .i64 0, .int .i64 0, .string ⟨#[]⟩, .slice none 0 0, .slice none 0 0, .slice none 0 0] 30) = W1 ∧ q0 + 1 = q1) := ⟨hW0.symm, hq0.symm, hW1.symm, by rw [hq1, hW0, hq0]; simp⟩
  clear hq0 hW0 hq1 hW1
  go_enter Try.func42, Try.ntmps42
  go_upto_region 1 with fail
  rw [Hq.out.1, Hq.out.2.1, Hq.out.2.2.1, Hq.out.2.2.2]
  clear Hq
  have x0 := (hS.cellAt 1 rfl 0).trans rfl
  have x1 := (hS.cellAt 1 rfl 1).trans rfl
  have x2 := (hS.cellAt 1 rfl 2).trans rfl
  have x3 := (hS.cellAt 1 rfl 3).trans rfl
  have x4 := (hS.cellAt 1 rfl 4).trans rfl
  have x5 := (hS.cellAt 1 rfl 5).trans rfl
  have x6 := (hS.cellAt 1 rfl 6).trans rfl
  have x7 := (hS.cellAt 1 rfl 7).trans rfl
  have x8 := (hS.cellAt 1 rfl 8).trans rfl
  have x9 := (hS.cellAt 1 rfl 9).trans rfl
  by_cases hk : x.f0 = 10
  · have e0 : (x.f0 == 10) = true := by simp [hk]
    have HE : As (nodeF L (m + 1) x d op n = usedG (nodeF L m) L x.f3 d op n) := ⟨by rw [HNF.out, if_pos hk]⟩
    have hS0 : At (fun _ => False) w0 W1 (Hp.seps (Hp.blk P #[.slice A L.length c, .slice O op.length oc, .int .i64 n] 59 :: Hp.row 9 1 encS (.slice O op.length oc) op :: Hp.blk q1 #[.int .i64 0, .int .i64 0, .int .i64 0, .string ⟨#[]⟩, .int .i64 0, .int .i64 0, .string ⟨#[]⟩, .slice none 0 0, .slice none 0 0, .slice none 0 0] 30 :: Hp.blk q0 #[.int .i64 x.f0, .int .i64 x.f1, .int .i64 x.f2, .string x.f3, .int .i64 x.f4.f0, .int .i64 x.f4.f1, .string x.f4.f2, .slice A7 x.f4.f3.length c7, .slice A8 x.f5.length c8, .slice A9 x.f6.length c9] 30 :: lst)) := At.front 3 (At.front 3 hS rfl) rfl
    have HCC := As.mk (HIU.out x.f3 d n op W1 _ O oc P HD.out.1 HD.out.2.1 (by have := HD.out.2.2.1; omega) (by rw [← HE.out]; exact HRes.out) hS0)
    clear hS0 hk
    go_wp2_with fail
    refine HCC.out.mono ?_
    rintro e w4 ⟨O2, oc2, n', (⟨cd, hr, hcd, rfl, hS6⟩ | ⟨o, hr, hn', rfl, hS6⟩)⟩
    · have HX := As.mk (⟨hr, hcd⟩ : _ ∧ _)
      clear hr hcd x0 x1 x2 x3 x4 x5 x6 x7 x8 x9
      have z0 := (hS6.cellAt 2 rfl 0).trans rfl
      have z1 := (hS6.cellAt 2 rfl 1).trans rfl
      have z2 := (hS6.cellAt 2 rfl 2).trans rfl
      have z3 := (hS6.cellAt 2 rfl 3).trans rfl
      have z4 := (hS6.cellAt 2 rfl 4).trans rfl
      have z5 := (hS6.cellAt 2 rfl 5).trans rfl
      have z6 := (hS6.cellAt 2 rfl 6).trans rfl
      have z7 := (hS6.cellAt 2 rfl 7).trans rfl
      have z8 := (hS6.cellAt 2 rfl 8).trans rfl
      have z9 := (hS6.cellAt 2 rfl 9).trans rfl
      have zf0 := hS6.frozenAt 2 rfl 0
      have zf1 := hS6.frozenAt 2 rfl 1
      have zf2 := hS6.frozenAt 2 rfl 2
      have zf3 := hS6.frozenAt 2 rfl 3
      have zf4 := hS6.frozenAt 2 rfl 4
      have zf5 := hS6.frozenAt 2 rfl 5
      have zf6 := hS6.frozenAt 2 rfl 6
      have zf7 := hS6.frozenAt 2 rfl 7
      have zf8 := hS6.frozenAt 2 rfl 8
      have zf9 := hS6.frozenAt 2 rfl 9
      have zlt := hS6.ltAt 2 rfl
      go_wp2_with fail
      refine bodyPost_ret (v := .tuple #[.agg #[.int .i64 0, .int .i64 0, .int .i64 0, .string ⟨#[]⟩, .int .i64 0, .int .i64 0, .string ⟨#[]⟩, .slice none 0 0, .slice none 0 0, .slice none 0 0], .int .i64 cd]) (by simp [results, Try.results42, go_sem, z0, z1, z2, z3, z4, z5, z6, z7, z8, z9]) rfl ⟨O2, oc2, n', .inl ⟨cd, by rw [HE.out]; exact HX.out.1, HX.out.2, rfl, ?_⟩⟩
      have hS9 := ((((((((((hS6).setBlkAt 2 rfl 0 (.int .i64 0)).setBlkAt 2 rfl 1 (.int .i64 0)).setBlkAt 2 rfl 2 (.int .i64 0)).setBlkAt 2 rfl 3 (.string ⟨#[]⟩)).setBlkAt 2 rfl 4 (.int .i64 0)).setBlkAt 2 rfl 5 (.int .i64 0)).setBlkAt 2 rfl 6 (.string ⟨#[]⟩)).setBlkAt 2 rfl 7 (.slice none 0 0)).setBlkAt 2 rfl 8 (.slice none 0 0)).setBlkAt 2 rfl 9 (.slice none 0 0)
      exact (hS9.dropAt 2 (by simp)).dropAt 2 (by simp)
    · have HX := As.mk (⟨hr, hn'⟩ : _ ∧ _)
      clear hr hn' x0 x1 x2 x3 x4 x5 x6 x7 x8 x9
      have z0 := (hS6.cellAt 3 rfl 0).trans rfl
      have z1 := (hS6.cellAt 3 rfl 1).trans rfl
      have z2 := (hS6.cellAt 3 rfl 2).trans rfl
      have z3 := (hS6.cellAt 3 rfl 3).trans rfl
      have z4 := (hS6.cellAt 3 rfl 4).trans rfl
      have z5 := (hS6.cellAt 3 rfl 5).trans rfl
      have z6 := (hS6.cellAt 3 rfl 6).trans rfl
      have z7 := (hS6.cellAt 3 rfl 7).trans rfl
      have z8 := (hS6.cellAt 3 rfl 8).trans rfl
      have z9 := (hS6.cellAt 3 rfl 9).trans rfl
      have zf0 := hS6.frozenAt 3 rfl 0
      have zf1 := hS6.frozenAt 3 rfl 1
      have zf2 := hS6.frozenAt 3 rfl 2
      have zf3 := hS6.frozenAt 3 rfl 3
      have zf4 := hS6.frozenAt 3 rfl 4
      have zf5 := hS6.frozenAt 3 rfl 5
      have zf6 := hS6.frozenAt 3 rfl 6
      have zf7 := hS6.frozenAt 3 rfl 7
      have zf8 := hS6.frozenAt 3 rfl 8
      have zf9 := hS6.frozenAt 3 rfl 9
      have zlt := hS6.ltAt 3 rfl
      go_wp2_with fail
      refine bodyPost_ret (v := .tuple #[.agg #[.int .i64 o.x.f0, .int .i64 o.x.f1, .int .i64 o.x.f2, .string o.x.f3, .int .i64 o.x.f4.f0, .int .i64 o.x.f4.f1, .string o.x.f4.f2, .slice o.A o.x.f4.f3.length o.c, .slice o.B o.x.f5.length o.d, .slice o.C o.x.f6.length o.q], .int .i64 0]) (by simp [results, Try.results42, go_sem, z0, z1, z2, z3, z4, z5, z6, z7, z8, z9]) rfl ⟨O2, oc2, n', .inr ⟨o, by rw [HE.out]; exact HX.out.1, HX.out.2, rfl, ?_⟩⟩
      have hS9 := ((((((((((hS6).setBlkAt 3 rfl 0 (.int .i64 o.x.f0)).setBlkAt 3 rfl 1 (.int .i64 o.x.f1)).setBlkAt 3 rfl 2 (.int .i64 o.x.f2)).setBlkAt 3 rfl 3 (.string o.x.f3)).setBlkAt 3 rfl 4 (.int .i64 o.x.f4.f0)).setBlkAt 3 rfl 5 (.int .i64 o.x.f4.f1)).setBlkAt 3 rfl 6 (.string o.x.f4.f2)).setBlkAt 3 rfl 7 (.slice o.A o.x.f4.f3.length o.c)).setBlkAt 3 rfl 8 (.slice o.B o.x.f5.length o.d)).setBlkAt 3 rfl 9 (.slice o.C o.x.f6.length o.q)
      exact (hS9.dropAt 3 (by simp)).dropAt 3 (by simp)
  · have e0 : (x.f0 == 10) = false := by simpa using hk
    have HE1 := As.mk (HNF.out.trans (if_neg hk))
    clear HNF hk
    have p0 := (hS.cellAt 2 rfl 0).trans rfl
    have p1 := (hS.cellAt 2 rfl 1).trans rfl
    have p2 := (hS.cellAt 2 rfl 2).trans rfl
    have pf0 := hS.frozenAt 2 rfl 0
    have pf1 := hS.frozenAt 2 rfl 1
    have pf2 := hS.frozenAt 2 rfl 2
    have plt := hS.ltAt 2 rfl
    have hnn : IntKind.i64.wrap ((n : Int) + 1) = ((n + 1 : Nat) : Int) := by rw [IntKind.wrap_i64]; have := HD.out.2.1; omega
    have hnb : n ≤ 4000 := HD.out.2.1
    go_upto_region 4 with fail
    obtain ⟨N, hNn⟩ : ∃ N : Nat, N = n + 1 := ⟨_, rfl⟩
    have hNi : ((n : Int) + 1) = (N : Int) := by omega
    have hNb : N ≤ 4001 := by omega
    have HNn := As.mk hNn
    have hS2 := hS.setBlkAt 2 rfl 2 (.int .i64 (N : Int))
    rw [hNi]
    rw [hNi] at hnn
    obtain ⟨V2, hV2⟩ : ∃ V, V = W1.setCell ⟨P, 2, none⟩ (.int .i64 (N : Int)) := ⟨_, rfl⟩
    rw [← hV2] at hS2 ⊢
    have hS2 : At (fun _ => False) w0 V2 (Hp.seps (Hp.blk q1 #[.int .i64 0, .int .i64 0, .int .i64 0, .string ⟨#[]⟩, .int .i64 0, .int .i64 0, .string ⟨#[]⟩, .slice none 0 0, .slice none 0 0, .slice none 0 0] 30 :: Hp.blk q0 #[.int .i64 x.f0, .int .i64 x.f1, .int .i64 x.f2, .string x.f3, .int .i64 x.f4.f0, .int .i64 x.f4.f1, .string x.f4.f2, .slice A7 x.f4.f3.length c7, .slice A8 x.f5.length c8, .slice A9 x.f6.length c9] 30 :: Hp.blk P #[.slice A L.length c, .slice O op.length oc, .int .i64 N] 59 :: Hp.row 9 1 encS (.slice O op.length oc) op :: lst)) := hS2
    clear hS hV2 hnn hNi hNn hnb x0 x1 x2 x3 x4 x5 x6 x7 x8 x9 p0 p1 p2 pf0 pf1 pf2 plt
    have z0 := (hS2.cellAt 0 rfl 0).trans rfl
    have z1 := (hS2.cellAt 0 rfl 1).trans rfl
    have z2 := (hS2.cellAt 0 rfl 2).trans rfl
    have z3 := (hS2.cellAt 0 rfl 3).trans rfl
    have z4 := (hS2.cellAt 0 rfl 4).trans rfl
    have z5 := (hS2.cellAt 0 rfl 5).trans rfl
    have z6 := (hS2.cellAt 0 rfl 6).trans rfl
    have z7 := (hS2.cellAt 0 rfl 7).trans rfl
    have z8 := (hS2.cellAt 0 rfl 8).trans rfl
    have z9 := (hS2.cellAt 0 rfl 9).trans rfl
    have zf0 := hS2.frozenAt 0 rfl 0
    have zf1 := hS2.frozenAt 0 rfl 1
    have zf2 := hS2.frozenAt 0 rfl 2
    have zf3 := hS2.frozenAt 0 rfl 3
    have zf4 := hS2.frozenAt 0 rfl 4
    have zf5 := hS2.frozenAt 0 rfl 5
    have zf6 := hS2.frozenAt 0 rfl 6
    have zf7 := hS2.frozenAt 0 rfl 7
    have zf8 := hS2.frozenAt 0 rfl 8
    have zf9 := hS2.frozenAt 0 rfl 9
    have zlt := hS2.ltAt 0 rfl
    have hzp := hS2.neBB 0 2 rfl rfl (by decide)
    have hpz := hzp.symm
    by_cases h40 : 40 < d
    · have HE : As (nodeF L (m + 1) x d op n = .err 4) := ⟨HE1.out.trans (if_pos h40)⟩
      have h40i : (40 : Int) < (d : Int) := by omega
      go_wp2_with fail
      refine bodyPost_ret (v := .tuple #[.agg #[.int .i64 0, .int .i64 0, .int .i64 0, .string ⟨#[]⟩, .int .i64 0, .int .i64 0, .string ⟨#[]⟩, .slice none 0 0, .slice none 0 0, .slice none 0 0], .int .i64 4]) (by simp [results, Try.results42, go_sem, z0, z1, z2, z3, z4, z5, z6, z7, z8, z9]) rfl ⟨O, oc, N, .inl ⟨4, HE.out, by decide, rfl, ?_⟩⟩
      have hS9 := ((((((((((hS2).setBlkAt 0 rfl 0 (.int .i64 0)).setBlkAt 0 rfl 1 (.int .i64 0)).setBlkAt 0 rfl 2 (.int .i64 0)).setBlkAt 0 rfl 3 (.string ⟨#[]⟩)).setBlkAt 0 rfl 4 (.int .i64 0)).setBlkAt 0 rfl 5 (.int .i64 0)).setBlkAt 0 rfl 6 (.string ⟨#[]⟩)).setBlkAt 0 rfl 7 (.slice none 0 0)).setBlkAt 0 rfl 8 (.slice none 0 0)).setBlkAt 0 rfl 9 (.slice none 0 0)
      exact hS9.tail.tail
    · have h40i : (d : Int) ≤ (40 : Int) := by omega
      have HE2 := As.mk (HE1.out.trans (if_neg h40))
      clear HE1 h40
      have p0 := (hS2.cellAt 2 rfl 0).trans rfl
      have p1 := (hS2.cellAt 2 rfl 1).trans rfl
      have p2 := (hS2.cellAt 2 rfl 2).trans rfl
      by_cases h4k : 4000 < N
      · have HE : As (nodeF L (m + 1) x d op n = .err 9) := ⟨HE2.out.trans (if_pos (by have := HNn.out; omega))⟩
        have h4ki : (4000 : Int) < (N : Int) := by omega
        go_wp2_with fail
        refine bodyPost_ret (v := .tuple #[.agg #[.int .i64 0, .int .i64 0, .int .i64 0, .string ⟨#[]⟩, .int .i64 0, .int .i64 0, .string ⟨#[]⟩, .slice none 0 0, .slice none 0 0, .slice none 0 0], .int .i64 9]) (by simp [results, Try.results42, go_sem, z0, z1, z2, z3, z4, z5, z6, z7, z8, z9]) rfl ⟨O, oc, N, .inl ⟨9, HE.out, by decide, rfl, ?_⟩⟩
        have hS9 := ((((((((((hS2).setBlkAt 0 rfl 0 (.int .i64 0)).setBlkAt 0 rfl 1 (.int .i64 0)).setBlkAt 0 rfl 2 (.int .i64 0)).setBlkAt 0 rfl 3 (.string ⟨#[]⟩)).setBlkAt 0 rfl 4 (.int .i64 0)).setBlkAt 0 rfl 5 (.int .i64 0)).setBlkAt 0 rfl 6 (.string ⟨#[]⟩)).setBlkAt 0 rfl 7 (.slice none 0 0)).setBlkAt 0 rfl 8 (.slice none 0 0)).setBlkAt 0 rfl 9 (.slice none 0 0)
        exact hS9.tail.tail
      · have h4ki : (N : Int) ≤ (4000 : Int) := by omega
        have HE3 := As.mk (HE2.out.trans (if_neg (by have := HNn.out; omega)))
        rw [← HNn.out] at HE3
        have HNb : As (N ≤ 4000) := ⟨by omega⟩
        clear HE2 h4k z0 z1 z2 z3 z4 z5 z6 z7 z8 z9 zf0 zf1 zf2 zf3 zf4 zf5 zf6 zf7 zf8 zf9 zlt hNb
        have x0 := (hS2.cellAt 1 rfl 0).trans rfl
        have x1 := (hS2.cellAt 1 rfl 1).trans rfl
        have x2 := (hS2.cellAt 1 rfl 2).trans rfl
        have x3 := (hS2.cellAt 1 rfl 3).trans rfl
        have x4 := (hS2.cellAt 1 rfl 4).trans rfl
        have x5 := (hS2.cellAt 1 rfl 5).trans rfl
        have x6 := (hS2.cellAt 1 rfl 6).trans rfl
        have x7 := (hS2.cellAt 1 rfl 7).trans rfl
        have x8 := (hS2.cellAt 1 rfl 8).trans rfl
        have x9 := (hS2.cellAt 1 rfl 9).trans rfl
        have hS2 := hS2.alloc #[.int .i64 x.f0, .int .i64 x.f1, .int .i64 x.f2, .string x.f3, .int .i64 x.f4.f0, .int .i64 x.f4.f1, .string x.f4.f2, .slice A7 x.f4.f3.length c7, .slice A8 x.f5.length c8, .slice A9 x.f6.length c9] 30
        obtain ⟨r0, hr0⟩ : ∃ q, q = V2.heap.size := ⟨_, rfl⟩
        obtain ⟨R0, hR0⟩ : ∃ V, V = V2.alloc (.cells #[.int .i64 x.f0, .int .i64 x.f1, .int .i64 x.f2, .string x.f3, .int .i64 x.f4.f0, .int .i64 x.f4.f1, .string x.f4.f2, .slice A7 x.f4.f3.length c7, .slice A8 x.f5.length c8, .slice A9 x.f6.length c9] 30) := ⟨_, rfl⟩
        rw [← hr0, ← hR0] at hS2
        have Hr : As (V2.alloc (.cells #[.int .i64 x.f0, .int .i64 x.f1, .int .i64 x.f2, .string x.f3, .int .i64 x.f4.f0, .int .i64 x.f4.f1, .string x.f4.f2, .slice A7 x.f4.f3.length c7, .slice A8 x.f5.length c8, .slice A9 x.f6.length c9] 30) = R0 ∧ V2.heap.size = r0) := ⟨hR0.symm, hr0.symm⟩
        clear hr0 hR0
        go_upto_region 9 with fail
        rw [Hr.out.1, Hr.out.2]
        clear Hr h4ki
        have hqb := hS2.blkAt 2 rfl
        have hrb := hS2.blkAt 0 rfl
        have hqr := hS2.neBB 2 0 rfl rfl (by decide)
        have hrq := hqr.symm
        have hql := blk_lt hqb
        have hrl := blk_lt hrb
        have HBW := As.mk hS2.bl
        have HC1 := As.mk (fun (V : World) (hb : Below R0.heap.size R0 V) => (copy_all 2097152 (by omega)).2 x.f4 A7 c7 V (by have h1 := HD.out.2.2.2.1; have h2 := HD.out.2.2.2.2; omega) (Kd.C_below HN.out.g7 (HBW.out.trans (Below.mono hb HBW.out.size))) HN.out.l7)
        have HC2 := As.mk (fun (V : World) (hb : Below R0.heap.size R0 V) => (copy_all 2097152 (by omega)).1 x.f6 A9 c9 V (by have h1 := HD.out.2.2.2.1; have h2 := HD.out.2.2.2.2; omega) (Kd.C_below HN.out.g9 (HBW.out.trans (Below.mono hb HBW.out.size))) HN.out.l9)
        have HSp : As (∀ V : World, V.heap[q0]? = R0.heap[q0]? → (V.cell? ⟨q0, 4, none⟩ = some (.int .i64 x.f4.f0) ∧ V.cell? ⟨q0, 5, none⟩ = some (.int .i64 x.f4.f1) ∧ V.cell? ⟨q0, 6, none⟩ = some (.string x.f4.f2) ∧ V.cell? ⟨q0, 7, none⟩ = some (.slice A7 x.f4.f3.length c7) ∧ V.cell? ⟨q0, 9, none⟩ = some (.slice A9 x.f6.length c9))) := ⟨fun V hV => by
          have h := hV.trans hqb
          exact ⟨cell_of_blk h 4, cell_of_blk h 5, cell_of_blk h 6, cell_of_blk h 7, cell_of_blk h 9⟩⟩
        have HSh : As (∀ V : World, Below R0.heap.size R0 V → V.heap[q0]? = R0.heap[q0]?) := ⟨fun V hV => hV.block q0 hql⟩
        have HSb : As (∀ V : World, Below R0.heap.size R0 V → (V.cell? ⟨q0, 4, none⟩ = some (.int .i64 x.f4.f0) ∧ V.cell? ⟨q0, 5, none⟩ = some (.int .i64 x.f4.f1) ∧ V.cell? ⟨q0, 6, none⟩ = some (.string x.f4.f2) ∧ V.cell? ⟨q0, 7, none⟩ = some (.slice A7 x.f4.f3.length c7) ∧ V.cell? ⟨q0, 9, none⟩ = some (.slice A9 x.f6.length c9))) := ⟨fun V hV => HSp.out V (HSh.out V hV)⟩
        have HQb : As (∀ V : World, Below R0.heap.size R0 V → V.heap[r0]? = some (.cells #[.int .i64 x.f0, .int .i64 x.f1, .int .i64 x.f2, .string x.f3, .int .i64 x.f4.f0, .int .i64 x.f4.f1, .string x.f4.f2, .slice A7 x.f4.f3.length c7, .slice A8 x.f5.length c8, .slice A9 x.f6.length c9] 30 (0, 0))) := ⟨fun V hV => (hV.block r0 hrl).trans hrb⟩
        clear hqb hrb x0 x1 x2 x3 x4 x5 x6 x7 x8 x9
        go_region_held3 (fun V => V.cell? ⟨q0, 4, none⟩ = some (.int .i64 x.f4.f0) ∧ V.cell? ⟨q0, 5, none⟩ = some (.int .i64 x.f4.f1) ∧ V.cell? ⟨q0, 6, none⟩ = some (.string x.f4.f2) ∧ V.cell? ⟨q0, 7, none⟩ = some (.slice A7 x.f4.f3.length c7) ∧ V.cell? ⟨q0, 9, none⟩ = some (.slice A9 x.f6.length c9))
          (first | (with_reducible refine HSp.out _ ?_; (repeat rw [blk_setCell_far hqr]); first | with_reducible exact HSh.out _ HB61.out | with_reducible exact HSh.out _ HB62.out) | with_reducible exact HSb.out _ (Below.drew (Below.refl _ _)) | with_reducible exact HSb.out _ HB61.out | with_reducible exact HSb.out _ HB62.out)
          (first
            | (go_at_call 61; (first | (have hV := HB62.out) | (have hV := Below.drew (Below.refl R0.heap.size R0))); refine (HC1.out _ hV).mono ?_; rintro e w1 ⟨v1, rfl, hb1, hR1⟩; obtain ⟨A1', c1', rfl⟩ := Kd.R_slice hR1; have HB61 := As.mk (hV.trans (Below.mono hb1 hV.size)); have HL61 := As.mk hb1; have HA1 := As.mk (⟨hR1, hV.size⟩ : _ ∧ R0.heap.size ≤ _); clear hV hb1 hR1; have hqc := HQb.out _ HB61.out; (try clear u4 u5 u6 u7 u8 u9 f4 f5 f6 f7 f8 f9); have u4 := (cell_of_blk hqc 4).trans rfl; have f4 := frozen_of_blk hqc 4; have u5 := (cell_of_blk hqc 5).trans rfl; have f5 := frozen_of_blk hqc 5; have u6 := (cell_of_blk hqc 6).trans rfl; have f6 := frozen_of_blk hqc 6; have u7 := (cell_of_blk hqc 7).trans rfl; have f7 := frozen_of_blk hqc 7; have u8 := (cell_of_blk hqc 8).trans rfl; have f8 := frozen_of_blk hqc 8; have u9 := (cell_of_blk hqc 9).trans rfl; have f9 := frozen_of_blk hqc 9; clear hqc)
            | (go_at_call 62; (first | (have hV := HB61.out) | (have hV := Below.drew (Below.refl R0.heap.size R0))); refine (HC2.out _ hV).mono ?_; rintro e w2 ⟨v2, rfl, hb2, hR2⟩; obtain ⟨A2', c2', rfl⟩ := Kd.R_slice hR2; have HB62 := As.mk (hV.trans (Below.mono hb2 hV.size)); have HL62 := As.mk hb2; have HA2 := As.mk (⟨hR2, hV.size⟩ : _ ∧ R0.heap.size ≤ _); clear hV hb2 hR2; have hqc := HQb.out _ HB62.out; (try clear u4 u5 u6 u7 u8 u9 f4 f5 f6 f7 f8 f9); have u4 := (cell_of_blk hqc 4).trans rfl; have f4 := frozen_of_blk hqc 4; have u5 := (cell_of_blk hqc 5).trans rfl; have f5 := frozen_of_blk hqc 5; have u6 := (cell_of_blk hqc 6).trans rfl; have f6 := frozen_of_blk hqc 6; have u7 := (cell_of_blk hqc 7).trans rfl; have f7 := frozen_of_blk hqc 7; have u8 := (cell_of_blk hqc 8).trans rfl; have f8 := frozen_of_blk hqc 8; have u9 := (cell_of_blk hqc 9).trans rfl; have f9 := frozen_of_blk hqc 9; clear hqc))
        all_goals (go_upto_region 10 with fail)
        have hR1 := HA1.out.1
        have hR2 := HA2.out.1
        have hE1 : k27.R 27 w2 R0.heap.size tt (.slice A1' x.f4.f3.length c1') x.f4.f3 := Kd.R_below (Kd.R_lower hR1 HA1.out.2) HL62.out
        have hE2 : k27.R 27 w2 R0.heap.size tt (.slice A2' x.f6.length c2') x.f6 := Kd.R_lower hR2 HA2.out.2
        have hS3 := At.new_ew (o := (⟨0, x, A1', c1', none, 0, A2', c2'⟩ : Fr)) hS2 HB62.out hE1 hE2
        clear hR1 hR2 hE1 hE2 HA1 HA2 HL61 HL62 HB61 HB62 HC1 HC2 HSp HSh HSb HQb hS2
        have hS4 := ((((((hS3.setBlkAt 1 rfl 4 (.int .i64 x.f4.f0)).setBlkAt 1 rfl 5 (.int .i64 x.f4.f1)).setBlkAt 1 rfl 6 (.string x.f4.f2)).setBlkAt 1 rfl 7 (.slice A1' x.f4.f3.length c1')).setBlkAt 1 rfl 9 (.slice A2' x.f6.length c2')).setBlkAt 1 rfl 8 (.slice none 0 0))
        obtain ⟨V5, hV5⟩ : ∃ V, V = (((((w2.setCell ⟨r0, 4, none⟩ (.int .i64 x.f4.f0)).setCell ⟨r0, 5, none⟩ (.int .i64 x.f4.f1)).setCell ⟨r0, 6, none⟩ (.string x.f4.f2)).setCell ⟨r0, 7, none⟩ (.slice A1' x.f4.f3.length c1')).setCell ⟨r0, 9, none⟩ (.slice A2' x.f6.length c2')).setCell ⟨r0, 8, none⟩ (.slice none 0 0) := ⟨_, rfl⟩
        rw [← hV5] at hS4 ⊢
        have hS5 : At (fun _ => False) w0 V5 (Hp.seps (hkd k30 30 (.slice none 0 0) [] :: hew (⟨0, x, A1', c1', none, 0, A2', c2'⟩ : Fr) :: Hp.blk r0 #[.int .i64 x.f0, .int .i64 x.f1, .int .i64 x.f2, .string x.f3, .int .i64 x.f4.f0, .int .i64 x.f4.f1, .string x.f4.f2, .slice A1' x.f4.f3.length c1', .slice none 0 0, .slice A2' x.f6.length c2'] 30 :: Hp.blk q1 #[.int .i64 0, .int .i64 0, .int .i64 0, .string ⟨#[]⟩, .int .i64 0, .int .i64 0, .string ⟨#[]⟩, .slice none 0 0, .slice none 0 0, .slice none 0 0] 30 :: Hp.blk q0 #[.int .i64 x.f0, .int .i64 x.f1, .int .i64 x.f2, .string x.f3, .int .i64 x.f4.f0, .int .i64 x.f4.f1, .string x.f4.f2, .slice A7 x.f4.f3.length c7, .slice A8 x.f5.length c8, .slice A9 x.f6.length c9] 30 :: Hp.blk P #[.slice A L.length c, .slice O op.length oc, .int .i64 N] 59 :: Hp.row 9 1 encS (.slice O op.length oc) op :: lst)) := At.new_kd k30 30 hS4
        have HG0 : As (kidsG (fun k n => nodeF L m k (d + 1) op n) [] x.f5 N = kidsG (fun k n => nodeF L m k (d + 1) op n) [] (x.f5.drop 0) N) := ⟨by rw [List.drop_zero]⟩
        clear hS3 hS4 hV5 hrl hql hqr hrq u4 u5 u6 u7 u8 u9 f4 f5 f6 f7 f8 f9 p0 p1 p2
        have x0 := (hS5.cellAt 4 rfl 0).trans rfl
        have x1 := (hS5.cellAt 4 rfl 1).trans rfl
        have x2 := (hS5.cellAt 4 rfl 2).trans rfl
        have x3 := (hS5.cellAt 4 rfl 3).trans rfl
        have x4 := (hS5.cellAt 4 rfl 4).trans rfl
        have x5 := (hS5.cellAt 4 rfl 5).trans rfl
        have x6 := (hS5.cellAt 4 rfl 6).trans rfl
        have x7 := (hS5.cellAt 4 rfl 7).trans rfl
        have x8 := (hS5.cellAt 4 rfl 8).trans rfl
        have x9 := (hS5.cellAt 4 rfl 9).trans rfl
        go_upto_region 11 with fail
        have hkl : x.f5.length ≤ 1048576 := by have h1 := HD.out.2.2.2.1; have h2 := HD.out.2.2.2.2; have h3 := len_szNs x.f5; omega
        go_loopg [54] x.f5.length (fun g0 iv wr => ∃ (k N' : Nat) (ks : List S30) (B : Option Addr) (dB : Nat) (O' : Option Addr) (oc' : Nat), k + g0 = x.f5.length ∧ iv = .int .i64 k ∧ As (ks.length = k) ∧ As (N' ≤ 4000) ∧ As (kidsG (fun k n => nodeF L m k (d + 1) op n) [] x.f5 N = kidsG (fun k n => nodeF L m k (d + 1) op n) ks (x.f5.drop k) N') ∧ At (fun _ => False) w0 wr (Hp.seps (hkd k30 30 (.slice B ks.length dB) ks :: hew (⟨0, x, A1', c1', none, 0, A2', c2'⟩ : Fr) :: Hp.blk r0 #[.int .i64 x.f0, .int .i64 x.f1, .int .i64 x.f2, .string x.f3, .int .i64 x.f4.f0, .int .i64 x.f4.f1, .string x.f4.f2, .slice A1' x.f4.f3.length c1', .slice B ks.length dB, .slice A2' x.f6.length c2'] 30 :: Hp.blk q1 #[.int .i64 0, .int .i64 0, .int .i64 0, .string ⟨#[]⟩, .int .i64 0, .int .i64 0, .string ⟨#[]⟩, .slice none 0 0, .slice none 0 0, .slice none 0 0] 30 :: Hp.blk q0 #[.int .i64 x.f0, .int .i64 x.f1, .int .i64 x.f2, .string x.f3, .int .i64 x.f4.f0, .int .i64 x.f4.f1, .string x.f4.f2, .slice A7 x.f4.f3.length c7, .slice A8 x.f5.length c8, .slice A9 x.f6.length c9] 30 :: Hp.blk P #[.slice A L.length c, .slice O' op.length oc', .int .i64 N'] 59 :: Hp.row 9 1 encS (.slice O' op.length oc') op :: lst)))
        case atStart => exact ⟨0, N, [], none, 0, O, oc, by omega, rfl, ⟨rfl⟩, HNb, HG0, hS5⟩
        case round =>
          clear hS5 HG0 x0 x1 x2 x3 x4 x5 x6 x7 x8 x9
          obtain ⟨k, N', ks, B, dB, O', oc', hk, rfl, HKl, HN', HG, hS⟩ := hrel
          by_cases hlt : k < x.f5.length
          · obtain ⟨y, hy⟩ : ∃ y, x.f5[k]? = some y := ⟨_, List.getElem?_eq_getElem hlt⟩
            have HK := As.mk hk
            have HLt := As.mk hlt
            have HGd := As.mk (kidsG_drop (fun k n => nodeF L m k (d + 1) op n) x.f5 k y hy ks N')
            obtain ⟨b, off, X7, x7, X8, x8, X9, x9, hAe, hbl, hN1, u0, u1, u2, u3, u4, u5, u6, u7, u8, u9⟩ := node_at HN.out.g8 y hy
            subst hAe
            have HU := As.mk (fun (V : World) (hb : Below w0.heap.size w0 V) (j : Nat) (x : Value) (hx : w0.cell? ⟨b, off + k * 10 + j, none⟩ = some x) => (hb.cell (p := ⟨b, off + k * 10 + j, none⟩) hbl).trans hx)
            have v0 := HU.out _ hS.bl 0 _ u0
            have v1 := HU.out _ hS.bl 1 _ u1
            have v2 := HU.out _ hS.bl 2 _ u2
            have v3 := HU.out _ hS.bl 3 _ u3
            have v4 := HU.out _ hS.bl 4 _ u4
            have v5 := HU.out _ hS.bl 5 _ u5
            have v6 := HU.out _ hS.bl 6 _ u6
            have v7 := HU.out _ hS.bl 7 _ u7
            have v8 := HU.out _ hS.bl 8 _ u8
            have v9 := HU.out _ hS.bl 9 _ u9
            simp only [Nat.add_zero] at v0
            have hzy : szN y ≤ 1048576 := by have h1 := HD.out.2.2.2.1; have h2 := HD.out.2.2.2.2; have h3 := szN_mem x.f5 k y hy; omega
            have hin : (k : Int) < (x.f5.length : Int) := by omega
            have hS := hS.alloc #[.int .i64 y.f0, .int .i64 y.f1, .int .i64 y.f2, .string y.f3, .int .i64 y.f4.f0, .int .i64 y.f4.f1, .string y.f4.f2, .slice X7 y.f4.f3.length x7, .slice X8 y.f5.length x8, .slice X9 y.f6.length x9] 30
            obtain ⟨t0, ht0⟩ : ∃ q, q = wr.heap.size := ⟨_, rfl⟩
            obtain ⟨T0, hT0⟩ : ∃ V, V = wr.alloc (.cells #[.int .i64 y.f0, .int .i64 y.f1, .int .i64 y.f2, .string y.f3, .int .i64 y.f4.f0, .int .i64 y.f4.f1, .string y.f4.f2, .slice X7 y.f4.f3.length x7, .slice X8 y.f5.length x8, .slice X9 y.f6.length x9] 30) := ⟨_, rfl⟩
            rw [← ht0, ← hT0] at hS
            have Ht : As (wr.alloc (.cells #[.int .i64 y.f0, .int .i64 y.f1, .int .i64 y.f2, .string y.f3, .int .i64 y.f4.f0, .int .i64 y.f4.f1, .string y.f4.f2, .slice X7 y.f4.f3.length x7, .slice X8 y.f5.length x8, .slice X9 y.f6.length x9] 30) = T0 ∧ wr.heap.size = t0) := ⟨hT0.symm, ht0.symm⟩
            clear ht0 hT0
            have hS0 : At (fun _ => False) w0 T0 (Hp.seps (Hp.blk P #[.slice A L.length c, .slice O' op.length oc', .int .i64 N'] 59 :: Hp.row 9 1 encS (.slice O' op.length oc') op :: Hp.blk t0 #[.int .i64 y.f0, .int .i64 y.f1, .int .i64 y.f2, .string y.f3, .int .i64 y.f4.f0, .int .i64 y.f4.f1, .string y.f4.f2, .slice X7 y.f4.f3.length x7, .slice X8 y.f5.length x8, .slice X9 y.f6.length x9] 30 :: hkd k30 30 (.slice B ks.length dB) ks :: hew (⟨0, x, A1', c1', none, 0, A2', c2'⟩ : Fr) :: Hp.blk r0 #[.int .i64 x.f0, .int .i64 x.f1, .int .i64 x.f2, .string x.f3, .int .i64 x.f4.f0, .int .i64 x.f4.f1, .string x.f4.f2, .slice A1' x.f4.f3.length c1', .slice B ks.length dB, .slice A2' x.f6.length c2'] 30 :: Hp.blk q1 #[.int .i64 0, .int .i64 0, .int .i64 0, .string ⟨#[]⟩, .int .i64 0, .int .i64 0, .string ⟨#[]⟩, .slice none 0 0, .slice none 0 0, .slice none 0 0] 30 :: Hp.blk q0 #[.int .i64 x.f0, .int .i64 x.f1, .int .i64 x.f2, .string x.f3, .int .i64 x.f4.f0, .int .i64 x.f4.f1, .string x.f4.f2, .slice A7 x.f4.f3.length c7, .slice (some ⟨b, off, none⟩) x.f5.length c8, .slice A9 x.f6.length c9] 30 :: lst)) := At.front 7 (At.front 7 hS rfl) rfl
            have hne : nodeF L m y (d + 1) op N' ≠ .out := fun h => HRes.out (by rw [HE3.out, HG.out, HGd.out]; simp only [h])
            have hCC := HI.out y X7 x7 X8 x8 X9 x9 (d + 1) N' op T0 _ O' oc' P hN1 hzy (by have := h40i; omega) HN'.out (by have := HD.out.2.2.1; omega) hne hS0
            rw [show ((d + 1 : Nat) : Int) = (d : Int) + 1 by omega] at hCC
            unfold nodeV at hCC
            have HCC := As.mk hCC
            clear hCC hS0 hne hk hlt hy hN1 u0 u1 u2 u3 u4 u5 u6 u7 u8 u9 hzy
            go_upto_region 13 with fail
            rw [Ht.out.1, Ht.out.2]
            clear Ht v0 v1 v2 v3 v4 v5 v6 v7 v8 v9
            have y0 := (hS.cellAt 0 rfl 0).trans rfl
            have y1 := (hS.cellAt 0 rfl 1).trans rfl
            have y2 := (hS.cellAt 0 rfl 2).trans rfl
            have y3 := (hS.cellAt 0 rfl 3).trans rfl
            have y4 := (hS.cellAt 0 rfl 4).trans rfl
            have y5 := (hS.cellAt 0 rfl 5).trans rfl
            have y6 := (hS.cellAt 0 rfl 6).trans rfl
            have y7 := (hS.cellAt 0 rfl 7).trans rfl
            have y8 := (hS.cellAt 0 rfl 8).trans rfl
            have y9 := (hS.cellAt 0 rfl 9).trans rfl
            go_wp2_with fail
            refine HCC.out.mono ?_
            rintro e w4 ⟨O2, oc2, n', (⟨cd, hr, hcd, rfl, hS6⟩ | ⟨o, hr, hn', rfl, hS6⟩)⟩
            · have HX := As.mk (⟨hr, hcd⟩ : _ ∧ _)
              have ec : (cd != 0) = true := by simpa using hcd
              have ec2 : (cd == 0) = false := by simpa using hcd
              clear hr HCC hS y0 y1 y2 y3 y4 y5 y6 y7 y8 y9
              have HE : As (nodeF L (m + 1) x d op n = .err cd) := ⟨by rw [HE3.out, HG.out, HGd.out]; simp only [HX.out.1]⟩
              have hS6 := hS6.alloc #[.int .i64 0, .int .i64 0, .int .i64 0, .string ⟨#[]⟩, .int .i64 0, .int .i64 0, .string ⟨#[]⟩, .slice none 0 0, .slice none 0 0, .slice none 0 0] 30
              obtain ⟨v0, hv0⟩ : ∃ q, q = w4.heap.size := ⟨_, rfl⟩
              obtain ⟨K0, hK0⟩ : ∃ V, V = w4.alloc (.cells #[.int .i64 0, .int .i64 0, .int .i64 0, .string ⟨#[]⟩, .int .i64 0, .int .i64 0, .string ⟨#[]⟩, .slice none 0 0, .slice none 0 0, .slice none 0 0] 30) := ⟨_, rfl⟩
              rw [← hv0, ← hK0] at hS6
              have Hv : As (w4.alloc (.cells #[.int .i64 0, .int .i64 0, .int .i64 0, .string ⟨#[]⟩, .int .i64 0, .int .i64 0, .string ⟨#[]⟩, .slice none 0 0, .slice none 0 0, .slice none 0 0] 30) = K0 ∧ w4.heap.size = v0) := ⟨hK0.symm, hv0.symm⟩
              clear hv0 hK0
              go_upto_region 14 with fail
              rw [Hv.out.1, Hv.out.2]
              clear Hv
              have z0 := (hS6.cellAt 7 rfl 0).trans rfl
              have z1 := (hS6.cellAt 7 rfl 1).trans rfl
              have z2 := (hS6.cellAt 7 rfl 2).trans rfl
              have z3 := (hS6.cellAt 7 rfl 3).trans rfl
              have z4 := (hS6.cellAt 7 rfl 4).trans rfl
              have z5 := (hS6.cellAt 7 rfl 5).trans rfl
              have z6 := (hS6.cellAt 7 rfl 6).trans rfl
              have z7 := (hS6.cellAt 7 rfl 7).trans rfl
              have z8 := (hS6.cellAt 7 rfl 8).trans rfl
              have z9 := (hS6.cellAt 7 rfl 9).trans rfl
              have zf0 := hS6.frozenAt 7 rfl 0
              have zf1 := hS6.frozenAt 7 rfl 1
              have zf2 := hS6.frozenAt 7 rfl 2
              have zf3 := hS6.frozenAt 7 rfl 3
              have zf4 := hS6.frozenAt 7 rfl 4
              have zf5 := hS6.frozenAt 7 rfl 5
              have zf6 := hS6.frozenAt 7 rfl 6
              have zf7 := hS6.frozenAt 7 rfl 7
              have zf8 := hS6.frozenAt 7 rfl 8
              have zf9 := hS6.frozenAt 7 rfl 9
              have zlt := hS6.ltAt 7 rfl
              go_wp2_with fail
              refine bodyPost_ret (v := .tuple #[.agg #[.int .i64 0, .int .i64 0, .int .i64 0, .string ⟨#[]⟩, .int .i64 0, .int .i64 0, .string ⟨#[]⟩, .slice none 0 0, .slice none 0 0, .slice none 0 0], .int .i64 cd]) (by simp [results, Try.results42, go_sem, z0, z1, z2, z3, z4, z5, z6, z7, z8, z9]) rfl ⟨O2, oc2, n', .inl ⟨cd, HE.out, HX.out.2, rfl, ?_⟩⟩
              have hS9 := ((((((((((hS6).setBlkAt 7 rfl 0 (.int .i64 0)).setBlkAt 7 rfl 1 (.int .i64 0)).setBlkAt 7 rfl 2 (.int .i64 0)).setBlkAt 7 rfl 3 (.string ⟨#[]⟩)).setBlkAt 7 rfl 4 (.int .i64 0)).setBlkAt 7 rfl 5 (.int .i64 0)).setBlkAt 7 rfl 6 (.string ⟨#[]⟩)).setBlkAt 7 rfl 7 (.slice none 0 0)).setBlkAt 7 rfl 8 (.slice none 0 0)).setBlkAt 7 rfl 9 (.slice none 0 0)
              exact ((((((hS9.tail).dropAt 2 (by simp)).dropAt 2 (by simp)).dropAt 2 (by simp)).dropAt 2 (by simp)).dropAt 2 (by simp)).dropAt 2 (by simp)
            · have HX := As.mk (⟨hr, hn'⟩ : _ ∧ _)
              clear hr HCC hS hn' y0 y1 y2 y3 y4 y5 y6 y7 y8 y9
              have HG2 : As (kidsG (fun k n => nodeF L m k (d + 1) op n) [] x.f5 N = kidsG (fun k n => nodeF L m k (d + 1) op n) (ks ++ [o.x]) (x.f5.drop (k + 1)) n') := ⟨by rw [HG.out, HGd.out]; simp only [HX.out.1]⟩
              have hS6 := hS6.alloc #[.int .i64 o.x.f0, .int .i64 o.x.f1, .int .i64 o.x.f2, .string o.x.f3, .int .i64 o.x.f4.f0, .int .i64 o.x.f4.f1, .string o.x.f4.f2, .slice o.A o.x.f4.f3.length o.c, .slice o.B o.x.f5.length o.d, .slice o.C o.x.f6.length o.q] 30
              obtain ⟨v0, hv0⟩ : ∃ q, q = w4.heap.size := ⟨_, rfl⟩
              obtain ⟨K0, hK0⟩ : ∃ V, V = w4.alloc (.cells #[.int .i64 o.x.f0, .int .i64 o.x.f1, .int .i64 o.x.f2, .string o.x.f3, .int .i64 o.x.f4.f0, .int .i64 o.x.f4.f1, .string o.x.f4.f2, .slice o.A o.x.f4.f3.length o.c, .slice o.B o.x.f5.length o.d, .slice o.C o.x.f6.length o.q] 30) := ⟨_, rfl⟩
              rw [← hv0, ← hK0] at hS6
              have Hv : As (w4.alloc (.cells #[.int .i64 o.x.f0, .int .i64 o.x.f1, .int .i64 o.x.f2, .string o.x.f3, .int .i64 o.x.f4.f0, .int .i64 o.x.f4.f1, .string o.x.f4.f2, .slice o.A o.x.f4.f3.length o.c, .slice o.B o.x.f5.length o.d, .slice o.C o.x.f6.length o.q] 30) = K0 ∧ w4.heap.size = v0) := ⟨hK0.symm, hv0.symm⟩
              clear hv0 hK0
              go_upto_region 16 with fail
              rw [Hv.out.1, Hv.out.2]
              clear Hv
              have hS7 := At.front 5 (At.front 1 hS6 rfl) rfl
              clear hS6
              have y0 := (hS7.cellAt 2 rfl 0).trans rfl
              have y1 := (hS7.cellAt 2 rfl 1).trans rfl
              have y2 := (hS7.cellAt 2 rfl 2).trans rfl
              have y3 := (hS7.cellAt 2 rfl 3).trans rfl
              have y4 := (hS7.cellAt 2 rfl 4).trans rfl
              have y5 := (hS7.cellAt 2 rfl 5).trans rfl
              have y6 := (hS7.cellAt 2 rfl 6).trans rfl
              have y7 := (hS7.cellAt 2 rfl 7).trans rfl
              have y8 := (hS7.cellAt 2 rfl 8).trans rfl
              have y9 := (hS7.cellAt 2 rfl 9).trans rfl
              have g0 := (hS7.cellAt 7 rfl 0).trans rfl
              have g1 := (hS7.cellAt 7 rfl 1).trans rfl
              have g2 := (hS7.cellAt 7 rfl 2).trans rfl
              have g3 := (hS7.cellAt 7 rfl 3).trans rfl
              have g4 := (hS7.cellAt 7 rfl 4).trans rfl
              have g5 := (hS7.cellAt 7 rfl 5).trans rfl
              have g6 := (hS7.cellAt 7 rfl 6).trans rfl
              have g7 := (hS7.cellAt 7 rfl 7).trans rfl
              have g8 := (hS7.cellAt 7 rfl 8).trans rfl
              have g9 := (hS7.cellAt 7 rfl 9).trans rfl
              have gf0 := hS7.frozenAt 7 rfl 0
              have gf1 := hS7.frozenAt 7 rfl 1
              have gf2 := hS7.frozenAt 7 rfl 2
              have gf3 := hS7.frozenAt 7 rfl 3
              have gf4 := hS7.frozenAt 7 rfl 4
              have gf5 := hS7.frozenAt 7 rfl 5
              have gf6 := hS7.frozenAt 7 rfl 6
              have gf7 := hS7.frozenAt 7 rfl 7
              have gf8 := hS7.frozenAt 7 rfl 8
              have gf9 := hS7.frozenAt 7 rfl 9
              have glt := hS7.ltAt 7 rfl
              have hkm : ks.length ≤ 1048576 := by have := HKl.out; have := HLt.out; omega
              go_wp2_with (at_builtin; refine At.kd_append (d := k30) (e := 30) (xs := ks) (p := o.x) (cs := [.int .i64 o.x.f0, .int .i64 o.x.f1, .int .i64 o.x.f2, .string o.x.f3, .int .i64 o.x.f4.f0, .int .i64 o.x.f4.f1, .string o.x.f4.f2, .slice o.A o.x.f4.f3.length o.c, .slice o.B o.x.f5.length o.d, .slice o.C o.x.f6.length o.q]) hS7 (fun _ h => h.1) rfl (.tmp 71) (.tmp 73) 28 (.agg #[.int .i64 0, .int .i64 0, .int .i64 0, .string ⟨#[]⟩, .int .i64 0, .int .i64 0, .string ⟨#[]⟩, .slice none 0 0, .slice none 0 0, .slice none 0 0]) 144 rfl Try.underlying28 infoN rfl (by decide) (by decide) rfl rfl ?c1 ?c2)
              case c1 => omega
              case c2 =>
                intro v1 w5 hA
                obtain ⟨FR, hR⟩ := At.kd_at 0 hA rfl
                obtain ⟨D1, cc1, rfl⟩ := Kd.R_slice hR
                rw [List.length_append, List.length_singleton] at hA ⊢
                clear hR hS7 y0 y1 y2 y3 y4 y5 y6 y7 y8 y9 g0 g1 g2 g3 g4 g5 g6 g7 g8 g9 gf0 gf1 gf2 gf3 gf4 gf5 gf6 gf7 gf8 gf9 glt
                have g0 := (hA.cellAt 6 rfl 0).trans rfl
                have g1 := (hA.cellAt 6 rfl 1).trans rfl
                have g2 := (hA.cellAt 6 rfl 2).trans rfl
                have g3 := (hA.cellAt 6 rfl 3).trans rfl
                have g4 := (hA.cellAt 6 rfl 4).trans rfl
                have g5 := (hA.cellAt 6 rfl 5).trans rfl
                have g6 := (hA.cellAt 6 rfl 6).trans rfl
                have g7 := (hA.cellAt 6 rfl 7).trans rfl
                have g8 := (hA.cellAt 6 rfl 8).trans rfl
                have g9 := (hA.cellAt 6 rfl 9).trans rfl
                have gf0 := hA.frozenAt 6 rfl 0
                have gf1 := hA.frozenAt 6 rfl 1
                have gf2 := hA.frozenAt 6 rfl 2
                have gf3 := hA.frozenAt 6 rfl 3
                have gf4 := hA.frozenAt 6 rfl 4
                have gf5 := hA.frozenAt 6 rfl 5
                have gf6 := hA.frozenAt 6 rfl 6
                have gf7 := hA.frozenAt 6 rfl 7
                have gf8 := hA.frozenAt 6 rfl 8
                have gf9 := hA.frozenAt 6 rfl 9
                have glt := hA.ltAt 6 rfl
                have hS8 := hA.setBlkAt 6 rfl 8 (.slice D1 (ks.length + 1) cc1)
                clear hA
                go_wp2_with fail
                rw [show ks.length + 1 = (ks ++ [o.x]).length by simp] at hS8 ⊢
                go_roundg (gk - 1)
                case measure => have := HK.out; have := HLt.out; omega
                case rel =>
                  refine ⟨k + 1, n', ks ++ [o.x], D1, cc1, O2, oc2, by have := HK.out; have := HLt.out; omega, by go_num, ⟨by rw [List.length_append, List.length_singleton, HKl.out]⟩, ⟨HX.out.2⟩, HG2, ?_⟩
                  have h9 := (hS8.dropAt 1 (by simp)).dropAt 3 (by simp)
                  exact At.front 6 (At.front 6 (At.front 6 (At.front 6 (At.front 6 (At.front 2 (At.front 2 h9 rfl) rfl) rfl) rfl) rfl) rfl) rfl
          · obtain rfl : k = x.f5.length := by omega
            have HE : As (nodeF L (m + 1) x d op n = .ok { x with f5 := ks } N') := ⟨by rw [HE3.out, HG.out, List.drop_length]; rfl⟩
            have hkk := HKl.out
            have HSS := As.mk hS
            rw [← hkk]
            clear hkk
            have g0 := (hS.cellAt 2 rfl 0).trans rfl
            have g1 := (hS.cellAt 2 rfl 1).trans rfl
            have g2 := (hS.cellAt 2 rfl 2).trans rfl
            have g3 := (hS.cellAt 2 rfl 3).trans rfl
            have g4 := (hS.cellAt 2 rfl 4).trans rfl
            have g5 := (hS.cellAt 2 rfl 5).trans rfl
            have g6 := (hS.cellAt 2 rfl 6).trans rfl
            have g7 := (hS.cellAt 2 rfl 7).trans rfl
            have g8 := (hS.cellAt 2 rfl 8).trans rfl
            have g9 := (hS.cellAt 2 rfl 9).trans rfl
            have z0 := (hS.cellAt 3 rfl 0).trans rfl
            have z1 := (hS.cellAt 3 rfl 1).trans rfl
            have z2 := (hS.cellAt 3 rfl 2).trans rfl
            have z3 := (hS.cellAt 3 rfl 3).trans rfl
            have z4 := (hS.cellAt 3 rfl 4).trans rfl
            have z5 := (hS.cellAt 3 rfl 5).trans rfl
            have z6 := (hS.cellAt 3 rfl 6).trans rfl
            have z7 := (hS.cellAt 3 rfl 7).trans rfl
            have z8 := (hS.cellAt 3 rfl 8).trans rfl
            have z9 := (hS.cellAt 3 rfl 9).trans rfl
            have zf0 := hS.frozenAt 3 rfl 0
            have zf1 := hS.frozenAt 3 rfl 1
            have zf2 := hS.frozenAt 3 rfl 2
            have zf3 := hS.frozenAt 3 rfl 3
            have zf4 := hS.frozenAt 3 rfl 4
            have zf5 := hS.frozenAt 3 rfl 5
            have zf6 := hS.frozenAt 3 rfl 6
            have zf7 := hS.frozenAt 3 rfl 7
            have zf8 := hS.frozenAt 3 rfl 8
            have zf9 := hS.frozenAt 3 rfl 9
            have zlt := hS.ltAt 3 rfl
            have hgz := hS.neBB 2 3 rfl rfl (by decide)
            have hzg := hgz.symm
            go_wp2_with fail
            refine bodyPost_ret (v := .tuple #[.agg #[.int .i64 x.f0, .int .i64 x.f1, .int .i64 x.f2, .string x.f3, .int .i64 x.f4.f0, .int .i64 x.f4.f1, .string x.f4.f2, .slice A1' x.f4.f3.length c1', .slice B ks.length dB, .slice A2' x.f6.length c2'], .int .i64 0]) (by simp [results, Try.results42, go_sem, z0, z1, z2, z3, z4, z5, z6, z7, z8, z9]) rfl ⟨O', oc', N', .inr ⟨⟨0, { x with f5 := ks }, A1', c1', B, dB, A2', c2'⟩, HE.out, HN'.out, rfl, ?_⟩⟩
            have hS9 := ((((((((((hS).setBlkAt 3 rfl 0 (.int .i64 x.f0)).setBlkAt 3 rfl 1 (.int .i64 x.f1)).setBlkAt 3 rfl 2 (.int .i64 x.f2)).setBlkAt 3 rfl 3 (.string x.f3)).setBlkAt 3 rfl 4 (.int .i64 x.f4.f0)).setBlkAt 3 rfl 5 (.int .i64 x.f4.f1)).setBlkAt 3 rfl 6 (.string x.f4.f2)).setBlkAt 3 rfl 7 (.slice A1' x.f4.f3.length c1')).setBlkAt 3 rfl 8 (.slice B ks.length dB)).setBlkAt 3 rfl 9 (.slice A2' x.f6.length c2')
            have h9 := ((hS9.dropAt 2 (by simp)).dropAt 2 (by simp)).dropAt 2 (by simp)
            exact At.fold2 (At.front 1 h9 rfl) (fun w F h => fr_close ⟨0, { x with f5 := ks }, A1', c1', B, dB, A2', c2'⟩ w F h)
theorem put_all : ∀ m, UsedDo m ∧ NodeDo m
  | 0 => by
    have h0 : NodeDo 0 := fun _ _ _ _ _ _ _ _ _ _ _ _ _ _ _ _ _ _ _ _ _ _ _ _ _ h _ => absurd rfl h
    exact ⟨used_step 0 h0, h0⟩
  | m + 1 => by
    obtain ⟨h1, h2⟩ := put_all m
    have h3 := node_step m h1 h2
    exact ⟨used_step (m + 1) h3, h3⟩
end Go.Proofs.Ytlkkibeoobognaa.OpenInlineTrees
