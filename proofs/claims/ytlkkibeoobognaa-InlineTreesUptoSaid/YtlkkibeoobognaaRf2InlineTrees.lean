/- The reference's in at a node that is no use; then at all nodes. Printed by genRf2.py. -/
import Derived.Test.YtlkkibeoobognaaRf1InlineTrees
set_option linter.unusedVariables false
set_option linter.unusedSimpArgs false
set_option maxRecDepth 100000
namespace Go.Proofs.Ytlkkibeoobognaa.OpenInlineTrees
open Go.RowKit Go.Deep
open Go.Proofs.YtlkkibeoobognaaW.PrintWords Go.Proofs.YtlkkibeoobognaaW.PrintLast Go.Proofs.YtlkkibeoobognaaW.PrintMore Go.Proofs.Ytlkkibeoobognaa.PInlineTrees
def hone (m : Nat) (w0 : World) (cd : Int) (o : Fr) : Hp := if cd = 0 then hkN m w0 o else Hp.emp
def hmode (m : Nat) (w0 : World) (cd : Int) (ks : List Fr) : Hp := if cd = 0 then hAll (hkN m w0) ks else Hp.emp
theorem mode_snoc {F0 : Nat → Prop} {wb w0 w : World} {l : List Hp} {m : Nat} {cd cd' : Int} {ks : List Fr} {o : Fr} (h0 : cd' = 0 → cd = 0) (h : At F0 w0 w (Hp.seps (hmode m wb cd ks :: hone m wb cd' o :: l))) : At F0 w0 w (Hp.seps (hmode m wb cd' (ks ++ [o]) :: l)) := by
  by_cases hc : cd' = 0
  · have hc0 := h0 hc
    subst hc; subst hc0
    unfold hmode hone at h
    unfold hmode
    rw [if_pos rfl] at h ⊢
    rw [if_pos rfl] at h
    exact At.fold2 (A1 := hAll (hkN m wb) ks) (A2 := hkN m wb o) h (fun _ _ h => hAll_snoc _ _ _ _ h)
  · unfold hmode
    rw [if_neg hc]
    exact At.new_emp h.tail.tail
theorem rin_any (m : Nat) (ih : RDo m) (w0 : World) (A : Option Addr) (c : Nat) (L : List S32) (hL : Lr w0 A c L) (hLl : L.length ≤ 1000000) (x : S30) (A7 : Option Addr) (c7 : Nat) (A8 : Option Addr) (c8 : Nat) (A9 : Option Addr) (c9 : Nat) (d n : Nat) (op : List ByteArray) (w : World) (lst : List Hp) (O : Option Addr) (oc P : Nat) (cd : Int) (hN : NodeIn w0 x A7 c7 A8 c8 A9 c9) (hz : szN x ≤ 1048576) (hd : d ≤ 41) (hop : op.length + m ≤ 1000000) (hres : cd = 0 → n ≤ 4000 ∧ nodeF L m x d op n ≠ .out)
    (hS : At (fun _ => False) w0 w (Hp.seps (Hp.blk P #[.slice A L.length c, .slice O op.length oc, .int .i64 n, .int .i64 cd] 63 :: Hp.row 9 1 encS (.slice O op.length oc) op :: lst))) :
    Calls Try.prog 22 #[.pointer (some ⟨P, 0, none⟩), nodeV x A7 c7 A8 c8 A9 c9, .int .i64 d] w fun e w' => ∃ (o : Fr) (O2 : Option Addr) (oc2 n' : Nat) (cd' : Int), e = .returned (.agg #[.int .i64 o.x.f0, .int .i64 o.x.f1, .int .i64 o.x.f2, .string o.x.f3, .int .i64 o.x.f4.f0, .int .i64 o.x.f4.f1, .string o.x.f4.f2, .slice o.A o.x.f4.f3.length o.c, .slice o.B o.x.f5.length o.d, .slice o.C o.x.f6.length o.q]) ∧ At (fun _ => False) w0 w' (Hp.seps (hone m w0 cd' o :: Hp.blk P #[.slice A L.length c, .slice O2 op.length oc2, .int .i64 n', .int .i64 cd'] 63 :: Hp.row 9 1 encS (.slice O2 op.length oc2) op :: lst)) ∧ (cd' = 0 → cd = 0 ∧ nodeF L m x d op n = .ok o.x n' ∧ n' ≤ 4000) ∧ (cd' ≠ 0 → cd' = cd ∨ (cd = 0 ∧ nodeF L m x d op n = .err cd')) := by
  by_cases hc : cd = 0
  · subst hc
    refine (ih w0 A c L hL hLl x A7 c7 A8 c8 A9 c9 d n op w lst O oc P hN hz hd (hres rfl).1 hop (hres rfl).2 hS).mono ?_
    rintro e w' ⟨o, O2, oc2, n', rfl, (⟨cd', hr, hcd, hS6⟩ | ⟨hr, hn', hS6⟩)⟩
    · refine ⟨o, O2, oc2, n', cd', rfl, ?_, fun h => absurd h hcd, fun _ => .inr ⟨rfl, hr⟩⟩
      unfold hone
      rw [if_neg hcd]
      exact At.new_emp hS6
    · refine ⟨o, O2, oc2, n', 0, rfl, ?_, fun _ => ⟨rfl, hr, hn'⟩, fun h => absurd rfl h⟩
      unfold hone
      rw [if_pos rfl]
      exact hS6
  · refine (rin_skip w0 x A7 c7 A8 c8 A9 c9 d w _ P _ _ _ cd hc hS).mono ?_
    rintro e w' ⟨rfl, hS6⟩
    refine ⟨⟨0, zN, none, 0, none, 0, none, 0⟩, O, oc, n, cd, rfl, ?_, fun h => absurd h hc, fun _ => .inl rfl⟩
    unfold hone
    rw [if_neg hc]
    exact At.new_emp hS6
set_option maxHeartbeats 51200000 in
theorem rin_node (m : Nat) (ih : RDo m) (w0 : World) (A : Option Addr) (c : Nat) (L : List S32) (hL : Lr w0 A c L) (hLl : L.length ≤ 1000000) (x : S30) (A7 : Option Addr) (c7 : Nat) (A8 : Option Addr) (c8 : Nat) (A9 : Option Addr) (c9 : Nat) (d n : Nat) (op : List ByteArray) (w : World) (lst : List Hp) (O : Option Addr) (oc P : Nat) (hk : x.f0 ≠ 10) (hN : NodeIn w0 x A7 c7 A8 c8 A9 c9) (hsz : szN x ≤ 1048576) (hd : d ≤ 41) (hn : n ≤ 4000) (hop : op.length + (m + 1) ≤ 1000000) (hres : nodeF L (m + 1) x d op n ≠ .out)
    (hS : At (fun _ => False) w0 w (Hp.seps (Hp.blk P #[.slice A L.length c, .slice O op.length oc, .int .i64 n, .int .i64 0] 63 :: Hp.row 9 1 encS (.slice O op.length oc) op :: lst))) :
    Calls Try.prog 22 #[.pointer (some ⟨P, 0, none⟩), nodeV x A7 c7 A8 c8 A9 c9, .int .i64 d] w (RTold (m + 1) w0 A c L P lst op (nodeF L (m + 1) x d op n)) := by
  have HL := As.mk hL
  have HN := As.mk hN
  have HI := As.mk (rin_any m ih w0 A c L hL hLl)
  have HD := As.mk (⟨hd, hn, hop, hsz, szN_parts x⟩ : _ ∧ _ ∧ _ ∧ _ ∧ _)
  have HRes := As.mk hres
  have HNF : As (nodeF L (m + 1) x d op n = _) := ⟨nodeF.eq_2 ..⟩
  have HE1 := As.mk (HNF.out.trans (if_neg hk))
  unfold nodeV
  clear HNF ih hd hn hop hres hL hLl hN hsz
  have hS := hS.alloc #[.int .i64 x.f0, .int .i64 x.f1, .int .i64 x.f2, .string x.f3, .int .i64 x.f4.f0, .int .i64 x.f4.f1, .string x.f4.f2, .slice A7 x.f4.f3.length c7, .slice A8 x.f5.length c8, .slice A9 x.f6.length c9] 30
  obtain ⟨q0, hq0⟩ : ∃ q, q = w.heap.size := ⟨_, rfl⟩
  obtain ⟨W0, hW0⟩ : ∃ V, V = w.alloc (.cells #[.int .i64 x.f0, .int .i64 x.f1, .int .i64 x.f2, .string x.f3, .int .i64 x.f4.f0, .int .i64 x.f4.f1, .string x.f4.f2, .slice A7 x.f4.f3.length c7, .slice A8 x.f5.length c8, .slice A9 x.f6.length c9] 30) := ⟨_, rfl⟩
  rw [← hq0, ← hW0] at hS
  have hS := hS.alloc #[.int .i64 0, .int .i64 0, .int .i64 0, .string ⟨#[]⟩, .int .i64 0, .int .i64 0, .string ⟨#[]⟩, .slice none 0 0, .slice none 0 0, .slice none 0 0] 30
  obtain ⟨q1, hq1⟩ : ∃ q, q = W0.heap.size := ⟨_, rfl⟩
  obtain ⟨W1, hW1⟩ : ∃ V, V = W0.alloc (.cells #[.int .i64 0, .int .i64 0, .int .i64 0, .string ⟨#[]⟩, .int .i64 0, .int .i64 0, .string ⟨#[]⟩, .slice none 0 0, .slice none 0 0, .slice none 0 0] 30) := ⟨_, rfl⟩
  rw [← hq1, ← hW1] at hS
  have Hq : As (w.alloc (.cells #[.int .i64 x.f0, .int .i64 x.f1, .int .i64 x.f2, .string x.f3, .int .i64 x.f4.f0, .int .i64 x.f4.f1, .string x.f4.f2, .slice A7 x.f4.f3.length c7, .slice A8 x.f5.length c8, .slice A9 x.f6.length c9] 30) = W0 ∧ w.heap.size = q0 ∧ W0.alloc (.cells #[.int .i64 0, .int .i64 0, .int .i64 0, .string ⟨#[]⟩, .int .i64 0, .int .i64 0, .string ⟨#[]⟩, .slice none 0 0, .slice none 0 0, .slice none 0 0] 30) = W1 ∧ q0 + 1 = q1) := ⟨hW0.symm, hq0.symm, hW1.symm, by rw [hq1, hW0, hq0]; simp⟩
  clear hq0 hW0 hq1 hW1
  have hS := At.front 3 (At.front 3 hS rfl) rfl
  have hS : At (fun _ => False) w0 W1 (Hp.seps (Hp.blk P #[.slice A L.length c, .slice O op.length oc, .int .i64 n, .int .i64 0] 63 :: Hp.row 9 1 encS (.slice O op.length oc) op :: Hp.blk q1 #[.int .i64 0, .int .i64 0, .int .i64 0, .string ⟨#[]⟩, .int .i64 0, .int .i64 0, .string ⟨#[]⟩, .slice none 0 0, .slice none 0 0, .slice none 0 0] 30 :: Hp.blk q0 #[.int .i64 x.f0, .int .i64 x.f1, .int .i64 x.f2, .string x.f3, .int .i64 x.f4.f0, .int .i64 x.f4.f1, .string x.f4.f2, .slice A7 x.f4.f3.length c7, .slice A8 x.f5.length c8, .slice A9 x.f6.length c9] 30 :: lst)) := hS
  have e0 : (x.f0 == 10) = false := by simpa using hk
  clear hk
  go_enter Try.func22, Try.ntmps22
  go_upto_region 1 with fail
  rw [Hq.out.1, Hq.out.2.1, Hq.out.2.2.1, Hq.out.2.2.2]
  clear Hq
  have p0 := (hS.cellAt 0 rfl 0).trans rfl
  have p1 := (hS.cellAt 0 rfl 1).trans rfl
  have p2 := (hS.cellAt 0 rfl 2).trans rfl
  have p3 := (hS.cellAt 0 rfl 3).trans rfl
  have pf0 := hS.frozenAt 0 rfl 0
  have pf1 := hS.frozenAt 0 rfl 1
  have pf2 := hS.frozenAt 0 rfl 2
  have pf3 := hS.frozenAt 0 rfl 3
  have plt := hS.ltAt 0 rfl
  have x0 := (hS.cellAt 3 rfl 0).trans rfl
  have x1 := (hS.cellAt 3 rfl 1).trans rfl
  have x2 := (hS.cellAt 3 rfl 2).trans rfl
  have x3 := (hS.cellAt 3 rfl 3).trans rfl
  have x4 := (hS.cellAt 3 rfl 4).trans rfl
  have x5 := (hS.cellAt 3 rfl 5).trans rfl
  have x6 := (hS.cellAt 3 rfl 6).trans rfl
  have x7 := (hS.cellAt 3 rfl 7).trans rfl
  have x8 := (hS.cellAt 3 rfl 8).trans rfl
  have x9 := (hS.cellAt 3 rfl 9).trans rfl
  have hnn : IntKind.i64.wrap ((n : Int) + 1) = ((n + 1 : Nat) : Int) := by rw [IntKind.wrap_i64]; have := HD.out.2.1; omega
  have hnb : n ≤ 4000 := HD.out.2.1
  go_upto_region 19 with fail
  obtain ⟨N, hNn⟩ : ∃ N : Nat, N = n + 1 := ⟨_, rfl⟩
  have hNi : ((n : Int) + 1) = (N : Int) := by omega
  have hNb : N ≤ 4001 := by omega
  have HNn := As.mk hNn
  have hS2 := hS.setBlkAt 0 rfl 2 (.int .i64 (N : Int))
  rw [hNi]
  rw [hNi] at hnn
  obtain ⟨V2, hV2⟩ : ∃ V, V = W1.setCell ⟨P, 2, none⟩ (.int .i64 (N : Int)) := ⟨_, rfl⟩
  rw [← hV2] at hS2 ⊢
  have hS2 : At (fun _ => False) w0 V2 (Hp.seps (Hp.blk P #[.slice A L.length c, .slice O op.length oc, .int .i64 N, .int .i64 0] 63 :: Hp.row 9 1 encS (.slice O op.length oc) op :: Hp.blk q1 #[.int .i64 0, .int .i64 0, .int .i64 0, .string ⟨#[]⟩, .int .i64 0, .int .i64 0, .string ⟨#[]⟩, .slice none 0 0, .slice none 0 0, .slice none 0 0] 30 :: Hp.blk q0 #[.int .i64 x.f0, .int .i64 x.f1, .int .i64 x.f2, .string x.f3, .int .i64 x.f4.f0, .int .i64 x.f4.f1, .string x.f4.f2, .slice A7 x.f4.f3.length c7, .slice A8 x.f5.length c8, .slice A9 x.f6.length c9] 30 :: lst)) := hS2
  clear hS hV2 hnn hNi hNn hnb x0 x1 x2 x3 x4 x5 x6 x7 x8 x9 p0 p1 p2 p3 pf0 pf1 pf2 pf3 plt
  have p0 := (hS2.cellAt 0 rfl 0).trans rfl
  have p1 := (hS2.cellAt 0 rfl 1).trans rfl
  have p2 := (hS2.cellAt 0 rfl 2).trans rfl
  have p3 := (hS2.cellAt 0 rfl 3).trans rfl
  have pf0 := hS2.frozenAt 0 rfl 0
  have pf1 := hS2.frozenAt 0 rfl 1
  have pf2 := hS2.frozenAt 0 rfl 2
  have pf3 := hS2.frozenAt 0 rfl 3
  have plt := hS2.ltAt 0 rfl
  by_cases h40 : 40 < d
  · have HE : As (nodeF L (m + 1) x d op n = .err 4) := ⟨HE1.out.trans (if_pos h40)⟩
    have h40i : (40 : Int) < (d : Int) := by omega
    have z0 := (hS2.cellAt 2 rfl 0).trans rfl
    have z1 := (hS2.cellAt 2 rfl 1).trans rfl
    have z2 := (hS2.cellAt 2 rfl 2).trans rfl
    have z3 := (hS2.cellAt 2 rfl 3).trans rfl
    have z4 := (hS2.cellAt 2 rfl 4).trans rfl
    have z5 := (hS2.cellAt 2 rfl 5).trans rfl
    have z6 := (hS2.cellAt 2 rfl 6).trans rfl
    have z7 := (hS2.cellAt 2 rfl 7).trans rfl
    have z8 := (hS2.cellAt 2 rfl 8).trans rfl
    have z9 := (hS2.cellAt 2 rfl 9).trans rfl
    have zf0 := hS2.frozenAt 2 rfl 0
    have zf1 := hS2.frozenAt 2 rfl 1
    have zf2 := hS2.frozenAt 2 rfl 2
    have zf3 := hS2.frozenAt 2 rfl 3
    have zf4 := hS2.frozenAt 2 rfl 4
    have zf5 := hS2.frozenAt 2 rfl 5
    have zf6 := hS2.frozenAt 2 rfl 6
    have zf7 := hS2.frozenAt 2 rfl 7
    have zf8 := hS2.frozenAt 2 rfl 8
    have zf9 := hS2.frozenAt 2 rfl 9
    have zlt := hS2.ltAt 2 rfl
    have hzp := hS2.neBB 2 0 rfl rfl (by decide)
    have hpz := hzp.symm
    go_wp2_with fail
    refine bodyPost_ret (v := .agg #[.int .i64 0, .int .i64 0, .int .i64 0, .string ⟨#[]⟩, .int .i64 0, .int .i64 0, .string ⟨#[]⟩, .slice none 0 0, .slice none 0 0, .slice none 0 0]) (by simp [results, Try.results22, go_sem, z0, z1, z2, z3, z4, z5, z6, z7, z8, z9]) rfl ⟨⟨0, zN, none, 0, none, 0, none, 0⟩, O, oc, N, rfl, .inl ⟨4, HE.out, by decide, ?_⟩⟩
    have hS3 := hS2.setBlkAt 0 rfl 3 (.int .i64 4)
    have hS4 := At.set10 2 (.int .i64 0) (.int .i64 0) (.int .i64 0) (.string ⟨#[]⟩) (.int .i64 0) (.int .i64 0) (.string ⟨#[]⟩) (.slice none 0 0) (.slice none 0 0) (.slice none 0 0) hS3 rfl
    exact (hS4.dropAt 2 (by simp)).dropAt 2 (by simp)
  · have h40i : (d : Int) ≤ (40 : Int) := by omega
    have HE2 := As.mk (HE1.out.trans (if_neg h40))
    clear HE1 h40
    by_cases h4k : 4000 < N
    · have HE : As (nodeF L (m + 1) x d op n = .err 9) := ⟨HE2.out.trans (if_pos (by have := HNn.out; omega))⟩
      have h4ki : (4000 : Int) < (N : Int) := by omega
      have z0 := (hS2.cellAt 2 rfl 0).trans rfl
      have z1 := (hS2.cellAt 2 rfl 1).trans rfl
      have z2 := (hS2.cellAt 2 rfl 2).trans rfl
      have z3 := (hS2.cellAt 2 rfl 3).trans rfl
      have z4 := (hS2.cellAt 2 rfl 4).trans rfl
      have z5 := (hS2.cellAt 2 rfl 5).trans rfl
      have z6 := (hS2.cellAt 2 rfl 6).trans rfl
      have z7 := (hS2.cellAt 2 rfl 7).trans rfl
      have z8 := (hS2.cellAt 2 rfl 8).trans rfl
      have z9 := (hS2.cellAt 2 rfl 9).trans rfl
      have zf0 := hS2.frozenAt 2 rfl 0
      have zf1 := hS2.frozenAt 2 rfl 1
      have zf2 := hS2.frozenAt 2 rfl 2
      have zf3 := hS2.frozenAt 2 rfl 3
      have zf4 := hS2.frozenAt 2 rfl 4
      have zf5 := hS2.frozenAt 2 rfl 5
      have zf6 := hS2.frozenAt 2 rfl 6
      have zf7 := hS2.frozenAt 2 rfl 7
      have zf8 := hS2.frozenAt 2 rfl 8
      have zf9 := hS2.frozenAt 2 rfl 9
      have zlt := hS2.ltAt 2 rfl
      have hzp := hS2.neBB 2 0 rfl rfl (by decide)
      have hpz := hzp.symm
      go_wp2_with fail
      refine bodyPost_ret (v := .agg #[.int .i64 0, .int .i64 0, .int .i64 0, .string ⟨#[]⟩, .int .i64 0, .int .i64 0, .string ⟨#[]⟩, .slice none 0 0, .slice none 0 0, .slice none 0 0]) (by simp [results, Try.results22, go_sem, z0, z1, z2, z3, z4, z5, z6, z7, z8, z9]) rfl ⟨⟨0, zN, none, 0, none, 0, none, 0⟩, O, oc, N, rfl, .inl ⟨9, HE.out, by decide, ?_⟩⟩
      have hS3 := hS2.setBlkAt 0 rfl 3 (.int .i64 9)
      have hS4 := At.set10 2 (.int .i64 0) (.int .i64 0) (.int .i64 0) (.string ⟨#[]⟩) (.int .i64 0) (.int .i64 0) (.string ⟨#[]⟩) (.slice none 0 0) (.slice none 0 0) (.slice none 0 0) hS3 rfl
      exact (hS4.dropAt 2 (by simp)).dropAt 2 (by simp)
    · have h4ki : (N : Int) ≤ (4000 : Int) := by omega
      have HE3 := As.mk (HE2.out.trans (if_neg (by have := HNn.out; omega)))
      rw [← HNn.out] at HE3
      have HNb : N ≤ 4000 := by omega
      clear HE2 h4k hNb
      have x0 := (hS2.cellAt 3 rfl 0).trans rfl
      have x1 := (hS2.cellAt 3 rfl 1).trans rfl
      have x2 := (hS2.cellAt 3 rfl 2).trans rfl
      have x3 := (hS2.cellAt 3 rfl 3).trans rfl
      have x4 := (hS2.cellAt 3 rfl 4).trans rfl
      have x5 := (hS2.cellAt 3 rfl 5).trans rfl
      have x6 := (hS2.cellAt 3 rfl 6).trans rfl
      have x7 := (hS2.cellAt 3 rfl 7).trans rfl
      have x8 := (hS2.cellAt 3 rfl 8).trans rfl
      have x9 := (hS2.cellAt 3 rfl 9).trans rfl
      have hS2 := hS2.alloc #[.int .i64 x.f0, .int .i64 x.f1, .int .i64 x.f2, .string x.f3, .int .i64 x.f4.f0, .int .i64 x.f4.f1, .string x.f4.f2, .slice A7 x.f4.f3.length c7, .slice A8 x.f5.length c8, .slice A9 x.f6.length c9] 30
      obtain ⟨r0, hr0⟩ : ∃ q, q = V2.heap.size := ⟨_, rfl⟩
      obtain ⟨RR0, hRR0⟩ : ∃ V, V = V2.alloc (.cells #[.int .i64 x.f0, .int .i64 x.f1, .int .i64 x.f2, .string x.f3, .int .i64 x.f4.f0, .int .i64 x.f4.f1, .string x.f4.f2, .slice A7 x.f4.f3.length c7, .slice A8 x.f5.length c8, .slice A9 x.f6.length c9] 30) := ⟨_, rfl⟩
      rw [← hr0, ← hRR0] at hS2
      have Hr : As (V2.alloc (.cells #[.int .i64 x.f0, .int .i64 x.f1, .int .i64 x.f2, .string x.f3, .int .i64 x.f4.f0, .int .i64 x.f4.f1, .string x.f4.f2, .slice A7 x.f4.f3.length c7, .slice A8 x.f5.length c8, .slice A9 x.f6.length c9] 30) = RR0 ∧ V2.heap.size = r0) := ⟨hRR0.symm, hr0.symm⟩
      clear hr0 hRR0
      go_upto_region 26 with fail
      rw [Hr.out.1, Hr.out.2]
      clear Hr h4ki x0 x1 x2 x3 x4 x5 x6 x7 x8 x9 p0 p1 p2 p3 pf0 pf1 pf2 pf3 plt
      have y0 := (hS2.cellAt 0 rfl 0).trans rfl
      have y1 := (hS2.cellAt 0 rfl 1).trans rfl
      have y2 := (hS2.cellAt 0 rfl 2).trans rfl
      have y3 := (hS2.cellAt 0 rfl 3).trans rfl
      have y4 := (hS2.cellAt 0 rfl 4).trans rfl
      have y5 := (hS2.cellAt 0 rfl 5).trans rfl
      have y6 := (hS2.cellAt 0 rfl 6).trans rfl
      have y7 := (hS2.cellAt 0 rfl 7).trans rfl
      have y8 := (hS2.cellAt 0 rfl 8).trans rfl
      have y9 := (hS2.cellAt 0 rfl 9).trans rfl
      have yf0 := hS2.frozenAt 0 rfl 0
      have yf1 := hS2.frozenAt 0 rfl 1
      have yf2 := hS2.frozenAt 0 rfl 2
      have yf3 := hS2.frozenAt 0 rfl 3
      have yf4 := hS2.frozenAt 0 rfl 4
      have yf5 := hS2.frozenAt 0 rfl 5
      have yf6 := hS2.frozenAt 0 rfl 6
      have yf7 := hS2.frozenAt 0 rfl 7
      have yf8 := hS2.frozenAt 0 rfl 8
      have yf9 := hS2.frozenAt 0 rfl 9
      have ylt := hS2.ltAt 0 rfl
      go_upto_region 27 with fail
      have hS3 := hS2.setBlkAt 0 rfl 8 (.slice none 0 0)
      obtain ⟨V5, hV5⟩ : ∃ V, V = RR0.setCell ⟨r0, 8, none⟩ (.slice none 0 0) := ⟨_, rfl⟩
      rw [← hV5] at hS3 ⊢
      have hS5 : At (fun _ => False) w0 V5 (Hp.seps (Hp.row 30 10 nodC (.slice none 0 0) ([] : List Fr) :: hmode m w0 0 ([] : List Fr) :: Hp.blk r0 #[.int .i64 x.f0, .int .i64 x.f1, .int .i64 x.f2, .string x.f3, .int .i64 x.f4.f0, .int .i64 x.f4.f1, .string x.f4.f2, .slice A7 x.f4.f3.length c7, .slice none 0 0, .slice A9 x.f6.length c9] 30 :: Hp.blk q1 #[.int .i64 0, .int .i64 0, .int .i64 0, .string ⟨#[]⟩, .int .i64 0, .int .i64 0, .string ⟨#[]⟩, .slice none 0 0, .slice none 0 0, .slice none 0 0] 30 :: Hp.blk q0 #[.int .i64 x.f0, .int .i64 x.f1, .int .i64 x.f2, .string x.f3, .int .i64 x.f4.f0, .int .i64 x.f4.f1, .string x.f4.f2, .slice A7 x.f4.f3.length c7, .slice A8 x.f5.length c8, .slice A9 x.f6.length c9] 30 :: Hp.blk P #[.slice A L.length c, .slice O op.length oc, .int .i64 N, .int .i64 0] 63 :: Hp.row 9 1 encS (.slice O op.length oc) op :: lst)) := by
        have h2 := At.front 4 (At.front 4 (At.front 4 (At.front 2 (At.front 2 hS3 rfl) rfl) rfl) rfl) rfl
        unfold hmode
        rw [if_pos rfl]
        exact (At.new_emp h2).nilRow 30 10 nodC
      have HG0 : As (N ≤ 4000 ∧ kidsG (fun k n => nodeF L m k (d + 1) op n) [] x.f5 N = kidsG (fun k n => nodeF L m k (d + 1) op n) (([] : List Fr).map (·.x)) (x.f5.drop 0) N) := ⟨HNb, by rw [List.drop_zero]; rfl⟩
      clear hS2 hS3 hV5 HNb y0 y1 y2 y3 y4 y5 y6 y7 y8 y9 yf0 yf1 yf2 yf3 yf4 yf5 yf6 yf7 yf8 yf9 ylt
      have hkl : x.f5.length ≤ 1048576 := by have h1 := HD.out.2.2.2.1; have h2 := HD.out.2.2.2.2; have h3 := len_szNs x.f5; omega
      go_wp2_with fail
      go_loopg [11] x.f5.length (fun g0 iv wr => ∃ (k N' : Nat) (ks : List Fr) (B : Option Addr) (dB : Nat) (O' : Option Addr) (oc' : Nat) (cd : Int), k + g0 = x.f5.length ∧ iv = .int .i64 k ∧ As (ks.length = k) ∧ As (cd = 0 → N' ≤ 4000 ∧ kidsG (fun k n => nodeF L m k (d + 1) op n) [] x.f5 N = kidsG (fun k n => nodeF L m k (d + 1) op n) (ks.map (·.x)) (x.f5.drop k) N') ∧ As (cd ≠ 0 → kidsG (fun k n => nodeF L m k (d + 1) op n) [] x.f5 N = .err cd) ∧ At (fun _ => False) w0 wr (Hp.seps (Hp.row 30 10 nodC (.slice B ks.length dB) ks :: hmode m w0 cd ks :: Hp.blk r0 #[.int .i64 x.f0, .int .i64 x.f1, .int .i64 x.f2, .string x.f3, .int .i64 x.f4.f0, .int .i64 x.f4.f1, .string x.f4.f2, .slice A7 x.f4.f3.length c7, .slice B ks.length dB, .slice A9 x.f6.length c9] 30 :: Hp.blk q1 #[.int .i64 0, .int .i64 0, .int .i64 0, .string ⟨#[]⟩, .int .i64 0, .int .i64 0, .string ⟨#[]⟩, .slice none 0 0, .slice none 0 0, .slice none 0 0] 30 :: Hp.blk q0 #[.int .i64 x.f0, .int .i64 x.f1, .int .i64 x.f2, .string x.f3, .int .i64 x.f4.f0, .int .i64 x.f4.f1, .string x.f4.f2, .slice A7 x.f4.f3.length c7, .slice A8 x.f5.length c8, .slice A9 x.f6.length c9] 30 :: Hp.blk P #[.slice A L.length c, .slice O' op.length oc', .int .i64 N', .int .i64 cd] 63 :: Hp.row 9 1 encS (.slice O' op.length oc') op :: lst)))
      case atStart => exact ⟨0, N, [], none, 0, O, oc, 0, by omega, rfl, ⟨rfl⟩, ⟨fun _ => HG0.out⟩, ⟨fun h => absurd rfl h⟩, hS5⟩
      case round =>
        clear hS5 HG0
        obtain ⟨k, N', ks, B, dB, O', oc', cd, hk, rfl, HKl, HG, HGe, hS⟩ := hrel
        by_cases hlt : k < x.f5.length
        · obtain ⟨y, hy⟩ : ∃ y, x.f5[k]? = some y := ⟨_, List.getElem?_eq_getElem hlt⟩
          have HK := As.mk (⟨hk, hlt⟩ : _ ∧ _)
          have HGd := As.mk (kidsG_drop (fun k n => nodeF L m k (d + 1) op n) x.f5 k y hy (ks.map (·.x)) N')
          obtain ⟨b, off, X7, x7, X8, x8, X9, x9, hAe, hbl, hN1, u0, u1, u2, u3, u4, u5, u6, u7, u8, u9⟩ := node_at HN.out.g8 y hy
          subst hAe
          have HU := As.mk (fun (V : World) (hb : Below w0.heap.size w0 V) (j : Nat) (x : Value) (hx : w0.cell? ⟨b, off + k * 10 + j, none⟩ = some x) => (hb.cell (p := ⟨b, off + k * 10 + j, none⟩) hbl).trans hx)
          have hzy : szN y ≤ 1048576 := by have h1 := HD.out.2.2.2.1; have h2 := HD.out.2.2.2.2; have h3 := szN_mem x.f5 k y hy; omega
          have hin : (k : Int) < (x.f5.length : Int) := by omega
          have hS0 := At.front 6 (At.front 6 hS.drew rfl) rfl
          have hne : cd = 0 → N' ≤ 4000 ∧ nodeF L m y (d + 1) op N' ≠ .out := fun h0 => ⟨(HG.out h0).1, fun h => HRes.out (by rw [HE3.out, (HG.out h0).2, HGd.out]; simp only [h])⟩
          have hCC := HI.out y X7 x7 X8 x8 X9 x9 (d + 1) N' op _ _ O' oc' P cd hN1 hzy (by omega) (by have := HD.out.2.2.1; omega) hne hS0
          rw [show ((d + 1 : Nat) : Int) = (d : Int) + 1 by omega] at hCC
          unfold nodeV at hCC
          have HCC := As.mk hCC
          have v0 := HU.out _ hS.bl 0 _ u0
          have v1 := HU.out _ hS.bl 1 _ u1
          have v2 := HU.out _ hS.bl 2 _ u2
          have v3 := HU.out _ hS.bl 3 _ u3
          have v4 := HU.out _ hS.bl 4 _ u4
          have v5 := HU.out _ hS.bl 5 _ u5
          have v6 := HU.out _ hS.bl 6 _ u6
          have v7 := HU.out _ hS.bl 7 _ u7
          have v8 := HU.out _ hS.bl 8 _ u8
          have v9 := HU.out _ hS.bl 9 _ u9
          simp only [Nat.add_zero] at v0
          have s0 : IntKind.i64.wrap ((k : Int) + 1) = (k : Int) + 1 := by rw [IntKind.wrap_i64]; omega
          have s1 : IntKind.i64.wrap ((d : Int) + 1) = (d : Int) + 1 := by rw [IntKind.wrap_i64]; omega
          have hkm : ks.length ≤ 1048576 := by have := HKl.out; omega
          have y8 := (hS.cellAt 2 rfl 8).trans rfl
          have x8' := (hS.cellAt 4 rfl 8).trans rfl
          clear hCC hS0 hne hk hlt hy hN1 u0 u1 u2 u3 u4 u5 u6 u7 u8 u9 hzy
          go_upto_region 30 with fail
          go_region_law (first
            | (refine rw_append_step rfl (.tmp 132) (.tmp 142) 28 30 10 nodC (.agg #[.int .i64 0, .int .i64 0, .int .i64 0, .string ⟨#[]⟩, .int .i64 0, .int .i64 0, .string ⟨#[]⟩, .slice none 0 0, .slice none 0 0, .slice none 0 0]) 144 rfl Try.underlying28 infoN rfl (by decide) (.slice B ks.length dB) ks o rfl _ rfl (by first | exact blk_new (by simp) | exact blk_new_drew (by simp) | exact (blk_new_drewN (by simp))) ((hS6.below (by repeat (first | exact Below.refl _ _ | refine bl_drewN ?_ _ | refine Below.drew ?_ | refine bl_alloc ?_ _ | refine bl_set ?_ (by first | (simp; done) | omega | (simp; omega)) _))).rowAt 3 rfl) nodC_len (one_nodC _) ?_ ?_ ?_; (simp only [maxLen]; omega); (omega); intro v1' w5 hA; obtain ⟨D1, cc1, hv1, _, _⟩ := hA.row.shape; subst hv1; have hS7 := At.appendAt 3 hA hS6 rfl (by repeat (first | exact Below.refl _ _ | refine bl_drewN ?_ _ | refine Below.drew ?_ | refine bl_alloc ?_ _ | refine bl_set ?_ (by first | (simp; done) | omega | (simp; omega)) _)); rw [List.length_append, List.length_singleton] at hS7 ⊢; clear hA; have g8 := (hS7.cellAt 5 rfl 8).trans rfl; have gf8 := hS7.frozenAt 5 rfl 8; have glt := hS7.ltAt 5 rfl)
            | (go_simp; go_at_call 22; refine HCC.out.mono ?_; rintro e w4 ⟨o, O2, oc2, n', cd', rfl, hS6, hA1, hA2⟩; have HX := As.mk (⟨hA1, hA2⟩ : _ ∧ _); clear hA1 hA2; have y8b := (hS6.cellAt 5 rfl 8).trans rfl; have yltb := hS6.ltAt 5 rfl))
          all_goals (have hS8 := hS7.setBlkAt 5 rfl 8 (.slice D1 (ks.length + 1) cc1))
          all_goals (have h2 := mode_snoc (fun h => (HX.out.1 h).1) (At.front 4 hS8 rfl))
          all_goals (have h3 := At.front 6 (At.front 5 (At.front 6 (At.front 6 (At.front 6 (At.front 2 (At.front 2 h2 rfl) rfl) rfl) rfl) rfl) rfl) rfl)
          all_goals (clear h2 hS8 hS7)
          all_goals (go_wp2_with fail)
          all_goals (go_roundg (gk - 1))
          all_goals (first | (have := HK.out; omega) | skip)
          all_goals (
            refine ⟨k + 1, n', ks ++ [o], D1, cc1, O2, oc2, cd', by have := HK.out; omega, rfl, ⟨by rw [List.length_append, List.length_singleton, HKl.out]⟩, ⟨fun h => ?_⟩, ⟨fun h => ?_⟩, ?_⟩
            · have h1 := HX.out.1 h
              refine ⟨h1.2.2, ?_⟩
              rw [(HG.out h1.1).2, HGd.out, List.map_append]
              simp only [h1.2.1]
              rfl
            · rcases HX.out.2 h with h1 | ⟨h1, h4⟩
              · rw [h1] at h ⊢
                exact HGe.out h
              · rw [(HG.out h1).2, HGd.out]
                simp only [h4]
            · rw [List.length_append, List.length_singleton]
              exact h3)
        · obtain rfl : k = x.f5.length := by omega
          clear hk hlt
          have g0 := (hS.cellAt 2 rfl 0).trans rfl
          have g1 := (hS.cellAt 2 rfl 1).trans rfl
          have g2 := (hS.cellAt 2 rfl 2).trans rfl
          have g3 := (hS.cellAt 2 rfl 3).trans rfl
          have g4 := (hS.cellAt 2 rfl 4).trans rfl
          have g5 := (hS.cellAt 2 rfl 5).trans rfl
          have g6 := (hS.cellAt 2 rfl 6).trans rfl
          have g7 := (hS.cellAt 2 rfl 7).trans rfl
          have g8 := (hS.cellAt 2 rfl 8).trans rfl
          have g9 := (hS.cellAt 2 rfl 9).trans rfl
          have x0 := (hS.cellAt 4 rfl 0).trans rfl
          have x1 := (hS.cellAt 4 rfl 1).trans rfl
          have x2 := (hS.cellAt 4 rfl 2).trans rfl
          have x3 := (hS.cellAt 4 rfl 3).trans rfl
          have x4 := (hS.cellAt 4 rfl 4).trans rfl
          have x5 := (hS.cellAt 4 rfl 5).trans rfl
          have x6 := (hS.cellAt 4 rfl 6).trans rfl
          have x7 := (hS.cellAt 4 rfl 7).trans rfl
          have x8 := (hS.cellAt 4 rfl 8).trans rfl
          have x9 := (hS.cellAt 4 rfl 9).trans rfl
          have z0 := (hS.cellAt 3 rfl 0).trans rfl
          have z1 := (hS.cellAt 3 rfl 1).trans rfl
          have z2 := (hS.cellAt 3 rfl 2).trans rfl
          have z3 := (hS.cellAt 3 rfl 3).trans rfl
          have z4 := (hS.cellAt 3 rfl 4).trans rfl
          have z5 := (hS.cellAt 3 rfl 5).trans rfl
          have z6 := (hS.cellAt 3 rfl 6).trans rfl
          have z7 := (hS.cellAt 3 rfl 7).trans rfl
          have z8 := (hS.cellAt 3 rfl 8).trans rfl
          have z9 := (hS.cellAt 3 rfl 9).trans rfl
          have zf0 := hS.frozenAt 3 rfl 0
          have zf1 := hS.frozenAt 3 rfl 1
          have zf2 := hS.frozenAt 3 rfl 2
          have zf3 := hS.frozenAt 3 rfl 3
          have zf4 := hS.frozenAt 3 rfl 4
          have zf5 := hS.frozenAt 3 rfl 5
          have zf6 := hS.frozenAt 3 rfl 6
          have zf7 := hS.frozenAt 3 rfl 7
          have zf8 := hS.frozenAt 3 rfl 8
          have zf9 := hS.frozenAt 3 rfl 9
          have zlt := hS.ltAt 3 rfl
          have hgz := hS.neBB 2 3 rfl rfl (by decide)
          have hzg := hgz.symm
          go_wp2_with fail
          have hS9 := At.set10 3 (.int .i64 x.f0) (.int .i64 x.f1) (.int .i64 x.f2) (.string x.f3) (.int .i64 x.f4.f0) (.int .i64 x.f4.f1) (.string x.f4.f2) (.slice A7 x.f4.f3.length c7) (.slice B ks.length dB) (.slice A9 x.f6.length c9) hS rfl
          have hSa := ((hS9.dropAt 2 (by simp)).dropAt 2 (by simp)).dropAt 2 (by simp)
          by_cases hc : cd = 0
          · subst hc
            have HE : As (nodeF L (m + 1) x d op n = .ok { x with f5 := ks.map (·.x) } N') := ⟨by rw [HE3.out, (HG.out rfl).2, List.drop_length]; rfl⟩
            refine bodyPost_ret (v := .agg #[.int .i64 x.f0, .int .i64 x.f1, .int .i64 x.f2, .string x.f3, .int .i64 x.f4.f0, .int .i64 x.f4.f1, .string x.f4.f2, .slice A7 x.f4.f3.length c7, .slice B ks.length dB, .slice A9 x.f6.length c9]) (by simp [results, Try.results22, go_sem, z0, z1, z2, z3, z4, z5, z6, z7, z8, z9]) rfl ⟨⟨0, { x with f5 := ks.map (·.x) }, A7, c7, B, dB, A9, c9⟩, O', oc', N', by simp only [List.length_map], .inr ⟨HE.out, (HG.out rfl).1, ?_⟩⟩
            unfold hmode at hSa
            rw [if_pos rfl] at hSa
            have hSb : At (fun _ => False) w0 _ (Hp.seps ([Hp.row 30 10 nodC (.slice B ks.length dB) ks, hAll (hkN m w0) ks] ++ (Hp.blk P #[.slice A L.length c, .slice O' op.length oc', .int .i64 N', .int .i64 0] 63 :: Hp.row 9 1 encS (.slice O' op.length oc') op :: lst))) := hSa
            have hSc := At.new_pr (ks.map (·.x) = ks.map (·.x) ∧ GoodX w0 ⟨0, { x with f5 := ks.map (·.x) }, A7, c7, B, dB, A9, c9⟩) ⟨rfl, ⟨HN.out.l7, HN.out.g7, HN.out.l9, HN.out.g9⟩⟩ hSb
            refine At.foldL (l1 := [Hp.pr (ks.map (·.x) = ks.map (·.x) ∧ GoodX w0 ⟨0, { x with f5 := ks.map (·.x) }, A7, c7, B, dB, A9, c9⟩), Hp.row 30 10 nodC (.slice B ks.length dB) ks, hAll (hkN m w0) ks]) hSc fun _ _ h => ⟨ks, ?_⟩
            have e1 : (ks.map (·.x)).length = ks.length := List.length_map ..
            show (Hp.seps [_, Hp.row 30 10 nodC (.slice B (ks.map (·.x)).length dB) ks, _]).H _ _
            rw [e1]
            exact h
          · have HE : As (nodeF L (m + 1) x d op n = .err cd) := ⟨by rw [HE3.out, HGe.out hc]⟩
            refine bodyPost_ret (v := .agg #[.int .i64 x.f0, .int .i64 x.f1, .int .i64 x.f2, .string x.f3, .int .i64 x.f4.f0, .int .i64 x.f4.f1, .string x.f4.f2, .slice A7 x.f4.f3.length c7, .slice B ks.length dB, .slice A9 x.f6.length c9]) (by simp [results, Try.results22, go_sem, z0, z1, z2, z3, z4, z5, z6, z7, z8, z9]) rfl ⟨⟨0, { x with f5 := ks.map (·.x) }, A7, c7, B, dB, A9, c9⟩, O', oc', N', by simp only [List.length_map], .inl ⟨cd, HE.out, hc, hSa.tail.tail⟩⟩
theorem rin_all : ∀ m, RDo m
  | 0 => fun _ _ _ _ _ _ _ _ _ _ _ _ _ _ _ _ _ _ _ _ _ _ _ _ _ _ h _ => absurd rfl h
  | m + 1 => fun w0 A c L hL hLl x A7 c7 A8 c8 A9 c9 d n op w lst O oc P hN hz hd hn hop hres hS => by
    by_cases hk : x.f0 = 10
    · exact rin_use m (rin_all m) w0 A c L hL hLl x A7 c7 A8 c8 A9 c9 d n op w lst O oc P hk hd hn hop hres hS
    · exact rin_node m (rin_all m) w0 A c L hL hLl x A7 c7 A8 c8 A9 c9 d n op w lst O oc P hk hN hz hd hn hop hres hS
end Go.Proofs.Ytlkkibeoobognaa.OpenInlineTrees
