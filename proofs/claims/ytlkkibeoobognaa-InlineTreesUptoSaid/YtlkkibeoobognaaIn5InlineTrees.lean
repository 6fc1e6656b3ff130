/- Tree: what it tells of any list of trees. No condition but bounded sizes. -/
import Derived.Test.YtlkkibeoobognaaIn4InlineTrees
set_option linter.unusedVariables false
set_option linter.unusedSimpArgs false
set_option maxRecDepth 100000
namespace Go.Proofs.Ytlkkibeoobognaa.OpenInlineTrees
open Go.RowKit Go.Deep
open Go.Proofs.YtlkkibeoobognaaW.PrintWords Go.Proofs.YtlkkibeoobognaaW.PrintLast Go.Proofs.YtlkkibeoobognaaW.PrintMore Go.Proofs.Ytlkkibeoobognaa.PInlineTrees
/-- A list literal of one element. -/
theorem At.kd_lit {α : Type} {F0 : Nat → Prop} {w0 W : World} {l : List Hp} {d : Kd α} {C : Hp} {p : α} {cs : List Value} (e : Nat) (hS : At F0 w0 W (Hp.seps (C :: l))) (hC : ∀ F, C.H W F → d.M W 0 F p cs) :
    At F0 w0 (W.alloc (.cells cs.toArray e)) (Hp.seps (hkd d e (.slice (some ⟨W.heap.size, 0, none⟩) 1 1) [p] :: l)) := by
  obtain ⟨F, ⟨FC, FL, hC0, hL, hd, hF2⟩, hF, hE⟩ := hS.out
  have hM := hC _ hC0
  have hlen := d.K_len (d.K_of_M hM)
  have hCl := Hp.lt _ hC0
  have hLl := Hp.lt _ hL
  have hsz : (W.alloc (.cells cs.toArray e)).heap.size = W.heap.size + 1 := by simp
  have hst : ∀ k, k < W.heap.size → (W.alloc (.cells cs.toArray e)).heap[k]? = W.heap[k]? := fun k hk => ((Below.refl W.heap.size W).alloc (Nat.le_refl _) _).block k hk
  refine ⟨fun k => (FC k ∨ k = W.heap.size) ∨ FL k, ⟨fun k => FC k ∨ k = W.heap.size, FL, ⟨⟨fun k hk => ?_, cs, ⟨?_, ?_⟩, ?_, ?_⟩, ?_⟩, ?_, ?_, fun _ => Iff.rfl⟩, ?_, hE.alloc _⟩
  · simp only [Value.ownBlock] at hk
    injection hk with hk
    exact .inr hk.symm
  · rw [hlen]; simp
  · exact .inr ⟨W.heap.size, 1, cs.toArray, rfl, Nat.zero_le _, heap_alloc_new W _, Nat.le_refl _, by simp [maxLen], by simp [hlen], by rw [List.length_singleton, Nat.one_mul, ← hlen]; simp⟩
  · rw [hlen]; simp
  · intro j q hj
    cases j with
    | zero =>
      obtain rfl : p = q := by simpa using hj
      rw [Nat.zero_mul, List.drop_zero, ← hlen, List.take_length]
      exact d.M_mono (fun k hk => ⟨.inl hk, fun he => by simp only [Value.ownBlock] at he; injection he with he; have := hCl k hk; omega⟩) (d.M_move (fun k hk => hst k (hCl k hk)) hM)
    | succ j => simp at hj
  · rintro k (hk | hk)
    · have := hCl k hk; rw [hsz]; omega
    · rw [hsz]; omega
  · exact Hp.move _ hL fun k hk => hst k (hLl k hk)
  · rintro k (hk | hk) h2
    · exact hd k hk h2
    · have := hLl k h2; omega
  · rintro k ((hk | hk) | hk)
    · exact hF k ((hF2 k).2 (.inl hk))
    · exact .inr (by rw [hk]; exact hE.size)
    · exact hF k ((hF2 k).2 (.inr hk))
theorem node_in {w : World} {o : Fr} (h : k30.K w o.x (nodC o)) : NodeIn w o.x o.A o.c o.B o.d o.C o.q := by
  obtain ⟨A7, c7, A8, c8, A9, c9, he, l7, g7, l8, g8, l9, g9⟩ := k30_open h
  unfold nodC at he
  injection he with _ he; injection he with _ he; injection he with _ he; injection he with _ he; injection he with _ he; injection he with _ he; injection he with _ he
  injection he with e7 he; injection he with e8 he; injection he with e9 he
  injection e7 with e7 _ e7c
  injection e8 with e8 _ e8c
  injection e9 with e9 _ e9c
  rw [e7, e8, e9, e7c, e8c, e9c]
  exact ⟨l7, g7, l8, g8, l9, g9⟩
theorem At.hkm_K {α : Type} {F0 : Nat → Prop} {w0 w : World} {l : List Hp} {d : Kd α} {p : α} {cs : List Value} (n : Nat) (h : At F0 w0 w (Hp.seps l)) (ha : l[n]? = some (hkm d p cs)) : d.K w p cs := by
  obtain ⟨F, hA, _⟩ := (At.front n h ha).out
  obtain ⟨F1, F2, h1, _⟩ := hA
  exact d.K_of_M h1.1
theorem zN_in (w : World) : NodeIn w zN none 0 none 0 none 0 := ⟨Nat.le_refl _, ⟨rfl, by simp [zN, zE], fun h => absurd h (by simp [zN, zE])⟩, Nat.le_refl _, ⟨rfl, by simp [zN, zE], fun h => absurd h (by simp [zN, zE])⟩, Nat.le_refl _, ⟨rfl, by simp [zN, zE], fun h => absurd h (by simp [zN, zE])⟩⟩
def TreeTold (w : World) (res : Res) (e : Ending) (w' : World) : Prop := ∃ (o : Fr) (cd : Int), e = .returned (.tuple #[nodeV o.x o.A o.c o.B o.d o.C o.q, .int .i64 cd]) ∧ Below w.heap.size w w' ∧ NodeIn w' o.x o.A o.c o.B o.d o.C o.q ∧ ((cd ≠ 0 ∧ res = .err cd ∧ o.x = zN) ∨ (cd = 0 ∧ ∃ n, n ≤ 4000 ∧ res = .ok o.x n))
set_option maxHeartbeats 6400000 in
theorem tree_does (m : Nat) (hm : m ≤ 100000) (w : World) (A : Option Addr) (c : Nat) (L : List S32) (hL : Lr w A c L) (s : ByteArray) (hres : usedG (nodeF L m) L s 1 [] 0 ≠ .out) :
    Calls Try.prog 10 #[.slice A L.length c, .string s] w (TreeTold w (usedG (nodeF L m) L s 1 [] 0)) := by
  have hS := At.start0 (Below.refl w.heap.size w)
  have HU := As.mk ((put_all m).1 w A c L hL)
  have HRes := As.mk hres
  have HM := As.mk hm
  clear hres hm hL
  have hS := hS.alloc #[.int .i64 0, .int .i64 0, .int .i64 0, .string ⟨#[]⟩, .int .i64 0, .int .i64 0, .string ⟨#[]⟩, .slice none 0 0, .slice none 0 0, .slice none 0 0] 30
  obtain ⟨q0, hq0⟩ : ∃ q, q = w.heap.size := ⟨_, rfl⟩
  obtain ⟨W0, hW0⟩ : ∃ V, V = w.alloc (.cells #[.int .i64 0, .int .i64 0, .int .i64 0, .string ⟨#[]⟩, .int .i64 0, .int .i64 0, .string ⟨#[]⟩, .slice none 0 0, .slice none 0 0, .slice none 0 0] 30) := ⟨_, rfl⟩
  rw [← hq0, ← hW0] at hS
  have hS := hS.alloc #[.slice A L.length c, .slice none 0 0, .int .i64 0] 59
  obtain ⟨q1, hq1⟩ : ∃ q, q = W0.heap.size := ⟨_, rfl⟩
  obtain ⟨W1, hW1⟩ : ∃ V, V = W0.alloc (.cells #[.slice A L.length c, .slice none 0 0, .int .i64 0] 59) := ⟨_, rfl⟩
  rw [← hq1, ← hW1] at hS
  have Hq : As (w.alloc (.cells #[.int .i64 0, .int .i64 0, .int .i64 0, .string ⟨#[]⟩, .int .i64 0, .int .i64 0, .string ⟨#[]⟩, .slice none 0 0, .slice none 0 0, .slice none 0 0] 30) = W0 ∧ w.heap.size = q0 ∧ W0.alloc (.cells #[.slice A L.length c, .slice none 0 0, .int .i64 0] 59) = W1 ∧ q0 + 1 = q1) := ⟨hW0.symm, hq0.symm, hW1.symm, by rw [hq1, hW0, hq0]; simp⟩
  clear hq0 hW0 hq1 hW1
  have hS0 : At (fun _ => False) w W1 (Hp.seps (Hp.blk q1 #[.slice A L.length c, .slice none 0 0, .int .i64 0] 59 :: Hp.row 9 1 encS (.slice none 0 0) ([] : List ByteArray) :: [Hp.blk q0 #[.int .i64 0, .int .i64 0, .int .i64 0, .string ⟨#[]⟩, .int .i64 0, .int .i64 0, .string ⟨#[]⟩, .slice none 0 0, .slice none 0 0, .slice none 0 0] 30])) := At.front 1 (hS.nilRow 9 1 encS) rfl
  have HCC := As.mk (HU.out s 1 0 [] W1 _ none 0 q1 (by omega) (by omega) (by have := HM.out; simp only [List.length_nil]; omega) HRes.out hS0)
  clear hS0 hS
  go_enter Try.func10, Try.ntmps10
  go_upto_region 2 with fail
  rw [Hq.out.1, Hq.out.2.1, Hq.out.2.2.1, Hq.out.2.2.2]
  clear Hq
  go_wp2_with fail
  refine HCC.out.mono ?_
  rintro e w4 ⟨O2, oc2, n', (⟨cd, hr, hcd, rfl, hS6⟩ | ⟨o, hr, hn', rfl, hS6⟩)⟩
  · have HX := As.mk (⟨hr, hcd⟩ : _ ∧ _)
    clear hr hcd HCC
    have z0 := (hS6.cellAt 2 rfl 0).trans rfl
    have z1 := (hS6.cellAt 2 rfl 1).trans rfl
    have z2 := (hS6.cellAt 2 rfl 2).trans rfl
    have z3 := (hS6.cellAt 2 rfl 3).trans rfl
    have z4 := (hS6.cellAt 2 rfl 4).trans rfl
    have z5 := (hS6.cellAt 2 rfl 5).trans rfl
    have z6 := (hS6.cellAt 2 rfl 6).trans rfl
    have z7 := (hS6.cellAt 2 rfl 7).trans rfl
    have z8 := (hS6.cellAt 2 rfl 8).trans rfl
    have z9 := (hS6.cellAt 2 rfl 9).trans rfl
    have zf0 := hS6.frozenAt 2 rfl 0
    have zf1 := hS6.frozenAt 2 rfl 1
    have zf2 := hS6.frozenAt 2 rfl 2
    have zf3 := hS6.frozenAt 2 rfl 3
    have zf4 := hS6.frozenAt 2 rfl 4
    have zf5 := hS6.frozenAt 2 rfl 5
    have zf6 := hS6.frozenAt 2 rfl 6
    have zf7 := hS6.frozenAt 2 rfl 7
    have zf8 := hS6.frozenAt 2 rfl 8
    have zf9 := hS6.frozenAt 2 rfl 9
    have zlt := hS6.ltAt 2 rfl
    go_wp2_with fail
    refine bodyPost_ret (v := .tuple #[.agg #[.int .i64 0, .int .i64 0, .int .i64 0, .string ⟨#[]⟩, .int .i64 0, .int .i64 0, .string ⟨#[]⟩, .slice none 0 0, .slice none 0 0, .slice none 0 0], .int .i64 cd]) (by simp [results, Try.results10, go_sem, z0, z1, z2, z3, z4, z5, z6, z7, z8, z9]) rfl ⟨⟨0, zN, none, 0, none, 0, none, 0⟩, cd, rfl, ?_, zN_in _, .inl ⟨HX.out.2, HX.out.1, rfl⟩⟩
    have hS9 := ((((((((((hS6.setBlkAt 2 rfl 0 (.int .i64 0)).setBlkAt 2 rfl 1 (.int .i64 0)).setBlkAt 2 rfl 2 (.int .i64 0)).setBlkAt 2 rfl 3 (.string ⟨#[]⟩)).setBlkAt 2 rfl 4 (.int .i64 0)).setBlkAt 2 rfl 5 (.int .i64 0)).setBlkAt 2 rfl 6 (.string ⟨#[]⟩)).setBlkAt 2 rfl 7 (.slice none 0 0)).setBlkAt 2 rfl 8 (.slice none 0 0)).setBlkAt 2 rfl 9 (.slice none 0 0))
    exact hS9.bl
  · have HX := As.mk (⟨hr, hn'⟩ : _ ∧ _)
    clear hr hn' HCC
    have z0 := (hS6.cellAt 3 rfl 0).trans rfl
    have z1 := (hS6.cellAt 3 rfl 1).trans rfl
    have z2 := (hS6.cellAt 3 rfl 2).trans rfl
    have z3 := (hS6.cellAt 3 rfl 3).trans rfl
    have z4 := (hS6.cellAt 3 rfl 4).trans rfl
    have z5 := (hS6.cellAt 3 rfl 5).trans rfl
    have z6 := (hS6.cellAt 3 rfl 6).trans rfl
    have z7 := (hS6.cellAt 3 rfl 7).trans rfl
    have z8 := (hS6.cellAt 3 rfl 8).trans rfl
    have z9 := (hS6.cellAt 3 rfl 9).trans rfl
    have zf0 := hS6.frozenAt 3 rfl 0
    have zf1 := hS6.frozenAt 3 rfl 1
    have zf2 := hS6.frozenAt 3 rfl 2
    have zf3 := hS6.frozenAt 3 rfl 3
    have zf4 := hS6.frozenAt 3 rfl 4
    have zf5 := hS6.frozenAt 3 rfl 5
    have zf6 := hS6.frozenAt 3 rfl 6
    have zf7 := hS6.frozenAt 3 rfl 7
    have zf8 := hS6.frozenAt 3 rfl 8
    have zf9 := hS6.frozenAt 3 rfl 9
    have zlt := hS6.ltAt 3 rfl
    go_wp2_with fail
    have hS9 := ((((((((((hS6.setBlkAt 3 rfl 0 (.int .i64 o.x.f0)).setBlkAt 3 rfl 1 (.int .i64 o.x.f1)).setBlkAt 3 rfl 2 (.int .i64 o.x.f2)).setBlkAt 3 rfl 3 (.string o.x.f3)).setBlkAt 3 rfl 4 (.int .i64 o.x.f4.f0)).setBlkAt 3 rfl 5 (.int .i64 o.x.f4.f1)).setBlkAt 3 rfl 6 (.string o.x.f4.f2)).setBlkAt 3 rfl 7 (.slice o.A o.x.f4.f3.length o.c)).setBlkAt 3 rfl 8 (.slice o.B o.x.f5.length o.d)).setBlkAt 3 rfl 9 (.slice o.C o.x.f6.length o.q))
    refine bodyPost_ret (v := .tuple #[.agg #[.int .i64 o.x.f0, .int .i64 o.x.f1, .int .i64 o.x.f2, .string o.x.f3, .int .i64 o.x.f4.f0, .int .i64 o.x.f4.f1, .string o.x.f4.f2, .slice o.A o.x.f4.f3.length o.c, .slice o.B o.x.f5.length o.d, .slice o.C o.x.f6.length o.q], .int .i64 0]) (by simp [results, Try.results10, go_sem, z0, z1, z2, z3, z4, z5, z6, z7, z8, z9]) rfl ⟨o, 0, rfl, hS9.bl, node_in (At.hkm_K 0 hS9 rfl), .inr ⟨rfl, n', HX.out.2, HX.out.1⟩⟩
end Go.Proofs.Ytlkkibeoobognaa.OpenInlineTrees
