/- FlatMakes: the law's walk. -/
import Derived.Test.YtfgpdpccfpilaaaKidsFlatOrder
import Derived.Test.YtfgpdpccfpilaaaAliveFlatOrder
import Derived.Test.YtfgpdpccfpilaaaRmFlatOrder
import Derived.Test.YtfgpdpccfpilaaaBk3FlatOrder
set_option linter.unusedVariables false
set_option linter.unusedSimpArgs false
namespace Go.Proofs.Ytfgpdpccfpilaaa.OpenFlatOrder
open Go.RowKit Go.Deep
open Go.Proofs.YtfgpdpccfpilaaaW.PrintWords Go.Proofs.YtfgpdpccfpilaaaW.PrintLast Go.Proofs.YtfgpdpccfpilaaaW.PrintMore Go.Proofs.Ytfgpdpccfpilaaa.PFlatOrder
mutual
theorem fl_sz : ∀ (x : S27) (p : Int) (b : Nat) (y : S39), y ∈ fl x p b → szE y.f6 ≤ szN x ∧ szEs y.f7 ≤ szN x
  | ⟨a0, a1, a2, s3, e, kids, ws⟩, p, b, y, h => by
    rw [fl, List.mem_cons] at h
    rw [szN]
    rcases h with rfl | h
    · simp only; omega
    · have := fls_sz kids b (b + 1) y h
      omega
theorem fls_sz : ∀ (xs : List S27) (p b : Nat) (y : S39), y ∈ fls xs p b → szE y.f6 ≤ szNs xs ∧ szEs y.f7 ≤ szNs xs
  | [], p, b, y, h => by rw [fls] at h; simp at h
  | x :: xs, p, b, y, h => by
    rw [fls, List.mem_append] at h
    rw [szNs]
    rcases h with h | h
    · have := fl_sz x p b y h; omega
    · have := fls_sz xs p _ y h; omega
end
set_option maxRecDepth 100000 in
set_option maxHeartbeats 12800000 in
theorem rmake_does (w : World) (x : S27) (A7 : Option Addr) (c7 : Nat) (A8 : Option Addr) (c8 : Nat) (A9 : Option Addr) (c9 : Nat) (hsz : szN x ≤ 1048576) (hN : NodeIn w x A7 c7 A8 c8 A9 c9) :
    Calls Try.prog 13 #[nodeV x A7 c7 A8 c8 A9 c9] w fun e w' => ∃ A' c', e = .returned (.slice A' (lay x (-1) []).length c') ∧ (lay x (-1) []).length ≤ c' ∧ k39.C w' A' (lay x (-1) []).length (lay x (-1) []) ∧ Below w.heap.size w w' := by
  have hcs := cnt_szN x
  have HN := As.mk hN
  have hS := At.start0 (Below.refl w.heap.size w)
  obtain ⟨L, hL⟩ : ∃ L, L = lay x (-1) [] := ⟨_, rfl⟩
  have HRF := As.mk (fun (V : World) (l : List Hp) (hS : At (fun _ => False) w V (Hp.seps (Hp.row 39 11 encW (.slice none 0 0) ([] : List Fw) :: l))) => rf_all 1048576 w x A7 c7 A8 c8 A9 c9 V (.slice none 0 0) [] l (-1) hsz hN (by simp only [List.length_nil]; omega) (fun o ho => by simp at ho) hS)
  simp only [List.map_nil] at HRF
  rw [← hL] at HRF ⊢
  clear hL hN hsz hcs
  obtain ⟨a0, a1, a2, s3, ⟨e0, e1, e2, e3⟩, kids, ws⟩ := x
  unfold nodeV at HRF ⊢
  simp only at HRF ⊢
  have hS := hS.alloc #[.int .i64 a0, .int .i64 a1, .int .i64 a2, .string s3, .int .i64 e0, .int .i64 e1, .string e2, .slice A7 e3.length c7, .slice A8 kids.length c8, .slice A9 ws.length c9] 27
  obtain ⟨q0, hq0⟩ : ∃ q, q = w.heap.size := ⟨_, rfl⟩
  obtain ⟨W0, hW0⟩ : ∃ V, V = w.alloc (.cells #[.int .i64 a0, .int .i64 a1, .int .i64 a2, .string s3, .int .i64 e0, .int .i64 e1, .string e2, .slice A7 e3.length c7, .slice A8 kids.length c8, .slice A9 ws.length c9] 27) := ⟨_, rfl⟩
  rw [← hq0, ← hW0] at hS
  have Hq : As (w.alloc (.cells #[.int .i64 a0, .int .i64 a1, .int .i64 a2, .string s3, .int .i64 e0, .int .i64 e1, .string e2, .slice A7 e3.length c7, .slice A8 kids.length c8, .slice A9 ws.length c9] 27) = W0 ∧ w.heap.size = q0) := ⟨hW0.symm, hq0.symm⟩
  clear hq0 hW0
  have hS2 := hS.nilRow 39 11 encW
  have p0 := (hS.cellAt 0 rfl 0).trans rfl
  have p1 := (hS.cellAt 0 rfl 1).trans rfl
  have p2 := (hS.cellAt 0 rfl 2).trans rfl
  have p3 := (hS.cellAt 0 rfl 3).trans rfl
  have p4 := (hS.cellAt 0 rfl 4).trans rfl
  have p5 := (hS.cellAt 0 rfl 5).trans rfl
  have p6 := (hS.cellAt 0 rfl 6).trans rfl
  have p7 := (hS.cellAt 0 rfl 7).trans rfl
  have p8 := (hS.cellAt 0 rfl 8).trans rfl
  have p9 := (hS.cellAt 0 rfl 9).trans rfl
  go_enter Try.func13, Try.ntmps13
  go_upto_region 1 with fail
  rw [Hq.out.1, Hq.out.2]
  clear Hq
  go_wp2_with fail
  refine (HRF.out _ _ hS2).mono ?_
  rintro e w1 ⟨v', rs', rfl, hm, hg, hS3⟩
  obtain ⟨A', c', he, hc, hC⟩ := fw_C (hS3.rowAt 0 rfl) (fun o ho => (hg o ho).below hS3.bl)
  have hlen : rs'.length = L.length := by rw [← hm, List.length_map]
  rw [hm] at hC
  subst he
  rw [hlen] at hc ⊢
  have HX := As.mk (⟨hc, hC, hS3.bl⟩ : _ ∧ _ ∧ _)
  clear hm hg hS3 hc hC hlen HRF HN
  go_wp2_with fail
  go_ret
  exact ⟨A', c', rfl, HX.out.1, HX.out.2.1, HX.out.2.2⟩
set_option maxRecDepth 100000 in
set_option maxHeartbeats 25600000 in
theorem makes_walk (v : Value) (x : S27) (w : World) (h : ∃ cs, v = .agg cs ∧ k27.K w x cs.toList ∧ szN x ≤ 1048576) : Calls Try.prog 3 #[v] w fun e w' => e = .returned (.bool true) ∧ Below w.heap.size w w' := by
  obtain ⟨cs, rfl, hK, hs⟩ := h
  obtain ⟨A7, c7, A8, c8, A9, c9, he, l7, g7, l8, g8, l9, g9⟩ := k27_open hK
  obtain ⟨csl⟩ := cs
  simp only at he
  subst he
  have hN : NodeIn w x A7 c7 A8 c8 A9 c9 := ⟨l7, g7, l8, g8, l9, g9⟩
  obtain ⟨W, hW⟩ : ∃ W, W = w.alloc (.cells #[.int .i64 x.f0, .int .i64 x.f1, .int .i64 x.f2, .string x.f3, .int .i64 x.f4.f0, .int .i64 x.f4.f1, .string x.f4.f2, .slice A7 x.f4.f3.length c7, .slice A8 x.f5.length c8, .slice A9 x.f6.length c9] 27) := ⟨_, rfl⟩
  obtain ⟨p, hp⟩ : ∃ p, p = w.heap.size := ⟨_, rfl⟩
  have hbW : Below w.heap.size w W := by rw [hW]; exact (Below.refl _ _).alloc (Nat.le_refl _) _
  have hpb : W.heap[p]? = some (.cells #[.int .i64 x.f0, .int .i64 x.f1, .int .i64 x.f2, .string x.f3, .int .i64 x.f4.f0, .int .i64 x.f4.f1, .string x.f4.f2, .slice A7 x.f4.f3.length c7, .slice A8 x.f5.length c8, .slice A9 x.f6.length c9] 27 (0, 0)) := by rw [hW, hp]; exact ((At.start0 (Below.refl w.heap.size w)).alloc _ 27).blkAt 0 rfl
  have hpl := blk_lt hpb
  have HPb := As.mk (fun (V : World) (hb : Below W.heap.size W V) => pcells ((hb.block p hpl).trans hpb))
  have HBW := As.mk hbW
  have HNV := As.mk (fun (V : World) (hb : Below W.heap.size W V) => hN.below (hbW.trans (Below.mono hb hbW.size)))
  have HBig := As.mk (fun (V : World) (hb : Below W.heap.size W V) => big_does x hs A7 c7 A8 c8 A9 c9 V (HNV.out V hb))
  have HCnt := As.mk (fun (V : World) (hb : Below W.heap.size W V) => count_does x hs A7 c7 A8 c8 A9 c9 V (HNV.out V hb))
  have HMk := As.mk (fun (V : World) (hb : Below W.heap.size W V) => make_does V x A7 c7 A8 c8 A9 c9 (by omega) (HNV.out V hb))
  have HRm := As.mk (fun (V : World) (hb : Below W.heap.size W V) => rmake_does V x A7 c7 A8 c8 A9 c9 hs (HNV.out V hb))
  have HSm := As.mk (fun (V : World) (hb : Below W.heap.size W V) (B7 : Option Addr) (d7 : Nat) (B8 : Option Addr) (d8 : Nat) (B9 : Option Addr) (d9 : Nat) (h2 : NodeIn V x B7 d7 B8 d8 B9 d9) => samen_all 1048576 x A7 c7 A8 c8 A9 c9 B7 d7 B8 d8 B9 d9 V hs (HNV.out V hb) h2)
  obtain ⟨L, hL⟩ : ∃ L, L = lay x (-1) [] := ⟨_, rfl⟩
  have hll : L.length = cntN x := by rw [hL, lay_len]; simp
  have hLf : L = fl x (-1) 0 := by rw [hL, lay_eq]; rfl
  have HBk : As (backB L = some x ∧ ∀ y ∈ L, szE y.f6 ≤ 2097152 ∧ szEs y.f7 ≤ 2097152) := ⟨by
    rw [hLf]
    refine ⟨back_lay x, fun y hy => ?_⟩
    have := fl_sz x (-1) 0 y hy
    omega⟩
  have hcs := cnt_szN x
  have HLn : As (L.length ≤ 1048576) := ⟨by omega⟩
  rw [← hL] at HMk HRm
  rw [← hll] at HCnt
  obtain ⟨bg, hbg⟩ : ∃ bg, bg = bigN x 0 := ⟨_, rfl⟩
  rw [← hbg] at HBig
  have HW := As.mk (⟨hW.symm, hp.symm⟩ : _ ∧ _)
  unfold nodeV at HBig HCnt HMk HRm HSm
  obtain ⟨p0, p1, p2, p3, p4, p5, p6, p7, p8, p9⟩ := HPb.out W (Below.refl _ _)
  clear hK hs l7 g7 l8 g8 l9 g9 hN hW hp hbW hpb hpl hL hll hcs hbg HNV hLf
  go_enter Try.func3, Try.ntmps3
  go_upto_region 1 with fail
  rw [HW.out.1, HW.out.2]
  clear HW
  go_wp2_with fail
  refine (alive_does _).mono ?_
  rintro e w1 ⟨rfl, hb⟩
  have HB1 := As.mk hb
  clear hb p0 p1 p2 p3 p4 p5 p6 p7 p8 p9
  obtain ⟨p0, p1, p2, p3, p4, p5, p6, p7, p8, p9⟩ := HPb.out w1 HB1.out
  go_wp2_with fail
  refine (HBig.out w1 HB1.out).mono ?_
  rintro e w2 ⟨rfl, hb⟩
  have HB2 := As.mk (HB1.out.trans (Below.mono hb HB1.out.size))
  clear hb p0 p1 p2 p3 p4 p5 p6 p7 p8 p9
  obtain ⟨p0, p1, p2, p3, p4, p5, p6, p7, p8, p9⟩ := HPb.out w2 HB2.out
  cases bg with
  | true =>
    go_wp2_with fail
    go_ret
    exact ⟨rfl, HBW.out.trans (Below.mono HB2.out HBW.out.size)⟩
  | false =>
    go_wp2_with fail
    refine (HCnt.out w2 HB2.out).mono ?_
    rintro e w3 ⟨rfl, hb⟩
    have HB3 := As.mk (HB2.out.trans (Below.mono hb HB2.out.size))
    clear hb p0 p1 p2 p3 p4 p5 p6 p7 p8 p9
    obtain ⟨p0, p1, p2, p3, p4, p5, p6, p7, p8, p9⟩ := HPb.out w3 HB3.out
    by_cases h300 : (300 : Int) < (L.length : Int)
    · go_wp2_with fail
      go_ret
      exact ⟨rfl, HBW.out.trans (Below.mono HB3.out HBW.out.size)⟩
    · have H300 := As.mk h300
      go_wp2_with fail
      refine (HMk.out w3 HB3.out).mono ?_
      rintro e w4 ⟨A, c, rfl, hR, hb⟩
      have HB4 := As.mk (HB3.out.trans (Below.mono hb HB3.out.size))
      clear hb p0 p1 p2 p3 p4 p5 p6 p7 p8 p9
      obtain ⟨hn1, hn2, hC⟩ := Kd.R_reads' hR
      have HC := As.mk (fun (V : World) (hb : Below w4.heap.size w4 V) => Kd.C_below hC hb)
      have HLc := As.mk hn2
      have HBd := As.mk (back_does w4 A c L (by have := H300.out; omega) hn2 hC HBk.out.2)
      clear hR hn1 hn2 hC h300
      go_wp2_with fail
      refine HBd.out.mono ?_
      rintro e w5 (⟨hbad, _, _⟩ | ⟨x', cm, hx', rfl, hS5⟩)
      · rw [HBk.out.1] at hbad
        cases hbad
      · rw [HBk.out.1] at hx'
        obtain rfl := Option.some.inj hx'
        clear hx'
        obtain ⟨Fm, hA, _, _⟩ := hS5.out
        obtain ⟨F1, F2, hM, _, _, _⟩ := hA
        obtain ⟨B7, d7, B8, d8, B9, d9, hcm, m7, k7, m8, k8, m9, k9⟩ := k27_open (k27.K_of_M hM.1)
        have HNm : As (NodeIn w5 x B7 d7 B8 d8 B9 d9) := ⟨⟨m7, k7, m8, k8, m9, k9⟩⟩
        subst hcm
        have HB5 := As.mk hS5.bl
        clear hM hS5 m7 k7 m8 k8 m9 k9
        obtain ⟨z0, z1, z2, z3, ⟨z4, z5, z6, z7⟩, z8, z9⟩ := x
        simp only at HPb HRm HSm
        have hS := (At.start0 (Below.refl w5.heap.size w5))
        have hS := hS.alloc #[.int .i64 z0, .int .i64 z1, .int .i64 z2, .string z3, .int .i64 z4, .int .i64 z5, .string z6, .slice B7 z7.length d7, .slice B8 z8.length d8, .slice B9 z9.length d9] 27
        obtain ⟨q0, hq0⟩ : ∃ q, q = w5.heap.size := ⟨_, rfl⟩
        obtain ⟨V0, hV0⟩ : ∃ V, V = w5.alloc (.cells #[.int .i64 z0, .int .i64 z1, .int .i64 z2, .string z3, .int .i64 z4, .int .i64 z5, .string z6, .slice B7 z7.length d7, .slice B8 z8.length d8, .slice B9 z9.length d9] 27) := ⟨_, rfl⟩
        rw [← hq0, ← hV0] at hS
        have Hq : As (w5.alloc (.cells #[.int .i64 z0, .int .i64 z1, .int .i64 z2, .string z3, .int .i64 z4, .int .i64 z5, .string z6, .slice B7 z7.length d7, .slice B8 z8.length d8, .slice B9 z9.length d9] 27) = V0 ∧ w5.heap.size = q0) := ⟨hV0.symm, hq0.symm⟩
        clear hq0 hV0
        go_upto_region 7 with fail
        rw [Hq.out.1, Hq.out.2]
        clear Hq
        have HB6 : As (Below W.heap.size W V0) := ⟨(HB4.out.trans (Below.mono HB5.out HB4.out.size)).trans (Below.mono hS.bl (Nat.le_trans HB4.out.size HB5.out.size))⟩
        obtain ⟨p0, p1, p2, p3, p4, p5, p6, p7, p8, p9⟩ := HPb.out V0 HB6.out
        go_wp2_with fail
        refine (HRm.out V0 HB6.out).mono ?_
        rintro e w7 ⟨A2, c2, rfl, h2c, h2C, hb⟩
        have hS7 := hS.below hb
        have HB7 := As.mk (HB6.out.trans (Below.mono hb HB6.out.size))
        have HSf := As.mk (samef_does L (by have := HLn.out; omega) A A2 c c2 w7 (HC.out w7 (HB5.out.trans (Below.mono hS7.bl HB5.out.size))) h2C HLc.out h2c)
        clear hb h2c h2C p0 p1 p2 p3 p4 p5 p6 p7 p8 p9
        go_wp2_with fail
        refine HSf.out.mono ?_
        rintro e w8 ⟨rfl, hb⟩
        have hS8 := hS7.below hb
        have HB8 := As.mk (HB7.out.trans (Below.mono hb HB7.out.size))
        have HSn := As.mk (HSm.out w8 HB8.out B7 d7 B8 d8 B9 d9 (HNm.out.below hS8.bl))
        clear hb hS hS7
        obtain ⟨p0, p1, p2, p3, p4, p5, p6, p7, p8, p9⟩ := HPb.out w8 HB8.out
        have q0 := (hS8.cellAt 0 rfl 0).trans rfl
        have q1 := (hS8.cellAt 0 rfl 1).trans rfl
        have q2 := (hS8.cellAt 0 rfl 2).trans rfl
        have q3 := (hS8.cellAt 0 rfl 3).trans rfl
        have q4 := (hS8.cellAt 0 rfl 4).trans rfl
        have q5 := (hS8.cellAt 0 rfl 5).trans rfl
        have q6 := (hS8.cellAt 0 rfl 6).trans rfl
        have q7 := (hS8.cellAt 0 rfl 7).trans rfl
        have q8 := (hS8.cellAt 0 rfl 8).trans rfl
        have q9 := (hS8.cellAt 0 rfl 9).trans rfl
        go_wp2_with fail
        refine HSn.out.mono ?_
        rintro e w9 ⟨rfl, hb⟩
        have HB9 := As.mk (HB8.out.trans (Below.mono hb HB8.out.size))
        clear hb
        go_wp2_with fail
        go_ret
        exact ⟨rfl, HBW.out.trans (Below.mono HB9.out HBW.out.size)⟩
end Go.Proofs.Ytfgpdpccfpilaaa.OpenFlatOrder
