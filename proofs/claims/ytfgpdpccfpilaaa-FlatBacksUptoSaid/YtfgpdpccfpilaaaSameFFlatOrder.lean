/- SameFlats: true of two lists that are one. -/
import Derived.Test.YtfgpdpccfpilaaaSameNFlatOrder
set_option linter.unusedVariables false
namespace Go.Proofs.Ytfgpdpccfpilaaa.OpenFlatOrder
open Go.RowKit Go.Deep
open Go.Proofs.YtfgpdpccfpilaaaW.PrintWords Go.Proofs.YtfgpdpccfpilaaaW.PrintLast Go.Proofs.YtfgpdpccfpilaaaW.PrintMore Go.Proofs.Ytfgpdpccfpilaaa.PFlatOrder
set_option maxRecDepth 100000 in
set_option maxHeartbeats 12800000 in
theorem samef_does (L : List S39) (hlen : L.length ≤ 2097152) (A1 A2 : Option Addr) (c1 c2 : Nat) (w : World) (h1 : k39.C w A1 L.length L) (h2 : k39.C w A2 L.length L) (hc1 : L.length ≤ c1) (hc2 : L.length ≤ c2) :
    Calls Try.prog 12 #[.slice A1 L.length c1, .slice A2 L.length c2] w fun e w' => e = .returned (.bool true) ∧ Below w.heap.size w w' := by
  have HC := As.mk (fun (W : World) (hb : Below w.heap.size w W) => (⟨Kd.C_below h1 hb, Kd.C_below h2 hb⟩ : k39.C W A1 L.length L ∧ k39.C W A2 L.length L))
  have hB := Below.refl w.heap.size w
  clear h1 h2
  go_enter Try.func12, Try.ntmps12
  go_wp2_with fail
  go_loopg [5] L.length (fun g0 iv wr => ∃ k : Nat, k + g0 = L.length ∧ iv = .int .i64 k ∧ As (Below w.heap.size w wr))
  case atStart => exact ⟨0, by omega, rfl, ⟨hB⟩⟩
  case round =>
    clear hB
    obtain ⟨k, hk, rfl, HB⟩ := hrel
    by_cases hlt : k < L.length
    · obtain ⟨x, hx⟩ : ∃ x, L[k]? = some x := ⟨_, List.getElem?_eq_getElem hlt⟩
      have HK := As.mk hk
      obtain ⟨b, off, cs, rfl, hbl, _, hcK, hcell⟩ := C_lit (HC.out _ HB.out).1 (by decide) x hx
      obtain ⟨A9, c9, A10, c10, rfl, l9, g9, l10, g10⟩ := k39_open hcK
      obtain ⟨b', off', cs', rfl, hbl', _, hcK', hcell'⟩ := C_lit (HC.out _ HB.out).2 (by decide) x hx
      obtain ⟨B9, d9, B10, d10, rfl, m9, f9, m10, f10⟩ := k39_open hcK'
      have u0 := hcell 0 _ rfl
      have u1 := hcell 1 _ rfl
      have u2 := hcell 2 _ rfl
      have u3 := hcell 3 _ rfl
      have u4 := hcell 4 _ rfl
      have u5 := hcell 5 _ rfl
      have u6 := hcell 6 _ rfl
      have u7 := hcell 7 _ rfl
      have u8 := hcell 8 _ rfl
      have u9 := hcell 9 _ rfl
      have u10 := hcell 10 _ rfl
      have v0 := hcell' 0 _ rfl
      have v1 := hcell' 1 _ rfl
      have v2 := hcell' 2 _ rfl
      have v3 := hcell' 3 _ rfl
      have v4 := hcell' 4 _ rfl
      have v5 := hcell' 5 _ rfl
      have v6 := hcell' 6 _ rfl
      have v7 := hcell' 7 _ rfl
      have v8 := hcell' 8 _ rfl
      have v9 := hcell' 9 _ rfl
      have v10 := hcell' 10 _ rfl
      simp only [show k39.sz = 11 from rfl, Nat.add_zero] at u0 u1 u2 u3 u4 u5 u6 u7 u8 u9 u10 v0 v1 v2 v3 v4 v5 v6 v7 v8 v9 v10
      obtain ⟨a0, a1, a2, a3, a4, a5, ⟨e0, e1, e2, e3⟩, ws⟩ := x
      simp only at u0 u1 u2 u3 u4 u5 u6 u7 u8 u9 u10 v0 v1 v2 v3 v4 v5 v6 v7 v8 v9 v10 l9 g9 l10 g10 m9 f9 m10 f10
      have HE := As.mk (fun (V : World) (hb : Below wr.heap.size wr V) => (same_all (szE ⟨e0, e1, e2, e3⟩)).2 ⟨e0, e1, e2, e3⟩ A9 B9 c9 d9 V (Nat.le_refl _) (Kd.C_below g9 hb) (Kd.C_below f9 hb) l9 m9)
      have HWs := As.mk (fun (V : World) (hb : Below wr.heap.size wr V) => (same_all (szEs ws)).1 ws A10 B10 c10 d10 V (Nat.le_refl _) (Kd.C_below g10 hb) (Kd.C_below f10 hb) l10 m10)
      have hS := ((At.start0 (Below.refl wr.heap.size wr)).alloc #[.int .i64 a0, .int .i64 a1, .int .i64 a2, .int .i64 a3, .int .i64 a4, .string a5, .int .i64 e0, .int .i64 e1, .string e2, .slice A9 e3.length c9, .slice A10 ws.length c10] 39).alloc #[.int .i64 a0, .int .i64 a1, .int .i64 a2, .int .i64 a3, .int .i64 a4, .string a5, .int .i64 e0, .int .i64 e1, .string e2, .slice B9 e3.length d9, .slice B10 ws.length d10] 39
      have hin : (k : Int) < (L.length : Int) := by omega
      clear hk hx hcell hcell' g9 g10 f9 f10 hcK hcK'
      obtain ⟨W, hW⟩ : ∃ W, W = (wr.alloc (.cells #[.int .i64 a0, .int .i64 a1, .int .i64 a2, .int .i64 a3, .int .i64 a4, .string a5, .int .i64 e0, .int .i64 e1, .string e2, .slice A9 e3.length c9, .slice A10 ws.length c10] 39)).alloc (.cells #[.int .i64 a0, .int .i64 a1, .int .i64 a2, .int .i64 a3, .int .i64 a4, .string a5, .int .i64 e0, .int .i64 e1, .string e2, .slice B9 e3.length d9, .slice B10 ws.length d10] 39) := ⟨_, rfl⟩
      obtain ⟨p, hp⟩ : ∃ p, p = wr.heap.size := ⟨_, rfl⟩
      obtain ⟨q, hq⟩ : ∃ q, q = wr.heap.size + 1 := ⟨_, rfl⟩
      have hS2 : At (fun _ => False) wr W (Hp.seps [Hp.blk q #[.int .i64 a0, .int .i64 a1, .int .i64 a2, .int .i64 a3, .int .i64 a4, .string a5, .int .i64 e0, .int .i64 e1, .string e2, .slice B9 e3.length d9, .slice B10 ws.length d10] 39, Hp.blk p #[.int .i64 a0, .int .i64 a1, .int .i64 a2, .int .i64 a3, .int .i64 a4, .string a5, .int .i64 e0, .int .i64 e1, .string e2, .slice A9 e3.length c9, .slice A10 ws.length c10] 39]) := by
        rw [hW, hp, hq]
        simpa using hS
      have HN := As.mk (⟨hW.symm, hp.symm, hq.symm⟩ : _ ∧ _ ∧ _)
      clear hS hW hp hq
      go_wp2_with fail
      rw [HN.out.1, HN.out.2.2, HN.out.2.1]
      clear HN
      refine (hS2.beside (HE.out _ hS2.bl)).mono ?_
      rintro e w1 ⟨rfl, hS3⟩
      clear hS2 u0 u1 u2 u3 u4 u5 u6 u7 u8 u9 u10 v0 v1 v2 v3 v4 v5 v6 v7 v8 v9 v10
      have p0 := (hS3.cellAt 1 rfl 0).trans rfl
      have p1 := (hS3.cellAt 1 rfl 1).trans rfl
      have p2 := (hS3.cellAt 1 rfl 2).trans rfl
      have p3 := (hS3.cellAt 1 rfl 3).trans rfl
      have p4 := (hS3.cellAt 1 rfl 4).trans rfl
      have p5 := (hS3.cellAt 1 rfl 5).trans rfl
      have p6 := (hS3.cellAt 1 rfl 6).trans rfl
      have p7 := (hS3.cellAt 1 rfl 7).trans rfl
      have p8 := (hS3.cellAt 1 rfl 8).trans rfl
      have p9 := (hS3.cellAt 1 rfl 9).trans rfl
      have p10 := (hS3.cellAt 1 rfl 10).trans rfl
      have q0 := (hS3.cellAt 0 rfl 0).trans rfl
      have q1 := (hS3.cellAt 0 rfl 1).trans rfl
      have q2 := (hS3.cellAt 0 rfl 2).trans rfl
      have q3 := (hS3.cellAt 0 rfl 3).trans rfl
      have q4 := (hS3.cellAt 0 rfl 4).trans rfl
      have q5 := (hS3.cellAt 0 rfl 5).trans rfl
      have q6 := (hS3.cellAt 0 rfl 6).trans rfl
      have q7 := (hS3.cellAt 0 rfl 7).trans rfl
      have q8 := (hS3.cellAt 0 rfl 8).trans rfl
      have q9 := (hS3.cellAt 0 rfl 9).trans rfl
      have q10 := (hS3.cellAt 0 rfl 10).trans rfl
      go_wp2_with fail
      refine (hS3.beside (HWs.out _ hS3.bl)).mono ?_
      rintro e w2 ⟨rfl, hS4⟩
      have HB4 := As.mk (HB.out.trans (Below.mono hS4.bl HB.out.size))
      clear hS3 hS4 p0 p1 p2 p3 p4 p5 p6 p7 p8 p9 p10 q0 q1 q2 q3 q4 q5 q6 q7 q8 q9 q10
      go_wp2_with fail
      go_roundg (gk - 1)
      case measure => have := HK.out; omega
      case rel => exact ⟨k + 1, by have := HK.out; omega, by go_num, HB4⟩
    · obtain rfl : k = L.length := by omega
      go_wp2_with fail
      go_ret
      exact ⟨rfl, HB.out⟩
end Go.Proofs.Ytfgpdpccfpilaaa.OpenFlatOrder
