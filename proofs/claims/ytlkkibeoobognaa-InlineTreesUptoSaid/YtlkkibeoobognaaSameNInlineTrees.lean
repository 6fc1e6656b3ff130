/- SameNode: true of two that are one. For trees of bounded size; no other condition. -/
import Derived.Test.YtlkkibeoobognaaSameInlineTrees
set_option linter.unusedVariables false
set_option maxRecDepth 100000
namespace Go.Proofs.Ytlkkibeoobognaa.OpenInlineTrees
open Go.RowKit Go.Deep
open Go.Proofs.YtlkkibeoobognaaW.PrintWords Go.Proofs.YtlkkibeoobognaaW.PrintLast Go.Proofs.YtlkkibeoobognaaW.PrintMore Go.Proofs.Ytlkkibeoobognaa.PInlineTrees
theorem len_szNs : ∀ l : List S30, l.length ≤ szNs l
  | [] => Nat.le_refl _
  | ⟨_, _, _, _, _, _, _⟩ :: l => by have := len_szNs l; simp only [szNs, szN, List.length_cons]; omega
theorem szN_mem : ∀ (l : List S30) (k : Nat) (x : S30), l[k]? = some x → szN x ≤ szNs l
  | [], k, x, h => by simp at h
  | y :: l, 0, x, h => by
    obtain rfl : y = x := by simpa using h
    simp only [szNs]; omega
  | y :: l, k + 1, x, h => by
    have := szN_mem l k x (by simpa using h)
    simp only [szNs]; omega
theorem szN_parts (x : S30) : szNs x.f5 + szEs x.f6 + szE x.f4 + 1 ≤ szN x := by
  obtain ⟨a, b, c, s, e, l, ws⟩ := x
  simp only [szN]
  omega
/-- A node's value. -/
def nodeV (x : S30) (A7 : Option Addr) (c7 : Nat) (A8 : Option Addr) (c8 : Nat) (A9 : Option Addr) (c9 : Nat) : Value :=
  .agg #[.int .i64 x.f0, .int .i64 x.f1, .int .i64 x.f2, .string x.f3, .int .i64 x.f4.f0, .int .i64 x.f4.f1, .string x.f4.f2, .slice A7 x.f4.f3.length c7, .slice A8 x.f5.length c8, .slice A9 x.f6.length c9]
/-- What lies behind it. -/
structure NodeIn (w : World) (x : S30) (A7 : Option Addr) (c7 : Nat) (A8 : Option Addr) (c8 : Nat) (A9 : Option Addr) (c9 : Nat) : Prop where
  l7 : x.f4.f3.length ≤ c7
  g7 : k27.C w A7 x.f4.f3.length x.f4.f3
  l8 : x.f5.length ≤ c8
  g8 : k30.C w A8 x.f5.length x.f5
  l9 : x.f6.length ≤ c9
  g9 : k27.C w A9 x.f6.length x.f6
theorem NodeIn.below {w w1 : World} {x : S30} {A7 A8 A9 : Option Addr} {c7 c8 c9 : Nat} (h : NodeIn w x A7 c7 A8 c8 A9 c9) (hb : Below w.heap.size w w1) : NodeIn w1 x A7 c7 A8 c8 A9 c9 :=
  ⟨h.l7, Kd.C_below h.g7 hb, h.l8, Kd.C_below h.g8 hb, h.l9, Kd.C_below h.g9 hb⟩
/-- A node that stands in a row. -/
theorem node_at {w : World} {A : Option Addr} {n k : Nat} {l : List S30} (h : k30.C w A n l) (x : S30) (hx : l[k]? = some x) : ∃ b off A7 c7 A8 c8 A9 c9, A = some ⟨b, off, none⟩ ∧ b < w.heap.size ∧ NodeIn w x A7 c7 A8 c8 A9 c9 ∧
    w.cell? ⟨b, off + k * 10, none⟩ = some (.int .i64 x.f0) ∧ w.cell? ⟨b, off + k * 10 + 1, none⟩ = some (.int .i64 x.f1) ∧ w.cell? ⟨b, off + k * 10 + 2, none⟩ = some (.int .i64 x.f2) ∧ w.cell? ⟨b, off + k * 10 + 3, none⟩ = some (.string x.f3) ∧
    w.cell? ⟨b, off + k * 10 + 4, none⟩ = some (.int .i64 x.f4.f0) ∧ w.cell? ⟨b, off + k * 10 + 5, none⟩ = some (.int .i64 x.f4.f1) ∧ w.cell? ⟨b, off + k * 10 + 6, none⟩ = some (.string x.f4.f2) ∧ w.cell? ⟨b, off + k * 10 + 7, none⟩ = some (.slice A7 x.f4.f3.length c7) ∧
    w.cell? ⟨b, off + k * 10 + 8, none⟩ = some (.slice A8 x.f5.length c8) ∧ w.cell? ⟨b, off + k * 10 + 9, none⟩ = some (.slice A9 x.f6.length c9) := by
  obtain ⟨b, off, cs, rfl, hbl, _, hK, hc⟩ := C_lit h (by decide) x hx
  obtain ⟨A7, c7, A8, c8, A9, c9, rfl, l7, g7, l8, g8, l9, g9⟩ := k30_open hK
  exact ⟨b, off, A7, c7, A8, c8, A9, c9, rfl, hbl, ⟨l7, g7, l8, g8, l9, g9⟩, hc 0 _ rfl, hc 1 _ rfl, hc 2 _ rfl, hc 3 _ rfl, hc 4 _ rfl, hc 5 _ rfl, hc 6 _ rfl, hc 7 _ rfl, hc 8 _ rfl, hc 9 _ rfl⟩
def SameN (n : Nat) : Prop := ∀ (x : S30) (A7 : Option Addr) (c7 : Nat) (A8 : Option Addr) (c8 : Nat) (A9 : Option Addr) (c9 : Nat) (B7 : Option Addr) (d7 : Nat) (B8 : Option Addr) (d8 : Nat) (B9 : Option Addr) (d9 : Nat) (w : World), szN x ≤ n → NodeIn w x A7 c7 A8 c8 A9 c9 → NodeIn w x B7 d7 B8 d8 B9 d9 →
  Calls Try.prog 12 #[nodeV x A7 c7 A8 c8 A9 c9, nodeV x B7 d7 B8 d8 B9 d9] w fun e w' => e = .returned (.bool true) ∧ Below w.heap.size w w'
set_option maxRecDepth 100000 in
set_option maxHeartbeats 12800000 in
theorem samen_step (n : Nat) (ih : SameN n) : SameN (n + 1) := by
  intro x A7 c7 A8 c8 A9 c9 B7 d7 B8 d8 B9 d9 w hn h1 h2
  have hk := szN_parts x
  have hlen := len_szNs x.f5
  have HMem := As.mk (szN_mem x.f5)
  obtain ⟨a0, a1, a2, s3, ⟨e0, e1, e2, e3⟩, kids, ws⟩ := x
  unfold nodeV
  simp only at hk hlen HMem ⊢
  have hS := ((At.start0 (Below.refl w.heap.size w)).alloc #[.int .i64 a0, .int .i64 a1, .int .i64 a2, .string s3, .int .i64 e0, .int .i64 e1, .string e2, .slice A7 e3.length c7, .slice A8 kids.length c8, .slice A9 ws.length c9] 30).alloc #[.int .i64 a0, .int .i64 a1, .int .i64 a2, .string s3, .int .i64 e0, .int .i64 e1, .string e2, .slice B7 e3.length d7, .slice B8 kids.length d8, .slice B9 ws.length d9] 30
  obtain ⟨W, hW⟩ : ∃ W, W = (w.alloc (.cells #[.int .i64 a0, .int .i64 a1, .int .i64 a2, .string s3, .int .i64 e0, .int .i64 e1, .string e2, .slice A7 e3.length c7, .slice A8 kids.length c8, .slice A9 ws.length c9] 30)).alloc (.cells #[.int .i64 a0, .int .i64 a1, .int .i64 a2, .string s3, .int .i64 e0, .int .i64 e1, .string e2, .slice B7 e3.length d7, .slice B8 kids.length d8, .slice B9 ws.length d9] 30) := ⟨_, rfl⟩
  obtain ⟨p, hp⟩ : ∃ p, p = w.heap.size := ⟨_, rfl⟩
  obtain ⟨q, hq⟩ : ∃ q, q = w.heap.size + 1 := ⟨_, rfl⟩
  have hS : At (fun _ => False) w W (Hp.seps [Hp.blk q #[.int .i64 a0, .int .i64 a1, .int .i64 a2, .string s3, .int .i64 e0, .int .i64 e1, .string e2, .slice B7 e3.length d7, .slice B8 kids.length d8, .slice B9 ws.length d9] 30, Hp.blk p #[.int .i64 a0, .int .i64 a1, .int .i64 a2, .string s3, .int .i64 e0, .int .i64 e1, .string e2, .slice A7 e3.length c7, .slice A8 kids.length c8, .slice A9 ws.length c9] 30]) := by
    rw [hW, hp, hq]
    simpa using hS
  have HN := As.mk (⟨hW.symm, hp.symm, hq.symm⟩ : _ ∧ _ ∧ _)
  have HE := As.mk (fun (V : World) (hb : Below w.heap.size w V) => (same_all n).2 ⟨e0, e1, e2, e3⟩ A7 B7 c7 d7 V (by omega) (Kd.C_below h1.g7 hb) (Kd.C_below h2.g7 hb) h1.l7 h2.l7)
  have HWs := As.mk (fun (V : World) (hb : Below w.heap.size w V) => (same_all n).1 ws A9 B9 c9 d9 V (by omega) (Kd.C_below h1.g9 hb) (Kd.C_below h2.g9 hb) h1.l9 h2.l9)
  have HKs := As.mk (fun (V : World) (hb : Below w.heap.size w V) => (⟨Kd.C_below h1.g8 hb, Kd.C_below h2.g8 hb⟩ : k30.C V A8 kids.length kids ∧ k30.C V B8 kids.length kids))
  have HI := As.mk ih
  have HSz := As.mk (show szNs kids ≤ n by omega)
  have hkl := h1.g8.2.1
  clear h1 h2 hk ih hn hW hp hq hlen
  go_enter Try.func12, Try.ntmps12
  go_wp2_with fail
  rw [HN.out.1, HN.out.2.2, HN.out.2.1]
  clear HN
  have p0 := (hS.cellAt 1 rfl 0).trans rfl
  have p1 := (hS.cellAt 1 rfl 1).trans rfl
  have p2 := (hS.cellAt 1 rfl 2).trans rfl
  have p3 := (hS.cellAt 1 rfl 3).trans rfl
  have p4 := (hS.cellAt 1 rfl 4).trans rfl
  have p5 := (hS.cellAt 1 rfl 5).trans rfl
  have p6 := (hS.cellAt 1 rfl 6).trans rfl
  have p7 := (hS.cellAt 1 rfl 7).trans rfl
  have p8 := (hS.cellAt 1 rfl 8).trans rfl
  have p9 := (hS.cellAt 1 rfl 9).trans rfl
  have q0 := (hS.cellAt 0 rfl 0).trans rfl
  have q1 := (hS.cellAt 0 rfl 1).trans rfl
  have q2 := (hS.cellAt 0 rfl 2).trans rfl
  have q3 := (hS.cellAt 0 rfl 3).trans rfl
  have q4 := (hS.cellAt 0 rfl 4).trans rfl
  have q5 := (hS.cellAt 0 rfl 5).trans rfl
  have q6 := (hS.cellAt 0 rfl 6).trans rfl
  have q7 := (hS.cellAt 0 rfl 7).trans rfl
  have q8 := (hS.cellAt 0 rfl 8).trans rfl
  have q9 := (hS.cellAt 0 rfl 9).trans rfl
  refine (hS.beside (HE.out _ hS.bl)).mono ?_
  rintro e w1 ⟨rfl, hS1⟩
  clear p0 p1 p2 p3 p4 p5 p6 p7 p8 p9 q0 q1 q2 q3 q4 q5 q6 q7 q8 q9 hS
  have p0 := (hS1.cellAt 1 rfl 0).trans rfl
  have p1 := (hS1.cellAt 1 rfl 1).trans rfl
  have p2 := (hS1.cellAt 1 rfl 2).trans rfl
  have p3 := (hS1.cellAt 1 rfl 3).trans rfl
  have p4 := (hS1.cellAt 1 rfl 4).trans rfl
  have p5 := (hS1.cellAt 1 rfl 5).trans rfl
  have p6 := (hS1.cellAt 1 rfl 6).trans rfl
  have p7 := (hS1.cellAt 1 rfl 7).trans rfl
  have p8 := (hS1.cellAt 1 rfl 8).trans rfl
  have p9 := (hS1.cellAt 1 rfl 9).trans rfl
  have q0 := (hS1.cellAt 0 rfl 0).trans rfl
  have q1 := (hS1.cellAt 0 rfl 1).trans rfl
  have q2 := (hS1.cellAt 0 rfl 2).trans rfl
  have q3 := (hS1.cellAt 0 rfl 3).trans rfl
  have q4 := (hS1.cellAt 0 rfl 4).trans rfl
  have q5 := (hS1.cellAt 0 rfl 5).trans rfl
  have q6 := (hS1.cellAt 0 rfl 6).trans rfl
  have q7 := (hS1.cellAt 0 rfl 7).trans rfl
  have q8 := (hS1.cellAt 0 rfl 8).trans rfl
  have q9 := (hS1.cellAt 0 rfl 9).trans rfl
  go_wp2_with fail
  refine (hS1.beside (HWs.out _ hS1.bl)).mono ?_
  rintro e w2 ⟨rfl, hS2⟩
  clear p0 p1 p2 p3 p4 p5 p6 p7 p8 p9 q0 q1 q2 q3 q4 q5 q6 q7 q8 q9 hS1
  have p0 := (hS2.cellAt 1 rfl 0).trans rfl
  have p1 := (hS2.cellAt 1 rfl 1).trans rfl
  have p2 := (hS2.cellAt 1 rfl 2).trans rfl
  have p3 := (hS2.cellAt 1 rfl 3).trans rfl
  have p4 := (hS2.cellAt 1 rfl 4).trans rfl
  have p5 := (hS2.cellAt 1 rfl 5).trans rfl
  have p6 := (hS2.cellAt 1 rfl 6).trans rfl
  have p7 := (hS2.cellAt 1 rfl 7).trans rfl
  have p8 := (hS2.cellAt 1 rfl 8).trans rfl
  have p9 := (hS2.cellAt 1 rfl 9).trans rfl
  have q0 := (hS2.cellAt 0 rfl 0).trans rfl
  have q1 := (hS2.cellAt 0 rfl 1).trans rfl
  have q2 := (hS2.cellAt 0 rfl 2).trans rfl
  have q3 := (hS2.cellAt 0 rfl 3).trans rfl
  have q4 := (hS2.cellAt 0 rfl 4).trans rfl
  have q5 := (hS2.cellAt 0 rfl 5).trans rfl
  have q6 := (hS2.cellAt 0 rfl 6).trans rfl
  have q7 := (hS2.cellAt 0 rfl 7).trans rfl
  have q8 := (hS2.cellAt 0 rfl 8).trans rfl
  have q9 := (hS2.cellAt 0 rfl 9).trans rfl
  go_wp2_with fail
  go_loopg [5] kids.length (fun g0 iv wr => ∃ k : Nat, k + g0 = kids.length ∧ iv = .int .i64 k ∧ At (fun _ => False) w wr (Hp.seps [Hp.blk q #[.int .i64 a0, .int .i64 a1, .int .i64 a2, .string s3, .int .i64 e0, .int .i64 e1, .string e2, .slice B7 e3.length d7, .slice B8 kids.length d8, .slice B9 ws.length d9] 30, Hp.blk p #[.int .i64 a0, .int .i64 a1, .int .i64 a2, .string s3, .int .i64 e0, .int .i64 e1, .string e2, .slice A7 e3.length c7, .slice A8 kids.length c8, .slice A9 ws.length c9] 30]))
  case atStart => exact ⟨0, by omega, rfl, hS2⟩
  case round =>
    clear p0 p1 p2 p3 p4 p5 p6 p7 p8 p9 q0 q1 q2 q3 q4 q5 q6 q7 q8 q9 hS2
    obtain ⟨k, hk, rfl, hS⟩ := hrel
    have p0 := (hS.cellAt 1 rfl 0).trans rfl
    have p1 := (hS.cellAt 1 rfl 1).trans rfl
    have p2 := (hS.cellAt 1 rfl 2).trans rfl
    have p3 := (hS.cellAt 1 rfl 3).trans rfl
    have p4 := (hS.cellAt 1 rfl 4).trans rfl
    have p5 := (hS.cellAt 1 rfl 5).trans rfl
    have p6 := (hS.cellAt 1 rfl 6).trans rfl
    have p7 := (hS.cellAt 1 rfl 7).trans rfl
    have p8 := (hS.cellAt 1 rfl 8).trans rfl
    have p9 := (hS.cellAt 1 rfl 9).trans rfl
    have q0 := (hS.cellAt 0 rfl 0).trans rfl
    have q1 := (hS.cellAt 0 rfl 1).trans rfl
    have q2 := (hS.cellAt 0 rfl 2).trans rfl
    have q3 := (hS.cellAt 0 rfl 3).trans rfl
    have q4 := (hS.cellAt 0 rfl 4).trans rfl
    have q5 := (hS.cellAt 0 rfl 5).trans rfl
    have q6 := (hS.cellAt 0 rfl 6).trans rfl
    have q7 := (hS.cellAt 0 rfl 7).trans rfl
    have q8 := (hS.cellAt 0 rfl 8).trans rfl
    have q9 := (hS.cellAt 0 rfl 9).trans rfl
    by_cases hlt : k < kids.length
    · obtain ⟨x, hx⟩ : ∃ x, kids[k]? = some x := ⟨_, List.getElem?_eq_getElem hlt⟩
      have HK := As.mk hk
      have HLm := As.mk (Nat.le_trans (HMem.out k x hx) HSz.out)
      obtain ⟨b, off, X7, x7, X8, x8, X9, x9, rfl, hbl, hN1, u0, u1, u2, u3, u4, u5, u6, u7, u8, u9⟩ := node_at (HKs.out _ hS.bl).1 x hx
      obtain ⟨b', off', Y7, y7, Y8, y8, Y9, y9, rfl, hbl', hN2, v0, v1, v2, v3, v4, v5, v6, v7, v8, v9⟩ := node_at (HKs.out _ hS.bl).2 x hx
      have HCC := As.mk (HI.out x X7 x7 X8 x8 X9 x9 Y7 y7 Y8 y8 Y9 y9 wr.drew HLm.out (hN1.below (Below.drew (Below.refl _ _))) (hN2.below (Below.drew (Below.refl _ _))))
      unfold nodeV at HCC
      obtain ⟨z0, z1, z2, z3, ⟨z4, z5, z6, z7⟩, z8, z9⟩ := x
      simp only at u0 u1 u2 u3 u4 u5 u6 u7 u8 u9 v0 v1 v2 v3 v4 v5 v6 v7 v8 v9 HCC
      have hin : (k : Int) < (kids.length : Int) := by omega
      clear hk hx hN1 hN2
      go_wp2_with fail
      go_still_tail 10, (by kernel_rfl)
      go_wp2_with fail
      refine (hS.drew.beside HCC.out).mono ?_
      rintro e w3 ⟨rfl, hS3⟩
      clear p0 p1 p2 p3 p4 p5 p6 p7 p8 p9 q0 q1 q2 q3 q4 q5 q6 q7 q8 q9 hS
      go_wp2_with fail
      go_roundg (gk - 1)
      case measure => have := HK.out; omega
      case rel => exact ⟨k + 1, by have := HK.out; omega, by go_num, hS3⟩
    · obtain rfl : k = kids.length := by omega
      go_wp2_with fail
      go_ret
      exact ⟨rfl, hS.bl⟩
theorem samen_all : ∀ n, SameN n
  | 0 => fun x _ _ _ _ _ _ _ _ _ _ _ _ _ hn _ _ => by have := szN_parts x; omega
  | n + 1 => samen_step n (samen_all n)
end Go.Proofs.Ytlkkibeoobognaa.OpenInlineTrees
