/- The reference's in at a use, given in of less fuel. Printed by genRf1.py. -/
import Derived.Test.YtlkkibeoobognaaRf0InlineTrees
set_option linter.unusedVariables false
set_option linter.unusedSimpArgs false
set_option maxRecDepth 100000
namespace Go.Proofs.Ytlkkibeoobognaa.OpenInlineTrees
open Go.RowKit Go.Deep
open Go.Proofs.YtlkkibeoobognaaW.PrintWords Go.Proofs.YtlkkibeoobognaaW.PrintLast Go.Proofs.YtlkkibeoobognaaW.PrintMore Go.Proofs.Ytlkkibeoobognaa.PInlineTrees
theorem inS_take_succ (op : List ByteArray) (s : ByteArray) (k : Nat) (y : ByteArray) (hy : op[k]? = some y) : inS (op.take (k + 1)) s = (inS (op.take k) s || decide (y.toList = s.toList)) := by
  unfold inS
  rw [List.take_add_one, hy, List.any_append]
  simp
theorem inS_of_take (op : List ByteArray) (s : ByteArray) (k : Nat) (h : inS (op.take k) s = true) : inS op s = true := by
  unfold inS at h ⊢
  rw [List.any_eq_true] at h ⊢
  obtain ⟨y, hy, h⟩ := h
  exact ⟨y, List.mem_of_mem_take hy, h⟩
set_option maxHeartbeats 51200000 in
theorem rin_use (m : Nat) (ih : RDo m) (w0 : World) (A : Option Addr) (c : Nat) (L : List S32) (hL : Lr w0 A c L) (hLl : L.length ≤ 1000000) (x : S30) (A7 : Option Addr) (c7 : Nat) (A8 : Option Addr) (c8 : Nat) (A9 : Option Addr) (c9 : Nat) (d n : Nat) (op : List ByteArray) (w : World) (lst : List Hp) (O : Option Addr) (oc P : Nat) (hk : x.f0 = 10) (hd : d ≤ 41) (hn : n ≤ 4000) (hop : op.length + (m + 1) ≤ 1000000) (hres : nodeF L (m + 1) x d op n ≠ .out)
    (hS : At (fun _ => False) w0 w (Hp.seps (Hp.blk P #[.slice A L.length c, .slice O op.length oc, .int .i64 n, .int .i64 0] 63 :: Hp.row 9 1 encS (.slice O op.length oc) op :: lst))) :
    Calls Try.prog 22 #[.pointer (some ⟨P, 0, none⟩), nodeV x A7 c7 A8 c8 A9 c9, .int .i64 d] w (RTold (m + 1) w0 A c L P lst op (nodeF L (m + 1) x d op n)) := by
  have HL := As.mk hL
  have HI := As.mk (ih w0 A c L hL hLl)
  have HD := As.mk (⟨hd, hn, hop, hLl⟩ : _ ∧ _ ∧ _ ∧ _)
  have HNF : As (nodeF L (m + 1) x d op n = usedG (nodeF L m) L x.f3 d op n) := ⟨by rw [nodeF, if_pos hk]⟩
  have HRes := As.mk hres
  unfold nodeV
  clear ih hd hn hop hres hL hLl
  have hS := hS.alloc #[.int .i64 x.f0, .int .i64 x.f1, .int .i64 x.f2, .string x.f3, .int .i64 x.f4.f0, .int .i64 x.f4.f1, .string x.f4.f2, .slice A7 x.f4.f3.length c7, .slice A8 x.f5.length c8, .slice A9 x.f6.length c9] 30
  obtain ⟨q0, hq0⟩ : ∃ q, q = w.heap.size := ⟨_, rfl⟩
  obtain ⟨W0, hW0⟩ : ∃ V, V = w.alloc (.cells #[.int .i64 x.f0, .int .i64 x.f1, .int .i64 x.f2, .string x.f3, .int .i64 x.f4.f0, .int .i64 x.f4.f1, .string x.f4.f2, .slice A7 x.f4.f3.length c7, .slice A8 x.f5.length c8, .slice A9 x.f6.length c9] 30) := ⟨_, rfl⟩
  rw [← hq0, ← hW0] at hS
  have hS := hS.alloc #[.int .i64 0, .int .i64 0, .int .i64 0, .string ⟨#[]⟩, .int .i64 0, .int .i64 0, .string ⟨#[]⟩, .slice none 0 0, .slice none 0 0, .slice none 0 0] 30
  obtain ⟨q1, hq1⟩ : ∃ q, q = W0.heap.size := ⟨_, rfl⟩
  obtain ⟨W1, hW1⟩ : ∃ V, V = W0.alloc (.cells #[.int .i64 0, .int .i64 0, .int .i64 0, .string ⟨#[]⟩, .int .i64 0, .int .i64 0, .string ⟨#[]⟩, .slice none 0 0, .slice none 0 0, .slice none 0 0] 30) := ⟨_, rfl⟩
  rw [← hq1, ← hW1] at hS
  have Hq : As (w.alloc (.cells #[.int .i64 x.f0, .int .i64 x.f1, .int .i64 x.f2, .string x.f3, .int .i64 x.f4.f0, .int .i64 x.f4.f1, .string x.f4.f2, .slice A7 x.f4.f3.length c7, .slice A8 x.f5.length c8, .slice A9 x.f6.length c9] 30) = W0 ∧ w.heap.size = q0 ∧ W0.alloc (.cells #[.int .i64 0, .int .i64 0, .int .i64 0, .string ⟨#[]⟩, .int .i64 0, .int .i64 0, .string ⟨#[]⟩, .slice none 0 0, .slice none 0 0, .slice none 0 0] 30) = W1 ∧ q0 + 1 = q1) := ⟨hW0.symm, hq0.symm, hW1.symm, by rw [hq1, hW0, hq0]; simp⟩
  clear hq0 hW0 hq1 hW1
  have hS := At.front 3 (At.front 3 hS rfl) rfl
  have hS : At (fun _ => False) w0 W1 (Hp.seps (Hp.blk P #[.slice A L.length c, .slice O op.length oc, .int .i64 n, .int .i64 0] 63 :: Hp.row 9 1 encS (.slice O op.length oc) op :: Hp.blk q1 #[.int .i64 0, .int .i64 0, .int .i64 0, .string ⟨#[]⟩, .int .i64 0, .int .i64 0, .string ⟨#[]⟩, .slice none 0 0, .slice none 0 0, .slice none 0 0] 30 :: Hp.blk q0 #[.int .i64 x.f0, .int .i64 x.f1, .int .i64 x.f2, .string x.f3, .int .i64 x.f4.f0, .int .i64 x.f4.f1, .string x.f4.f2, .slice A7 x.f4.f3.length c7, .slice A8 x.f5.length c8, .slice A9 x.f6.length c9] 30 :: lst)) := hS
  have e0 : (x.f0 == 10) = true := by simp [hk]
  clear hk
  go_enter Try.func22, Try.ntmps22
  go_upto_region 1 with fail
  rw [Hq.out.1, Hq.out.2.1, Hq.out.2.2.1, Hq.out.2.2.2]
  clear Hq
  have p0 := (hS.cellAt 0 rfl 0).trans rfl
  have p1 := (hS.cellAt 0 rfl 1).trans rfl
  have p2 := (hS.cellAt 0 rfl 2).trans rfl
  have p3 := (hS.cellAt 0 rfl 3).trans rfl
  have x0 := (hS.cellAt 3 rfl 0).trans rfl
  have x1 := (hS.cellAt 3 rfl 1).trans rfl
  have x2 := (hS.cellAt 3 rfl 2).trans rfl
  have x3 := (hS.cellAt 3 rfl 3).trans rfl
  have x4 := (hS.cellAt 3 rfl 4).trans rfl
  have x5 := (hS.cellAt 3 rfl 5).trans rfl
  have x6 := (hS.cellAt 3 rfl 6).trans rfl
  have x7 := (hS.cellAt 3 rfl 7).trans rfl
  have x8 := (hS.cellAt 3 rfl 8).trans rfl
  have x9 := (hS.cellAt 3 rfl 9).trans rfl
  go_upto_region 4 with fail
  have HKp : As (∀ V : World, Below W1.heap.size W1 V → (V.cell? ⟨P, 0, none⟩ = some (.slice A L.length c) ∧ V.cell? ⟨q0, 3, none⟩ = some (.string x.f3))) := ⟨fun V hb => by
    have h := hS.below hb
    exact ⟨(h.cellAt 0 rfl 0).trans rfl, (h.cellAt 3 rfl 3).trans rfl⟩⟩
  have HF := As.mk (fun (V : World) (hb : Below W1.heap.size W1 V) => rtree_does V A c L x.f3 (Kd.C_below HL.out.C (hS.bl.trans (Below.mono hb hS.bl.size))) HL.out.c HD.out.2.2.2)
  clear p0 p1 p2 p3 x0 x1 x2 x3 x4 x5 x6 x7 x8 x9 e0
  go_region_held3 (fun V => V.cell? ⟨P, 0, none⟩ = some (.slice A L.length c) ∧ V.cell? ⟨q0, 3, none⟩ = some (.string x.f3))
    (first | with_reducible exact HKp.out _ HB3.out | exact HKp.out _ (by repeat (first | exact Below.refl _ _ | refine bl_drewN ?_ _ | refine Below.drew ?_ | refine bl_alloc ?_ _ | refine bl_set ?_ (by first | (simp; done) | omega | (simp; omega)) _)))
    (first | (go_at_call 36; refine (HF.out _ (by repeat (first | exact Below.refl _ _ | refine bl_drewN ?_ _ | refine Below.drew ?_ | refine bl_alloc ?_ _ | refine bl_set ?_ (by first | (simp; done) | omega | (simp; omega)) _))).mono ?_; rintro e w3 ⟨r, rfl, hb, hr⟩; have HB3 : As (Below W1.heap.size W1 w3) := ⟨(Below.drew (Below.refl W1.heap.size W1)).trans (Below.mono hb (Below.drew (Below.refl W1.heap.size W1)).size)⟩; clear hb))
  have hS1 := hS.below HB3.out
  clear hS HB3 HF HKp
  go_upto_region 5 with fail
  rcases hr with ⟨h0, rfl⟩ | ⟨i, t, hi, h0, rfl⟩
  · have HE : As (nodeF L (m + 1) x d op n = .err 5) := ⟨by rw [HNF.out, usedG, h0]⟩
    clear h0
    have p0 := (hS1.cellAt 0 rfl 0).trans rfl
    have p1 := (hS1.cellAt 0 rfl 1).trans rfl
    have p2 := (hS1.cellAt 0 rfl 2).trans rfl
    have p3 := (hS1.cellAt 0 rfl 3).trans rfl
    have pf0 := hS1.frozenAt 0 rfl 0
    have pf1 := hS1.frozenAt 0 rfl 1
    have pf2 := hS1.frozenAt 0 rfl 2
    have pf3 := hS1.frozenAt 0 rfl 3
    have plt := hS1.ltAt 0 rfl
    have z0 := (hS1.cellAt 2 rfl 0).trans rfl
    have z1 := (hS1.cellAt 2 rfl 1).trans rfl
    have z2 := (hS1.cellAt 2 rfl 2).trans rfl
    have z3 := (hS1.cellAt 2 rfl 3).trans rfl
    have z4 := (hS1.cellAt 2 rfl 4).trans rfl
    have z5 := (hS1.cellAt 2 rfl 5).trans rfl
    have z6 := (hS1.cellAt 2 rfl 6).trans rfl
    have z7 := (hS1.cellAt 2 rfl 7).trans rfl
    have z8 := (hS1.cellAt 2 rfl 8).trans rfl
    have z9 := (hS1.cellAt 2 rfl 9).trans rfl
    have zf0 := hS1.frozenAt 2 rfl 0
    have zf1 := hS1.frozenAt 2 rfl 1
    have zf2 := hS1.frozenAt 2 rfl 2
    have zf3 := hS1.frozenAt 2 rfl 3
    have zf4 := hS1.frozenAt 2 rfl 4
    have zf5 := hS1.frozenAt 2 rfl 5
    have zf6 := hS1.frozenAt 2 rfl 6
    have zf7 := hS1.frozenAt 2 rfl 7
    have zf8 := hS1.frozenAt 2 rfl 8
    have zf9 := hS1.frozenAt 2 rfl 9
    have zlt := hS1.ltAt 2 rfl
    have hzp := hS1.neBB 2 0 rfl rfl (by decide)
    have hpz := hzp.symm
    go_wp2_with fail
    refine bodyPost_ret (v := .agg #[.int .i64 0, .int .i64 0, .int .i64 0, .string ⟨#[]⟩, .int .i64 0, .int .i64 0, .string ⟨#[]⟩, .slice none 0 0, .slice none 0 0, .slice none 0 0]) (by simp [results, Try.results22, go_sem, z0, z1, z2, z3, z4, z5, z6, z7, z8, z9]) rfl ⟨⟨0, zN, none, 0, none, 0, none, 0⟩, O, oc, n, rfl, .inl ⟨5, HE.out, by decide, ?_⟩⟩
    have hS2 := hS1.setBlkAt 0 rfl 3 (.int .i64 5)
    have hS3 := At.set10 2 (.int .i64 0) (.int .i64 0) (.int .i64 0) (.string ⟨#[]⟩) (.int .i64 0) (.int .i64 0) (.string ⟨#[]⟩) (.slice none 0 0) (.slice none 0 0) (.slice none 0 0) hS2 rfl
    exact (hS3.dropAt 2 (by simp)).dropAt 2 (by simp)
  · have HI0 := As.mk (⟨hi, h0⟩ : _ ∧ _)
    have hil : i < L.length := (List.getElem?_eq_some_iff.1 hi).1
    have hin : (i : Int) < (L.length : Int) := by omega
    have hge : ¬ (i : Int) < 0 := by omega
    have hopl : op.length ≤ 1000000 := by have := HD.out.2.2.1; omega
    clear hi h0
    go_wp2_with fail
    go_loopg [8] op.length (fun g0 iv wr => ∃ k : Nat, k + g0 = op.length ∧ iv = .int .i64 k ∧ As (inS (op.take k) x.f3 = false) ∧ At (fun _ => False) w0 wr (Hp.seps (Hp.blk P #[.slice A L.length c, .slice O op.length oc, .int .i64 n, .int .i64 0] 63 :: Hp.row 9 1 encS (.slice O op.length oc) op :: Hp.blk q1 #[.int .i64 0, .int .i64 0, .int .i64 0, .string ⟨#[]⟩, .int .i64 0, .int .i64 0, .string ⟨#[]⟩, .slice none 0 0, .slice none 0 0, .slice none 0 0] 30 :: Hp.blk q0 #[.int .i64 x.f0, .int .i64 x.f1, .int .i64 x.f2, .string x.f3, .int .i64 x.f4.f0, .int .i64 x.f4.f1, .string x.f4.f2, .slice A7 x.f4.f3.length c7, .slice A8 x.f5.length c8, .slice A9 x.f6.length c9] 30 :: lst)))
    case atStart => exact ⟨0, by omega, rfl, ⟨rfl⟩, hS1⟩
    case round =>
      clear hS1
      obtain ⟨k, hk, rfl, HT, hS⟩ := hrel
      have p0 := (hS.cellAt 0 rfl 0).trans rfl
      have p1 := (hS.cellAt 0 rfl 1).trans rfl
      have p2 := (hS.cellAt 0 rfl 2).trans rfl
      have p3 := (hS.cellAt 0 rfl 3).trans rfl
      by_cases hlt : k < op.length
      · obtain ⟨y, hy⟩ : ∃ y, op[k]? = some y := ⟨_, List.getElem?_eq_getElem hlt⟩
        obtain ⟨g, hOe, hgl, hcell⟩ := (hS.rowAt 1 rfl).cell encS_len k y hy
        subst hOe
        have hc0 : wr.cell? ⟨g, k, none⟩ = some (.string y) := by have := (hcell 0 (by decide)).1; rw [Nat.mul_one, Nat.add_zero] at this; exact this
        have HK := As.mk (⟨hk, hlt⟩ : _ ∧ _)
        have HTs := As.mk (inS_take_succ op x.f3 k y hy)
        have hkl : (k : Int) < (op.length : Int) := by omega
        have x0 := (hS.cellAt 3 rfl 0).trans rfl
        have x1 := (hS.cellAt 3 rfl 1).trans rfl
        have x2 := (hS.cellAt 3 rfl 2).trans rfl
        have x3 := (hS.cellAt 3 rfl 3).trans rfl
        have x4 := (hS.cellAt 3 rfl 4).trans rfl
        have x5 := (hS.cellAt 3 rfl 5).trans rfl
        have x6 := (hS.cellAt 3 rfl 6).trans rfl
        have x7 := (hS.cellAt 3 rfl 7).trans rfl
        have x8 := (hS.cellAt 3 rfl 8).trans rfl
        have x9 := (hS.cellAt 3 rfl 9).trans rfl
        clear hcell hy hk
        go_upto_region 11 with fail
        go_cut [52] (fun vb wc => vb = .bool (y.toList == x.f3.toList) ∧ At (fun _ => False) w0 wc (Hp.seps (Hp.blk P #[.slice A L.length c, .slice (some ⟨g, 0, none⟩) op.length oc, .int .i64 n, .int .i64 0] 63 :: Hp.row 9 1 encS (.slice (some ⟨g, 0, none⟩) op.length oc) op :: Hp.blk q1 #[.int .i64 0, .int .i64 0, .int .i64 0, .string ⟨#[]⟩, .int .i64 0, .int .i64 0, .string ⟨#[]⟩, .slice none 0 0, .slice none 0 0, .slice none 0 0] 30 :: Hp.blk q0 #[.int .i64 x.f0, .int .i64 x.f1, .int .i64 x.f2, .string x.f3, .int .i64 x.f4.f0, .int .i64 x.f4.f1, .string x.f4.f2, .slice A7 x.f4.f3.length c7, .slice A8 x.f5.length c8, .slice A9 x.f6.length c9] 30 :: lst)))
        case first =>
          go_quiet (fail)
          go_wp2_with fail
          go_meet
          exact ⟨rfl, hS.drewN _⟩
        case rest =>
          clear hS hc0 p0 p1 p2 p3 x0 x1 x2 x3 x4 x5 x6 x7 x8 x9
          obtain ⟨rfl, hS⟩ := hcut
          cases hb : (y.toList == x.f3.toList) with
          | true =>
            have hS1 := hS
            have HE : As (nodeF L (m + 1) x d op n = .err 8) := ⟨by
              rw [HNF.out, usedG, HI0.out.2]
              simp only []
              rw [if_pos (inS_of_take op x.f3 (k + 1) (by rw [HTs.out, decide_eq_true (by simpa using hb), Bool.or_true]))]⟩
            clear hb
            have p0 := (hS1.cellAt 0 rfl 0).trans rfl
            have p1 := (hS1.cellAt 0 rfl 1).trans rfl
            have p2 := (hS1.cellAt 0 rfl 2).trans rfl
            have p3 := (hS1.cellAt 0 rfl 3).trans rfl
            have pf0 := hS1.frozenAt 0 rfl 0
            have pf1 := hS1.frozenAt 0 rfl 1
            have pf2 := hS1.frozenAt 0 rfl 2
            have pf3 := hS1.frozenAt 0 rfl 3
            have plt := hS1.ltAt 0 rfl
            have z0 := (hS1.cellAt 2 rfl 0).trans rfl
            have z1 := (hS1.cellAt 2 rfl 1).trans rfl
            have z2 := (hS1.cellAt 2 rfl 2).trans rfl
            have z3 := (hS1.cellAt 2 rfl 3).trans rfl
            have z4 := (hS1.cellAt 2 rfl 4).trans rfl
            have z5 := (hS1.cellAt 2 rfl 5).trans rfl
            have z6 := (hS1.cellAt 2 rfl 6).trans rfl
            have z7 := (hS1.cellAt 2 rfl 7).trans rfl
            have z8 := (hS1.cellAt 2 rfl 8).trans rfl
            have z9 := (hS1.cellAt 2 rfl 9).trans rfl
            have zf0 := hS1.frozenAt 2 rfl 0
            have zf1 := hS1.frozenAt 2 rfl 1
            have zf2 := hS1.frozenAt 2 rfl 2
            have zf3 := hS1.frozenAt 2 rfl 3
            have zf4 := hS1.frozenAt 2 rfl 4
            have zf5 := hS1.frozenAt 2 rfl 5
            have zf6 := hS1.frozenAt 2 rfl 6
            have zf7 := hS1.frozenAt 2 rfl 7
            have zf8 := hS1.frozenAt 2 rfl 8
            have zf9 := hS1.frozenAt 2 rfl 9
            have zlt := hS1.ltAt 2 rfl
            have hzp := hS1.neBB 2 0 rfl rfl (by decide)
            have hpz := hzp.symm
            go_wp2_with fail
            refine bodyPost_ret (v := .agg #[.int .i64 0, .int .i64 0, .int .i64 0, .string ⟨#[]⟩, .int .i64 0, .int .i64 0, .string ⟨#[]⟩, .slice none 0 0, .slice none 0 0, .slice none 0 0]) (by simp [results, Try.results22, go_sem, z0, z1, z2, z3, z4, z5, z6, z7, z8, z9]) rfl ⟨⟨0, zN, none, 0, none, 0, none, 0⟩, some ⟨g, 0, none⟩, oc, n, rfl, .inl ⟨8, HE.out, by decide, ?_⟩⟩
            have hS2 := hS1.setBlkAt 0 rfl 3 (.int .i64 8)
            have hS3 := At.set10 2 (.int .i64 0) (.int .i64 0) (.int .i64 0) (.string ⟨#[]⟩) (.int .i64 0) (.int .i64 0) (.string ⟨#[]⟩) (.slice none 0 0) (.slice none 0 0) (.slice none 0 0) hS2 rfl
            exact (hS3.dropAt 2 (by simp)).dropAt 2 (by simp)
          | false =>
            have HN0 : As (inS (op.take (k + 1)) x.f3 = false) := ⟨by rw [HTs.out, HT.out, decide_eq_false (by simpa using hb), Bool.or_false]⟩
            have s0 : IntKind.i64.wrap ((k : Int) + 1) = (k : Int) + 1 := by rw [IntKind.wrap_i64]; omega
            clear hb
            go_wp2_with fail
            go_roundg (gk - 1)
            case measure => have := HK.out; omega
            case rel => exact ⟨k + 1, by have := HK.out; omega, rfl, HN0, hS⟩
      · obtain rfl : k = op.length := by omega
        have HE : As (nodeF L (m + 1) x d op n = nodeF L m t.f1 d (op ++ [x.f3]) n) := ⟨by
          have h := HT.out
          rw [List.take_length] at h
          rw [HNF.out, usedG, HI0.out.2]
          simp only []
          rw [h, if_neg (by decide)]⟩
        clear HT hk hlt
        have HPF := As.mk hS
        have x0 := (hS.cellAt 3 rfl 0).trans rfl
        have x1 := (hS.cellAt 3 rfl 1).trans rfl
        have x2 := (hS.cellAt 3 rfl 2).trans rfl
        have x3 := (hS.cellAt 3 rfl 3).trans rfl
        have x4 := (hS.cellAt 3 rfl 4).trans rfl
        have x5 := (hS.cellAt 3 rfl 5).trans rfl
        have x6 := (hS.cellAt 3 rfl 6).trans rfl
        have x7 := (hS.cellAt 3 rfl 7).trans rfl
        have x8 := (hS.cellAt 3 rfl 8).trans rfl
        have x9 := (hS.cellAt 3 rfl 9).trans rfl
        have pf1 := hS.frozenAt 0 rfl 1
        have plt := hS.ltAt 0 rfl
        have xlt := hS.ltAt 3 rfl
        have HSr := As.mk (fun (V : World) (hb : Below wr.heap.size wr V) => (hS.below hb).rowAt 1 rfl)
        go_upto_region 14 with fail
        go_cut [] (fun wz => ∃ (A1 : Option Addr) (c1 : Nat), At (fun _ => False) w0 wz (Hp.seps (Hp.blk P #[.slice A L.length c, .slice A1 (op.length + 1) c1, .int .i64 n, .int .i64 0] 63 :: Hp.row 9 1 encS (.slice A1 (op.length + 1) c1) (op ++ [x.f3]) :: Hp.blk q1 #[.int .i64 0, .int .i64 0, .int .i64 0, .string ⟨#[]⟩, .int .i64 0, .int .i64 0, .string ⟨#[]⟩, .slice none 0 0, .slice none 0 0, .slice none 0 0] 30 :: Hp.blk q0 #[.int .i64 x.f0, .int .i64 x.f1, .int .i64 x.f2, .string x.f3, .int .i64 x.f4.f0, .int .i64 x.f4.f1, .string x.f4.f2, .slice A7 x.f4.f3.length c7, .slice A8 x.f5.length c8, .slice A9 x.f6.length c9] 30 :: lst)))
        case first =>
          go_region_law (refine rw_append_step rfl (.tmp 61) (.tmp 64) 57 9 1 encS (.string ⟨#[]⟩) 16 rfl Try.underlying57 infoS rfl (by decide) (.slice O op.length oc) op x.f3 rfl _ rfl (by first | exact blk_new (by simp) | exact blk_new_drew (by simp) | exact (blk_new_drewN (by simp))) (HSr.out _ (by repeat (first | exact Below.refl _ _ | refine bl_drewN ?_ _ | refine Below.drew ?_ | refine bl_alloc ?_ _ | refine bl_set ?_ (by first | (simp; done) | omega | (simp; omega)) _))) encS_len (one_S _) ?_ ?_ ?_; (simp only [maxLen]; omega); (omega); intro v1 w2 hA; obtain ⟨A2, c2, hv1, _, _⟩ := hA.row.shape; subst hv1; have hS3 := At.appendAt 1 hA HPF.out rfl (by repeat (first | exact Below.refl _ _ | refine bl_drewN ?_ _ | refine Below.drew ?_ | refine bl_alloc ?_ _ | refine bl_set ?_ (by first | (simp; done) | omega | (simp; omega)) _)); rw [List.length_append, List.length_singleton] at hS3 ⊢; clear hA; have z0 := (hS3.cellAt 0 rfl 1).trans rfl; have zf := hS3.frozenAt 0 rfl 1; have zlt := hS3.ltAt 0 rfl)
          all_goals (go_wp2_with fail)
          all_goals (go_meet)
          all_goals (exact ⟨A2, c2, hS3.setBlkAt 0 rfl 1 (.slice A2 (op.length + 1) c2)⟩)
        case rest =>
          clear hS HPF HSr p0 p1 p2 p3 pf1 plt xlt x0 x1 x2 x3 x4 x5 x6 x7 x8 x9
          obtain ⟨A1, c1, hS⟩ := hcut
          have hS5 : At (fun _ => False) w0 wc (Hp.seps (Hp.blk P #[.slice A L.length c, .slice A1 (op ++ [x.f3]).length c1, .int .i64 n, .int .i64 0] 63 :: Hp.row 9 1 encS (.slice A1 (op ++ [x.f3]).length c1) (op ++ [x.f3]) :: Hp.blk q1 #[.int .i64 0, .int .i64 0, .int .i64 0, .string ⟨#[]⟩, .int .i64 0, .int .i64 0, .string ⟨#[]⟩, .slice none 0 0, .slice none 0 0, .slice none 0 0] 30 :: Hp.blk q0 #[.int .i64 x.f0, .int .i64 x.f1, .int .i64 x.f2, .string x.f3, .int .i64 x.f4.f0, .int .i64 x.f4.f1, .string x.f4.f2, .slice A7 x.f4.f3.length c7, .slice A8 x.f5.length c8, .slice A9 x.f6.length c9] 30 :: lst)) := by
            rw [List.length_append, List.length_singleton]
            exact hS
          obtain ⟨b, off, Y7, y7, Y8, y8, Y9, y9, hAe, hbl, hNI, u0, u1, u2, u3, u4, u5, u6, u7, u8, u9, u10⟩ := tree_at HL.out.C t HI0.out.1
          subst hAe
          have HU := As.mk (fun (V : World) (hb : Below w0.heap.size w0 V) (j : Nat) (x : Value) (hx : w0.cell? ⟨b, off + i * 11 + j, none⟩ = some x) => (hb.cell (p := ⟨b, off + i * 11 + j, none⟩) hbl).trans hx)
          have hz : szN t.f1 ≤ 1048576 := HL.out.z t (List.mem_of_getElem? HI0.out.1)
          have HCC := As.mk (HI.out t.f1 Y7 y7 Y8 y8 Y9 y9 d n (op ++ [x.f3]) _ _ A1 c1 P hNI hz HD.out.1 HD.out.2.1 (by rw [List.length_append, List.length_singleton]; have := HD.out.2.2; omega) (by rw [← HE.out]; exact HRes.out) hS5)
          have v1 := HU.out _ hS.bl 1 _ u1
          have v2 := HU.out _ hS.bl 2 _ u2
          have v3 := HU.out _ hS.bl 3 _ u3
          have v4 := HU.out _ hS.bl 4 _ u4
          have v5 := HU.out _ hS.bl 5 _ u5
          have v6 := HU.out _ hS.bl 6 _ u6
          have v7 := HU.out _ hS.bl 7 _ u7
          have v8 := HU.out _ hS.bl 8 _ u8
          have v9 := HU.out _ hS.bl 9 _ u9
          have v10 := HU.out _ hS.bl 10 _ u10
          have hne : b ≠ P := by have := At.newAt 0 hS rfl; omega
          unfold nodeV at HCC
          have p0 := (hS.cellAt 0 rfl 0).trans rfl
          have p1 := (hS.cellAt 0 rfl 1).trans rfl
          have p2 := (hS.cellAt 0 rfl 2).trans rfl
          have p3 := (hS.cellAt 0 rfl 3).trans rfl
          clear hS hS5 hNI hz u0 u1 u2 u3 u4 u5 u6 u7 u8 u9 u10
          go_wp2_with fail
          refine HCC.out.mono ?_
          clear HCC p0 p1 p2 p3 hne v1 v2 v3 v4 v5 v6 v7 v8 v9 v10
          rintro e w4 ⟨o, O2, oc2, n', rfl, (⟨cd, hr, hcd, hS6⟩ | ⟨hr, hn', hS6⟩)⟩
          · have HX := As.mk (⟨hr, hcd⟩ : _ ∧ _)
            clear hr hcd
            rw [List.length_append, List.length_singleton] at hS6
            have hS6 := hS6.alloc #[.int .i64 o.x.f0, .int .i64 o.x.f1, .int .i64 o.x.f2, .string o.x.f3, .int .i64 o.x.f4.f0, .int .i64 o.x.f4.f1, .string o.x.f4.f2, .slice o.A o.x.f4.f3.length o.c, .slice o.B o.x.f5.length o.d, .slice o.C o.x.f6.length o.q] 30
            obtain ⟨k0, hk0⟩ : ∃ q, q = w4.heap.size := ⟨_, rfl⟩
            obtain ⟨K0, hK0⟩ : ∃ V, V = w4.alloc (.cells #[.int .i64 o.x.f0, .int .i64 o.x.f1, .int .i64 o.x.f2, .string o.x.f3, .int .i64 o.x.f4.f0, .int .i64 o.x.f4.f1, .string o.x.f4.f2, .slice o.A o.x.f4.f3.length o.c, .slice o.B o.x.f5.length o.d, .slice o.C o.x.f6.length o.q] 30) := ⟨_, rfl⟩
            rw [← hk0, ← hK0] at hS6
            have Hk : As (w4.alloc (.cells #[.int .i64 o.x.f0, .int .i64 o.x.f1, .int .i64 o.x.f2, .string o.x.f3, .int .i64 o.x.f4.f0, .int .i64 o.x.f4.f1, .string o.x.f4.f2, .slice o.A o.x.f4.f3.length o.c, .slice o.B o.x.f5.length o.d, .slice o.C o.x.f6.length o.q] 30) = K0 ∧ w4.heap.size = k0) := ⟨hK0.symm, hk0.symm⟩
            clear hk0 hK0
            obtain ⟨g, hg, hgc⟩ := r_snoc (hS6.rowAt 2 rfl)
            subst hg
            have p0 := (hS6.cellAt 1 rfl 0).trans rfl
            have p1 := (hS6.cellAt 1 rfl 1).trans rfl
            have p2 := (hS6.cellAt 1 rfl 2).trans rfl
            have p3 := (hS6.cellAt 1 rfl 3).trans rfl
            have pf0 := hS6.frozenAt 1 rfl 0
            have pf1 := hS6.frozenAt 1 rfl 1
            have pf2 := hS6.frozenAt 1 rfl 2
            have pf3 := hS6.frozenAt 1 rfl 3
            have plt := hS6.ltAt 1 rfl
            go_upto_region 16 with fail
            rw [Hk.out.1, Hk.out.2]
            clear Hk
            have hsub : IntKind.i64.wrap (op.length : Int) = (op.length : Int) := by rw [IntKind.wrap_i64]; omega
            have hle : op.length ≤ oc2 := by omega
            go_still_tail 14, (by kernel_rfl)
            have z0 := (hS6.cellAt 3 rfl 0).trans rfl
            have z1 := (hS6.cellAt 3 rfl 1).trans rfl
            have z2 := (hS6.cellAt 3 rfl 2).trans rfl
            have z3 := (hS6.cellAt 3 rfl 3).trans rfl
            have z4 := (hS6.cellAt 3 rfl 4).trans rfl
            have z5 := (hS6.cellAt 3 rfl 5).trans rfl
            have z6 := (hS6.cellAt 3 rfl 6).trans rfl
            have z7 := (hS6.cellAt 3 rfl 7).trans rfl
            have z8 := (hS6.cellAt 3 rfl 8).trans rfl
            have z9 := (hS6.cellAt 3 rfl 9).trans rfl
            have zf0 := hS6.frozenAt 3 rfl 0
            have zf1 := hS6.frozenAt 3 rfl 1
            have zf2 := hS6.frozenAt 3 rfl 2
            have zf3 := hS6.frozenAt 3 rfl 3
            have zf4 := hS6.frozenAt 3 rfl 4
            have zf5 := hS6.frozenAt 3 rfl 5
            have zf6 := hS6.frozenAt 3 rfl 6
            have zf7 := hS6.frozenAt 3 rfl 7
            have zf8 := hS6.frozenAt 3 rfl 8
            have zf9 := hS6.frozenAt 3 rfl 9
            have zlt := hS6.ltAt 3 rfl
            have y0 := (hS6.cellAt 0 rfl 0).trans rfl
            have y1 := (hS6.cellAt 0 rfl 1).trans rfl
            have y2 := (hS6.cellAt 0 rfl 2).trans rfl
            have y3 := (hS6.cellAt 0 rfl 3).trans rfl
            have y4 := (hS6.cellAt 0 rfl 4).trans rfl
            have y5 := (hS6.cellAt 0 rfl 5).trans rfl
            have y6 := (hS6.cellAt 0 rfl 6).trans rfl
            have y7 := (hS6.cellAt 0 rfl 7).trans rfl
            have y8 := (hS6.cellAt 0 rfl 8).trans rfl
            have y9 := (hS6.cellAt 0 rfl 9).trans rfl
            have hqp := hS6.neBB 3 1 rfl rfl (by decide)
            have hpq := hqp.symm
            have hkp := hS6.neBB 0 1 rfl rfl (by decide)
            have hpk := hkp.symm
            have hkq := hS6.neBB 0 3 rfl rfl (by decide)
            have hqk := hkq.symm
            go_wp2_with fail
            refine bodyPost_ret (v := .agg #[.int .i64 o.x.f0, .int .i64 o.x.f1, .int .i64 o.x.f2, .string o.x.f3, .int .i64 o.x.f4.f0, .int .i64 o.x.f4.f1, .string o.x.f4.f2, .slice o.A o.x.f4.f3.length o.c, .slice o.B o.x.f5.length o.d, .slice o.C o.x.f6.length o.q]) (by simp [results, Try.results22, go_sem, z0, z1, z2, z3, z4, z5, z6, z7, z8, z9]) rfl ⟨o, some ⟨g, 0, none⟩, oc2, n', rfl, .inl ⟨cd, by rw [HE.out]; exact HX.out.1, HX.out.2, ?_⟩⟩
            have hS7 := hS6.setBlkAt 1 rfl 1 (.slice (some ⟨g, 0, none⟩) op.length oc2)
            have hS8 := hS7.takeAt 2 op.length rfl encS_len (by simp)
            rw [List.take_left] at hS8
            have hS9 := (At.set10 3 (.int .i64 o.x.f0) (.int .i64 o.x.f1) (.int .i64 o.x.f2) (.string o.x.f3) (.int .i64 o.x.f4.f0) (.int .i64 o.x.f4.f1) (.string o.x.f4.f2) (.slice o.A o.x.f4.f3.length o.c) (.slice o.B o.x.f5.length o.d) (.slice o.C o.x.f6.length o.q) hS8 rfl).drew
            exact (((hS9.tail).dropAt 2 (by simp)).dropAt 2 (by simp))
          · have HX := As.mk (⟨hr, hn'⟩ : _ ∧ _)
            clear hr hn'
            rw [List.length_append, List.length_singleton] at hS6
            have hS6 := hS6.alloc #[.int .i64 o.x.f0, .int .i64 o.x.f1, .int .i64 o.x.f2, .string o.x.f3, .int .i64 o.x.f4.f0, .int .i64 o.x.f4.f1, .string o.x.f4.f2, .slice o.A o.x.f4.f3.length o.c, .slice o.B o.x.f5.length o.d, .slice o.C o.x.f6.length o.q] 30
            obtain ⟨k0, hk0⟩ : ∃ q, q = w4.heap.size := ⟨_, rfl⟩
            obtain ⟨K0, hK0⟩ : ∃ V, V = w4.alloc (.cells #[.int .i64 o.x.f0, .int .i64 o.x.f1, .int .i64 o.x.f2, .string o.x.f3, .int .i64 o.x.f4.f0, .int .i64 o.x.f4.f1, .string o.x.f4.f2, .slice o.A o.x.f4.f3.length o.c, .slice o.B o.x.f5.length o.d, .slice o.C o.x.f6.length o.q] 30) := ⟨_, rfl⟩
            rw [← hk0, ← hK0] at hS6
            have Hk : As (w4.alloc (.cells #[.int .i64 o.x.f0, .int .i64 o.x.f1, .int .i64 o.x.f2, .string o.x.f3, .int .i64 o.x.f4.f0, .int .i64 o.x.f4.f1, .string o.x.f4.f2, .slice o.A o.x.f4.f3.length o.c, .slice o.B o.x.f5.length o.d, .slice o.C o.x.f6.length o.q] 30) = K0 ∧ w4.heap.size = k0) := ⟨hK0.symm, hk0.symm⟩
            clear hk0 hK0
            obtain ⟨g, hg, hgc⟩ := r_snoc (hS6.rowAt 3 rfl)
            subst hg
            have p0 := (hS6.cellAt 2 rfl 0).trans rfl
            have p1 := (hS6.cellAt 2 rfl 1).trans rfl
            have p2 := (hS6.cellAt 2 rfl 2).trans rfl
            have p3 := (hS6.cellAt 2 rfl 3).trans rfl
            have pf0 := hS6.frozenAt 2 rfl 0
            have pf1 := hS6.frozenAt 2 rfl 1
            have pf2 := hS6.frozenAt 2 rfl 2
            have pf3 := hS6.frozenAt 2 rfl 3
            have plt := hS6.ltAt 2 rfl
            go_upto_region 16 with fail
            rw [Hk.out.1, Hk.out.2]
            clear Hk
            have hsub : IntKind.i64.wrap (op.length : Int) = (op.length : Int) := by rw [IntKind.wrap_i64]; omega
            have hle : op.length ≤ oc2 := by omega
            go_still_tail 14, (by kernel_rfl)
            have z0 := (hS6.cellAt 4 rfl 0).trans rfl
            have z1 := (hS6.cellAt 4 rfl 1).trans rfl
            have z2 := (hS6.cellAt 4 rfl 2).trans rfl
            have z3 := (hS6.cellAt 4 rfl 3).trans rfl
            have z4 := (hS6.cellAt 4 rfl 4).trans rfl
            have z5 := (hS6.cellAt 4 rfl 5).trans rfl
            have z6 := (hS6.cellAt 4 rfl 6).trans rfl
            have z7 := (hS6.cellAt 4 rfl 7).trans rfl
            have z8 := (hS6.cellAt 4 rfl 8).trans rfl
            have z9 := (hS6.cellAt 4 rfl 9).trans rfl
            have zf0 := hS6.frozenAt 4 rfl 0
            have zf1 := hS6.frozenAt 4 rfl 1
            have zf2 := hS6.frozenAt 4 rfl 2
            have zf3 := hS6.frozenAt 4 rfl 3
            have zf4 := hS6.frozenAt 4 rfl 4
            have zf5 := hS6.frozenAt 4 rfl 5
            have zf6 := hS6.frozenAt 4 rfl 6
            have zf7 := hS6.frozenAt 4 rfl 7
            have zf8 := hS6.frozenAt 4 rfl 8
            have zf9 := hS6.frozenAt 4 rfl 9
            have zlt := hS6.ltAt 4 rfl
            have y0 := (hS6.cellAt 0 rfl 0).trans rfl
            have y1 := (hS6.cellAt 0 rfl 1).trans rfl
            have y2 := (hS6.cellAt 0 rfl 2).trans rfl
            have y3 := (hS6.cellAt 0 rfl 3).trans rfl
            have y4 := (hS6.cellAt 0 rfl 4).trans rfl
            have y5 := (hS6.cellAt 0 rfl 5).trans rfl
            have y6 := (hS6.cellAt 0 rfl 6).trans rfl
            have y7 := (hS6.cellAt 0 rfl 7).trans rfl
            have y8 := (hS6.cellAt 0 rfl 8).trans rfl
            have y9 := (hS6.cellAt 0 rfl 9).trans rfl
            have hqp := hS6.neBB 4 2 rfl rfl (by decide)
            have hpq := hqp.symm
            have hkp := hS6.neBB 0 2 rfl rfl (by decide)
            have hpk := hkp.symm
            have hkq := hS6.neBB 0 4 rfl rfl (by decide)
            have hqk := hkq.symm
            go_wp2_with fail
            refine bodyPost_ret (v := .agg #[.int .i64 o.x.f0, .int .i64 o.x.f1, .int .i64 o.x.f2, .string o.x.f3, .int .i64 o.x.f4.f0, .int .i64 o.x.f4.f1, .string o.x.f4.f2, .slice o.A o.x.f4.f3.length o.c, .slice o.B o.x.f5.length o.d, .slice o.C o.x.f6.length o.q]) (by simp [results, Try.results22, go_sem, z0, z1, z2, z3, z4, z5, z6, z7, z8, z9]) rfl ⟨o, some ⟨g, 0, none⟩, oc2, n', rfl, .inr ⟨by rw [HE.out]; exact HX.out.1, HX.out.2, ?_⟩⟩
            have hS7 := hS6.setBlkAt 2 rfl 1 (.slice (some ⟨g, 0, none⟩) op.length oc2)
            have hS8 := hS7.takeAt 3 op.length rfl encS_len (by simp)
            rw [List.take_left] at hS8
            have hS9 := (At.set10 4 (.int .i64 o.x.f0) (.int .i64 o.x.f1) (.int .i64 o.x.f2) (.string o.x.f3) (.int .i64 o.x.f4.f0) (.int .i64 o.x.f4.f1) (.string o.x.f4.f2) (.slice o.A o.x.f4.f3.length o.c) (.slice o.B o.x.f5.length o.d) (.slice o.C o.x.f6.length o.q) hS8 rfl).drew
            have hSa := ((hS9.tail).dropAt 3 (by simp)).dropAt 3 (by simp)
            exact hSa.fold1 fun w F h => hkN_up m w0 w o F h
end Go.Proofs.Ytlkkibeoobognaa.OpenInlineTrees
