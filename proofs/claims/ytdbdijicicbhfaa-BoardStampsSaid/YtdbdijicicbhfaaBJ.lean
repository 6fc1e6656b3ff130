/- BoardStamps answers true: for all lists. -/
import Derived.Test.YtdbdijicicbhfaaBI
import Derived.Laws.BitsLemmas
set_option linter.unusedVariables false
set_option linter.unusedSimpArgs false
namespace Go.Proofs.Ytdbdijicicbhfaa
open Go.RowKit
theorem i64_and1 (n : Int) : bits .and .i64 n 1 = 0 ∨ bits .and .i64 n 1 = 1 := by
  have h : bits .and .i64 n 1 = n % 2 := by
    have h127 : (BitVec.ofInt 64 1).toNat = 2 ^ 1 - 1 := by decide
    have key : (BitVec.ofInt 64 n &&& BitVec.ofInt 64 1).toNat = (n % ((2 ^ 64 : Nat) : Int)).toNat % 2 ^ 1 := by
      rw [BitVec.toNat_and, BitVec.toNat_ofInt, h127, Nat.and_two_pow_sub_one_eq_mod]
    show IntKind.i64.wrap ((BitVec.ofInt 64 n &&& BitVec.ofInt 64 1).toNat : Nat) = n % 2
    rw [key, IntKind.wrap_i64]
    omega
  omega
def encI (x : Int) : List Value := [.int .i64 x]
theorem encI_len (x : Int) : (encI x).length = 1 := rfl
def pK : PK := ((0, 1), ⟨#[107]⟩, false)
def pS : PK := ((0, 0), ⟨#[115]⟩, true)
set_option maxRecDepth 100000 in
set_option maxHeartbeats 12800000 in
theorem stamps_walk (v : Value) (l : List Int) (w : World) (hd : Rd w 1 encI v l) : Calls Try.prog 4 #[v] w fun e w' => e = .returned (.bool true) ∧ Below w.heap.size w w' := by
  obtain ⟨dA, dc, rfl, hdc, hdn⟩ := hd.shape
  have HD := As.mk hd
  have hS := At.start0 (Below.refl w.heap.size w)
  clear hd
  by_cases h60 : 60 < l.length
  · have g0 : decide (60 < l.length) = true := decide_eq_true h60
    have g1 : decide ((60 : Int) < (l.length : Int)) = true := decide_eq_true (by omega)
    clear h60
    go_enter Try.func4, Try.ntmps4
    go_wp2_with fail
    refine (hS.beside (alive_does _)).mono ?_
    rintro e w1 ⟨rfl, hS1⟩
    clear hS
    go_upto_region 2 with fail
    have hS2 := hS1.alloc #[.string ⟨#[107]⟩, .int .i64 0, .bool false, .string ⟨#[115]⟩, .int .i64 0, .bool true] 30
    have HC := As.mk (bnew_does (.slice (some ⟨w1.heap.size, 0, none⟩) 2 2) [kF, kG] _ (rd_blk [kF, kG] encKey_len (hS2.blkAt 0 rfl) (by simp)) (by intro x hx; simp at hx; rcases hx with rfl | rfl <;> decide) newFG)
    go_wp2_with fail
    refine HC.out.mono ?_
    rintro e w2 ⟨p, rfl, hSn⟩
    have hS3 := hS2.also hSn
    clear hS1 hS2 hSn HC
    go_wp2_with fail
    refine (num_does _ _).mono ?_
    rintro e w3 ⟨rfl, rfl⟩
    go_wp2_with fail
    go_ret
    exact ⟨rfl, hS3.bl⟩
  · have g0 : decide (60 < l.length) = false := decide_eq_false h60
    have g1 : decide ((60 : Int) < (l.length : Int)) = false := decide_eq_false (by omega)
    have H60 := As.mk h60
    clear h60
    go_enter Try.func4, Try.ntmps4
    go_wp2_with fail
    refine (hS.beside (alive_does _)).mono ?_
    rintro e w1 ⟨rfl, hS1⟩
    clear hS
    go_upto_region 2 with fail
    have hS2 := hS1.alloc #[.string ⟨#[107]⟩, .int .i64 0, .bool false, .string ⟨#[115]⟩, .int .i64 0, .bool true] 30
    have HC := As.mk (bnew_does (.slice (some ⟨w1.heap.size, 0, none⟩) 2 2) [kF, kG] _ (rd_blk [kF, kG] encKey_len (hS2.blkAt 0 rfl) (by simp)) (by intro x hx; simp at hx; rcases hx with rfl | rfl <;> decide) newFG)
    go_wp2_with fail
    refine HC.out.mono ?_
    rintro e w2 ⟨p, rfl, hSn⟩
    have hS3 := hS2.also hSn
    clear hS1 hS2 hSn HC
    go_wp2_with fail
    refine (num_does _ _).mono ?_
    rintro e w3 ⟨rfl, rfl⟩
    go_upto_region 5 with fail
    have hS4 := hS3.sel [0]
    clear hS3
    have hS4 := hS4.alloc #[.int .i64 0, .int .i64 0] 41
    obtain ⟨q0, hq0⟩ : ∃ q, q = w2.heap.size := ⟨_, rfl⟩
    obtain ⟨W0, hW0⟩ : ∃ V, V = w2.alloc (.cells #[.int .i64 0, .int .i64 0] 41) := ⟨_, rfl⟩
    rw [← hq0, ← hW0] at hS4
    have hS4 := hS4.alloc #[.string ⟨#[107]⟩, .string ⟨#[115]⟩] 9
    obtain ⟨q1, hq1⟩ : ∃ q, q = W0.heap.size := ⟨_, rfl⟩
    obtain ⟨W1, hW1⟩ : ∃ V, V = W0.alloc (.cells #[.string ⟨#[107]⟩, .string ⟨#[115]⟩] 9) := ⟨_, rfl⟩
    rw [← hq1, ← hW1] at hS4
    have Hq : As (w2.alloc (.cells #[.int .i64 0, .int .i64 0] 41) = W0 ∧ w2.heap.size = q0 ∧ W0.alloc (.cells #[.string ⟨#[107]⟩, .string ⟨#[115]⟩] 9) = W1 ∧ q0 + 1 = q1) := ⟨hW0.symm, hq0.symm, hW1.symm, by rw [hq1, hW0, hq0]; simp⟩
    clear hq0 hW0 hq1 hW1
    go_upto_region 8 with fail
    rw [Hq.out.1, Hq.out.2.1, Hq.out.2.2.1, Hq.out.2.2.2]
    clear Hq
    go_wp2_with fail
    go_loopg [7, 9] l.length (fun g0 lv iv wr => ∃ (i n : Nat) (f : PF) (t a0 a1 : Int), i + g0 = l.length ∧ lv = .int .i64 t ∧ iv = .int .i64 i ∧ As (0 ≤ t ∧ t ≤ i ∧ (cellOf f pK).1 = a0 ∧ (cellOf f pS).1 = a1) ∧ At (fun _ => False) w wr (Hp.seps [Hp.blk q1 #[.string ⟨#[107]⟩, .string ⟨#[115]⟩] 9, Hp.blk q0 #[.int .i64 a0, .int .i64 a1] 41, isBd p [kF, kG] n f t]))
    case atStart => exact ⟨0, 0, _, 0, 0, 0, by omega, rfl, rfl, ⟨by omega, by omega, rfl, rfl⟩, hS4⟩
    case round =>
      clear hS4
      obtain ⟨i, n, f, t, a0, a1, hi, rfl, rfl, HI, hS⟩ := hrel
      by_cases hlt : i < l.length
      · have HG := As.mk hi
        obtain ⟨x, hx⟩ : ∃ x, l[i]? = some x := ⟨_, List.getElem?_eq_getElem hlt⟩
        obtain ⟨bk, off, rfl, hbk, hcell⟩ := (HD.out.below hS.bl).cells _ _ _ rfl i x hx
        have c0 := hcell 0 (by omega)
        simp only [encI, List.getElem?_cons_zero, Nat.add_zero, Nat.mul_one] at c0
        clear hi hcell hx
        go_upto_region 13 with fail
        generalize bits .and .i64 (x / 2) 3 = N
        have hk2 := i64_and1 x
        generalize bits .and .i64 x 1 = k at *
        clear c0
        obtain ⟨ht0, ht1, ha0, ha1⟩ := HI.out
        have hlt' : t ≤ 60 := by have := HG.out; have := H60.out; omega
        have HT := As.mk ht1
        clear HI ht1
        rcases hk2 with rfl | rfl
        · have e0 : plOf kF (0, 1) ⟨#[107]⟩ = pK := rfl
          have HW := As.mk (write_tells p [kF, kG] n f t (0, 1) ⟨#[107]⟩ kF N knowsF ⟨okI0, by decide, by decide⟩ ⟨ht0, by omega⟩)
          rw [e0] at HW
          have HV : As ((cellOf (wF f pK N t) pK).1 = N) := ⟨wF_val _ _ _ _⟩
          have HO : As ((cellOf (wF f pK N t) pS).1 = a1) := ⟨by rw [wF_other _ _ _ _ _ (by decide)]; exact ha1⟩
          have HX : As ((N = a0 → wN f pK N t = t) ∧ (N ≠ a0 → wN f pK N t = t + 1 ∧ (cellOf (wF f pK N t) pK).2 = t + 1)) := ⟨by
            rw [wF_same]
            unfold wN
            rw [ha0]
            refine ⟨fun h => if_pos h, fun h => ⟨if_neg h, by rw [if_neg h]⟩⟩⟩
          generalize wF f pK N t = f1 at *
          generalize wN f pK N t = t1 at *
          generalize wC f pK N n = n1 at *
          have HS := As.mk (stamp_does p [kF, kG] n1 f1 t1 (0, 1) ⟨#[107]⟩ kF knowsF ⟨okI0, by decide, by decide⟩)
          rw [e0] at HS
          generalize (cellOf f1 pK).2 = sx at *
          clear e0 ha0 ha1
          have u0 := (hS.cellAt 0 rfl 0).trans rfl
          have u1 := (hS.cellAt 0 rfl 1).trans rfl
          go_wp2_with fail
          refine (hS.callAt 2 rfl HW.out).mono ?_
          rintro e w5 ⟨B, ⟨rfl, rfl⟩, hS1⟩
          have hS1 : At (fun _ => False) w w5 (Hp.seps [Hp.blk q1 #[.string ⟨#[107]⟩, .string ⟨#[115]⟩] 9, Hp.blk q0 #[.int .i64 a0, .int .i64 a1] 41, isBd p [kF, kG] n1 f1 t1]) := hS1
          clear hS HW u0 u1
          have u0 := (hS1.cellAt 0 rfl 0).trans rfl
          have u1 := (hS1.cellAt 0 rfl 1).trans rfl
          go_wp2_with fail
          refine (hS1.callAt 2 rfl HS.out).mono ?_
          rintro e w6 ⟨B, ⟨rfl, rfl⟩, hS2⟩
          have hS2 : At (fun _ => False) w w6 (Hp.seps [Hp.blk q1 #[.string ⟨#[107]⟩, .string ⟨#[115]⟩] 9, Hp.blk q0 #[.int .i64 a0, .int .i64 a1] 41, isBd p [kF, kG] n1 f1 t1]) := hS2
          clear hS1 HS u0 u1
          have z0 := (hS2.cellAt 1 rfl 0).trans rfl
          have z1 := (hS2.cellAt 1 rfl 1).trans rfl
          have zf0 := hS2.frozenAt 1 rfl 0
          have zf1 := hS2.frozenAt 1 rfl 1
          have zlt := hS2.ltAt 1 rfl
          by_cases hN : N = a0
          · obtain rfl := HX.out.1 hN
            subst hN
            have b0 : (N != N) = false := by simp
            have b1 : (t1 != t1) = false := by simp
            have hS3 := hS2.setBlkAt 1 rfl 0 (.int .i64 N)
            clear HX hS2
            go_wp2_with fail
            refine (hS3.callAt 2 rfl (now_does p [kF, kG] n1 f1 t1)).mono ?_
            rintro e w7 ⟨B, ⟨rfl, rfl⟩, hS4⟩
            clear hS3 z0 z1 zf0 zf1 zlt
            go_wp2_with fail
            go_roundg (gk - 1)
            case measure => have := HG.out; omega
            case rel => exact ⟨i + 1, n1, f1, t1, N, a1, by have := HG.out; omega, rfl, by go_num, ⟨by have := HT.out; omega, by have := HT.out; omega, HV.out, HO.out⟩, hS4⟩
          · obtain ⟨h1, h2⟩ := HX.out.2 hN
            subst h2
            subst h1
            have b0 : (N != a0) = true := by simpa using hN
            have b1 : (t + 1 != t + 1) = false := by simp
            have hS3 := hS2.setBlkAt 1 rfl 0 (.int .i64 N)
            clear HX hS2 hN
            go_wp2_with fail
            refine (hS3.callAt 2 rfl (now_does p [kF, kG] n1 f1 (t + 1))).mono ?_
            rintro e w7 ⟨B, ⟨rfl, rfl⟩, hS4⟩
            clear hS3 z0 z1 zf0 zf1 zlt
            go_wp2_with fail
            go_roundg (gk - 1)
            case measure => have := HG.out; omega
            case rel => exact ⟨i + 1, n1, f1, t + 1, N, a1, by have := HG.out; omega, rfl, by go_num, ⟨by have := HT.out; omega, by have := HT.out; omega, HV.out, HO.out⟩, hS4⟩
        · have e0 : plOf kG (0, 1) ⟨#[115]⟩ = pS := rfl
          have HW := As.mk (write_tells p [kF, kG] n f t (0, 1) ⟨#[115]⟩ kG N knowsG ⟨okI0, by decide, by decide⟩ ⟨ht0, by omega⟩)
          rw [e0] at HW
          have HV : As ((cellOf (wF f pS N t) pS).1 = N) := ⟨wF_val _ _ _ _⟩
          have HO : As ((cellOf (wF f pS N t) pK).1 = a0) := ⟨by rw [wF_other _ _ _ _ _ (by decide)]; exact ha0⟩
          have HX : As ((N = a1 → wN f pS N t = t) ∧ (N ≠ a1 → wN f pS N t = t + 1 ∧ (cellOf (wF f pS N t) pS).2 = t + 1)) := ⟨by
            rw [wF_same]
            unfold wN
            rw [ha1]
            refine ⟨fun h => if_pos h, fun h => ⟨if_neg h, by rw [if_neg h]⟩⟩⟩
          generalize wF f pS N t = f1 at *
          generalize wN f pS N t = t1 at *
          generalize wC f pS N n = n1 at *
          have HS := As.mk (stamp_does p [kF, kG] n1 f1 t1 (0, 1) ⟨#[115]⟩ kG knowsG ⟨okI0, by decide, by decide⟩)
          rw [e0] at HS
          generalize (cellOf f1 pS).2 = sx at *
          clear e0 ha0 ha1
          have u0 := (hS.cellAt 0 rfl 0).trans rfl
          have u1 := (hS.cellAt 0 rfl 1).trans rfl
          go_wp2_with fail
          refine (hS.callAt 2 rfl HW.out).mono ?_
          rintro e w5 ⟨B, ⟨rfl, rfl⟩, hS1⟩
          have hS1 : At (fun _ => False) w w5 (Hp.seps [Hp.blk q1 #[.string ⟨#[107]⟩, .string ⟨#[115]⟩] 9, Hp.blk q0 #[.int .i64 a0, .int .i64 a1] 41, isBd p [kF, kG] n1 f1 t1]) := hS1
          clear hS HW u0 u1
          have u0 := (hS1.cellAt 0 rfl 0).trans rfl
          have u1 := (hS1.cellAt 0 rfl 1).trans rfl
          go_wp2_with fail
          refine (hS1.callAt 2 rfl HS.out).mono ?_
          rintro e w6 ⟨B, ⟨rfl, rfl⟩, hS2⟩
          have hS2 : At (fun _ => False) w w6 (Hp.seps [Hp.blk q1 #[.string ⟨#[107]⟩, .string ⟨#[115]⟩] 9, Hp.blk q0 #[.int .i64 a0, .int .i64 a1] 41, isBd p [kF, kG] n1 f1 t1]) := hS2
          clear hS1 HS u0 u1
          have z0 := (hS2.cellAt 1 rfl 0).trans rfl
          have z1 := (hS2.cellAt 1 rfl 1).trans rfl
          have zf0 := hS2.frozenAt 1 rfl 0
          have zf1 := hS2.frozenAt 1 rfl 1
          have zlt := hS2.ltAt 1 rfl
          by_cases hN : N = a1
          · obtain rfl := HX.out.1 hN
            subst hN
            have b0 : (N != N) = false := by simp
            have b1 : (t1 != t1) = false := by simp
            have hS3 := hS2.setBlkAt 1 rfl 1 (.int .i64 N)
            clear HX hS2
            go_wp2_with fail
            refine (hS3.callAt 2 rfl (now_does p [kF, kG] n1 f1 t1)).mono ?_
            rintro e w7 ⟨B, ⟨rfl, rfl⟩, hS4⟩
            clear hS3 z0 z1 zf0 zf1 zlt
            go_wp2_with fail
            go_roundg (gk - 1)
            case measure => have := HG.out; omega
            case rel => exact ⟨i + 1, n1, f1, t1, a0, N, by have := HG.out; omega, rfl, by go_num, ⟨by have := HT.out; omega, by have := HT.out; omega, HO.out, HV.out⟩, hS4⟩
          · obtain ⟨h1, h2⟩ := HX.out.2 hN
            subst h2
            subst h1
            have b0 : (N != a1) = true := by simpa using hN
            have b1 : (t + 1 != t + 1) = false := by simp
            have hS3 := hS2.setBlkAt 1 rfl 1 (.int .i64 N)
            clear HX hS2 hN
            go_wp2_with fail
            refine (hS3.callAt 2 rfl (now_does p [kF, kG] n1 f1 (t + 1))).mono ?_
            rintro e w7 ⟨B, ⟨rfl, rfl⟩, hS4⟩
            clear hS3 z0 z1 zf0 zf1 zlt
            go_wp2_with fail
            go_roundg (gk - 1)
            case measure => have := HG.out; omega
            case rel => exact ⟨i + 1, n1, f1, t + 1, a0, N, by have := HG.out; omega, rfl, by go_num, ⟨by have := HT.out; omega, by have := HT.out; omega, HO.out, HV.out⟩, hS4⟩
      · obtain rfl : i = l.length := by omega
        go_wp2_with fail
        go_ret
        exact ⟨rfl, hS.bl⟩
end Go.Proofs.Ytdbdijicicbhfaa
