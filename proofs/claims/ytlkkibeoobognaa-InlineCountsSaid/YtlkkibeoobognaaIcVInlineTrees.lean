/- The law InlineCounts: the walk. -/
import Derived.Test.YtlkkibeoobognaaIcWInlineTrees
set_option linter.unusedVariables false
set_option linter.unusedSimpArgs false
set_option maxRecDepth 100000
namespace Go.Proofs.Ytlkkibeoobognaa.OpenInlineTrees
open Go.RowKit Go.Deep
open Go.Proofs.YtlkkibeoobognaaW.PrintWords Go.Proofs.YtlkkibeoobognaaW.PrintLast Go.Proofs.YtlkkibeoobognaaW.PrintMore Go.Proofs.Ytlkkibeoobognaa.PInlineTrees
def useC : List Value := [.int .i64 10, .int .i64 0, .int .i64 0, .string ⟨#[117]⟩, .int .i64 0, .int .i64 0, .string ⟨#[]⟩, .slice none 0 0, .slice none 0 0, .slice none 0 0]
theorem use_M (w : World) (F : Nat → Prop) : k30.M w 0 F useU useC := plain_M w F 10 0 0 ⟨#[117]⟩ none 0 0 [] rfl (Kd.R_nil k30 30 w 0 F)
set_option maxHeartbeats 25600000 in
theorem counts_walk (n m : Int) (w : World) : Calls Try.prog 5 #[.int .i64 n, .int .i64 m] w fun e w' => e = .returned (.bool true) ∧ Below w.heap.size w w' := by
  have HA := As.mk (alive_does w)
  go_enter Try.func5, Try.ntmps5
  go_wp2_with fail
  refine HA.out.mono ?_
  rintro e w1 ⟨rfl, hb⟩
  have HB := As.mk hb
  clear hb HA
  go_upto_region 2 with fail
  go_cut [30] (fun vb wc => vb = .bool (decide (n < 1) || (decide (n > 16) || (decide (m < 0) || decide (m > 30)))) ∧ wc = w1)
  case first =>
    obtain ⟨b1, t1⟩ : ∃ b, decide (n < 1) = b := ⟨_, rfl⟩
    obtain ⟨b2, t2⟩ : ∃ b, decide (n > 16) = b := ⟨_, rfl⟩
    obtain ⟨b3, t3⟩ : ∃ b, decide (m < 0) = b := ⟨_, rfl⟩
    obtain ⟨b4, t4⟩ : ∃ b, decide (m > 30) = b := ⟨_, rfl⟩
    have HBD : As ((decide (n < 1) || (decide (n > 16) || (decide (m < 0) || decide (m > 30)))) = (b1 || (b2 || (b3 || b4)))) := ⟨by rw [t1, t2, t3, t4]⟩
    cases b1 <;> cases b2 <;> cases b3 <;> cases b4
    all_goals (go_wp2_with fail)
    all_goals (go_meet)
    all_goals (exact ⟨by rw [HBD.out]; rfl, rfl⟩)
  case rest =>
    obtain ⟨rfl, rfl⟩ := hcut
    cases hbad : (decide (n < 1) || (decide (n > 16) || (decide (m < 0) || decide (m > 30)))) with
    | true =>
      clear hbad
      go_wp2_with fail
      go_ret
      exact ⟨rfl, HB.out⟩
    | false =>
      simp only [Bool.or_eq_false_iff, decide_eq_false_iff_not] at hbad
      obtain ⟨g1, g2, g3, g4⟩ := hbad
      obtain ⟨N, rfl⟩ : ∃ N : Nat, n = (N : Int) := ⟨n.toNat, by omega⟩
      obtain ⟨M, rfl⟩ : ∃ M : Nat, m = (M : Int) := ⟨m.toNat, by omega⟩
      have HN := As.mk (⟨by omega, by omega, by omega⟩ : 1 ≤ N ∧ N ≤ 16 ∧ M ≤ 30)
      clear g1 g2 g3 g4
      have hS := At.start0 HB.out
      clear HB
      have hS := hS.alloc #[.int .i64 13, .int .i64 0, .int .i64 0, .string ⟨#[]⟩, .int .i64 0, .int .i64 0, .string ⟨#[]⟩, .slice none 0 0, .slice none 0 0, .slice none 0 0] 30
      obtain ⟨q0, hq0⟩ : ∃ q, q = wc.heap.size := ⟨_, rfl⟩
      obtain ⟨W0, hW0⟩ : ∃ V, V = wc.alloc (.cells #[.int .i64 13, .int .i64 0, .int .i64 0, .string ⟨#[]⟩, .int .i64 0, .int .i64 0, .string ⟨#[]⟩, .slice none 0 0, .slice none 0 0, .slice none 0 0] 30) := ⟨_, rfl⟩
      rw [← hq0, ← hW0] at hS
      have Hq : As (wc.alloc (.cells #[.int .i64 13, .int .i64 0, .int .i64 0, .string ⟨#[]⟩, .int .i64 0, .int .i64 0, .string ⟨#[]⟩, .slice none 0 0, .slice none 0 0, .slice none 0 0] 30) = W0 ∧ wc.heap.size = q0) := ⟨hW0.symm, hq0.symm⟩
      clear hq0 hW0
      go_upto_region 5 with fail
      rw [Hq.out.1, Hq.out.2]
      clear Hq
      have hS := At.new_kd k30 30 hS
      go_wp2_with fail
      go_loopg [7] M (fun g0 iv wr => ∃ (i : Nat) (g : Int) (xs : List S30) (B : Option Addr) (d : Nat), i + g0 = M ∧ iv = .int .i64 i ∧ As (chN i = ⟨g, 0, 0, ⟨#[]⟩, zE, xs, []⟩) ∧ At (fun _ => False) w wr (Hp.seps [hkd k30 30 (.slice B xs.length d) xs, Hp.blk q0 #[.int .i64 g, .int .i64 0, .int .i64 0, .string ⟨#[]⟩, .int .i64 0, .int .i64 0, .string ⟨#[]⟩, .slice none 0 0, .slice B xs.length d, .slice none 0 0] 30]))
      case atStart => exact ⟨0, 13, [], none, 0, by omega, rfl, ⟨rfl⟩, hS⟩
      case round =>
        clear hS
        obtain ⟨i, g, xs, B, d, hi, rfl, HX, hS⟩ := hrel
        by_cases hlt : i < M
        · have HI := As.mk hi
          have HLt := As.mk hlt
          have s0 : IntKind.i64.wrap ((i : Int) + 1) = ((i + 1 : Nat) : Int) := by rw [IntKind.wrap_i64]; have := HN.out; omega
          clear hi
          have z0 := (hS.cellAt 1 rfl 0).trans rfl
          have z1 := (hS.cellAt 1 rfl 1).trans rfl
          have z2 := (hS.cellAt 1 rfl 2).trans rfl
          have z3 := (hS.cellAt 1 rfl 3).trans rfl
          have z4 := (hS.cellAt 1 rfl 4).trans rfl
          have z5 := (hS.cellAt 1 rfl 5).trans rfl
          have z6 := (hS.cellAt 1 rfl 6).trans rfl
          have z7 := (hS.cellAt 1 rfl 7).trans rfl
          have z8 := (hS.cellAt 1 rfl 8).trans rfl
          have z9 := (hS.cellAt 1 rfl 9).trans rfl
          have zf0 := hS.frozenAt 1 rfl 0
          have zf1 := hS.frozenAt 1 rfl 1
          have zf2 := hS.frozenAt 1 rfl 2
          have zf3 := hS.frozenAt 1 rfl 3
          have zf4 := hS.frozenAt 1 rfl 4
          have zf5 := hS.frozenAt 1 rfl 5
          have zf6 := hS.frozenAt 1 rfl 6
          have zf7 := hS.frozenAt 1 rfl 7
          have zf8 := hS.frozenAt 1 rfl 8
          have zf9 := hS.frozenAt 1 rfl 9
          have zlt := hS.ltAt 1 rfl
          have hS9 := At.set10 1 (.int .i64 5) (.int .i64 0) (.int .i64 0) (.string ⟨#[]⟩) (.int .i64 0) (.int .i64 0) (.string ⟨#[]⟩) (.slice none 0 0) (.slice (some ⟨wr.heap.size, 0, none⟩) 1 1) (.slice none 0 0) hS rfl
          simp only [List.set_cons_succ, List.set_cons_zero] at hS9
          have hS10 := At.kd_litb (d := k30) (p := ⟨g, 0, 0, ⟨#[]⟩, zE, xs, []⟩) (cs := [.int .i64 g, .int .i64 0, .int .i64 0, .string ⟨#[]⟩, .int .i64 0, .int .i64 0, .string ⟨#[]⟩, .slice none 0 0, .slice B xs.length d, .slice none 0 0]) 30 wr.heap.size (by simp) hS9 (fun F h => plain_M _ F g 0 0 ⟨#[]⟩ B _ d xs rfl h.1)
          clear hS hS9
          go_wp2_with fail
          go_roundg (gk - 1)
          case measure => have := HI.out; have := HLt.out; omega
          case rel => exact ⟨i + 1, 5, [⟨g, 0, 0, ⟨#[]⟩, zE, xs, []⟩], some ⟨wr.heap.size, 0, none⟩, 1, by have := HI.out; have := HLt.out; omega, rfl, ⟨by rw [chN, HX.out]⟩, hS10⟩
        · obtain rfl : i = M := by omega
          have d0 : ¬ (i : Int) < (i : Int) := by omega
          clear hi hlt
          have hS := hS.alloc #[.int .i64 0, .int .i64 0, .int .i64 0, .string ⟨#[]⟩, .int .i64 0, .int .i64 0, .string ⟨#[]⟩, .slice none 0 0, .slice none 0 0, .slice none 0 0] 30
          obtain ⟨p0, hp0⟩ : ∃ q, q = wr.heap.size := ⟨_, rfl⟩
          obtain ⟨R0, hR0⟩ : ∃ V, V = wr.alloc (.cells #[.int .i64 0, .int .i64 0, .int .i64 0, .string ⟨#[]⟩, .int .i64 0, .int .i64 0, .string ⟨#[]⟩, .slice none 0 0, .slice none 0 0, .slice none 0 0] 30) := ⟨_, rfl⟩
          rw [← hp0, ← hR0] at hS
          have Hp : As (wr.alloc (.cells #[.int .i64 0, .int .i64 0, .int .i64 0, .string ⟨#[]⟩, .int .i64 0, .int .i64 0, .string ⟨#[]⟩, .slice none 0 0, .slice none 0 0, .slice none 0 0] 30) = R0 ∧ wr.heap.size = p0) := ⟨hR0.symm, hp0.symm⟩
          clear hp0 hR0
          go_wp2_with fail
          rw [Hp.out.1, Hp.out.2]
          clear Hp
          have hS := At.new_kd k30 30 hS
          go_loopg [9] N (fun g0 iv wr => ∃ (j : Nat) (B' : Option Addr) (d' : Nat), j + g0 = N ∧ iv = .int .i64 j ∧ At (fun _ => False) w wr (Hp.seps [hkd k30 30 (.slice B' j d') (List.replicate j useU), Hp.blk p0 #[.int .i64 0, .int .i64 0, .int .i64 0, .string ⟨#[]⟩, .int .i64 0, .int .i64 0, .string ⟨#[]⟩, .slice none 0 0, .slice B' j d', .slice none 0 0] 30, hkd k30 30 (.slice B xs.length d) xs, Hp.blk q0 #[.int .i64 g, .int .i64 0, .int .i64 0, .string ⟨#[]⟩, .int .i64 0, .int .i64 0, .string ⟨#[]⟩, .slice none 0 0, .slice B xs.length d, .slice none 0 0] 30]))
          case atStart => exact ⟨0, none, 0, by omega, rfl, hS⟩
          case round =>
            clear hS
            obtain ⟨j, B', d', hj, rfl, hS⟩ := hrel
            by_cases hjn : j < N
            · have HJ := As.mk hj
              have HJn := As.mk hjn
              have s0 : IntKind.i64.wrap ((j : Int) + 1) = ((j + 1 : Nat) : Int) := by rw [IntKind.wrap_i64]; have := HN.out; omega
              have hjb : j ≤ 16 := by have := HN.out; omega
              clear hj
              have hS0 := At.withEmp hS
              clear hS
              have y0 := (hS0.cellAt 2 rfl 0).trans rfl
              have y1 := (hS0.cellAt 2 rfl 1).trans rfl
              have y2 := (hS0.cellAt 2 rfl 2).trans rfl
              have y3 := (hS0.cellAt 2 rfl 3).trans rfl
              have y4 := (hS0.cellAt 2 rfl 4).trans rfl
              have y5 := (hS0.cellAt 2 rfl 5).trans rfl
              have y6 := (hS0.cellAt 2 rfl 6).trans rfl
              have y7 := (hS0.cellAt 2 rfl 7).trans rfl
              have y8 := (hS0.cellAt 2 rfl 8).trans rfl
              have y9 := (hS0.cellAt 2 rfl 9).trans rfl
              go_wp2_with (at_builtin; refine At.kd_append (d := k30) (e := 30) (xs := List.replicate j useU) (p := useU) (cs := useC) hS0 (fun F _ => use_M _ F) rfl (.tmp 48) (.tmp 50) 28 (.agg #[.int .i64 0, .int .i64 0, .int .i64 0, .string ⟨#[]⟩, .int .i64 0, .int .i64 0, .string ⟨#[]⟩, .slice none 0 0, .slice none 0 0, .slice none 0 0]) 144 rfl Try.underlying28 infoN rfl (by decide) (by decide) rfl rfl ?c1 ?c2)
              case c1 => rw [List.length_replicate]; omega
              case c2 =>
                intro v1 w5 hA
                obtain ⟨FR, hR⟩ := At.kd_at 0 hA rfl
                obtain ⟨D1, cc1, rfl⟩ := Kd.R_slice hR
                rw [List.length_append, List.length_singleton, List.length_replicate, ← List.replicate_succ'] at hA
                rw [List.length_append, List.length_singleton, List.length_replicate]
                clear hR hS0 y0 y1 y2 y3 y4 y5 y6 y7 y8 y9
                have g0 := (hA.cellAt 1 rfl 0).trans rfl
                have g1 := (hA.cellAt 1 rfl 1).trans rfl
                have g2 := (hA.cellAt 1 rfl 2).trans rfl
                have g3 := (hA.cellAt 1 rfl 3).trans rfl
                have g4 := (hA.cellAt 1 rfl 4).trans rfl
                have g5 := (hA.cellAt 1 rfl 5).trans rfl
                have g6 := (hA.cellAt 1 rfl 6).trans rfl
                have g7 := (hA.cellAt 1 rfl 7).trans rfl
                have g8 := (hA.cellAt 1 rfl 8).trans rfl
                have g9 := (hA.cellAt 1 rfl 9).trans rfl
                have gf0 := hA.frozenAt 1 rfl 0
                have gf1 := hA.frozenAt 1 rfl 1
                have gf2 := hA.frozenAt 1 rfl 2
                have gf3 := hA.frozenAt 1 rfl 3
                have gf4 := hA.frozenAt 1 rfl 4
                have gf5 := hA.frozenAt 1 rfl 5
                have gf6 := hA.frozenAt 1 rfl 6
                have gf7 := hA.frozenAt 1 rfl 7
                have gf8 := hA.frozenAt 1 rfl 8
                have gf9 := hA.frozenAt 1 rfl 9
                have glt := hA.ltAt 1 rfl
                have hS8 := hA.setBlkAt 1 rfl 8 (.slice D1 (j + 1) cc1)
                clear hA
                go_wp2_with fail
                go_roundg (gk - 1)
                case measure => have := HJ.out; have := HJn.out; omega
                case rel => exact ⟨j + 1, D1, cc1, by have := HJ.out; have := HJn.out; omega, rfl, hS8⟩
            · obtain rfl : j = N := by omega
              have d0 : ¬ (j : Int) < (j : Int) := by omega
              clear hj hjn
              have y0 := (hS.cellAt 1 rfl 0).trans rfl
              have y1 := (hS.cellAt 1 rfl 1).trans rfl
              have y2 := (hS.cellAt 1 rfl 2).trans rfl
              have y3 := (hS.cellAt 1 rfl 3).trans rfl
              have y4 := (hS.cellAt 1 rfl 4).trans rfl
              have y5 := (hS.cellAt 1 rfl 5).trans rfl
              have y6 := (hS.cellAt 1 rfl 6).trans rfl
              have y7 := (hS.cellAt 1 rfl 7).trans rfl
              have y8 := (hS.cellAt 1 rfl 8).trans rfl
              have y9 := (hS.cellAt 1 rfl 9).trans rfl
              have z0 := (hS.cellAt 3 rfl 0).trans rfl
              have z1 := (hS.cellAt 3 rfl 1).trans rfl
              have z2 := (hS.cellAt 3 rfl 2).trans rfl
              have z3 := (hS.cellAt 3 rfl 3).trans rfl
              have z4 := (hS.cellAt 3 rfl 4).trans rfl
              have z5 := (hS.cellAt 3 rfl 5).trans rfl
              have z6 := (hS.cellAt 3 rfl 6).trans rfl
              have z7 := (hS.cellAt 3 rfl 7).trans rfl
              have z8 := (hS.cellAt 3 rfl 8).trans rfl
              have z9 := (hS.cellAt 3 rfl 9).trans rfl
              have hS := hS.alloc #[.string ⟨#[116]⟩, .int .i64 0, .int .i64 0, .int .i64 0, .string ⟨#[]⟩, .int .i64 0, .int .i64 0, .string ⟨#[]⟩, .slice none 0 0, .slice B' j d', .slice none 0 0, .string ⟨#[117]⟩, .int .i64 g, .int .i64 0, .int .i64 0, .string ⟨#[]⟩, .int .i64 0, .int .i64 0, .string ⟨#[]⟩, .slice none 0 0, .slice B xs.length d, .slice none 0 0] 32
              obtain ⟨t0, ht0⟩ : ∃ q, q = wr.heap.size := ⟨_, rfl⟩
              obtain ⟨T0, hT0⟩ : ∃ V, V = wr.alloc (.cells #[.string ⟨#[116]⟩, .int .i64 0, .int .i64 0, .int .i64 0, .string ⟨#[]⟩, .int .i64 0, .int .i64 0, .string ⟨#[]⟩, .slice none 0 0, .slice B' j d', .slice none 0 0, .string ⟨#[117]⟩, .int .i64 g, .int .i64 0, .int .i64 0, .string ⟨#[]⟩, .int .i64 0, .int .i64 0, .string ⟨#[]⟩, .slice none 0 0, .slice B xs.length d, .slice none 0 0] 32) := ⟨_, rfl⟩
              rw [← ht0, ← hT0] at hS
              have Ht : As (wr.alloc (.cells #[.string ⟨#[116]⟩, .int .i64 0, .int .i64 0, .int .i64 0, .string ⟨#[]⟩, .int .i64 0, .int .i64 0, .string ⟨#[]⟩, .slice none 0 0, .slice B' j d', .slice none 0 0, .string ⟨#[117]⟩, .int .i64 g, .int .i64 0, .int .i64 0, .string ⟨#[]⟩, .int .i64 0, .int .i64 0, .string ⟨#[]⟩, .slice none 0 0, .slice B xs.length d, .slice none 0 0] 32) = T0 ∧ wr.heap.size = t0) := ⟨hT0.symm, ht0.symm⟩
              clear ht0 hT0
              obtain ⟨L, hL⟩ : ∃ L : List S32, L = [⟨⟨#[116]⟩, ⟨0, 0, 0, ⟨#[]⟩, zE, List.replicate j useU, []⟩⟩, ⟨⟨#[117]⟩, ⟨g, 0, 0, ⟨#[]⟩, zE, xs, []⟩⟩] := ⟨_, rfl⟩
              have hL2 : L = cL j i := by rw [hL, cL, HX.out]; rfl
              have hC : k32.C T0 (some ⟨t0, 0, none⟩) 2 L := by
                rw [hL]
                exact trees_two _ _ (plain_in 1 hS rfl (List.length_replicate ..).symm _ _ _ _) (plain_in 3 hS rfl rfl _ _ _ _) (hS.blkAt 0 rfl) (by simp [treeC, zE])
              have hT := tree_ok 50 (by omega) T0 (some ⟨t0, 0, none⟩) 2 L ⟨by rw [hL] at hC ⊢; exact hC, by rw [hL]; exact Nat.le_refl 2, fun t ht => by
                rw [hL2, cL] at ht
                rcases List.mem_cons.1 ht with rfl | ht
                · exact seq_sz _ HN.out.2.1
                · obtain rfl : t = _ := by simpa using ht
                  have := ch_sz i
                  have := HN.out.2.2
                  simp only []; omega⟩ ⟨#[116]⟩ (seqN (List.replicate j (chN i))) (1 + j * (i + 1)) (by rw [hL2]; exact cnt_res j i HN.out.2.1 HN.out.2.2)
              have h1 := top_cnt j i
              have h2 := top_dep j i HN.out.1
              generalize seqN (List.replicate j (chN i)) = Y at hT h1 h2
              rw [show L.length = 2 by rw [hL]; rfl] at hT
              unfold nodeV at hT
              have hp : j * (i + 1) ≤ 16 * 31 := Nat.mul_le_mul HN.out.2.1 (by have := HN.out; omega)
              have HT := As.mk hT
              have HY := As.mk (⟨h1, h2, hp⟩ : _ ∧ _ ∧ _)
              have HB := As.mk hS.bl
              clear hT hC hL hL2 h1 h2 hp hS HX
              go_upto_region 14 with fail
              go_wp2_with fail
              rw [Ht.out.1, Ht.out.2]
              clear Ht
              refine HT.out.mono ?_
              rintro e w1 ⟨A7, c7, A8, c8, A9, c9, rfl, hb, hN⟩
              have HB1 := As.mk (HB.out.trans (Below.mono hb HB.out.size))
              have HN1 := As.mk hN
              clear hN hb HB HT y0 y1 y2 y3 y4 y5 y6 y7 y8 y9 z0 z1 z2 z3 z4 z5 z6 z7 z8 z9
              have hS := At.start0 (Below.refl w1.heap.size w1)
              have hCt := As.mk (fun (V : World) (hb : Below w1.heap.size w1 V) => by
                have h := count_does V Y (HN1.out.below hb) (by have := HY.out; omega)
                rw [show ((cntN Y : Nat) : Int) = 1 + (j : Int) * ((i : Int) + 1) by rw [HY.out.1]; simp] at h
                unfold nodeV at h
                exact h)
              have hDt := As.mk (fun (V : World) (hb : Below w1.heap.size w1 V) => by
                have h := depth_does V Y (HN1.out.below hb) (by have := HY.out; omega)
                rw [show ((depN Y : Nat) : Int) = (i : Int) + 2 by rw [HY.out.2.1]; simp] at h
                unfold nodeV at h
                exact h)
              have e1 : (j : Int) * ((i : Int) + 1) = ((j * (i + 1) : Nat) : Int) := by simp
              have s1 : IntKind.i64.wrap ((i : Int) + 1) = (i : Int) + 1 := by rw [IntKind.wrap_i64]; have := HN.out; omega
              have s2 : IntKind.i64.wrap ((j : Int) * ((i : Int) + 1)) = (j : Int) * ((i : Int) + 1) := by rw [IntKind.wrap_i64, e1]; have := HY.out; omega
              have s3 : IntKind.i64.wrap (1 + (j : Int) * ((i : Int) + 1)) = 1 + (j : Int) * ((i : Int) + 1) := by rw [IntKind.wrap_i64, e1]; have := HY.out; omega
              have s4 : IntKind.i64.wrap ((i : Int) + 2) = (i : Int) + 2 := by rw [IntKind.wrap_i64]; have := HN.out; omega
              clear e1
              have hS := hS.alloc #[.int .i64 Y.f0, .int .i64 Y.f1, .int .i64 Y.f2, .string Y.f3, .int .i64 Y.f4.f0, .int .i64 Y.f4.f1, .string Y.f4.f2, .slice A7 Y.f4.f3.length c7, .slice A8 Y.f5.length c8, .slice A9 Y.f6.length c9] 30
              obtain ⟨k0, hk0⟩ : ∃ q, q = w1.heap.size := ⟨_, rfl⟩
              obtain ⟨K0, hK0⟩ : ∃ V, V = w1.alloc (.cells #[.int .i64 Y.f0, .int .i64 Y.f1, .int .i64 Y.f2, .string Y.f3, .int .i64 Y.f4.f0, .int .i64 Y.f4.f1, .string Y.f4.f2, .slice A7 Y.f4.f3.length c7, .slice A8 Y.f5.length c8, .slice A9 Y.f6.length c9] 30) := ⟨_, rfl⟩
              rw [← hk0, ← hK0] at hS
              have Hk : As (w1.alloc (.cells #[.int .i64 Y.f0, .int .i64 Y.f1, .int .i64 Y.f2, .string Y.f3, .int .i64 Y.f4.f0, .int .i64 Y.f4.f1, .string Y.f4.f2, .slice A7 Y.f4.f3.length c7, .slice A8 Y.f5.length c8, .slice A9 Y.f6.length c9] 30) = K0 ∧ w1.heap.size = k0) := ⟨hK0.symm, hk0.symm⟩
              clear hk0 hK0
              go_upto_region 15 with fail
              rw [Hk.out.1, Hk.out.2]
              clear Hk
              go_wp2_with fail
              refine (num_does _ _).mono ?_
              rintro e w2 ⟨rfl, hb⟩
              have hS2 := hS.below hb
              clear hS hb
              have z0 := (hS2.cellAt 0 rfl 0).trans rfl
              have z1 := (hS2.cellAt 0 rfl 1).trans rfl
              have z2 := (hS2.cellAt 0 rfl 2).trans rfl
              have z3 := (hS2.cellAt 0 rfl 3).trans rfl
              have z4 := (hS2.cellAt 0 rfl 4).trans rfl
              have z5 := (hS2.cellAt 0 rfl 5).trans rfl
              have z6 := (hS2.cellAt 0 rfl 6).trans rfl
              have z7 := (hS2.cellAt 0 rfl 7).trans rfl
              have z8 := (hS2.cellAt 0 rfl 8).trans rfl
              have z9 := (hS2.cellAt 0 rfl 9).trans rfl
              have HC2 := As.mk (hCt.out _ hS2.bl)
              go_wp2_with fail
              refine HC2.out.mono ?_
              rintro e w3 ⟨rfl, hb⟩
              have hS3 := hS2.below hb
              clear hS2 hb z0 z1 z2 z3 z4 z5 z6 z7 z8 z9 HC2
              have z0 := (hS3.cellAt 0 rfl 0).trans rfl
              have z1 := (hS3.cellAt 0 rfl 1).trans rfl
              have z2 := (hS3.cellAt 0 rfl 2).trans rfl
              have z3 := (hS3.cellAt 0 rfl 3).trans rfl
              have z4 := (hS3.cellAt 0 rfl 4).trans rfl
              have z5 := (hS3.cellAt 0 rfl 5).trans rfl
              have z6 := (hS3.cellAt 0 rfl 6).trans rfl
              have z7 := (hS3.cellAt 0 rfl 7).trans rfl
              have z8 := (hS3.cellAt 0 rfl 8).trans rfl
              have z9 := (hS3.cellAt 0 rfl 9).trans rfl
              have HD2 := As.mk (hDt.out _ hS3.bl)
              go_wp2_with fail
              refine HD2.out.mono ?_
              rintro e w4 ⟨rfl, hb⟩
              have hS4 := hS3.below hb
              clear hS3 hb z0 z1 z2 z3 z4 z5 z6 z7 z8 z9 HD2
              go_wp2_with fail
              go_ret
              exact ⟨rfl, HB1.out.trans (Below.mono hS4.bl HB1.out.size)⟩
end Go.Proofs.Ytlkkibeoobognaa.OpenInlineTrees
