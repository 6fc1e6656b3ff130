/- The law InlineRings: the walk. -/
import Derived.Test.YtlkkibeoobognaaIrDInlineTrees
import Derived.Test.YtlkkibeoobognaaRowz
set_option linter.unusedVariables false
set_option linter.unusedSimpArgs false
set_option maxRecDepth 100000
namespace Go.Proofs.Ytlkkibeoobognaa.OpenInlineTrees
open Go.RowKit Go.Deep
open Go.Proofs.YtlkkibeoobognaaW.PrintWords Go.Proofs.YtlkkibeoobognaaW.PrintLast Go.Proofs.YtlkkibeoobognaaW.PrintMore Go.Proofs.Ytlkkibeoobognaa.PInlineTrees
theorem infoT : (Try.prog.info? 32).map (fun i => (i.zero, i.size, i.bytes)) = some (some (.agg #[.string ⟨#[]⟩, .int .i64 0, .int .i64 0, .int .i64 0, .string ⟨#[]⟩, .int .i64 0, .int .i64 0, .string ⟨#[]⟩, .slice none 0 0, .slice none 0 0, .slice none 0 0]), 11, 160) := by kernel_rfl
theorem drew_alloc2 (w : World) (o o' : Obj) : ((w.alloc o).alloc o').drew = (w.drew.alloc o).alloc o' := rfl
theorem ringL_snoc (n : Nat) (r : Bool) (i : Nat) : ringL n r (i + 1) = ringL n r i ++ [ringT n r i] := by rw [ringL, List.range_succ, List.map_append]; rfl
theorem ringL_len (n : Nat) (r : Bool) (i : Nat) : (ringL n r i).length = i := by rw [ringL, List.length_map, List.length_range]
theorem decS_size (i : Nat) : (decS i).size ≤ 2 := by unfold decS; split <;> simp [ByteArray.size]
theorem nmS_size (i : Nat) : (nmS i).size ≤ 3 := by
  have h := decS_size i
  have h1 : (⟨#[116]⟩ : ByteArray).size = 1 := rfl
  rw [nmS, ByteArray.size_append]; omega
theorem ring_sz (n i : Nat) (r : Bool) : szN (ringT n r i).f1 ≤ 1048576 := by
  have h0 : (⟨#[]⟩ : ByteArray).size = 0 := rfl
  have h1 := nmS_size ((i + 1) % n)
  simp only [ringT, notN, ringX]
  split
  · simp only [szN, szNs, szEs, szE, zE]; omega
  · simp only [szN, szNs, szEs, szE, zE]; omega
set_option maxHeartbeats 25600000 in
theorem rings_walk (n : Int) (r : Bool) (w : World) : Calls Try.prog 6 #[.int .i64 n, .bool r] w fun e w' => e = .returned (.bool true) ∧ Below w.heap.size w w' := by
  have HA := As.mk (alive_does w)
  go_enter Try.func6, Try.ntmps6
  go_wp2_with fail
  refine HA.out.mono ?_
  rintro e w1 ⟨rfl, hb⟩
  have HB := As.mk hb
  clear hb HA
  go_upto_region 2 with fail
  go_cut [21] (fun vb wc => vb = .bool (decide (n < 1) || decide (n > 30)) ∧ wc = w1)
  case first =>
    obtain ⟨b1, t1⟩ : ∃ b, decide (n < 1) = b := ⟨_, rfl⟩
    obtain ⟨b2, t2⟩ : ∃ b, decide (n > 30) = b := ⟨_, rfl⟩
    have HBD : As ((decide (n < 1) || decide (n > 30)) = (b1 || b2)) := ⟨by rw [t1, t2]⟩
    cases b1 <;> cases b2
    all_goals (go_wp2_with fail)
    all_goals (go_meet)
    all_goals (exact ⟨by rw [HBD.out]; rfl, rfl⟩)
  case rest =>
    obtain ⟨rfl, rfl⟩ := hcut
    cases hbad : (decide (n < 1) || decide (n > 30)) with
    | true =>
      clear hbad
      go_wp2_with fail
      go_ret
      exact ⟨rfl, HB.out⟩
    | false =>
      simp only [Bool.or_eq_false_iff, decide_eq_false_iff_not] at hbad
      obtain ⟨g1, g2⟩ := hbad
      obtain ⟨N, rfl⟩ : ∃ N : Nat, n = (N : Int) := ⟨n.toNat, by omega⟩
      have HN := As.mk (⟨by omega, by omega⟩ : 1 ≤ N ∧ N ≤ 30)
      clear g1 g2
      have hS := At.new_kd k32 32 (At.start0 HB.out)
      clear HB
      have sN : IntKind.i64.wrap ((N : Int) - 1) = (N : Int) - 1 := by rw [IntKind.wrap_i64]; have := HN.out; omega
      have nN : (N : Int) ≠ 0 := by have := HN.out; omega
      go_wp2_with fail
      go_loopg [6, 7] N (fun g0 v iv wr => ∃ (i : Nat) (B : Option Addr) (d : Nat), i + g0 = N ∧ iv = .int .i64 i ∧ v = .slice B i d ∧ At (fun _ => False) w wr (Hp.seps [hkd k32 32 (.slice B i d) (ringL N r i)]))
      case atStart => exact ⟨0, none, 0, by omega, rfl, rfl, hS⟩
      case round =>
        clear hS
        obtain ⟨i, B, d, hi, rfl, rfl, hS⟩ := hrel
        by_cases hlt : i < N
        · have HI := As.mk hi
          have HLt := As.mk hlt
          have s0 : IntKind.i64.wrap ((i : Int) + 1) = (i : Int) + 1 := by rw [IntKind.wrap_i64]; have := HN.out; omega
          obtain ⟨k, hk⟩ : ∃ k, (i + 1) % N = k := ⟨_, rfl⟩
          have e1 : ((i : Int) + 1) % (N : Int) = (k : Int) := by rw [← hk]; simp
          have hk3 : k < 30 := by rw [← hk]; have := HN.out; have := Nat.mod_lt (i + 1) (show 0 < N by omega); omega
          have HK := As.mk (⟨hk, hk3⟩ : _ ∧ _)
          have HD := As.mk (dec_does wr k hk3)
          clear hi hk hk3
          go_wp2_with fail
          rw [e1]
          refine HD.out.mono ?_
          rintro e w2 ⟨rfl, rfl⟩
          clear HD
          have hsz := decS_size k
          have hS := hS.alloc #[.int .i64 10, .int .i64 0, .int .i64 0, .string (⟨#[116]⟩ ++ decS k), .int .i64 0, .int .i64 0, .string ⟨#[]⟩, .slice none 0 0, .slice none 0 0, .slice none 0 0] 30
          obtain ⟨x0, hx0⟩ : ∃ q, q = w2.heap.size := ⟨_, rfl⟩
          obtain ⟨X0, hX0⟩ : ∃ V, V = w2.alloc (.cells #[.int .i64 10, .int .i64 0, .int .i64 0, .string (⟨#[116]⟩ ++ decS k), .int .i64 0, .int .i64 0, .string ⟨#[]⟩, .slice none 0 0, .slice none 0 0, .slice none 0 0] 30) := ⟨_, rfl⟩
          rw [← hx0, ← hX0] at hS
          have Hx : As (w2.alloc (.cells #[.int .i64 10, .int .i64 0, .int .i64 0, .string (⟨#[116]⟩ ++ decS k), .int .i64 0, .int .i64 0, .string ⟨#[]⟩, .slice none 0 0, .slice none 0 0, .slice none 0 0] 30) = X0 ∧ w2.heap.size = x0) := ⟨hX0.symm, hx0.symm⟩
          clear hx0 hX0
          go_upto_region 9 with fail
          rw [Hx.out.1, Hx.out.2]
          clear Hx
          go_cut [42] (fun vb wz => vb = .bool (decide (i + 1 = N) && !r) ∧ wz = X0)
          case first =>
            obtain ⟨z, hz⟩ : ∃ z : Int, (N : Int) - 1 = z := ⟨_, rfl⟩
            have HB : As ((i : Int) = z ↔ i + 1 = N) := ⟨by omega⟩
            have sZ : IntKind.i64.wrap ((N : Int) - 1) = z := by rw [sN, hz]
            clear sN hz HK HI HLt HN
            by_cases hl : (i : Int) = z
            · have hl2 : As ((decide (i + 1 = N)) = true) := ⟨decide_eq_true (HB.out.1 hl)⟩
              subst hl
              cases r
              all_goals (go_wp2_with fail)
              all_goals (go_meet)
              all_goals (exact ⟨by rw [hl2.out]; rfl, rfl⟩)
            · have hl2 : As ((decide (i + 1 = N)) = false) := ⟨decide_eq_false (fun h => hl (HB.out.2 h))⟩
              go_wp2_with fail
              go_meet
              exact ⟨by rw [hl2.out]; rfl, rfl⟩
          case rest =>
            obtain ⟨rfl, rfl⟩ := hcut
            go_upto_if 42 with fail
            go_cut [] (fun wz => ∃ g s, As (ringX N i r = ⟨g, 0, 0, s, zE, [], []⟩) ∧ At (fun _ => False) w wz (Hp.seps [Hp.blk x0 #[.int .i64 g, .int .i64 0, .int .i64 0, .string s, .int .i64 0, .int .i64 0, .string ⟨#[]⟩, .slice none 0 0, .slice none 0 0, .slice none 0 0] 30, hkd k32 32 (.slice B i d) (ringL N r i)]))
            case first =>
              cases hl : (decide (i + 1 = N) && !r) with
              | true =>
                have HL := As.mk hl
                clear hl
                have z0 := (hS.cellAt 0 rfl 0).trans rfl
                have z1 := (hS.cellAt 0 rfl 1).trans rfl
                have z2 := (hS.cellAt 0 rfl 2).trans rfl
                have z3 := (hS.cellAt 0 rfl 3).trans rfl
                have z4 := (hS.cellAt 0 rfl 4).trans rfl
                have z5 := (hS.cellAt 0 rfl 5).trans rfl
                have z6 := (hS.cellAt 0 rfl 6).trans rfl
                have z7 := (hS.cellAt 0 rfl 7).trans rfl
                have z8 := (hS.cellAt 0 rfl 8).trans rfl
                have z9 := (hS.cellAt 0 rfl 9).trans rfl
                have zf0 := hS.frozenAt 0 rfl 0
                have zf1 := hS.frozenAt 0 rfl 1
                have zf2 := hS.frozenAt 0 rfl 2
                have zf3 := hS.frozenAt 0 rfl 3
                have zf4 := hS.frozenAt 0 rfl 4
                have zf5 := hS.frozenAt 0 rfl 5
                have zf6 := hS.frozenAt 0 rfl 6
                have zf7 := hS.frozenAt 0 rfl 7
                have zf8 := hS.frozenAt 0 rfl 8
                have zf9 := hS.frozenAt 0 rfl 9
                have zlt := hS.ltAt 0 rfl
                go_wp2_with fail
                go_meet
                simp only [Bool.and_eq_true, decide_eq_true_eq, Bool.not_eq_true'] at HL
                have hS9 := At.set10 0 (.int .i64 15) (.int .i64 0) (.int .i64 0) (.string ⟨#[]⟩) (.int .i64 0) (.int .i64 0) (.string ⟨#[]⟩) (.slice none 0 0) (.slice none 0 0) (.slice none 0 0) hS rfl
                simp only [List.set_cons_zero] at hS9
                exact ⟨15, ⟨#[]⟩, ⟨by rw [ringX, if_pos HL.out]⟩, hS9⟩
              | false =>
                have HL := As.mk hl
                clear hl
                go_wp2_with fail
                go_meet
                exact ⟨10, ⟨#[116]⟩ ++ decS k, ⟨by rw [ringX, if_neg (fun h => by have := HL.out; rw [decide_eq_true h.1, h.2] at this; simp at this), HK.out.1]; rfl⟩, hS⟩
            case rest =>
              clear hS
              obtain ⟨g, s, HX, hS⟩ := hcut
              go_upto_region 11 with fail
              have hS1 := At.front 2 (At.kd_litb (d := k30) (p := ⟨g, 0, 0, s, zE, [], []⟩) (cs := [.int .i64 g, .int .i64 0, .int .i64 0, .string s, .int .i64 0, .int .i64 0, .string ⟨#[]⟩, .slice none 0 0, .slice none 0 0, .slice none 0 0]) 30 wc.heap.size (by simp) (At.new_emp hS.drew) (fun F h => plain_M _ F g 0 0 s none 0 0 [] rfl (Kd.R_nil k30 30 _ 0 F))) rfl
              have hM : ∀ (V : World) (F : Nat → Prop), (hkd k30 30 (.slice (some ⟨wc.heap.size, 0, none⟩) 1 1) [(⟨g, 0, 0, s, zE, [], []⟩ : S30)]).H V F → k32.M V 0 F (ringT N r i) [.string (⟨#[116]⟩ ++ decS i), .int .i64 5, .int .i64 0, .int .i64 0, .string ⟨#[]⟩, .int .i64 0, .int .i64 0, .string ⟨#[]⟩, .slice none 0 0, .slice (some ⟨wc.heap.size, 0, none⟩) 1 1, .slice none 0 0] := by
                intro V F h
                have e : ringT N r i = ⟨nmS i, ⟨5, 0, 0, ⟨#[]⟩, zE, [⟨g, 0, 0, s, zE, [], []⟩], []⟩⟩ := by rw [ringT, HX.out, notN]
                rw [e]
                exact k32_mkM V 0 F ⟨nmS i, ⟨5, 0, 0, ⟨#[]⟩, zE, [⟨g, 0, 0, s, zE, [], []⟩], []⟩⟩ (Kd.R_nil k27 27 V 0 F) h.1 (Kd.R_nil k27 27 V 0 F)
              have hMA := As.mk hM
              have hSA := As.mk hS1
              have hi30 : i < 30 := by have := HLt.out; have := HN.out; omega
              have HLn := As.mk (ringL_len N r i)
              have hsi : ¬ 9223372036854775807 < 1 + (decS i).size := by have := decS_size i; omega
              have HDi := As.mk (fun V => dec_does V i hi30)
              have z0 := (hS.cellAt 0 rfl 0).trans rfl
              have z1 := (hS.cellAt 0 rfl 1).trans rfl
              have z2 := (hS.cellAt 0 rfl 2).trans rfl
              have z3 := (hS.cellAt 0 rfl 3).trans rfl
              have z4 := (hS.cellAt 0 rfl 4).trans rfl
              have z5 := (hS.cellAt 0 rfl 5).trans rfl
              have z6 := (hS.cellAt 0 rfl 6).trans rfl
              have z7 := (hS.cellAt 0 rfl 7).trans rfl
              have z8 := (hS.cellAt 0 rfl 8).trans rfl
              have z9 := (hS.cellAt 0 rfl 9).trans rfl
              clear hM hS1
              go_region_law (first | (refine rw_call_step rfl 20 #[.int .i64 i] ?_ (HDi.out _) ?_; (· first | (go_simp; done) | (simp [execOp, resolve, Act.eval, Act.put]; done)); rintro w9 rfl) | ((try rw [drew_alloc2]); refine At.kd_append_step (W := wc.drew.alloc (.cells #[.int .i64 g, .int .i64 0, .int .i64 0, .string s, .int .i64 0, .int .i64 0, .string ⟨#[]⟩, .slice none 0 0, .slice none 0 0, .slice none 0 0] 30)) (d := k32) (e := 32) (xs := ringL N r i) (p := ringT N r i) (cs := [.string (⟨#[116]⟩ ++ decS i), .int .i64 5, .int .i64 0, .int .i64 0, .string ⟨#[]⟩, .int .i64 0, .int .i64 0, .string ⟨#[]⟩, .slice none 0 0, .slice (some ⟨wc.heap.size, 0, none⟩) 1 1, .slice none 0 0]) hSA.out ?_ ?_ (.tmp 44) (.tmp 52) 22 (.agg #[.string ⟨#[]⟩, .int .i64 0, .int .i64 0, .int .i64 0, .string ⟨#[]⟩, .int .i64 0, .int .i64 0, .string ⟨#[]⟩, .slice none 0 0, .slice none 0 0, .slice none 0 0]) 160 ?_ ?_ ?_ ?_ ?_ ?_ ?_ ?_ ?_ ?_; (any_goals (first | exact fun F h => hMA.out _ F h | exact Try.underlying22 | exact infoT | with_reducible rfl | rfl | decide | (simp [Act.eval, Act.put]; done) | (rw [HLn.out]; omega))); intro v1 w9 hA; obtain ⟨FR, hR⟩ := At.kd_at 0 hA rfl; obtain ⟨D1, cc1, rfl⟩ := Kd.R_slice hR; clear hR))
              all_goals (rw [List.length_append, HLn.out, List.length_singleton, ← ringL_snoc] at hA)
              all_goals (rw [HLn.out])
              all_goals (have hB := hA.dropAt 1 (by simp))
              all_goals (clear hA hS hsi HLn HDi hMA hSA z0 z1 z2 z3 z4 z5 z6 z7 z8 z9)
              all_goals (go_wp2_with fail)
              all_goals (go_roundg (gk - 1))
              all_goals (first | (have := HI.out; have := HLt.out; omega) | exact ⟨i + 1, D1, cc1, by have := HI.out; have := HLt.out; omega, rfl, rfl, hB⟩)
        · obtain rfl : i = N := by omega
          have d0 : ¬ (i : Int) < (i : Int) := by omega
          clear hi hlt nN sN
          obtain ⟨FR, hR⟩ := At.kd_at 0 hS rfl
          obtain ⟨hl1, hl2, hC⟩ := Kd.R_reads' hR
          clear hR
          have HLn := ringL_len i r i
          have hLr : Lr wr B d (ringL i r i) := ⟨hC, by omega, fun t ht => by
            obtain ⟨j, _, rfl⟩ := List.mem_map.1 ht
            exact ring_sz i j r⟩
          have HB := As.mk hS.bl
          have e0 : nmS 0 = ⟨#[116, 48]⟩ := by kernel_rfl
          have hres := ring_res i HN.out.1 HN.out.2 r
          have s1 : IntKind.i64.wrap ((i : Int) + 1) = (i : Int) + 1 := by rw [IntKind.wrap_i64]; have := HN.out; omega
          clear hC hl1 hl2 hS
          cases r with
          | true =>
            have hT := tree_err 100 (by omega) wr B d (ringL i true i) hLr (nmS 0) 8 (by rw [hres, if_pos rfl])
            rw [HLn, e0] at hT
            unfold nodeV at hT
            have HT := As.mk hT
            clear hT hres hLr e0
            go_wp2_with fail
            refine HT.out.mono ?_
            rintro e w1 ⟨A7, c7, A8, c8, A9, c9, rfl, hb, hN⟩
            have HB1 := As.mk (HB.out.trans (Below.mono hb HB.out.size))
            clear hN hb HB HT
            have hS := At.start0 (Below.refl w1.heap.size w1)
            have hS := hS.alloc #[.int .i64 zN.f0, .int .i64 zN.f1, .int .i64 zN.f2, .string zN.f3, .int .i64 zN.f4.f0, .int .i64 zN.f4.f1, .string zN.f4.f2, .slice A7 zN.f4.f3.length c7, .slice A8 zN.f5.length c8, .slice A9 zN.f6.length c9] 30
            obtain ⟨k0, hk0⟩ : ∃ q, q = w1.heap.size := ⟨_, rfl⟩
            obtain ⟨K0, hK0⟩ : ∃ V, V = w1.alloc (.cells #[.int .i64 zN.f0, .int .i64 zN.f1, .int .i64 zN.f2, .string zN.f3, .int .i64 zN.f4.f0, .int .i64 zN.f4.f1, .string zN.f4.f2, .slice A7 zN.f4.f3.length c7, .slice A8 zN.f5.length c8, .slice A9 zN.f6.length c9] 30) := ⟨_, rfl⟩
            rw [← hk0, ← hK0] at hS
            have Hk : As (w1.alloc (.cells #[.int .i64 zN.f0, .int .i64 zN.f1, .int .i64 zN.f2, .string zN.f3, .int .i64 zN.f4.f0, .int .i64 zN.f4.f1, .string zN.f4.f2, .slice A7 zN.f4.f3.length c7, .slice A8 zN.f5.length c8, .slice A9 zN.f6.length c9] 30) = K0 ∧ w1.heap.size = k0) := ⟨hK0.symm, hk0.symm⟩
            clear hk0 hK0
            go_upto_region 13 with fail
            rw [Hk.out.1, Hk.out.2]
            clear Hk
            go_wp2_with fail
            refine (num_does _ _).mono ?_
            rintro e w2 ⟨rfl, hb⟩
            have hS2 := hS.below hb
            clear hS hb
            go_wp2_with fail
            go_ret
            exact ⟨rfl, HB1.out.trans (Below.mono hS2.bl HB1.out.size)⟩
          | false =>
            have hT := tree_ok 100 (by omega) wr B d (ringL i false i) hLr (nmS 0) (rowN i) (i + 1) (by rw [hres, if_neg (by decide)])
            have h1 := row_cnt i
            have h2 := row_dep i
            generalize rowN i = Y at hT h1 h2
            rw [HLn, e0] at hT
            unfold nodeV at hT
            have HT := As.mk hT
            have HY := As.mk (⟨h1, h2⟩ : _ ∧ _)
            clear hT hres hLr e0 h1 h2
            go_wp2_with fail
            refine HT.out.mono ?_
            rintro e w1 ⟨A7, c7, A8, c8, A9, c9, rfl, hb, hN⟩
            have HB1 := As.mk (HB.out.trans (Below.mono hb HB.out.size))
            have HN1 := As.mk hN
            clear hN hb HB HT
            have hS := At.start0 (Below.refl w1.heap.size w1)
            have hCt := As.mk (fun (V : World) (hb : Below w1.heap.size w1 V) => by
              have h := count_does V Y (HN1.out.below hb) (by have := HY.out; have := HN.out; omega)
              rw [show ((cntN Y : Nat) : Int) = (i : Int) + 1 by rw [HY.out.1]; simp] at h
              unfold nodeV at h
              exact h)
            have hDt := As.mk (fun (V : World) (hb : Below w1.heap.size w1 V) => by
              have h := depth_does V Y (HN1.out.below hb) (by have := HY.out; have := HN.out; omega)
              rw [show ((depN Y : Nat) : Int) = (i : Int) + 1 by rw [HY.out.2]; simp] at h
              unfold nodeV at h
              exact h)
            have hS := hS.alloc #[.int .i64 Y.f0, .int .i64 Y.f1, .int .i64 Y.f2, .string Y.f3, .int .i64 Y.f4.f0, .int .i64 Y.f4.f1, .string Y.f4.f2, .slice A7 Y.f4.f3.length c7, .slice A8 Y.f5.length c8, .slice A9 Y.f6.length c9] 30
            obtain ⟨k0, hk0⟩ : ∃ q, q = w1.heap.size := ⟨_, rfl⟩
            obtain ⟨K0, hK0⟩ : ∃ V, V = w1.alloc (.cells #[.int .i64 Y.f0, .int .i64 Y.f1, .int .i64 Y.f2, .string Y.f3, .int .i64 Y.f4.f0, .int .i64 Y.f4.f1, .string Y.f4.f2, .slice A7 Y.f4.f3.length c7, .slice A8 Y.f5.length c8, .slice A9 Y.f6.length c9] 30) := ⟨_, rfl⟩
            rw [← hk0, ← hK0] at hS
            have Hk : As (w1.alloc (.cells #[.int .i64 Y.f0, .int .i64 Y.f1, .int .i64 Y.f2, .string Y.f3, .int .i64 Y.f4.f0, .int .i64 Y.f4.f1, .string Y.f4.f2, .slice A7 Y.f4.f3.length c7, .slice A8 Y.f5.length c8, .slice A9 Y.f6.length c9] 30) = K0 ∧ w1.heap.size = k0) := ⟨hK0.symm, hk0.symm⟩
            clear hk0 hK0
            go_upto_region 13 with fail
            rw [Hk.out.1, Hk.out.2]
            clear Hk
            go_wp2_with fail
            refine (num_does _ _).mono ?_
            rintro e w2 ⟨rfl, hb⟩
            have hS2 := hS.below hb
            clear hS hb
            have z0 := (hS2.cellAt 0 rfl 0).trans rfl
            have z1 := (hS2.cellAt 0 rfl 1).trans rfl
            have z2 := (hS2.cellAt 0 rfl 2).trans rfl
            have z3 := (hS2.cellAt 0 rfl 3).trans rfl
            have z4 := (hS2.cellAt 0 rfl 4).trans rfl
            have z5 := (hS2.cellAt 0 rfl 5).trans rfl
            have z6 := (hS2.cellAt 0 rfl 6).trans rfl
            have z7 := (hS2.cellAt 0 rfl 7).trans rfl
            have z8 := (hS2.cellAt 0 rfl 8).trans rfl
            have z9 := (hS2.cellAt 0 rfl 9).trans rfl
            have HC2 := As.mk (hCt.out _ hS2.bl)
            go_wp2_with fail
            refine HC2.out.mono ?_
            rintro e w3 ⟨rfl, hb⟩
            have hS3 := hS2.below hb
            clear hS2 hb z0 z1 z2 z3 z4 z5 z6 z7 z8 z9 HC2
            have z0 := (hS3.cellAt 0 rfl 0).trans rfl
            have z1 := (hS3.cellAt 0 rfl 1).trans rfl
            have z2 := (hS3.cellAt 0 rfl 2).trans rfl
            have z3 := (hS3.cellAt 0 rfl 3).trans rfl
            have z4 := (hS3.cellAt 0 rfl 4).trans rfl
            have z5 := (hS3.cellAt 0 rfl 5).trans rfl
            have z6 := (hS3.cellAt 0 rfl 6).trans rfl
            have z7 := (hS3.cellAt 0 rfl 7).trans rfl
            have z8 := (hS3.cellAt 0 rfl 8).trans rfl
            have z9 := (hS3.cellAt 0 rfl 9).trans rfl
            have HD2 := As.mk (hDt.out _ hS3.bl)
            go_wp2_with fail
            refine HD2.out.mono ?_
            rintro e w4 ⟨rfl, hb⟩
            have hS4 := hS3.below hb
            clear hS3 hb z0 z1 z2 z3 z4 z5 z6 z7 z8 z9 HD2
            go_wp2_with fail
            go_ret
            exact ⟨rfl, HB1.out.trans (Below.mono hS4.bl HB1.out.size)⟩
end Go.Proofs.Ytlkkibeoobognaa.OpenInlineTrees
