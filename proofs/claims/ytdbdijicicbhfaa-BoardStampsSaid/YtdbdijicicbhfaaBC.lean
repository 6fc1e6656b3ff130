/- at: where a name stands, and what stands there. -/
import Derived.Test.YtdbdijicicbhfaaBB
set_option linter.unusedVariables false
namespace Go.Proofs.Ytdbdijicicbhfaa
open Go.RowKit
set_option maxRecDepth 100000 in
set_option maxHeartbeats 6400000 in
theorem at_does (p : Nat) (l : List KeyM) (n : Nat) (f : PF) (now : Int) (id : Int × Int) (s : ByteArray) (i : Nat) (k : KeyM) (hs : s.size ≤ 9223372036854775807) (hid : okI id.1 ∧ okI id.2) (hat : atF l s = some i) (hk : l[i]? = some k) (hk1 : k.f1 = 0) :
    Does Try.prog 15 #[.pointer (some ⟨p, 0, none⟩), .agg #[.int .i64 id.1, .int .i64 id.2], .string s] (isBd p l n f now) (fun e B => e = .returned (.tuple #[encP (plOf k id s), encC (cellOf f (plOf k id s)), .int .i64 0]) ∧ B = isBd p l n f now) := by
  refine Does.of fun w F hS => ?_
  obtain ⟨sp, m, hS⟩ := bd_open hS.toL
  unfold bdV at hS
  have HF := As.mk (find_does sp l s hs)
  unfold fnd at HF
  rw [hat] at HF
  have HK := As.mk (key_in sp l i k hk)
  have HL : As (∀ W, MapIs W Try.prog 57 m n encP encC f → (Instr.lookup 53 (.map (some m)) (encP (plOf k id s)) true).run Try.prog W = .ok (.tuple #[encC (cellOf f (plOf k id s)), .bool (f (plOf k id s)).isSome]) W) := ⟨fun W h => lookC (plOf k id s) (by
    unfold plOf
    split
    · exact ⟨⟨by simp, by simp⟩, ⟨by simp, by simp⟩, hs⟩
    · exact ⟨hid.1, hid.2, hs⟩) W h⟩
  have HX : As (f (plOf k id s) = none → cellOf f (plOf k id s) = (0, 0)) := ⟨fun h => by unfold cellOf; rw [h]; rfl⟩
  obtain ⟨nm, kd, sh⟩ := k
  obtain ⟨a, b⟩ := id
  simp only at hk1 HK
  subst hk1
  obtain ⟨pl, hpl⟩ : ∃ pl, pl = plOf ⟨nm, 0, sh⟩ (a, b) s := ⟨_, rfl⟩
  rw [← hpl] at HL HX ⊢
  obtain ⟨⟨c1, c2⟩, hc⟩ : ∃ c, c = cellOf f pl := ⟨_, rfl⟩
  rw [← hc] at HL HX ⊢
  obtain ⟨ok, hok⟩ : ∃ ok, ok = (f pl).isSome := ⟨_, rfl⟩
  rw [← hok] at HL
  have HX2 : As (ok = false → c1 = 0 ∧ c2 = 0) := ⟨fun h => by
    have h1 : f pl = none := by rw [h] at hok; simpa using hok.symm
    have h2 := HX.out h1
    injection h2 with h2 h3
    exact ⟨h2, h3⟩⟩
  clear hat hk hid HX hc hok
  have hS := hS.alloc #[.int .i64 a, .int .i64 b] 23
  obtain ⟨q0, hq0⟩ : ∃ q, q = w.heap.size := ⟨_, rfl⟩
  obtain ⟨W0, hW0⟩ : ∃ V, V = w.alloc (.cells #[.int .i64 a, .int .i64 b] 23) := ⟨_, rfl⟩
  rw [← hq0, ← hW0] at hS
  have hS := hS.alloc #[.int .i64 0, .int .i64 0, .string ⟨#[]⟩, .bool false] 57
  obtain ⟨q1, hq1⟩ : ∃ q, q = W0.heap.size := ⟨_, rfl⟩
  obtain ⟨W1, hW1⟩ : ∃ V, V = W0.alloc (.cells #[.int .i64 0, .int .i64 0, .string ⟨#[]⟩, .bool false] 57) := ⟨_, rfl⟩
  rw [← hq1, ← hW1] at hS
  have hS := hS.alloc #[.int .i64 0, .int .i64 0, .int .i64 0, .string ⟨#[]⟩, .complex .f64 0 0, .int .i64 0] 59
  obtain ⟨q2, hq2⟩ : ∃ q, q = W1.heap.size := ⟨_, rfl⟩
  obtain ⟨W2, hW2⟩ : ∃ V, V = W1.alloc (.cells #[.int .i64 0, .int .i64 0, .int .i64 0, .string ⟨#[]⟩, .complex .f64 0 0, .int .i64 0] 59) := ⟨_, rfl⟩
  rw [← hq2, ← hW2] at hS
  have Hq : As (w.alloc (.cells #[.int .i64 a, .int .i64 b] 23) = W0 ∧ w.heap.size = q0 ∧ W0.alloc (.cells #[.int .i64 0, .int .i64 0, .string ⟨#[]⟩, .bool false] 57) = W1 ∧ q0 + 1 = q1 ∧ W1.alloc (.cells #[.int .i64 0, .int .i64 0, .int .i64 0, .string ⟨#[]⟩, .complex .f64 0 0, .int .i64 0] 59) = W2 ∧ q1 + 1 = q2) := ⟨hW0.symm, hq0.symm, hW1.symm, by rw [hq1, hW0, hq0]; simp, hW2.symm, by rw [hq2, hW1, hq1]; simp⟩
  clear hq0 hW0 hq1 hW1 hq2 hW2
  have p0 := (hS.cellAt 3 rfl 0).trans rfl
  have p1 := (hS.cellAt 3 rfl 1).trans rfl
  have p2 := (hS.cellAt 3 rfl 2).trans rfl
  have HP := As.mk hpl
  clear hpl
  go_enter Try.func15, Try.ntmps15
  go_upto_region 1 with fail
  rw [Hq.out.1, Hq.out.2.1, Hq.out.2.2.1, Hq.out.2.2.2.1, Hq.out.2.2.2.2.1, Hq.out.2.2.2.2.2]
  clear Hq
  go_wp2_with fail
  refine (hS.callAt 4 rfl HF.out).mono ?_
  rintro e w1 ⟨B, ⟨rfl, rfl⟩, hS1⟩
  have hS1 : At F w w1 (Hp.seps [Hp.blk q2 #[.int .i64 0, .int .i64 0, .int .i64 0, .string ⟨#[]⟩, .complex .f64 0 0, .int .i64 0] 59, Hp.blk q1 #[.int .i64 0, .int .i64 0, .string ⟨#[]⟩, .bool false] 57, Hp.blk q0 #[.int .i64 a, .int .i64 b] 23, Hp.blk p #[.pointer (some ⟨sp, 0, none⟩), .map (some m), .int .i64 now] 55, isSc sp l, Hp.mp Try.prog 57 m n encP encC f]) := hS1
  clear hS p0 p1 p2 HF
  have p0 := (hS1.cellAt 3 rfl 0).trans rfl
  have p1 := (hS1.cellAt 3 rfl 1).trans rfl
  have p2 := (hS1.cellAt 3 rfl 2).trans rfl
  go_wp2_with fail
  refine (hS1.callAt 4 rfl HK.out).mono ?_
  rintro e w2 ⟨B, ⟨rfl, rfl⟩, hS2⟩
  have hS2 : At F w w2 (Hp.seps [Hp.blk q2 #[.int .i64 0, .int .i64 0, .int .i64 0, .string ⟨#[]⟩, .complex .f64 0 0, .int .i64 0] 59, Hp.blk q1 #[.int .i64 0, .int .i64 0, .string ⟨#[]⟩, .bool false] 57, Hp.blk q0 #[.int .i64 a, .int .i64 b] 23, Hp.blk p #[.pointer (some ⟨sp, 0, none⟩), .map (some m), .int .i64 now] 55, isSc sp l, Hp.mp Try.prog 57 m n encP encC f]) := hS2
  clear hS1 p0 p1 p2 HK
  obtain ⟨⟨pi, pg⟩, ps, pb⟩ := pl
  cases sh with
  | true =>
    obtain ⟨rfl, rfl, rfl, rfl⟩ : pi = 0 ∧ pg = 0 ∧ ps = s ∧ pb = true := by
      have h := HP.out
      simp [plOf] at h
      exact ⟨h.1.1, h.1.2, h.2.1, h.2.2⟩
    have hS2 := hS2.alloc #[.string nm, .int .i64 0, .bool true] 30
    obtain ⟨r0, hr0⟩ : ∃ q, q = w2.heap.size := ⟨_, rfl⟩
    obtain ⟨R0, hR0⟩ : ∃ V, V = w2.alloc (.cells #[.string nm, .int .i64 0, .bool true] 30) := ⟨_, rfl⟩
    rw [← hr0, ← hR0] at hS2
    have Hr : As (w2.alloc (.cells #[.string nm, .int .i64 0, .bool true] 30) = R0 ∧ w2.heap.size = r0) := ⟨hR0.symm, hr0.symm⟩
    clear hr0 hR0
    go_upto_region 5 with fail
    rw [Hr.out.1, Hr.out.2]
    clear Hr
    have u0 := (hS2.cellAt 3 rfl 0).trans rfl
    have u1 := (hS2.cellAt 3 rfl 1).trans rfl
    have v0 := (hS2.cellAt 0 rfl 0).trans rfl
    have v1 := (hS2.cellAt 0 rfl 1).trans rfl
    have v2 := (hS2.cellAt 0 rfl 2).trans rfl
    have vf0 := hS2.frozenAt 0 rfl 0
    have vf1 := hS2.frozenAt 0 rfl 1
    have vf2 := hS2.frozenAt 0 rfl 2
    have vlt := hS2.ltAt 0 rfl
    have hS2 := hS2.alloc #[.int .i64 0, .int .i64 0, .string ps, .bool true] 57
    obtain ⟨t0, ht0⟩ : ∃ q, q = R0.heap.size := ⟨_, rfl⟩
    obtain ⟨T0, hT0⟩ : ∃ V, V = R0.alloc (.cells #[.int .i64 0, .int .i64 0, .string ps, .bool true] 57) := ⟨_, rfl⟩
    rw [← ht0, ← hT0] at hS2
    have Ht : As (R0.alloc (.cells #[.int .i64 0, .int .i64 0, .string ps, .bool true] 57) = T0 ∧ R0.heap.size = t0) := ⟨hT0.symm, ht0.symm⟩
    clear ht0 hT0
    go_upto_region 8 with fail
    rw [Ht.out.1, Ht.out.2]
    clear Ht u0 u1 v0 v1 v2 vf0 vf1 vf2 vlt
    have HKp : As (∀ V, Below T0.heap.size T0 V → (V.cell? ⟨p, 1, none⟩ = some (.map (some m)) ∧ V.cell? ⟨t0, 0, none⟩ = some (.int .i64 0) ∧ V.cell? ⟨t0, 1, none⟩ = some (.int .i64 0) ∧ V.cell? ⟨t0, 2, none⟩ = some (.string ps) ∧ V.cell? ⟨t0, 3, none⟩ = some (.bool true) ∧ (Instr.lookup 53 (.map (some m)) (.agg #[.int .i64 0, .int .i64 0, .string ps, .bool true]) true).run Try.prog V = .ok (.tuple #[.agg #[.int .i64 0, .int .i64 c1, .int .i64 0, .string ⟨#[]⟩, .complex .f64 0 0, .int .i64 c2], .bool ok]) V)) := ⟨fun V hb => by
      have h := hS2.below hb
      exact ⟨(h.cellAt 5 rfl 1).trans rfl, (h.cellAt 0 rfl 0).trans rfl, (h.cellAt 0 rfl 1).trans rfl, (h.cellAt 0 rfl 2).trans rfl, (h.cellAt 0 rfl 3).trans rfl, HL.out V (h.mpAt 7 rfl)⟩⟩
    go_cut [10, 14] (fun ov pv wc => ov = .bool ok ∧ ∃ x0, pv = .pointer (some ⟨x0, 0, none⟩) ∧ At F w wc (Hp.seps [Hp.blk x0 #[.int .i64 0, .int .i64 c1, .int .i64 0, .string ⟨#[]⟩, .complex .f64 0 0, .int .i64 c2] 59, Hp.blk t0 #[.int .i64 0, .int .i64 0, .string ps, .bool true] 57, Hp.blk r0 #[.string nm, .int .i64 0, .bool true] 30, Hp.blk q2 #[.int .i64 0, .int .i64 0, .int .i64 0, .string ⟨#[]⟩, .complex .f64 0 0, .int .i64 0] 59, Hp.blk q1 #[.int .i64 0, .int .i64 0, .string ⟨#[]⟩, .bool false] 57, Hp.blk q0 #[.int .i64 a, .int .i64 b] 23, Hp.blk p #[.pointer (some ⟨sp, 0, none⟩), .map (some m), .int .i64 now] 55, isSc sp l, Hp.mp Try.prog 57 m n encP encC f]))
    case first =>
      go_region_held3 (fun V => V.cell? ⟨p, 1, none⟩ = some (.map (some m)) ∧ V.cell? ⟨t0, 0, none⟩ = some (.int .i64 0) ∧ V.cell? ⟨t0, 1, none⟩ = some (.int .i64 0) ∧ V.cell? ⟨t0, 2, none⟩ = some (.string ps) ∧ V.cell? ⟨t0, 3, none⟩ = some (.bool true) ∧ (Instr.lookup 53 (.map (some m)) (.agg #[.int .i64 0, .int .i64 0, .string ps, .bool true]) true).run Try.prog V = .ok (.tuple #[.agg #[.int .i64 0, .int .i64 c1, .int .i64 0, .string ⟨#[]⟩, .complex .f64 0 0, .int .i64 c2], .bool ok]) V) (exact HKp.out _ (by repeat (first | exact Below.refl _ _ | refine bl_drewN ?_ _ | refine Below.drew ?_ | refine bl_alloc ?_ _ | refine bl_set ?_ (by first | (simp; done) | omega | (simp; omega)) _))) (fail)
      all_goals
        go_wp2_with fail
        go_meet
        exact ⟨rfl, _, rfl, (hS2.alloc _ _).drew⟩
    case rest =>
      clear HKp HL
      obtain ⟨rfl, x0, rfl, hS3⟩ := hcut
      clear hS2
      go_upto_if 55 with fail
      go_cut [] (fun wc => At F w wc (Hp.seps [Hp.blk x0 #[.int .i64 0, .int .i64 c1, .int .i64 0, .string ⟨#[]⟩, .complex .f64 0 0, .int .i64 c2] 59, Hp.blk t0 #[.int .i64 0, .int .i64 0, .string ps, .bool true] 57, Hp.blk r0 #[.string nm, .int .i64 0, .bool true] 30, Hp.blk q2 #[.int .i64 0, .int .i64 0, .int .i64 0, .string ⟨#[]⟩, .complex .f64 0 0, .int .i64 0] 59, Hp.blk q1 #[.int .i64 0, .int .i64 0, .string ⟨#[]⟩, .bool false] 57, Hp.blk q0 #[.int .i64 a, .int .i64 b] 23, Hp.blk p #[.pointer (some ⟨sp, 0, none⟩), .map (some m), .int .i64 now] 55, isSc sp l, Hp.mp Try.prog 57 m n encP encC f]))
      case first =>
        cases ok with
        | false =>
          obtain ⟨rfl, rfl⟩ := HX2.out rfl
          have r0 := (hS3.cellAt 2 rfl 0).trans rfl
          have r1 := (hS3.cellAt 2 rfl 1).trans rfl
          have r2 := (hS3.cellAt 2 rfl 2).trans rfl
          go_wp2_with fail
          refine (hS3.beside (zero_does _)).mono ?_
          rintro e w3 ⟨rfl, hS4⟩
          clear r0 r1 r2
          have e0 := (hS4.cellAt 0 rfl 0).trans rfl
          have e1 := (hS4.cellAt 0 rfl 1).trans rfl
          have e2 := (hS4.cellAt 0 rfl 2).trans rfl
          have e3 := (hS4.cellAt 0 rfl 3).trans rfl
          have e4 := (hS4.cellAt 0 rfl 4).trans rfl
          have e5 := (hS4.cellAt 0 rfl 5).trans rfl
          have ef0 := hS4.frozenAt 0 rfl 0
          have ef1 := hS4.frozenAt 0 rfl 1
          have ef2 := hS4.frozenAt 0 rfl 2
          have ef3 := hS4.frozenAt 0 rfl 3
          have ef4 := hS4.frozenAt 0 rfl 4
          have ef5 := hS4.frozenAt 0 rfl 5
          have elt := hS4.ltAt 0 rfl
          go_wp2_with fail
          go_meet
          exact ((((hS4.setBlkAt 0 rfl 0 _).setBlkAt 0 rfl 1 _).setBlkAt 0 rfl 2 _).setBlkAt 0 rfl 3 _).setBlkAt 0 rfl 4 _
        | true =>
          go_wp2_with fail
          go_meet
          exact hS3
      case rest =>
        clear hS3 HX2
        have e0 := (hcut.cellAt 0 rfl 0).trans rfl
        have e1 := (hcut.cellAt 0 rfl 1).trans rfl
        have e2 := (hcut.cellAt 0 rfl 2).trans rfl
        have e3 := (hcut.cellAt 0 rfl 3).trans rfl
        have e4 := (hcut.cellAt 0 rfl 4).trans rfl
        have e5 := (hcut.cellAt 0 rfl 5).trans rfl
        have ef0 := hcut.frozenAt 0 rfl 0
        have ef1 := hcut.frozenAt 0 rfl 1
        have ef2 := hcut.frozenAt 0 rfl 2
        have ef3 := hcut.frozenAt 0 rfl 3
        have ef4 := hcut.frozenAt 0 rfl 4
        have ef5 := hcut.frozenAt 0 rfl 5
        have elt := hcut.ltAt 0 rfl
        have y0 := (hcut.cellAt 1 rfl 0).trans rfl
        have y1 := (hcut.cellAt 1 rfl 1).trans rfl
        have y2 := (hcut.cellAt 1 rfl 2).trans rfl
        have y3 := (hcut.cellAt 1 rfl 3).trans rfl
        have z0 := (hcut.cellAt 3 rfl 0).trans rfl
        have z1 := (hcut.cellAt 3 rfl 1).trans rfl
        have z2 := (hcut.cellAt 3 rfl 2).trans rfl
        have z3 := (hcut.cellAt 3 rfl 3).trans rfl
        have z4 := (hcut.cellAt 3 rfl 4).trans rfl
        have z5 := (hcut.cellAt 3 rfl 5).trans rfl
        have zf0 := hcut.frozenAt 3 rfl 0
        have zf1 := hcut.frozenAt 3 rfl 1
        have zf2 := hcut.frozenAt 3 rfl 2
        have zf3 := hcut.frozenAt 3 rfl 3
        have zf4 := hcut.frozenAt 3 rfl 4
        have zf5 := hcut.frozenAt 3 rfl 5
        have zlt := hcut.ltAt 3 rfl
        have g0 := (hcut.cellAt 4 rfl 0).trans rfl
        have g1 := (hcut.cellAt 4 rfl 1).trans rfl
        have g2 := (hcut.cellAt 4 rfl 2).trans rfl
        have g3 := (hcut.cellAt 4 rfl 3).trans rfl
        have gf0 := hcut.frozenAt 4 rfl 0
        have gf1 := hcut.frozenAt 4 rfl 1
        have gf2 := hcut.frozenAt 4 rfl 2
        have gf3 := hcut.frozenAt 4 rfl 3
        have glt := hcut.ltAt 4 rfl
        have n1 := hcut.neBB 0 3 rfl rfl (by decide)
        have n2 := hcut.neBB 0 4 rfl rfl (by decide)
        have n3 := hcut.neBB 1 3 rfl rfl (by decide)
        have n4 := hcut.neBB 1 4 rfl rfl (by decide)
        have n5 := hcut.neBB 3 4 rfl rfl (by decide)
        have HS : As (∀ V A B, At F w V (Hp.seps [Hp.blk x0 #[.int .i64 0, .int .i64 c1, .int .i64 0, .string ⟨#[]⟩, .complex .f64 0 0, .int .i64 c2] 59, Hp.blk t0 #[.int .i64 0, .int .i64 0, .string ps, .bool true] 57, Hp.blk r0 #[.string nm, .int .i64 0, .bool true] 30, Hp.blk q2 A 59, Hp.blk q1 B 57, Hp.blk q0 #[.int .i64 a, .int .i64 b] 23, Hp.blk p #[.pointer (some ⟨sp, 0, none⟩), .map (some m), .int .i64 now] 55, isSc sp l, Hp.mp Try.prog 57 m n encP encC f]) → (V.cell? ⟨x0, 0, none⟩ = some (.int .i64 0) ∧ V.cell? ⟨x0, 1, none⟩ = some (.int .i64 c1) ∧ V.cell? ⟨x0, 2, none⟩ = some (.int .i64 0) ∧ V.cell? ⟨x0, 3, none⟩ = some (.string ⟨#[]⟩) ∧ V.cell? ⟨x0, 4, none⟩ = some (.complex .f64 0 0) ∧ V.cell? ⟨x0, 5, none⟩ = some (.int .i64 c2) ∧ V.cell? ⟨t0, 0, none⟩ = some (.int .i64 0) ∧ V.cell? ⟨t0, 1, none⟩ = some (.int .i64 0) ∧ V.cell? ⟨t0, 2, none⟩ = some (.string ps) ∧ V.cell? ⟨t0, 3, none⟩ = some (.bool true))) := ⟨fun V A B h => ⟨(h.cellAt 0 rfl 0).trans rfl, (h.cellAt 0 rfl 1).trans rfl, (h.cellAt 0 rfl 2).trans rfl, (h.cellAt 0 rfl 3).trans rfl, (h.cellAt 0 rfl 4).trans rfl, (h.cellAt 0 rfl 5).trans rfl, (h.cellAt 1 rfl 0).trans rfl, (h.cellAt 1 rfl 1).trans rfl, (h.cellAt 1 rfl 2).trans rfl, (h.cellAt 1 rfl 3).trans rfl⟩⟩
        go_upto_region 11 with fail
        go_cut [8] (fun v8 wz => v8 = .int .i64 0 ∧ At F w wz (Hp.seps [Hp.blk x0 #[.int .i64 0, .int .i64 c1, .int .i64 0, .string ⟨#[]⟩, .complex .f64 0 0, .int .i64 c2] 59, Hp.blk t0 #[.int .i64 0, .int .i64 0, .string ps, .bool true] 57, Hp.blk r0 #[.string nm, .int .i64 0, .bool true] 30, Hp.blk q2 #[.int .i64 0, .int .i64 c1, .int .i64 0, .string ⟨#[]⟩, .complex .f64 0 0, .int .i64 c2] 59, Hp.blk q1 #[.int .i64 0, .int .i64 0, .string ps, .bool true] 57, Hp.blk q0 #[.int .i64 a, .int .i64 b] 23, Hp.blk p #[.pointer (some ⟨sp, 0, none⟩), .map (some m), .int .i64 now] 55, isSc sp l, Hp.mp Try.prog 57 m n encP encC f]))
        case first =>
          have K2 : At F w ((((wc.setCell ⟨q1, 0, none⟩ (.int .i64 0)).setCell ⟨q1, 1, none⟩ (.int .i64 0)).setCell ⟨q1, 2, none⟩ (.string ps)).setCell ⟨q1, 3, none⟩ (.bool true)) (Hp.seps [Hp.blk x0 #[.int .i64 0, .int .i64 c1, .int .i64 0, .string ⟨#[]⟩, .complex .f64 0 0, .int .i64 c2] 59, Hp.blk t0 #[.int .i64 0, .int .i64 0, .string ps, .bool true] 57, Hp.blk r0 #[.string nm, .int .i64 0, .bool true] 30, Hp.blk q2 #[.int .i64 0, .int .i64 0, .int .i64 0, .string ⟨#[]⟩, .complex .f64 0 0, .int .i64 0] 59, Hp.blk q1 #[.int .i64 0, .int .i64 0, .string ps, .bool true] 57, Hp.blk q0 #[.int .i64 a, .int .i64 b] 23, Hp.blk p #[.pointer (some ⟨sp, 0, none⟩), .map (some m), .int .i64 now] 55, isSc sp l, Hp.mp Try.prog 57 m n encP encC f]) := ((((hcut.setBlkAt 4 rfl 0 (.int .i64 0)).setBlkAt 4 rfl 1 (.int .i64 0)).setBlkAt 4 rfl 2 (.string ps)).setBlkAt 4 rfl 3 (.bool true))
          have K3 : At F w ((((((((((wc.setCell ⟨q1, 0, none⟩ (.int .i64 0)).setCell ⟨q1, 1, none⟩ (.int .i64 0)).setCell ⟨q1, 2, none⟩ (.string ps)).setCell ⟨q1, 3, none⟩ (.bool true)).setCell ⟨q2, 0, none⟩ (.int .i64 0)).setCell ⟨q2, 1, none⟩ (.int .i64 c1)).setCell ⟨q2, 2, none⟩ (.int .i64 0)).setCell ⟨q2, 3, none⟩ (.string ⟨#[]⟩)).setCell ⟨q2, 4, none⟩ (.complex .f64 0 0)).setCell ⟨q2, 5, none⟩ (.int .i64 c2)) (Hp.seps [Hp.blk x0 #[.int .i64 0, .int .i64 c1, .int .i64 0, .string ⟨#[]⟩, .complex .f64 0 0, .int .i64 c2] 59, Hp.blk t0 #[.int .i64 0, .int .i64 0, .string ps, .bool true] 57, Hp.blk r0 #[.string nm, .int .i64 0, .bool true] 30, Hp.blk q2 #[.int .i64 0, .int .i64 c1, .int .i64 0, .string ⟨#[]⟩, .complex .f64 0 0, .int .i64 c2] 59, Hp.blk q1 #[.int .i64 0, .int .i64 0, .string ps, .bool true] 57, Hp.blk q0 #[.int .i64 a, .int .i64 b] 23, Hp.blk p #[.pointer (some ⟨sp, 0, none⟩), .map (some m), .int .i64 now] 55, isSc sp l, Hp.mp Try.prog 57 m n encP encC f]) := ((((((K2.setBlkAt 3 rfl 0 (.int .i64 0)).setBlkAt 3 rfl 1 (.int .i64 c1)).setBlkAt 3 rfl 2 (.int .i64 0)).setBlkAt 3 rfl 3 (.string ⟨#[]⟩)).setBlkAt 3 rfl 4 (.complex .f64 0 0)).setBlkAt 3 rfl 5 (.int .i64 c2))
          have K1 := HS.out _ _ _ hcut.drew
          have K2' := HS.out _ _ _ K2.drew
          have K3' := HS.out _ _ _ K3.drew
          clear HS K2
          go_region_held3 (fun V => V.cell? ⟨x0, 0, none⟩ = some (.int .i64 0) ∧ V.cell? ⟨x0, 1, none⟩ = some (.int .i64 c1) ∧ V.cell? ⟨x0, 2, none⟩ = some (.int .i64 0) ∧ V.cell? ⟨x0, 3, none⟩ = some (.string ⟨#[]⟩) ∧ V.cell? ⟨x0, 4, none⟩ = some (.complex .f64 0 0) ∧ V.cell? ⟨x0, 5, none⟩ = some (.int .i64 c2) ∧ V.cell? ⟨t0, 0, none⟩ = some (.int .i64 0) ∧ V.cell? ⟨t0, 1, none⟩ = some (.int .i64 0) ∧ V.cell? ⟨t0, 2, none⟩ = some (.string ps) ∧ V.cell? ⟨t0, 3, none⟩ = some (.bool true)) (first | with_reducible exact K1 | with_reducible exact K2' | with_reducible exact K3') (fail)
          all_goals (go_wp2_with fail)
          all_goals (go_meet)
          all_goals (exact ⟨rfl, K3.drew⟩)
        case rest =>
          obtain ⟨rfl, hz⟩ := hcut
          clear e0 e1 e2 e3 e4 e5 ef0 ef1 ef2 ef3 ef4 ef5 elt y0 y1 y2 y3 z0 z1 z2 z3 z4 z5 zf0 zf1 zf2 zf3 zf4 zf5 zlt g0 g1 g2 g3 gf0 gf1 gf2 gf3 glt n1 n2 n3 n4 n5
          have z0 := (hz.cellAt 3 rfl 0).trans rfl
          have z1 := (hz.cellAt 3 rfl 1).trans rfl
          have z2 := (hz.cellAt 3 rfl 2).trans rfl
          have z3 := (hz.cellAt 3 rfl 3).trans rfl
          have z4 := (hz.cellAt 3 rfl 4).trans rfl
          have z5 := (hz.cellAt 3 rfl 5).trans rfl
          have g0 := (hz.cellAt 4 rfl 0).trans rfl
          have g1 := (hz.cellAt 4 rfl 1).trans rfl
          have g2 := (hz.cellAt 4 rfl 2).trans rfl
          have g3 := (hz.cellAt 4 rfl 3).trans rfl
          go_wp2_with fail
          refine bodyPost_ret (v := .tuple #[encP ((0, 0), ps, true), encC (c1, c2), .int .i64 0]) (by simp [results, Try.results15, go_sem, encP, encC, z0, z1, z2, z3, z4, z5, g0, g1, g2, g3]) rfl ?_
          exact At.post (bd_close (hz.sel [6, 6, 6])).ofL ⟨rfl, rfl⟩
  | false =>
    obtain ⟨rfl, rfl, rfl, rfl⟩ : a = pi ∧ b = pg ∧ ps = s ∧ pb = false := by
      have h := HP.out
      simp [plOf] at h
      exact ⟨h.1.1.symm, h.1.2.symm, h.2.1, h.2.2⟩
    have hS2 := hS2.alloc #[.string nm, .int .i64 0, .bool false] 30
    obtain ⟨r0, hr0⟩ : ∃ q, q = w2.heap.size := ⟨_, rfl⟩
    obtain ⟨R0, hR0⟩ : ∃ V, V = w2.alloc (.cells #[.string nm, .int .i64 0, .bool false] 30) := ⟨_, rfl⟩
    rw [← hr0, ← hR0] at hS2
    have Hr : As (w2.alloc (.cells #[.string nm, .int .i64 0, .bool false] 30) = R0 ∧ w2.heap.size = r0) := ⟨hR0.symm, hr0.symm⟩
    clear hr0 hR0
    go_upto_region 5 with fail
    rw [Hr.out.1, Hr.out.2]
    clear Hr
    have u0 := (hS2.cellAt 3 rfl 0).trans rfl
    have u1 := (hS2.cellAt 3 rfl 1).trans rfl
    have v0 := (hS2.cellAt 0 rfl 0).trans rfl
    have v1 := (hS2.cellAt 0 rfl 1).trans rfl
    have v2 := (hS2.cellAt 0 rfl 2).trans rfl
    have vf0 := hS2.frozenAt 0 rfl 0
    have vf1 := hS2.frozenAt 0 rfl 1
    have vf2 := hS2.frozenAt 0 rfl 2
    have vlt := hS2.ltAt 0 rfl
    have hS2 := hS2.alloc #[.int .i64 a, .int .i64 b, .string ps, .bool false] 57
    obtain ⟨t0, ht0⟩ : ∃ q, q = R0.heap.size := ⟨_, rfl⟩
    obtain ⟨T0, hT0⟩ : ∃ V, V = R0.alloc (.cells #[.int .i64 a, .int .i64 b, .string ps, .bool false] 57) := ⟨_, rfl⟩
    rw [← ht0, ← hT0] at hS2
    have Ht : As (R0.alloc (.cells #[.int .i64 a, .int .i64 b, .string ps, .bool false] 57) = T0 ∧ R0.heap.size = t0) := ⟨hT0.symm, ht0.symm⟩
    clear ht0 hT0
    go_upto_region 8 with fail
    rw [Ht.out.1, Ht.out.2]
    clear Ht u0 u1 v0 v1 v2 vf0 vf1 vf2 vlt
    have HKp : As (∀ V, Below T0.heap.size T0 V → (V.cell? ⟨p, 1, none⟩ = some (.map (some m)) ∧ V.cell? ⟨t0, 0, none⟩ = some (.int .i64 a) ∧ V.cell? ⟨t0, 1, none⟩ = some (.int .i64 b) ∧ V.cell? ⟨t0, 2, none⟩ = some (.string ps) ∧ V.cell? ⟨t0, 3, none⟩ = some (.bool false) ∧ (Instr.lookup 53 (.map (some m)) (.agg #[.int .i64 a, .int .i64 b, .string ps, .bool false]) true).run Try.prog V = .ok (.tuple #[.agg #[.int .i64 0, .int .i64 c1, .int .i64 0, .string ⟨#[]⟩, .complex .f64 0 0, .int .i64 c2], .bool ok]) V)) := ⟨fun V hb => by
      have h := hS2.below hb
      exact ⟨(h.cellAt 5 rfl 1).trans rfl, (h.cellAt 0 rfl 0).trans rfl, (h.cellAt 0 rfl 1).trans rfl, (h.cellAt 0 rfl 2).trans rfl, (h.cellAt 0 rfl 3).trans rfl, HL.out V (h.mpAt 7 rfl)⟩⟩
    go_cut [10, 14] (fun ov pv wc => ov = .bool ok ∧ ∃ x0, pv = .pointer (some ⟨x0, 0, none⟩) ∧ At F w wc (Hp.seps [Hp.blk x0 #[.int .i64 0, .int .i64 c1, .int .i64 0, .string ⟨#[]⟩, .complex .f64 0 0, .int .i64 c2] 59, Hp.blk t0 #[.int .i64 a, .int .i64 b, .string ps, .bool false] 57, Hp.blk r0 #[.string nm, .int .i64 0, .bool false] 30, Hp.blk q2 #[.int .i64 0, .int .i64 0, .int .i64 0, .string ⟨#[]⟩, .complex .f64 0 0, .int .i64 0] 59, Hp.blk q1 #[.int .i64 0, .int .i64 0, .string ⟨#[]⟩, .bool false] 57, Hp.blk q0 #[.int .i64 a, .int .i64 b] 23, Hp.blk p #[.pointer (some ⟨sp, 0, none⟩), .map (some m), .int .i64 now] 55, isSc sp l, Hp.mp Try.prog 57 m n encP encC f]))
    case first =>
      go_region_held3 (fun V => V.cell? ⟨p, 1, none⟩ = some (.map (some m)) ∧ V.cell? ⟨t0, 0, none⟩ = some (.int .i64 a) ∧ V.cell? ⟨t0, 1, none⟩ = some (.int .i64 b) ∧ V.cell? ⟨t0, 2, none⟩ = some (.string ps) ∧ V.cell? ⟨t0, 3, none⟩ = some (.bool false) ∧ (Instr.lookup 53 (.map (some m)) (.agg #[.int .i64 a, .int .i64 b, .string ps, .bool false]) true).run Try.prog V = .ok (.tuple #[.agg #[.int .i64 0, .int .i64 c1, .int .i64 0, .string ⟨#[]⟩, .complex .f64 0 0, .int .i64 c2], .bool ok]) V) (exact HKp.out _ (by repeat (first | exact Below.refl _ _ | refine bl_drewN ?_ _ | refine Below.drew ?_ | refine bl_alloc ?_ _ | refine bl_set ?_ (by first | (simp; done) | omega | (simp; omega)) _))) (fail)
      all_goals
        go_wp2_with fail
        go_meet
        exact ⟨rfl, _, rfl, (hS2.alloc _ _).drew⟩
    case rest =>
      clear HKp HL
      obtain ⟨rfl, x0, rfl, hS3⟩ := hcut
      clear hS2
      go_upto_if 55 with fail
      go_cut [] (fun wc => At F w wc (Hp.seps [Hp.blk x0 #[.int .i64 0, .int .i64 c1, .int .i64 0, .string ⟨#[]⟩, .complex .f64 0 0, .int .i64 c2] 59, Hp.blk t0 #[.int .i64 a, .int .i64 b, .string ps, .bool false] 57, Hp.blk r0 #[.string nm, .int .i64 0, .bool false] 30, Hp.blk q2 #[.int .i64 0, .int .i64 0, .int .i64 0, .string ⟨#[]⟩, .complex .f64 0 0, .int .i64 0] 59, Hp.blk q1 #[.int .i64 0, .int .i64 0, .string ⟨#[]⟩, .bool false] 57, Hp.blk q0 #[.int .i64 a, .int .i64 b] 23, Hp.blk p #[.pointer (some ⟨sp, 0, none⟩), .map (some m), .int .i64 now] 55, isSc sp l, Hp.mp Try.prog 57 m n encP encC f]))
      case first =>
        cases ok with
        | false =>
          obtain ⟨rfl, rfl⟩ := HX2.out rfl
          have r0 := (hS3.cellAt 2 rfl 0).trans rfl
          have r1 := (hS3.cellAt 2 rfl 1).trans rfl
          have r2 := (hS3.cellAt 2 rfl 2).trans rfl
          go_wp2_with fail
          refine (hS3.beside (zero_does _)).mono ?_
          rintro e w3 ⟨rfl, hS4⟩
          clear r0 r1 r2
          have e0 := (hS4.cellAt 0 rfl 0).trans rfl
          have e1 := (hS4.cellAt 0 rfl 1).trans rfl
          have e2 := (hS4.cellAt 0 rfl 2).trans rfl
          have e3 := (hS4.cellAt 0 rfl 3).trans rfl
          have e4 := (hS4.cellAt 0 rfl 4).trans rfl
          have e5 := (hS4.cellAt 0 rfl 5).trans rfl
          have ef0 := hS4.frozenAt 0 rfl 0
          have ef1 := hS4.frozenAt 0 rfl 1
          have ef2 := hS4.frozenAt 0 rfl 2
          have ef3 := hS4.frozenAt 0 rfl 3
          have ef4 := hS4.frozenAt 0 rfl 4
          have ef5 := hS4.frozenAt 0 rfl 5
          have elt := hS4.ltAt 0 rfl
          go_wp2_with fail
          go_meet
          exact ((((hS4.setBlkAt 0 rfl 0 _).setBlkAt 0 rfl 1 _).setBlkAt 0 rfl 2 _).setBlkAt 0 rfl 3 _).setBlkAt 0 rfl 4 _
        | true =>
          go_wp2_with fail
          go_meet
          exact hS3
      case rest =>
        clear hS3 HX2
        have e0 := (hcut.cellAt 0 rfl 0).trans rfl
        have e1 := (hcut.cellAt 0 rfl 1).trans rfl
        have e2 := (hcut.cellAt 0 rfl 2).trans rfl
        have e3 := (hcut.cellAt 0 rfl 3).trans rfl
        have e4 := (hcut.cellAt 0 rfl 4).trans rfl
        have e5 := (hcut.cellAt 0 rfl 5).trans rfl
        have ef0 := hcut.frozenAt 0 rfl 0
        have ef1 := hcut.frozenAt 0 rfl 1
        have ef2 := hcut.frozenAt 0 rfl 2
        have ef3 := hcut.frozenAt 0 rfl 3
        have ef4 := hcut.frozenAt 0 rfl 4
        have ef5 := hcut.frozenAt 0 rfl 5
        have elt := hcut.ltAt 0 rfl
        have y0 := (hcut.cellAt 1 rfl 0).trans rfl
        have y1 := (hcut.cellAt 1 rfl 1).trans rfl
        have y2 := (hcut.cellAt 1 rfl 2).trans rfl
        have y3 := (hcut.cellAt 1 rfl 3).trans rfl
        have z0 := (hcut.cellAt 3 rfl 0).trans rfl
        have z1 := (hcut.cellAt 3 rfl 1).trans rfl
        have z2 := (hcut.cellAt 3 rfl 2).trans rfl
        have z3 := (hcut.cellAt 3 rfl 3).trans rfl
        have z4 := (hcut.cellAt 3 rfl 4).trans rfl
        have z5 := (hcut.cellAt 3 rfl 5).trans rfl
        have zf0 := hcut.frozenAt 3 rfl 0
        have zf1 := hcut.frozenAt 3 rfl 1
        have zf2 := hcut.frozenAt 3 rfl 2
        have zf3 := hcut.frozenAt 3 rfl 3
        have zf4 := hcut.frozenAt 3 rfl 4
        have zf5 := hcut.frozenAt 3 rfl 5
        have zlt := hcut.ltAt 3 rfl
        have g0 := (hcut.cellAt 4 rfl 0).trans rfl
        have g1 := (hcut.cellAt 4 rfl 1).trans rfl
        have g2 := (hcut.cellAt 4 rfl 2).trans rfl
        have g3 := (hcut.cellAt 4 rfl 3).trans rfl
        have gf0 := hcut.frozenAt 4 rfl 0
        have gf1 := hcut.frozenAt 4 rfl 1
        have gf2 := hcut.frozenAt 4 rfl 2
        have gf3 := hcut.frozenAt 4 rfl 3
        have glt := hcut.ltAt 4 rfl
        have n1 := hcut.neBB 0 3 rfl rfl (by decide)
        have n2 := hcut.neBB 0 4 rfl rfl (by decide)
        have n3 := hcut.neBB 1 3 rfl rfl (by decide)
        have n4 := hcut.neBB 1 4 rfl rfl (by decide)
        have n5 := hcut.neBB 3 4 rfl rfl (by decide)
        have HS : As (∀ V A B, At F w V (Hp.seps [Hp.blk x0 #[.int .i64 0, .int .i64 c1, .int .i64 0, .string ⟨#[]⟩, .complex .f64 0 0, .int .i64 c2] 59, Hp.blk t0 #[.int .i64 a, .int .i64 b, .string ps, .bool false] 57, Hp.blk r0 #[.string nm, .int .i64 0, .bool false] 30, Hp.blk q2 A 59, Hp.blk q1 B 57, Hp.blk q0 #[.int .i64 a, .int .i64 b] 23, Hp.blk p #[.pointer (some ⟨sp, 0, none⟩), .map (some m), .int .i64 now] 55, isSc sp l, Hp.mp Try.prog 57 m n encP encC f]) → (V.cell? ⟨x0, 0, none⟩ = some (.int .i64 0) ∧ V.cell? ⟨x0, 1, none⟩ = some (.int .i64 c1) ∧ V.cell? ⟨x0, 2, none⟩ = some (.int .i64 0) ∧ V.cell? ⟨x0, 3, none⟩ = some (.string ⟨#[]⟩) ∧ V.cell? ⟨x0, 4, none⟩ = some (.complex .f64 0 0) ∧ V.cell? ⟨x0, 5, none⟩ = some (.int .i64 c2) ∧ V.cell? ⟨t0, 0, none⟩ = some (.int .i64 a) ∧ V.cell? ⟨t0, 1, none⟩ = some (.int .i64 b) ∧ V.cell? ⟨t0, 2, none⟩ = some (.string ps) ∧ V.cell? ⟨t0, 3, none⟩ = some (.bool false))) := ⟨fun V A B h => ⟨(h.cellAt 0 rfl 0).trans rfl, (h.cellAt 0 rfl 1).trans rfl, (h.cellAt 0 rfl 2).trans rfl, (h.cellAt 0 rfl 3).trans rfl, (h.cellAt 0 rfl 4).trans rfl, (h.cellAt 0 rfl 5).trans rfl, (h.cellAt 1 rfl 0).trans rfl, (h.cellAt 1 rfl 1).trans rfl, (h.cellAt 1 rfl 2).trans rfl, (h.cellAt 1 rfl 3).trans rfl⟩⟩
        go_upto_region 11 with fail
        go_cut [8] (fun v8 wz => v8 = .int .i64 0 ∧ At F w wz (Hp.seps [Hp.blk x0 #[.int .i64 0, .int .i64 c1, .int .i64 0, .string ⟨#[]⟩, .complex .f64 0 0, .int .i64 c2] 59, Hp.blk t0 #[.int .i64 a, .int .i64 b, .string ps, .bool false] 57, Hp.blk r0 #[.string nm, .int .i64 0, .bool false] 30, Hp.blk q2 #[.int .i64 0, .int .i64 c1, .int .i64 0, .string ⟨#[]⟩, .complex .f64 0 0, .int .i64 c2] 59, Hp.blk q1 #[.int .i64 a, .int .i64 b, .string ps, .bool false] 57, Hp.blk q0 #[.int .i64 a, .int .i64 b] 23, Hp.blk p #[.pointer (some ⟨sp, 0, none⟩), .map (some m), .int .i64 now] 55, isSc sp l, Hp.mp Try.prog 57 m n encP encC f]))
        case first =>
          have K2 : At F w ((((wc.setCell ⟨q1, 0, none⟩ (.int .i64 a)).setCell ⟨q1, 1, none⟩ (.int .i64 b)).setCell ⟨q1, 2, none⟩ (.string ps)).setCell ⟨q1, 3, none⟩ (.bool false)) (Hp.seps [Hp.blk x0 #[.int .i64 0, .int .i64 c1, .int .i64 0, .string ⟨#[]⟩, .complex .f64 0 0, .int .i64 c2] 59, Hp.blk t0 #[.int .i64 a, .int .i64 b, .string ps, .bool false] 57, Hp.blk r0 #[.string nm, .int .i64 0, .bool false] 30, Hp.blk q2 #[.int .i64 0, .int .i64 0, .int .i64 0, .string ⟨#[]⟩, .complex .f64 0 0, .int .i64 0] 59, Hp.blk q1 #[.int .i64 a, .int .i64 b, .string ps, .bool false] 57, Hp.blk q0 #[.int .i64 a, .int .i64 b] 23, Hp.blk p #[.pointer (some ⟨sp, 0, none⟩), .map (some m), .int .i64 now] 55, isSc sp l, Hp.mp Try.prog 57 m n encP encC f]) := ((((hcut.setBlkAt 4 rfl 0 (.int .i64 a)).setBlkAt 4 rfl 1 (.int .i64 b)).setBlkAt 4 rfl 2 (.string ps)).setBlkAt 4 rfl 3 (.bool false))
          have K3 : At F w ((((((((((wc.setCell ⟨q1, 0, none⟩ (.int .i64 a)).setCell ⟨q1, 1, none⟩ (.int .i64 b)).setCell ⟨q1, 2, none⟩ (.string ps)).setCell ⟨q1, 3, none⟩ (.bool false)).setCell ⟨q2, 0, none⟩ (.int .i64 0)).setCell ⟨q2, 1, none⟩ (.int .i64 c1)).setCell ⟨q2, 2, none⟩ (.int .i64 0)).setCell ⟨q2, 3, none⟩ (.string ⟨#[]⟩)).setCell ⟨q2, 4, none⟩ (.complex .f64 0 0)).setCell ⟨q2, 5, none⟩ (.int .i64 c2)) (Hp.seps [Hp.blk x0 #[.int .i64 0, .int .i64 c1, .int .i64 0, .string ⟨#[]⟩, .complex .f64 0 0, .int .i64 c2] 59, Hp.blk t0 #[.int .i64 a, .int .i64 b, .string ps, .bool false] 57, Hp.blk r0 #[.string nm, .int .i64 0, .bool false] 30, Hp.blk q2 #[.int .i64 0, .int .i64 c1, .int .i64 0, .string ⟨#[]⟩, .complex .f64 0 0, .int .i64 c2] 59, Hp.blk q1 #[.int .i64 a, .int .i64 b, .string ps, .bool false] 57, Hp.blk q0 #[.int .i64 a, .int .i64 b] 23, Hp.blk p #[.pointer (some ⟨sp, 0, none⟩), .map (some m), .int .i64 now] 55, isSc sp l, Hp.mp Try.prog 57 m n encP encC f]) := ((((((K2.setBlkAt 3 rfl 0 (.int .i64 0)).setBlkAt 3 rfl 1 (.int .i64 c1)).setBlkAt 3 rfl 2 (.int .i64 0)).setBlkAt 3 rfl 3 (.string ⟨#[]⟩)).setBlkAt 3 rfl 4 (.complex .f64 0 0)).setBlkAt 3 rfl 5 (.int .i64 c2))
          have K1 := HS.out _ _ _ hcut.drew
          have K2' := HS.out _ _ _ K2.drew
          have K3' := HS.out _ _ _ K3.drew
          clear HS K2
          go_region_held3 (fun V => V.cell? ⟨x0, 0, none⟩ = some (.int .i64 0) ∧ V.cell? ⟨x0, 1, none⟩ = some (.int .i64 c1) ∧ V.cell? ⟨x0, 2, none⟩ = some (.int .i64 0) ∧ V.cell? ⟨x0, 3, none⟩ = some (.string ⟨#[]⟩) ∧ V.cell? ⟨x0, 4, none⟩ = some (.complex .f64 0 0) ∧ V.cell? ⟨x0, 5, none⟩ = some (.int .i64 c2) ∧ V.cell? ⟨t0, 0, none⟩ = some (.int .i64 a) ∧ V.cell? ⟨t0, 1, none⟩ = some (.int .i64 b) ∧ V.cell? ⟨t0, 2, none⟩ = some (.string ps) ∧ V.cell? ⟨t0, 3, none⟩ = some (.bool false)) (first | with_reducible exact K1 | with_reducible exact K2' | with_reducible exact K3') (fail)
          all_goals (go_wp2_with fail)
          all_goals (go_meet)
          all_goals (exact ⟨rfl, K3.drew⟩)
        case rest =>
          obtain ⟨rfl, hz⟩ := hcut
          clear e0 e1 e2 e3 e4 e5 ef0 ef1 ef2 ef3 ef4 ef5 elt y0 y1 y2 y3 z0 z1 z2 z3 z4 z5 zf0 zf1 zf2 zf3 zf4 zf5 zlt g0 g1 g2 g3 gf0 gf1 gf2 gf3 glt n1 n2 n3 n4 n5
          have z0 := (hz.cellAt 3 rfl 0).trans rfl
          have z1 := (hz.cellAt 3 rfl 1).trans rfl
          have z2 := (hz.cellAt 3 rfl 2).trans rfl
          have z3 := (hz.cellAt 3 rfl 3).trans rfl
          have z4 := (hz.cellAt 3 rfl 4).trans rfl
          have z5 := (hz.cellAt 3 rfl 5).trans rfl
          have g0 := (hz.cellAt 4 rfl 0).trans rfl
          have g1 := (hz.cellAt 4 rfl 1).trans rfl
          have g2 := (hz.cellAt 4 rfl 2).trans rfl
          have g3 := (hz.cellAt 4 rfl 3).trans rfl
          go_wp2_with fail
          refine bodyPost_ret (v := .tuple #[encP ((a, b), ps, false), encC (c1, c2), .int .i64 0]) (by simp [results, Try.results15, go_sem, encP, encC, z0, z1, z2, z3, z4, z5, g0, g1, g2, g3]) rfl ?_
          exact At.post (bd_close (hz.sel [6, 6, 6])).ofL ⟨rfl, rfl⟩
end Go.Proofs.Ytdbdijicicbhfaa
