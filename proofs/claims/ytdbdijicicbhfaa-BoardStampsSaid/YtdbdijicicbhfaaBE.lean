/- Write of a whole number. -/
import Derived.Test.YtdbdijicicbhfaaBD
set_option linter.unusedVariables false
set_option linter.unusedSimpArgs false
namespace Go.Proofs.Ytdbdijicicbhfaa
open Go.RowKit
set_option maxRecDepth 100000 in
set_option maxHeartbeats 6400000 in
theorem write_does (p : Nat) (l : List KeyM) (n : Nat) (f : PF) (now : Int) (id : Int × Int) (s : ByteArray) (k : KeyM) (v : Int) (hk : Knows l s k) (hid : okI id.1 ∧ okI id.2) (hnow : 0 ≤ now ∧ now < 1000000000) :
    Does Try.prog 9 #[.pointer (some ⟨p, 0, none⟩), .agg #[.int .i64 id.1, .int .i64 id.2], .string s, .agg #[.int .i64 0, .int .i64 v, .int .i64 0, .string ⟨#[]⟩, .complex .f64 0 0]] (isBd p l n f now)
      (fun e B => e = .returned (.int .i64 0) ∧ B = if v = (cellOf f (plOf k id s)).1 then isBd p l n f now else isBd p l (n + 1) (fput f (plOf k id s) (some (v, now + 1))) (now + 1)) := by
  refine Does.of fun w F hS => ?_
  have hS := hS.toL
  have HA := As.mk (at_knows p l n f now id s k hk hid)
  obtain ⟨kl, hkl⟩ := keyP_ok (plOf k id s) (by
    unfold plOf
    split
    · exact ⟨⟨by simp, by simp⟩, ⟨by simp, by simp⟩, hk.sz⟩
    · exact ⟨hid.1, hid.2, hk.sz⟩)
  obtain ⟨a, b⟩ := id
  obtain ⟨⟨⟨i1, i2⟩, ps, pb⟩, hpl⟩ : ∃ pl, pl = plOf k (a, b) s := ⟨_, rfl⟩
  rw [← hpl] at HA hkl ⊢
  obtain ⟨⟨c1, c2⟩, hc⟩ : ∃ c, c = cellOf f ((i1, i2), ps, pb) := ⟨_, rfl⟩
  rw [← hc] at HA ⊢
  have HKl := As.mk hkl
  simp only [encP, encC] at HA
  clear hpl hc hk hid hkl
  obtain ⟨Z, hZ⟩ : ∃ Z, Z = if v = (c1, c2).1 then isBd p l n f now else isBd p l (n + 1) (fput f ((i1, i2), ps, pb) (some (v, now + 1))) (now + 1) := ⟨_, rfl⟩
  rw [← hZ]
  have HZ := As.mk hZ
  clear hZ
  have hS := hS.alloc #[.int .i64 a, .int .i64 b] 23
  obtain ⟨q0, hq0⟩ : ∃ q, q = w.heap.size := ⟨_, rfl⟩
  obtain ⟨W0, hW0⟩ : ∃ V, V = w.alloc (.cells #[.int .i64 a, .int .i64 b] 23) := ⟨_, rfl⟩
  rw [← hq0, ← hW0] at hS
  have hS := hS.alloc #[.int .i64 0, .int .i64 v, .int .i64 0, .string ⟨#[]⟩, .complex .f64 0 0] 36
  obtain ⟨q1, hq1⟩ : ∃ q, q = W0.heap.size := ⟨_, rfl⟩
  obtain ⟨W1, hW1⟩ : ∃ V, V = W0.alloc (.cells #[.int .i64 0, .int .i64 v, .int .i64 0, .string ⟨#[]⟩, .complex .f64 0 0] 36) := ⟨_, rfl⟩
  rw [← hq1, ← hW1] at hS
  have Hq : As (w.alloc (.cells #[.int .i64 a, .int .i64 b] 23) = W0 ∧ w.heap.size = q0 ∧ W0.alloc (.cells #[.int .i64 0, .int .i64 v, .int .i64 0, .string ⟨#[]⟩, .complex .f64 0 0] 36) = W1 ∧ q0 + 1 = q1) := ⟨hW0.symm, hq0.symm, hW1.symm, by rw [hq1, hW0, hq0]; simp⟩
  clear hq0 hW0 hq1 hW1
  have u0 := (hS.cellAt 1 rfl 0).trans rfl
  have u1 := (hS.cellAt 1 rfl 1).trans rfl
  go_enter Try.func9, Try.ntmps9
  go_upto_region 1 with fail
  rw [Hq.out.1, Hq.out.2.1, Hq.out.2.2.1, Hq.out.2.2.2]
  clear Hq
  go_wp2_with fail
  refine (hS.callAt 2 rfl HA.out).mono ?_
  rintro e w1 ⟨B, ⟨rfl, rfl⟩, hS1⟩
  have hS1 : At F w w1 (Hp.seps [Hp.blk q1 #[.int .i64 0, .int .i64 v, .int .i64 0, .string ⟨#[]⟩, .complex .f64 0 0] 36, Hp.blk q0 #[.int .i64 a, .int .i64 b] 23, isBd p l n f now]) := hS1
  clear hS u0 u1 HA
  have hS1 := hS1.alloc #[.int .i64 i1, .int .i64 i2, .string ps, .bool pb] 57
  obtain ⟨r0, hr0⟩ : ∃ q, q = w1.heap.size := ⟨_, rfl⟩
  obtain ⟨R0, hR0⟩ : ∃ V, V = w1.alloc (.cells #[.int .i64 i1, .int .i64 i2, .string ps, .bool pb] 57) := ⟨_, rfl⟩
  rw [← hr0, ← hR0] at hS1
  have hS1 := hS1.alloc #[.int .i64 0, .int .i64 c1, .int .i64 0, .string ⟨#[]⟩, .complex .f64 0 0, .int .i64 c2] 59
  obtain ⟨r1, hr1⟩ : ∃ q, q = R0.heap.size := ⟨_, rfl⟩
  obtain ⟨R1, hR1⟩ : ∃ V, V = R0.alloc (.cells #[.int .i64 0, .int .i64 c1, .int .i64 0, .string ⟨#[]⟩, .complex .f64 0 0, .int .i64 c2] 59) := ⟨_, rfl⟩
  rw [← hr1, ← hR1] at hS1
  have Hr : As (w1.alloc (.cells #[.int .i64 i1, .int .i64 i2, .string ps, .bool pb] 57) = R0 ∧ w1.heap.size = r0 ∧ R0.alloc (.cells #[.int .i64 0, .int .i64 c1, .int .i64 0, .string ⟨#[]⟩, .complex .f64 0 0, .int .i64 c2] 59) = R1 ∧ r0 + 1 = r1) := ⟨hR0.symm, hr0.symm, hR1.symm, by rw [hr1, hR0, hr0]; simp⟩
  clear hr0 hR0 hr1 hR1
  go_upto_region 2 with fail
  rw [Hr.out.1, Hr.out.2.1, Hr.out.2.2.1, Hr.out.2.2.2]
  clear Hr
  have z0 := (hS1.cellAt 2 rfl 0).trans rfl
  have z1 := (hS1.cellAt 2 rfl 1).trans rfl
  have z2 := (hS1.cellAt 2 rfl 2).trans rfl
  have z3 := (hS1.cellAt 2 rfl 3).trans rfl
  have z4 := (hS1.cellAt 2 rfl 4).trans rfl
  go_wp2_with fail
  refine (hS1.beside (right_does v _)).mono ?_
  rintro e w2 ⟨rfl, hS2⟩
  clear z0 z1 z2 z3 z4 hS1
  have z0 := (hS2.cellAt 2 rfl 0).trans rfl
  have z1 := (hS2.cellAt 2 rfl 1).trans rfl
  have z2 := (hS2.cellAt 2 rfl 2).trans rfl
  have z3 := (hS2.cellAt 2 rfl 3).trans rfl
  have z4 := (hS2.cellAt 2 rfl 4).trans rfl
  have e0 := (hS2.cellAt 0 rfl 0).trans rfl
  have e1 := (hS2.cellAt 0 rfl 1).trans rfl
  have e2 := (hS2.cellAt 0 rfl 2).trans rfl
  have e3 := (hS2.cellAt 0 rfl 3).trans rfl
  have e4 := (hS2.cellAt 0 rfl 4).trans rfl
  have e5 := (hS2.cellAt 0 rfl 5).trans rfl
  go_wp2_with fail
  refine (hS2.beside (same_does v c1 _)).mono ?_
  rintro e w3 ⟨rfl, hS3⟩
  clear z0 z1 z2 z3 z4 e0 e1 e2 e3 e4 e5 hS2
  cases hb : v == c1 with
  | true =>
    have HZ2 : As (Z = isBd p l n f now) := ⟨by rw [HZ.out, if_pos (by simpa using hb)]⟩
    clear hb
    go_wp2_with fail
    go_ret
    exact At.post (hS3.sel [4]).ofL ⟨rfl, HZ2.out.symm⟩
  | false =>
    have HZ2 : As (Z = isBd p l (n + 1) (fput f ((i1, i2), ps, pb) (some (v, now + 1))) (now + 1)) := ⟨by rw [HZ.out, if_neg (by simpa using hb)]⟩
    clear hb
    obtain ⟨sp, m, hS4⟩ := bd_open (hS3.sel [4, 0, 0, 0, 0])
    unfold bdV at hS4
    have p0 := (hS4.cellAt 0 rfl 0).trans rfl
    have p1 := (hS4.cellAt 0 rfl 1).trans rfl
    have p2 := (hS4.cellAt 0 rfl 2).trans rfl
    have pf0 := hS4.frozenAt 0 rfl 0
    have pf1 := hS4.frozenAt 0 rfl 1
    have pf2 := hS4.frozenAt 0 rfl 2
    have plt := hS4.ltAt 0 rfl
    go_upto_region 8 with fail
    have hS5 := hS4.setBlkAt 0 rfl 2 (.int .i64 (now + 1))
    obtain ⟨V, hV⟩ : ∃ V, V = w3.setCell ⟨p, 2, none⟩ (.int .i64 (now + 1)) := ⟨_, rfl⟩
    rw [← hV] at hS5 ⊢
    have hS6 : At F w V (Hp.seps [Hp.blk p #[.pointer (some ⟨sp, 0, none⟩), .map (some m), .int .i64 (now + 1)] 55, isSc sp l, Hp.mp Try.prog 57 m n encP encC f, Hp.blk r1 #[.int .i64 0, .int .i64 c1, .int .i64 0, .string ⟨#[]⟩, .complex .f64 0 0, .int .i64 c2] 59, Hp.blk r0 #[.int .i64 i1, .int .i64 i2, .string ps, .bool pb] 57, Hp.blk q1 #[.int .i64 0, .int .i64 v, .int .i64 0, .string ⟨#[]⟩, .complex .f64 0 0] 36, Hp.blk q0 #[.int .i64 a, .int .i64 b] 23]) := hS5
    clear p0 p1 p2 pf0 pf1 pf2 plt hS3 hS4 hS5 hV
    have p0 := (hS6.cellAt 0 rfl 0).trans rfl
    have p1 := (hS6.cellAt 0 rfl 1).trans rfl
    have p2 := (hS6.cellAt 0 rfl 2).trans rfl
    have e0 := (hS6.cellAt 4 rfl 0).trans rfl
    have e1 := (hS6.cellAt 4 rfl 1).trans rfl
    have e2 := (hS6.cellAt 4 rfl 2).trans rfl
    have e3 := (hS6.cellAt 4 rfl 3).trans rfl
    have z0 := (hS6.cellAt 5 rfl 0).trans rfl
    have z1 := (hS6.cellAt 5 rfl 1).trans rfl
    have z2 := (hS6.cellAt 5 rfl 2).trans rfl
    have z3 := (hS6.cellAt 5 rfl 3).trans rfl
    have z4 := (hS6.cellAt 5 rfl 4).trans rfl
    go_still_tail 11, (by kernel_rfl)
    refine rw_mapUpdate rfl (.tmp 52) (.tmp 53) (.tmp 59) 53 rfl 59 KlawP encP_inj Try.underlying53 rfl (hS6.drew.mpAt 2 rfl) ((i1, i2), ps, pb) (v, now + 1) _ rfl rfl HKl.out ?c1
    case c1 =>
      intro w2 hm2 hg2
      have hS7 := hS6.drew.mpGrown 2 rfl hm2 hg2
      clear hm2 hg2 hS6 p0 p1 p2 e0 e1 e2 e3 z0 z1 z2 z3 z4
      go_wp2_with fail
      go_ret
      exact At.post (bd_close (hS7.sel [0, 0, 0])).ofL ⟨rfl, HZ2.out.symm⟩
end Go.Proofs.Ytdbdijicicbhfaa
