/- Read, Stamp, Now, Write. -/
import Derived.Test.YtdbdijicicbhfaaBC
set_option linter.unusedVariables false
set_option linter.unusedSimpArgs false
namespace Go.Proofs.Ytdbdijicicbhfaa
open Go.RowKit
/-- A name that a board knows, of a key with whole numbers. -/
structure Knows (l : List KeyM) (s : ByteArray) (k : KeyM) : Prop where
  sz : s.size ≤ 9223372036854775807
  at_ : ∃ i, atF l s = some i ∧ l[i]? = some k
  int : k.f1 = 0
theorem at_knows (p : Nat) (l : List KeyM) (n : Nat) (f : PF) (now : Int) (id : Int × Int) (s : ByteArray) (k : KeyM) (hk : Knows l s k) (hid : okI id.1 ∧ okI id.2) :
    Does Try.prog 15 #[.pointer (some ⟨p, 0, none⟩), .agg #[.int .i64 id.1, .int .i64 id.2], .string s] (isBd p l n f now) (fun e B => e = .returned (.tuple #[encP (plOf k id s), encC (cellOf f (plOf k id s)), .int .i64 0]) ∧ B = isBd p l n f now) := by
  obtain ⟨i, h1, h2⟩ := hk.at_
  exact at_does p l n f now id s i k hk.sz hid h1 h2 hk.int
set_option maxRecDepth 100000 in
set_option maxHeartbeats 6400000 in
theorem read_does (p : Nat) (l : List KeyM) (n : Nat) (f : PF) (now : Int) (id : Int × Int) (s : ByteArray) (k : KeyM) (hk : Knows l s k) (hid : okI id.1 ∧ okI id.2) :
    Does Try.prog 10 #[.pointer (some ⟨p, 0, none⟩), .agg #[.int .i64 id.1, .int .i64 id.2], .string s] (isBd p l n f now) (fun e B => e = .returned (.tuple #[.agg #[.int .i64 0, .int .i64 (cellOf f (plOf k id s)).1, .int .i64 0, .string ⟨#[]⟩, .complex .f64 0 0], .int .i64 0]) ∧ B = isBd p l n f now) := by
  refine Does.of fun w F hS => ?_
  have hS := hS.toL
  have HA := As.mk (at_knows p l n f now id s k hk hid)
  obtain ⟨a, b⟩ := id
  obtain ⟨⟨⟨i1, i2⟩, ps, pb⟩, hpl⟩ : ∃ pl, pl = plOf k (a, b) s := ⟨_, rfl⟩
  rw [← hpl] at HA ⊢
  obtain ⟨⟨c1, c2⟩, hc⟩ : ∃ c, c = cellOf f ((i1, i2), ps, pb) := ⟨_, rfl⟩
  rw [← hc] at HA ⊢
  simp only [encP, encC] at HA
  clear hpl hc hk hid
  have hS := hS.alloc #[.int .i64 a, .int .i64 b] 23
  obtain ⟨q0, hq0⟩ : ∃ q, q = w.heap.size := ⟨_, rfl⟩
  obtain ⟨W0, hW0⟩ : ∃ V, V = w.alloc (.cells #[.int .i64 a, .int .i64 b] 23) := ⟨_, rfl⟩
  rw [← hq0, ← hW0] at hS
  have hS := hS.alloc #[.int .i64 0, .int .i64 0, .int .i64 0, .string ⟨#[]⟩, .complex .f64 0 0] 36
  obtain ⟨q1, hq1⟩ : ∃ q, q = W0.heap.size := ⟨_, rfl⟩
  obtain ⟨W1, hW1⟩ : ∃ V, V = W0.alloc (.cells #[.int .i64 0, .int .i64 0, .int .i64 0, .string ⟨#[]⟩, .complex .f64 0 0] 36) := ⟨_, rfl⟩
  rw [← hq1, ← hW1] at hS
  have Hq : As (w.alloc (.cells #[.int .i64 a, .int .i64 b] 23) = W0 ∧ w.heap.size = q0 ∧ W0.alloc (.cells #[.int .i64 0, .int .i64 0, .int .i64 0, .string ⟨#[]⟩, .complex .f64 0 0] 36) = W1 ∧ q0 + 1 = q1) := ⟨hW0.symm, hq0.symm, hW1.symm, by rw [hq1, hW0, hq0]; simp⟩
  clear hq0 hW0 hq1 hW1
  have u0 := (hS.cellAt 1 rfl 0).trans rfl
  have u1 := (hS.cellAt 1 rfl 1).trans rfl
  go_enter Try.func10, Try.ntmps10
  go_upto_region 1 with fail
  rw [Hq.out.1, Hq.out.2.1, Hq.out.2.2.1, Hq.out.2.2.2]
  clear Hq
  go_wp2_with fail
  refine (hS.callAt 2 rfl HA.out).mono ?_
  rintro e w1 ⟨B, ⟨rfl, rfl⟩, hS1⟩
  have hS1 : At F w w1 (Hp.seps [Hp.blk q1 #[.int .i64 0, .int .i64 0, .int .i64 0, .string ⟨#[]⟩, .complex .f64 0 0] 36, Hp.blk q0 #[.int .i64 a, .int .i64 b] 23, isBd p l n f now]) := hS1
  clear hS u0 u1 HA
  have hS1 := hS1.alloc #[.int .i64 i1, .int .i64 i2, .string ps, .bool pb] 57
  obtain ⟨r0, hr0⟩ : ∃ q, q = w1.heap.size := ⟨_, rfl⟩
  obtain ⟨R0, hR0⟩ : ∃ V, V = w1.alloc (.cells #[.int .i64 i1, .int .i64 i2, .string ps, .bool pb] 57) := ⟨_, rfl⟩
  rw [← hr0, ← hR0] at hS1
  have hS1 := hS1.alloc #[.int .i64 0, .int .i64 c1, .int .i64 0, .string ⟨#[]⟩, .complex .f64 0 0, .int .i64 c2] 59
  obtain ⟨r1, hr1⟩ : ∃ q, q = R0.heap.size := ⟨_, rfl⟩
  obtain ⟨R1, hR1⟩ : ∃ V, V = R0.alloc (.cells #[.int .i64 0, .int .i64 c1, .int .i64 0, .string ⟨#[]⟩, .complex .f64 0 0, .int .i64 c2] 59) := ⟨_, rfl⟩
  rw [← hr1, ← hR1] at hS1
  have Hr : As (w1.alloc (.cells #[.int .i64 i1, .int .i64 i2, .string ps, .bool pb] 57) = R0 ∧ w1.heap.size = r0 ∧ R0.alloc (.cells #[.int .i64 0, .int .i64 c1, .int .i64 0, .string ⟨#[]⟩, .complex .f64 0 0, .int .i64 c2] 59) = R1 ∧ r0 + 1 = r1) := ⟨hR0.symm, hr0.symm, hR1.symm, by rw [hr1, hR0, hr0]; simp⟩
  clear hr0 hR0 hr1 hR1
  go_upto_region 2 with fail
  rw [Hr.out.1, Hr.out.2.1, Hr.out.2.2.1, Hr.out.2.2.2]
  clear Hr
  have e0 := (hS1.cellAt 0 rfl 0).trans rfl
  have e1 := (hS1.cellAt 0 rfl 1).trans rfl
  have e2 := (hS1.cellAt 0 rfl 2).trans rfl
  have e3 := (hS1.cellAt 0 rfl 3).trans rfl
  have e4 := (hS1.cellAt 0 rfl 4).trans rfl
  have e5 := (hS1.cellAt 0 rfl 5).trans rfl
  have z0 := (hS1.cellAt 2 rfl 0).trans rfl
  have z1 := (hS1.cellAt 2 rfl 1).trans rfl
  have z2 := (hS1.cellAt 2 rfl 2).trans rfl
  have z3 := (hS1.cellAt 2 rfl 3).trans rfl
  have z4 := (hS1.cellAt 2 rfl 4).trans rfl
  have zf0 := hS1.frozenAt 2 rfl 0
  have zf1 := hS1.frozenAt 2 rfl 1
  have zf2 := hS1.frozenAt 2 rfl 2
  have zf3 := hS1.frozenAt 2 rfl 3
  have zf4 := hS1.frozenAt 2 rfl 4
  have zlt := hS1.ltAt 2 rfl
  go_wp2_with fail
  refine bodyPost_ret (v := .tuple #[.agg #[.int .i64 0, .int .i64 c1, .int .i64 0, .string ⟨#[]⟩, .complex .f64 0 0], .int .i64 0]) (by simp [results, Try.results10, go_sem, z0, z1, z2, z3, z4, zlt]) rfl ?_
  exact At.post (((((((hS1.setBlkAt 2 rfl 0 _).setBlkAt 2 rfl 1 _).setBlkAt 2 rfl 2 _).setBlkAt 2 rfl 3 _).setBlkAt 2 rfl 4 _).sel [4])).ofL ⟨rfl, rfl⟩
set_option maxRecDepth 100000 in
set_option maxHeartbeats 6400000 in
theorem stamp_does (p : Nat) (l : List KeyM) (n : Nat) (f : PF) (now : Int) (id : Int × Int) (s : ByteArray) (k : KeyM) (hk : Knows l s k) (hid : okI id.1 ∧ okI id.2) :
    Does Try.prog 11 #[.pointer (some ⟨p, 0, none⟩), .agg #[.int .i64 id.1, .int .i64 id.2], .string s] (isBd p l n f now) (fun e B => e = .returned (.tuple #[.int .i64 (cellOf f (plOf k id s)).2, .int .i64 0]) ∧ B = isBd p l n f now) := by
  refine Does.of fun w F hS => ?_
  have hS := hS.toL
  have HA := As.mk (at_knows p l n f now id s k hk hid)
  obtain ⟨a, b⟩ := id
  obtain ⟨⟨⟨i1, i2⟩, ps, pb⟩, hpl⟩ : ∃ pl, pl = plOf k (a, b) s := ⟨_, rfl⟩
  rw [← hpl] at HA ⊢
  obtain ⟨⟨c1, c2⟩, hc⟩ : ∃ c, c = cellOf f ((i1, i2), ps, pb) := ⟨_, rfl⟩
  rw [← hc] at HA ⊢
  simp only [encP, encC] at HA
  clear hpl hc hk hid
  have hS := hS.alloc #[.int .i64 a, .int .i64 b] 23
  obtain ⟨q0, hq0⟩ : ∃ q, q = w.heap.size := ⟨_, rfl⟩
  obtain ⟨W0, hW0⟩ : ∃ V, V = w.alloc (.cells #[.int .i64 a, .int .i64 b] 23) := ⟨_, rfl⟩
  rw [← hq0, ← hW0] at hS
  have Hq : As (w.alloc (.cells #[.int .i64 a, .int .i64 b] 23) = W0 ∧ w.heap.size = q0) := ⟨hW0.symm, hq0.symm⟩
  clear hq0 hW0
  have u0 := (hS.cellAt 0 rfl 0).trans rfl
  have u1 := (hS.cellAt 0 rfl 1).trans rfl
  go_enter Try.func11, Try.ntmps11
  go_upto_region 1 with fail
  rw [Hq.out.1, Hq.out.2]
  clear Hq
  go_wp2_with fail
  refine (hS.callAt 1 rfl HA.out).mono ?_
  rintro e w1 ⟨B, ⟨rfl, rfl⟩, hS1⟩
  have hS1 : At F w w1 (Hp.seps [Hp.blk q0 #[.int .i64 a, .int .i64 b] 23, isBd p l n f now]) := hS1
  clear hS u0 u1 HA
  have hS1 := hS1.alloc #[.int .i64 i1, .int .i64 i2, .string ps, .bool pb] 57
  obtain ⟨r0, hr0⟩ : ∃ q, q = w1.heap.size := ⟨_, rfl⟩
  obtain ⟨R0, hR0⟩ : ∃ V, V = w1.alloc (.cells #[.int .i64 i1, .int .i64 i2, .string ps, .bool pb] 57) := ⟨_, rfl⟩
  rw [← hr0, ← hR0] at hS1
  have hS1 := hS1.alloc #[.int .i64 0, .int .i64 c1, .int .i64 0, .string ⟨#[]⟩, .complex .f64 0 0, .int .i64 c2] 59
  obtain ⟨r1, hr1⟩ : ∃ q, q = R0.heap.size := ⟨_, rfl⟩
  obtain ⟨R1, hR1⟩ : ∃ V, V = R0.alloc (.cells #[.int .i64 0, .int .i64 c1, .int .i64 0, .string ⟨#[]⟩, .complex .f64 0 0, .int .i64 c2] 59) := ⟨_, rfl⟩
  rw [← hr1, ← hR1] at hS1
  have Hr : As (w1.alloc (.cells #[.int .i64 i1, .int .i64 i2, .string ps, .bool pb] 57) = R0 ∧ w1.heap.size = r0 ∧ R0.alloc (.cells #[.int .i64 0, .int .i64 c1, .int .i64 0, .string ⟨#[]⟩, .complex .f64 0 0, .int .i64 c2] 59) = R1 ∧ r0 + 1 = r1) := ⟨hR0.symm, hr0.symm, hR1.symm, by rw [hr1, hR0, hr0]; simp⟩
  clear hr0 hR0 hr1 hR1
  go_upto_region 2 with fail
  rw [Hr.out.1, Hr.out.2.1, Hr.out.2.2.1, Hr.out.2.2.2]
  clear Hr
  have e0 := (hS1.cellAt 0 rfl 0).trans rfl
  have e1 := (hS1.cellAt 0 rfl 1).trans rfl
  have e2 := (hS1.cellAt 0 rfl 2).trans rfl
  have e3 := (hS1.cellAt 0 rfl 3).trans rfl
  have e4 := (hS1.cellAt 0 rfl 4).trans rfl
  have e5 := (hS1.cellAt 0 rfl 5).trans rfl
  go_wp2_with fail
  go_ret2
  exact At.post (hS1.sel [3]).ofL ⟨rfl, rfl⟩
set_option maxHeartbeats 6400000 in
theorem now_does (p : Nat) (l : List KeyM) (n : Nat) (f : PF) (now : Int) :
    Does Try.prog 12 #[.pointer (some ⟨p, 0, none⟩)] (isBd p l n f now) (fun e B => e = .returned (.int .i64 now) ∧ B = isBd p l n f now) := by
  refine Does.of fun w F hS => ?_
  obtain ⟨sp, m, hS⟩ := bd_open hS.toL
  unfold bdV at hS
  have p0 := (hS.cellAt 0 rfl 0).trans rfl
  have p1 := (hS.cellAt 0 rfl 1).trans rfl
  have p2 := (hS.cellAt 0 rfl 2).trans rfl
  go_enter Try.func12, Try.ntmps12
  go_wp2_with fail
  go_ret
  exact At.post (bd_close hS).ofL ⟨rfl, rfl⟩
end Go.Proofs.Ytdbdijicicbhfaa
