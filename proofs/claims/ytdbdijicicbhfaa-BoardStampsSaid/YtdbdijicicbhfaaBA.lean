/- Values that are whole numbers: Zero, Same, Right; a schema's Key. -/
import Derived.Test.YtdbdijicicbhfaaSD
import Derived.Deep.RegionHeld3
import Derived.StillTailTactics
set_option linter.unusedVariables false
namespace Go.Proofs.Ytdbdijicicbhfaa
open Go.RowKit
@[go_sem] theorem run_store_complex {P : Program} {w : World} (a : Addr) (m : Mode) (k : FloatKind) (x y : Nat) : Sem.run P (store a (.complex k x y) m) w = stored P w a (.complex k x y) m := run_store P w a _ m rfl
@[go_sem] theorem run_eq_cz {P : Program} {w : World} (t : TypeId) : Sem.run P (binOp .eql t (.complex .f64 0 0) (.complex .f64 0 0)) w = .ok (.bool true) w := by
  first | kernel_rfl | rfl | (simp [binOp, Op.complexOp, Op.Complex.cmp]; done)
set_option maxHeartbeats 1600000 in
theorem zero_does (w : World) : Calls Try.prog 22 #[.int .i64 0] w fun e w' => e = .returned (.agg #[.int .i64 0, .int .i64 0, .int .i64 0, .string ⟨#[]⟩, .complex .f64 0 0]) ∧ Below w.heap.size w w' := by
  have hS := ((At.start0 (Below.refl w.heap.size w)).alloc #[.int .i64 0, .int .i64 0, .int .i64 0, .string ⟨#[]⟩, .complex .f64 0 0] 36)
  obtain ⟨p, hp⟩ : ∃ p, p = w.heap.size := ⟨_, rfl⟩
  obtain ⟨W, hW⟩ : ∃ W, W = w.alloc (.cells #[.int .i64 0, .int .i64 0, .int .i64 0, .string ⟨#[]⟩, .complex .f64 0 0] 36) := ⟨_, rfl⟩
  rw [← hp, ← hW] at hS
  have HE := As.mk (⟨hW.symm, hp.symm⟩ : _ ∧ _)
  have hw := Nat.le_of_eq hp.symm
  clear hp hW
  go_enter Try.func22, Try.ntmps22
  go_wp2_with fail
  rw [HE.out.2, HE.out.1]
  have p0 := (hS.cellAt 0 rfl 0).trans rfl
  have p1 := (hS.cellAt 0 rfl 1).trans rfl
  have p2 := (hS.cellAt 0 rfl 2).trans rfl
  have p3 := (hS.cellAt 0 rfl 3).trans rfl
  have p4 := (hS.cellAt 0 rfl 4).trans rfl
  have pf0 := hS.frozenAt 0 rfl 0
  have pf1 := hS.frozenAt 0 rfl 1
  have pf2 := hS.frozenAt 0 rfl 2
  have pf3 := hS.frozenAt 0 rfl 3
  have pf4 := hS.frozenAt 0 rfl 4
  have plt := hS.ltAt 0 rfl
  go_wp2_with fail
  refine bodyPost_ret (v := .agg #[.int .i64 0, .int .i64 0, .int .i64 0, .string ⟨#[]⟩, .complex .f64 0 0]) (by simp [results, Try.results22, go_sem, p0, p1, p2, p3, p4]) rfl ⟨rfl, HE.out.2 ▸ hS.bl⟩
set_option maxHeartbeats 1600000 in
theorem same_does (n m : Int) (w : World) : Calls Try.prog 17 #[.agg #[.int .i64 0, .int .i64 n, .int .i64 0, .string ⟨#[]⟩, .complex .f64 0 0], .agg #[.int .i64 0, .int .i64 m, .int .i64 0, .string ⟨#[]⟩, .complex .f64 0 0]] w fun e w' => e = .returned (.bool (n == m)) ∧ Below w.heap.size w w' := by
  have hS := ((At.start0 (Below.refl w.heap.size w)).alloc #[.int .i64 0, .int .i64 n, .int .i64 0, .string ⟨#[]⟩, .complex .f64 0 0] 36)
  obtain ⟨p, hp⟩ : ∃ p, p = w.heap.size := ⟨_, rfl⟩
  obtain ⟨W, hW⟩ : ∃ W, W = w.alloc (.cells #[.int .i64 0, .int .i64 n, .int .i64 0, .string ⟨#[]⟩, .complex .f64 0 0] 36) := ⟨_, rfl⟩
  rw [← hp, ← hW] at hS
  have hS2 := hS.alloc #[.int .i64 0, .int .i64 m, .int .i64 0, .string ⟨#[]⟩, .complex .f64 0 0] 36
  obtain ⟨q, hq⟩ : ∃ q, q = W.heap.size := ⟨_, rfl⟩
  obtain ⟨U, hU⟩ : ∃ U, U = W.alloc (.cells #[.int .i64 0, .int .i64 m, .int .i64 0, .string ⟨#[]⟩, .complex .f64 0 0] 36) := ⟨_, rfl⟩
  rw [← hq, ← hU] at hS2
  have HE := As.mk (⟨hW.symm, hp.symm, by rw [hq, hW, hp]; simp, hU.symm⟩ : w.alloc (.cells #[.int .i64 0, .int .i64 n, .int .i64 0, .string ⟨#[]⟩, .complex .f64 0 0] 36) = W ∧ w.heap.size = p ∧ p + 1 = q ∧ W.alloc (.cells #[.int .i64 0, .int .i64 m, .int .i64 0, .string ⟨#[]⟩, .complex .f64 0 0] 36) = U)
  clear hp hW hq hU hS
  cases hb : n == m
  all_goals
    go_enter Try.func17, Try.ntmps17
    go_wp2_with fail
    rw [HE.out.2.1, HE.out.1, HE.out.2.2.1, HE.out.2.2.2]
    have p0 := (hS2.cellAt 1 rfl 0).trans rfl
    have p1 := (hS2.cellAt 1 rfl 1).trans rfl
    have p2 := (hS2.cellAt 1 rfl 2).trans rfl
    have p3 := (hS2.cellAt 1 rfl 3).trans rfl
    have p4 := (hS2.cellAt 1 rfl 4).trans rfl
    have q0 := (hS2.cellAt 0 rfl 0).trans rfl
    have q1 := (hS2.cellAt 0 rfl 1).trans rfl
    have q2 := (hS2.cellAt 0 rfl 2).trans rfl
    have q3 := (hS2.cellAt 0 rfl 3).trans rfl
    have q4 := (hS2.cellAt 0 rfl 4).trans rfl
    go_wp2_with fail
    go_ret
    exact ⟨rfl, HE.out.2.1 ▸ hS2.bl⟩
set_option maxHeartbeats 3200000 in
theorem key_in (p : Nat) (l : List KeyM) (i : Nat) (x : KeyM) (hx : l[i]? = some x) : Does Try.prog 21 #[.pointer (some ⟨p, 0, none⟩), .int .i64 (i : Nat)] (isSc p l) (fun e B => e = .returned (.tuple #[.agg #[.string x.f0, .int .i64 x.f1, .bool x.f2], .bool true]) ∧ B = isSc p l) := by
  refine Does.of fun w F hS => ?_
  obtain ⟨A, c, m, hc, hn, hS⟩ := sc_openL hS.toL
  have hi : i < l.length := (List.getElem?_eq_some_iff.1 hx).1
  obtain ⟨g, rfl, hgl, hcell⟩ := (hS.rowAt 1 rfl).cell encKey_len i x hx
  have c0 := (hcell 0 (by omega)).1
  have c1 := (hcell 1 (by omega)).1
  have c2 := (hcell 2 (by omega)).1
  obtain ⟨s, kd, sh⟩ := x
  simp only [encKey, List.getElem?_cons_zero, List.getElem?_cons_succ, Nat.add_zero] at c0 c1 c2
  have p0 := (hS.cellAt 0 rfl 0).trans rfl
  have p1 := (hS.cellAt 0 rfl 1).trans rfl
  have pf0 := hS.frozenAt 0 rfl 0
  have pf1 := hS.frozenAt 0 rfl 1
  have plt := hS.ltAt 0 rfl
  have t1 : decide ((l.length : Int) ≤ (i : Int)) = false := decide_eq_false (by omega)
  have t2 : decide (l.length ≤ i) = false := decide_eq_false (by omega)
  have t3 : decide ((i : Int) < 0) = false := decide_eq_false (by omega)
  have hii : (i : Int) < (l.length : Int) := by omega
  have hS1 := (hS.alloc #[.string s, .int .i64 kd, .bool sh] 30)
  clear hcell hx hc
  go_enter Try.func21, Try.ntmps21
  go_wp2_with fail
  refine bodyPost_ret (v := .tuple #[.agg #[.string s, .int .i64 kd, .bool sh], .bool true]) (by simp [results, Try.results21, go_sem]) rfl ?_
  exact At.post (sc_closeL (hS1.sel [1, 1, 1])).ofL ⟨rfl, rfl⟩
set_option maxHeartbeats 3200000 in
theorem right_does (n : Int) (w : World) : Calls Try.prog 16 #[.agg #[.int .i64 0, .int .i64 n, .int .i64 0, .string ⟨#[]⟩, .complex .f64 0 0]] w fun e w' => e = .returned (.bool true) ∧ Below w.heap.size w w' := by
  have hS := ((At.start0 (Below.refl w.heap.size w)).alloc #[.int .i64 0, .int .i64 n, .int .i64 0, .string ⟨#[]⟩, .complex .f64 0 0] 36)
  obtain ⟨p, hp⟩ : ∃ p, p = w.heap.size := ⟨_, rfl⟩
  obtain ⟨W, hW⟩ : ∃ W, W = w.alloc (.cells #[.int .i64 0, .int .i64 n, .int .i64 0, .string ⟨#[]⟩, .complex .f64 0 0] 36) := ⟨_, rfl⟩
  rw [← hp, ← hW] at hS
  have HE := As.mk (⟨hW.symm, hp.symm⟩ : _ ∧ _)
  clear hp hW
  go_enter Try.func16, Try.ntmps16
  go_wp2_with fail
  rw [HE.out.1, HE.out.2]
  have p0 := (hS.cellAt 0 rfl 0).trans rfl
  have p1 := (hS.cellAt 0 rfl 1).trans rfl
  have p2 := (hS.cellAt 0 rfl 2).trans rfl
  have p3 := (hS.cellAt 0 rfl 3).trans rfl
  have p4 := (hS.cellAt 0 rfl 4).trans rfl
  go_wp2_with fail
  refine (same_does n n _).mono ?_
  rintro e w1 ⟨rfl, hb⟩
  have hS2 := (hS.below (by repeat (first | exact Below.refl _ _ | refine bl_drewN ?_ _ | refine Below.drew ?_ | refine bl_alloc ?_ _ | refine bl_set ?_ (by first | (simp; done) | omega | (simp; omega)) _))).below hb
  have hx : (n == n) = true := by simp
  rw [hx]
  clear hb hx p0 p1 p2 p3 p4 hS
  go_wp2_with fail
  go_ret
  exact ⟨rfl, HE.out.2 ▸ hS2.bl⟩
end Go.Proofs.Ytdbdijicicbhfaa
