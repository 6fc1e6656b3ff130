/- SchemaKeys answers true for all keys; no conditions. -/
import Derived.Test.YtmonnibleolhhaaH
import Derived.Test.YtmonnibleolhhaaOpen
set_option linter.unusedVariables false
namespace Go.Proofs.Ytmonnibleolhhaa
open Go.RowKit
theorem eq24 (d : Nat) (w : World) (x0 : ByteArray) (x1 : Int) (x2 : Bool) :
    (Op.equalIn (d + 2) 24 (.agg #[.string x0, .int .i64 x1, .bool x2]) (.agg #[.string x0, .int .i64 x1, .bool x2])).run Try.prog w = .ok true w := by
  have h : (Op.equalIn (d + 2) 24 (.agg #[.string x0, .int .i64 x1, .bool x2]) (.agg #[.string x0, .int .i64 x1, .bool x2])).run Try.prog w = .ok (x0.toList == x0.toList && (x1 == x1 && (x2 == x2))) w := by
    refine seq_of Try.underlying24 (by kernel_rfl) ?_
    refine seq_cons (by rfl) (by go_simp; rfl) (by go_simp; rfl) (by go_simp) ?_
    refine seq_cons (by rfl) (by go_simp; rfl) (by go_simp; rfl) (by go_simp) ?_
    exact seq_last (by rfl) (by go_simp; rfl) (by go_simp; rfl) (by go_simp)
  simpa using h
attribute [local go_sem high] eq24
/-- The key of a place. -/
def keyAt (l : List KeyM) (i : Int) : KeyM × Bool := if 0 ≤ i ∧ i < l.length then (l.getD i.toNat ⟨⟨#[]⟩, 0, false⟩, true) else (⟨⟨#[]⟩, 0, false⟩, false)
set_option maxHeartbeats 3200000 in
theorem key_in (p : Nat) (l : List KeyM) (i : Nat) (x : KeyM) (hx : l[i]? = some x) : Does Try.prog 15 #[.pointer (some ⟨p, 0, none⟩), .int .i64 (i : Nat)] (isSc p l) (fun e B => e = .returned (.tuple #[.agg #[.string x.f0, .int .i64 x.f1, .bool x.f2], .bool true]) ∧ B = isSc p l) := by
  refine Does.of fun w F hS => ?_
  obtain ⟨A, c, m, hc, hn, hS⟩ := sc_openL hS.toL
  have hi : i < l.length := (List.getElem?_eq_some_iff.1 hx).1
  obtain ⟨g, rfl, hgl, hcell⟩ := (hS.rowAt 1 rfl).cell encKey_len i x hx
  have c0 := (hcell 0 (by omega)).1
  have c1 := (hcell 1 (by omega)).1
  have c2 := (hcell 2 (by omega)).1
  obtain ⟨s, kd, sh⟩ := x
  simp only [encKey, List.getElem?_cons_zero, List.getElem?_cons_succ, Nat.add_zero] at c0 c1 c2
  have p0 := (hS.cellAt 0 rfl 0).trans rfl
  have p1 := (hS.cellAt 0 rfl 1).trans rfl
  have pf0 := hS.frozenAt 0 rfl 0
  have pf1 := hS.frozenAt 0 rfl 1
  have plt := hS.ltAt 0 rfl
  have t1 : decide ((l.length : Int) ≤ (i : Int)) = false := decide_eq_false (by omega)
  have t2 : decide (l.length ≤ i) = false := decide_eq_false (by omega)
  have t3 : decide ((i : Int) < 0) = false := decide_eq_false (by omega)
  have hii : (i : Int) < (l.length : Int) := by omega
  have hS1 := (hS.alloc #[.string s, .int .i64 kd, .bool sh] 24)
  clear hcell hx hc
  go_enter Try.func15, Try.ntmps15
  go_wp2_with fail
  refine bodyPost_ret (v := .tuple #[.agg #[.string s, .int .i64 kd, .bool sh], .bool true]) (by simp [results, Try.results15, go_sem]) rfl ?_
  exact At.post (sc_closeL (hS1.sel [1, 1, 1])).ofL ⟨rfl, rfl⟩
set_option maxHeartbeats 3200000 in
theorem key_out (p : Nat) (l : List KeyM) (i : Int) (hi : ¬ (0 ≤ i ∧ i < l.length)) : Does Try.prog 15 #[.pointer (some ⟨p, 0, none⟩), .int .i64 i] (isSc p l) (fun e B => e = .returned (.tuple #[.agg #[.string ⟨#[]⟩, .int .i64 0, .bool false], .bool false]) ∧ B = isSc p l) := by
  refine Does.of fun w F hS => ?_
  obtain ⟨A, c, m, hc, hn, hS⟩ := sc_openL hS.toL
  have p0 := (hS.cellAt 0 rfl 0).trans rfl
  have p1 := (hS.cellAt 0 rfl 1).trans rfl
  have pf0 := hS.frozenAt 0 rfl 0
  have pf1 := hS.frozenAt 0 rfl 1
  have plt := hS.ltAt 0 rfl
  have hS1 := (hS.alloc #[.string ⟨#[]⟩, .int .i64 0, .bool false] 24)
  by_cases h0 : i < 0
  · have t1 : decide (i < 0) = true := decide_eq_true h0
    clear hi hc h0
    go_enter Try.func15, Try.ntmps15
    go_wp2_with fail
    refine bodyPost_ret (v := .tuple #[.agg #[.string ⟨#[]⟩, .int .i64 0, .bool false], .bool false]) (by simp [results, Try.results15, go_sem]) rfl ?_
    exact At.post (sc_closeL (hS1.sel [1, 1, 1])).ofL ⟨rfl, rfl⟩
  · have t1 : decide (i < 0) = false := decide_eq_false h0
    have t2 : decide ((l.length : Int) ≤ i) = true := decide_eq_true (by omega)
    clear hi hc h0
    go_enter Try.func15, Try.ntmps15
    go_wp2_with fail
    refine bodyPost_ret (v := .tuple #[.agg #[.string ⟨#[]⟩, .int .i64 0, .bool false], .bool false]) (by simp [results, Try.results15, go_sem]) rfl ?_
    exact At.post (sc_closeL (hS1.sel [1, 1, 1])).ofL ⟨rfl, rfl⟩
end Go.Proofs.Ytmonnibleolhhaa
