/- alive; Write, told by plain functions; BoardScopes: the walk. -/
import Derived.Test.YtdbdijicicbhfaaBF
import Derived.Test.YtdbdijicicbhfaaOpen
import Derived.WideShapes
set_option linter.unusedVariables false
set_option linter.unusedSimpArgs false
namespace Go.Proofs.Ytdbdijicicbhfaa
open Go.RowKit Go.ChangeShapes Go.WideShapes Go.Deep
theorem eqId (d : Nat) (w : World) (x0 x1 y0 y1 : Int) :
    (Op.equalIn (d + 2) 23 (.agg #[.int .i64 x0, .int .i64 x1]) (.agg #[.int .i64 y0, .int .i64 y1])).run Try.prog w = .ok (x0 == y0 && (x1 == y1)) w := by
  refine seq_of Try.underlying23 (by kernel_rfl) ?_
  refine seq_cons (by rfl) (by go_simp; rfl) (by go_simp; rfl) (by go_simp) ?_
  exact seq_last (by rfl) (by go_simp; rfl) (by go_simp; rfl) (by go_simp)
attribute [local go_sem high] eqId
def wF (f : PF) (q : PK) (v now : Int) : PF := if v = (cellOf f q).1 then f else fput f q (some (v, now + 1))
def wN (f : PF) (q : PK) (v now : Int) : Int := if v = (cellOf f q).1 then now else now + 1
def wC (f : PF) (q : PK) (v : Int) (n : Nat) : Nat := if v = (cellOf f q).1 then n else n + 1
theorem wF_same (f : PF) (q : PK) (v now : Int) : cellOf (wF f q v now) q = if v = (cellOf f q).1 then cellOf f q else (v, now + 1) := by
  unfold wF
  split
  · rfl
  · simp [cellOf, fput]
theorem wF_val (f : PF) (q : PK) (v now : Int) : (cellOf (wF f q v now) q).1 = v := by
  rw [wF_same]
  split
  · rename_i h; exact h.symm
  · rfl
theorem wF_other (f : PF) (q r : PK) (v now : Int) (h : r ≠ q) : cellOf (wF f q v now) r = cellOf f r := by
  unfold wF
  split
  · rfl
  · simp [cellOf, fput, h]
theorem wN_bounds (f : PF) (q : PK) (v now : Int) : now ≤ wN f q v now ∧ wN f q v now ≤ now + 1 := by
  unfold wN
  split <;> omega
theorem write_tells (p : Nat) (l : List KeyM) (n : Nat) (f : PF) (now : Int) (id : Int × Int) (s : ByteArray) (k : KeyM) (v : Int) (hk : Knows l s k) (hid : okI id.1 ∧ okI id.2) (hnow : 0 ≤ now ∧ now < 1000000000) :
    Does Try.prog 9 #[.pointer (some ⟨p, 0, none⟩), .agg #[.int .i64 id.1, .int .i64 id.2], .string s, .agg #[.int .i64 0, .int .i64 v, .int .i64 0, .string ⟨#[]⟩, .complex .f64 0 0]] (isBd p l n f now)
      (fun e B => e = .returned (.int .i64 0) ∧ B = isBd p l (wC f (plOf k id s) v n) (wF f (plOf k id s) v now) (wN f (plOf k id s) v now)) := by
  have h := write_does p l n f now id s k v hk hid hnow
  unfold wF wN wC
  by_cases hv : v = (cellOf f (plOf k id s)).1
  · rw [if_pos hv] at h
    rw [if_pos hv, if_pos hv, if_pos hv]
    exact h
  · rw [if_neg hv] at h
    rw [if_neg hv, if_neg hv, if_neg hv]
    exact h
def bA : ByteArray := ⟨#[97]⟩
def bK : ByteArray := ⟨#[107]⟩
def bS : ByteArray := ⟨#[115]⟩
theorem okI0 : okI (0 : Int) := ⟨by decide, by decide⟩
theorem knowsA : Knows [kA] ⟨#[97]⟩ kA := ⟨by decide, ⟨0, by decide +kernel, rfl⟩, rfl⟩
set_option maxRecDepth 100000 in
set_option maxHeartbeats 6400000 in
theorem alive_does (w : World) : Calls Try.prog 6 #[] w fun e w' => e = .returned (.bool true) ∧ Below w.heap.size w w' := by
  have hS := (At.start0 (Below.refl w.heap.size w)).alloc #[.string ⟨#[97]⟩, .int .i64 0, .bool false] 30
  have HC := As.mk (bnew_does (.slice (some ⟨w.heap.size, 0, none⟩) 1 1) [kA] _ (rd_blk [kA] encKey_len (hS.blkAt 0 rfl) (by simp)) (by intro x hx; simp at hx; subst hx; decide) (by decide +kernel))
  have c0 : (cellOf (wF (fun _ => none) (plOf kA (0, 0) ⟨#[97]⟩) 3 0) (plOf kA (0, 0) ⟨#[97]⟩)).1 = 3 := wF_val _ _ _ _
  have HW := As.mk (fun p => write_tells p [kA] 0 (fun _ => none) 0 (0, 0) ⟨#[97]⟩ kA 3 knowsA ⟨okI0, okI0⟩ ⟨by decide, by decide⟩)
  have HR := As.mk (fun p => read_does p [kA] (wC (fun _ => none) (plOf kA (0, 0) ⟨#[97]⟩) 3 0) (wF (fun _ => none) (plOf kA (0, 0) ⟨#[97]⟩) 3 0) (wN (fun _ => none) (plOf kA (0, 0) ⟨#[97]⟩) 3 0) (0, 0) ⟨#[97]⟩ kA knowsA ⟨okI0, okI0⟩)
  rw [c0] at HR
  clear c0
  generalize wC (fun _ => none) (plOf kA (0, 0) ⟨#[97]⟩) 3 0 = n1 at *
  generalize wF (fun _ => none) (plOf kA (0, 0) ⟨#[97]⟩) 3 0 = f1 at *
  generalize wN (fun _ => none) (plOf kA (0, 0) ⟨#[97]⟩) 3 0 = t1 at *
  go_enter Try.func6, Try.ntmps6
  go_wp2_with fail
  refine HC.out.mono ?_
  rintro e w1 ⟨p, rfl, hS1⟩
  have hS2 := hS.also hS1
  clear hS hS1 HC
  go_wp2_with fail
  refine (hS2.callAt 0 rfl (now_does p [kA] 0 (fun _ => none) 0)).mono ?_
  rintro e w2 ⟨B, ⟨rfl, rfl⟩, hS3⟩
  have hS3 : At (fun _ => False) w w2 (Hp.seps [isBd p [kA] 0 (fun _ => none) 0, Hp.blk w.heap.size #[.string ⟨#[97]⟩, .int .i64 0, .bool false] 30]) := hS3
  clear hS2
  go_wp2_with fail
  refine (hS3.callAt 0 rfl (HW.out p)).mono ?_
  rintro e w3 ⟨B, ⟨rfl, rfl⟩, hS4⟩
  have hS4 : At (fun _ => False) w w3 (Hp.seps [isBd p [kA] n1 f1 t1, Hp.blk w.heap.size #[.string ⟨#[97]⟩, .int .i64 0, .bool false] 30]) := hS4
  clear hS3 HW
  go_wp2_with fail
  refine (hS4.callAt 0 rfl (HR.out p)).mono ?_
  rintro e w4 ⟨B, ⟨rfl, rfl⟩, hS5⟩
  have hS5 : At (fun _ => False) w w4 (Hp.seps [isBd p [kA] n1 f1 t1, Hp.blk w.heap.size #[.string ⟨#[97]⟩, .int .i64 0, .bool false] 30]) := hS5
  clear hS4 HR
  have hS5 := hS5.alloc #[.int .i64 0, .int .i64 3, .int .i64 0, .string ⟨#[]⟩, .complex .f64 0 0] 36
  obtain ⟨r0, hr0⟩ : ∃ q, q = w4.heap.size := ⟨_, rfl⟩
  obtain ⟨R0, hR0⟩ : ∃ V, V = w4.alloc (.cells #[.int .i64 0, .int .i64 3, .int .i64 0, .string ⟨#[]⟩, .complex .f64 0 0] 36) := ⟨_, rfl⟩
  rw [← hr0, ← hR0] at hS5
  have Hr : As (w4.alloc (.cells #[.int .i64 0, .int .i64 3, .int .i64 0, .string ⟨#[]⟩, .complex .f64 0 0] 36) = R0 ∧ w4.heap.size = r0) := ⟨hR0.symm, hr0.symm⟩
  clear hr0 hR0
  go_upto_region 7 with fail
  rw [Hr.out.1, Hr.out.2]
  clear Hr
  have e0 := (hS5.cellAt 0 rfl 0).trans rfl
  have e1 := (hS5.cellAt 0 rfl 1).trans rfl
  have e2 := (hS5.cellAt 0 rfl 2).trans rfl
  have e3 := (hS5.cellAt 0 rfl 3).trans rfl
  have e4 := (hS5.cellAt 0 rfl 4).trans rfl
  go_wp2_with fail
  refine (num_does _ _).mono ?_
  rintro e w5 ⟨rfl, rfl⟩
  go_wp2_with fail
  refine (num_does _ _).mono ?_
  rintro e w6 ⟨rfl, rfl⟩
  go_wp2_with fail
  refine (num_does _ _).mono ?_
  rintro e w7 ⟨rfl, rfl⟩
  go_wp2_with fail
  go_ret
  exact ⟨rfl, hS5.bl⟩
theorem cellsD : Try.prog.cellsOf 23 = 2 := by kernel_rfl
theorem cellsI : Try.prog.cellsOf 3 = 1 := by kernel_rfl
theorem wf_okI {n : Int} (h : (Lit.int .i64 n).wf = true) : okI n := by
  have e1 : IntKind.i64.min = -9223372036854775808 := by decide
  have e2 : IntKind.i64.max = 9223372036854775807 := by decide
  simp only [Lit.wf, e1, e2, Bool.and_eq_true, decide_eq_true_eq] at h
  exact h
def IsId (v : Value) (x : Int × Int) : Prop := v = .agg #[.int .i64 x.1, .int .i64 x.2] ∧ okI x.1 ∧ okI x.2
section
variable {H : Type} {enc : TypeId × Value → H} {W : World} {spare : Nat → Bool} {held : Bool}
theorem open_id {Q : Prop} {base : Nat} {v : Value} {d : DataW H} {p : List MemPlace} (hv : Value.okWide Try.prog W .any base 23 v) (hsz : Q)
    (h : DataW.Trod enc Try.prog W 0 (fun _ => true) true 23 v d p) : ∃ x : Int × Int, IsId v x := by
  obtain ⟨cs, rfl, hc⟩ := okWide_struct Try.underlying23 hv
  obtain ⟨fuel, hf⟩ := h
  have hf2 : DataW.trod enc Try.prog W 0 (fun _ => true) true fuel 23 cs.toList = some (d, p) := by simpa [Value.cells] using hf
  obtain ⟨xs, m, _, _, hl, hx, hff⟩ := DataW.trod_struct Try.underlying23 hf2
  obtain ⟨cl⟩ := cs
  rw [cellsD] at hl
  match cl, hl with
  | [c0, c1], _ =>
    have f0 : DataW.trod enc Try.prog W 0 (fun _ => true) true m 3 (([c0, c1].drop 0).take (Try.prog.cellsOf 3)) = xs[0]? := by have h := hff 0 _ rfl; exact h
    have f1 : DataW.trod enc Try.prog W 0 (fun _ => true) true m 3 (([c0, c1].drop 1).take (Try.prog.cellsOf 3)) = xs[1]? := by have h := hff 1 _ rfl; exact h
    rw [List.getElem?_eq_getElem (by rw [hx]; decide)] at f0 f1
    rw [cellsI] at f0 f1
    obtain ⟨a, ha, _, wa⟩ := DataW.trod_int Try.underlying3 f0
    obtain ⟨b, hb, _, wb⟩ := DataW.trod_int Try.underlying3 f1
    simp at ha hb
    exact ⟨(a, b), by rw [ha, hb], wf_okI wa, wf_okI wb⟩
end
end Go.Proofs.Ytdbdijicicbhfaa
