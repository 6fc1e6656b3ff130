/- A store: Get. No condition. -/
import Derived.Test.YtkebkmbfglodlaaDoorEs2
import Derived.Laws.BitsAllLaws
set_option linter.unusedVariables false
set_option linter.unusedSimpArgs false
set_option maxRecDepth 100000
namespace Go.Proofs.YtkebkmbfglodlaaDoor
open Go.RowKit
theorem Hp.seps_perm {l l' : List Hp} (h : l.Perm l') : ∀ {w : World} {F : Nat → Prop}, (Hp.seps l).H w F → (Hp.seps l').H w F := by
  induction h with
  | nil => exact fun h => h
  | cons A _ ih => exact fun h => Hp.imp h fun F2 h2 => ih h2
  | swap A B l => exact fun h => Hp.swap h
  | trans _ _ ih1 ih2 => exact fun h => ih2 (ih1 h)
theorem perm_mid {α : Type} (A B r : List α) : (A ++ (B ++ r)).Perm (B ++ (A ++ r)) := by
  rw [← List.append_assoc, ← List.append_assoc]
  exact List.Perm.append_right r List.perm_append_comm
theorem At.perm {F0 : Nat → Prop} {w0 w : World} {l l' : List Hp} (h : At F0 w0 w (Hp.seps l)) (hp : l.Perm l') : At F0 w0 w (Hp.seps l') := h.map fun _ _ h => Hp.seps_perm hp h
section
variable {F0 : Nat → Prop} {w0 w : World} {q pi bt bm : Nat} {most room : Int} {nm : Nat} {sl : List (Int × Bool)} {fr : List Int} {D : List TD} {M : Int × Int → Option Nat} {r : List Hp}
theorem At.stIn {A : Hp} (h : At F0 w0 w (Hp.seps (A :: stL q pi bt bm most room nm sl fr D M r))) : At F0 w0 w (Hp.seps (stL q pi bt bm most room nm sl fr D M (A :: r))) :=
  h.perm (List.perm_middle (l₁ := [Hp.blk q #[.pointer (some ⟨pi, 0, none⟩), .int .i64 most, .map (some bt), .map (some bm)] 70, I.isIds pi room sl fr, Hp.mp Tryd.prog 35 bt D.length encM evP (tf D), Hp.mp Tryd.prog 31 bm nm encK encM M, Hp.many tbH D]) (l₂ := r) (a := A)).symm
theorem At.stDrop {A : Hp} (h : At F0 w0 w (Hp.seps (stL q pi bt bm most room nm sl fr D M (A :: r)))) : At F0 w0 w (Hp.seps (stL q pi bt bm most room nm sl fr D M r)) := h.dropAt 5 (by simp [stL])
/-- The table at a place, out of the store and back. -/
theorem At.tabOut (h : At F0 w0 w (Hp.seps (stL q pi bt bm most room nm sl fr D M r))) (i m p : Nat) (R : List TRow) (hi : D[i]? = some (m, p, R)) : At F0 w0 w (Hp.seps (isTb p (bitsN m) R :: (stL q pi bt bm most room nm sl fr D M r).set 4 (Hp.many tbH (D.eraseIdx i)))) := h.manyOut 4 i rfl hi
theorem At.tabIn (i m p : Nat) (R R' : List TRow) (hi : D[i]? = some (m, p, R)) (A : List Hp) (h : At F0 w0 w (Hp.seps (A ++ [isTb p (bitsN m) R'] ++ (stL q pi bt bm most room nm sl fr D M r).set 4 (Hp.many tbH (D.eraseIdx i))))) : At F0 w0 w (Hp.seps (stL q pi bt bm most room nm sl fr (D.set i (m, p, R')) M (A ++ r))) := by
  have hlen : i < D.length := (List.getElem?_eq_some_iff.1 hi).1
  have h4 : At F0 w0 w (Hp.seps (tbH (m, p, R') :: (stL q pi bt bm most room nm sl fr D M (A ++ r)).set 4 (Hp.many tbH (D.eraseIdx i)))) := by
    refine h.perm ?_
    show (A ++ [isTb p (bitsN m) R'] ++ ([Hp.blk q #[.pointer (some ⟨pi, 0, none⟩), .int .i64 most, .map (some bt), .map (some bm)] 70, I.isIds pi room sl fr, Hp.mp Tryd.prog 35 bt D.length encM evP (tf D), Hp.mp Tryd.prog 31 bm nm encK encM M, Hp.many tbH (D.eraseIdx i)] ++ r)).Perm (isTb p (bitsN m) R' :: ([Hp.blk q #[.pointer (some ⟨pi, 0, none⟩), .int .i64 most, .map (some bt), .map (some bm)] 70, I.isIds pi room sl fr, Hp.mp Tryd.prog 35 bt D.length encM evP (tf D), Hp.mp Tryd.prog 31 bm nm encK encM M, Hp.many tbH (D.eraseIdx i)] ++ (A ++ r)))
    rw [List.append_assoc]
    refine List.perm_middle.trans (List.Perm.cons _ ?_)
    exact perm_mid A _ r
  have h5 := h4.manyIn 4 i rfl hlen
  have e1 : tf (D.set i (m, p, R')) = tf D := tf_set hi
  have e2 : (D.set i (m, p, R')).length = D.length := List.length_set
  unfold stL
  rw [e1, e2]
  exact h5
/-- A call on the table at a place. -/
theorem At.tabCallX {f : FuncId} {args : Array Value} {Rel : Ending → Hp → Prop} (h : At F0 w0 w (Hp.seps (stL q pi bt bm most room nm sl fr D M r))) (i m p : Nat) (R : List TRow) (hi : D[i]? = some (m, p, R)) (d : Does Tryd.prog f args (isTb p (bitsN m) R) Rel) (R' : List TRow) (X : Ending → List Hp → Prop)
    (hR : ∀ e B, Rel e B → ∃ A, X e A ∧ ∀ W F, B.H W F → (Hp.seps (A ++ [isTb p (bitsN m) R'])).H W F) :
    Calls Tryd.prog f args w fun e w' => ∃ A, X e A ∧ At F0 w0 w' (Hp.seps (stL q pi bt bm most room nm sl fr (D.set i (m, p, R')) M (A ++ r))) := by
  refine ((h.tabOut i m p R hi).callAt 0 rfl d).mono ?_
  rintro e w' ⟨B, hB, h2⟩
  obtain ⟨A, hX, hA⟩ := hR e B hB
  exact ⟨A, hX, At.tabIn i m p R R' hi A ((h2.fold1 hA).flats 0 (l' := A ++ [isTb p (bitsN m) R']) rfl)⟩
theorem At.tabCall {f : FuncId} {args : Array Value} {Rel : Ending → Hp → Prop} (h : At F0 w0 w (Hp.seps (stL q pi bt bm most room nm sl fr D M r))) (i m p : Nat) (R : List TRow) (hi : D[i]? = some (m, p, R)) (d : Does Tryd.prog f args (isTb p (bitsN m) R) Rel) (R' : List TRow) (A : List Hp)
    (hR : ∀ e B, Rel e B → ∀ W F, B.H W F → (Hp.seps (A ++ [isTb p (bitsN m) R'])).H W F) :
    Calls Tryd.prog f args w fun e w' => (∃ B, Rel e B) ∧ At F0 w0 w' (Hp.seps (stL q pi bt bm most room nm sl fr (D.set i (m, p, R')) M (A ++ r))) :=
  (h.tabCallX i m p R hi d R' (fun e A' => A' = A ∧ ∃ B, Rel e B) (fun e B hB => ⟨A, ⟨rfl, B, hB⟩, hR e B hB⟩)).mono fun e w' ⟨A', ⟨h1, h2⟩, h3⟩ => ⟨h2, by subst h1; exact h3⟩
theorem one_seps {A : Hp} {W : World} {F : Nat → Prop} (h : A.H W F) : (Hp.seps [A]).H W F := Hp.comm (Hp.emp_sep h)
theorem testBit_and (m k : Nat) : (m &&& 2 ^ k = 0) ↔ m.testBit k = false := by
  constructor
  · intro h
    have h1 := congrArg (fun x => x.testBit k) h
    simpa [Nat.testBit_and, Nat.testBit_two_pow] using h1
  · intro h
    apply Nat.eq_of_testBit_eq
    intro i
    rw [Nat.testBit_and, Nat.testBit_two_pow, Nat.zero_testBit]
    by_cases e : k = i
    · subst e; rw [h]; rfl
    · simp [e]
theorem and_ne (m k : Nat) (hm : m < 65536) (hk : k < 16) : bits .and .u16 (m : Int) ((2 ^ k : Nat) : Int) = ((m &&& 2 ^ k : Nat) : Int) := by
  refine u16_and_nat m (2 ^ k) hm ?_
  exact Nat.lt_of_lt_of_le (Nat.pow_lt_pow_right (by decide) hk) (by decide)
theorem rowI_at {R : List TRow} {k : Nat} {id : Int × Int} {f : Int → Int} (hn : (idsOf R).Nodup) (hk : R[k]? = some (id, f)) : rowI R id = (k : Int) := by
  unfold rowI
  have h : ixF (idsOf R) id = some k := (ix_iff hn id k).2 (by simp [idsOf, hk])
  rw [h]
theorem getV_at {R : List TRow} {m k c : Nat} {id : Int × Int} {f : Int → Int} (hc : c < 16) (ht : m.testBit c = true) (hk : R[k]? = some (id, f)) : getV (bitsN m) R (k : Int) (c : Int) = f (c : Int) := by
  have hl := (List.getElem?_eq_some_iff.1 hk).1
  have h : hasR (bitsN m) R (k : Int) (c : Int) = true := by
    unfold hasR
    rw [decide_eq_true_eq]
    refine ⟨(mem_bitsN m c).2 ⟨by omega, by omega, by simpa using ht⟩, by omega, by omega⟩
  unfold getV valR
  rw [h, Int.toNat_natCast, hk]
  rfl
theorem lookS_stale {id : Int × Int} {c : Int} (h : hasI sl id = false) : lookS sl M id c = (0, 0, 11) := by unfold lookS; rw [h]; rfl
theorem lookS_arg {id : Int × Int} {c : Int} (h : hasI sl id = true) (hc : c < 0 ∨ 16 ≤ c) : lookS sl M id c = (0, 0, 1) := by unfold lookS; rw [if_pos h, if_pos hc]
theorem lookS_ok {id : Int × Int} {c : Nat} (h : hasI sl id = true) (hc : c < 16) {m : Nat} (hm : M id = some m) : lookS sl M id (c : Int) = (m, 2 ^ c, 0) := by
  unfold lookS
  rw [if_pos h, if_neg (by omega), hm, Int.toNat_natCast]
  rfl
set_option maxHeartbeats 6400000 in
theorem get_err (hS : At F0 w0 w (Hp.seps (stL q pi bt bm most room nm sl fr D M r))) (id : Int × Int) (hid : okId id) (c : Int) (e0 : Int) (he : e0 ≠ 0) (hl : lookS sl M id c = (0, 0, e0)) :
    Calls Tryd.prog 15 #[.pointer (some ⟨q, 0, none⟩), .agg #[.int .i64 id.1, .int .i64 id.2], .int .i64 c] w fun e w' => e = .returned (.tuple #[.int .i64 0, .int .i64 e0]) ∧ At F0 w0 w' (Hp.seps (stL q pi bt bm most room nm sl fr D M r)) := by
  obtain ⟨a1, a2⟩ := id
  have hS1 := (hS.alloc #[.int .i64 a1, .int .i64 a2] 31).stIn
  obtain ⟨x, hx⟩ : ∃ x, x = w.heap.size := ⟨_, rfl⟩
  obtain ⟨W, hW⟩ : ∃ W, W = w.alloc (.cells #[.int .i64 a1, .int .i64 a2] 31) := ⟨_, rfl⟩
  rw [← hW, ← hx] at hS1
  have HW := As.mk (⟨hW.symm, hx.symm⟩ : _ ∧ _)
  have x0 : W.cell? ⟨x, 0, none⟩ = some (.int .i64 a1) := (hS1.cellAt 5 rfl 0).trans rfl
  have x1 : W.cell? ⟨x, 1, none⟩ = some (.int .i64 a2) := (hS1.cellAt 5 rfl 1).trans rfl
  have HC := As.mk (look_does hS1 (a1, a2) hid c)
  rw [hl] at HC
  have b0 : (e0 == 0) = false := by rw [beq_eq_false_iff_ne]; exact he
  clear hS hS1 hW hx hid hl he
  go_enter Tryd.func15, Tryd.ntmps15
  go_upto_region 1 with fail
  rw [HW.out.1, HW.out.2]
  go_wp2_with fail
  refine HC.out.mono ?_
  rintro e w' ⟨rfl, hS⟩
  clear HC x0 x1
  go_wp2_with fail
  refine bodyPost_ret (v := .tuple #[.int .i64 0, .int .i64 e0]) (by simp [results, Tryd.results15, go_sem]) rfl ⟨rfl, hS.stDrop⟩
end
end Go.Proofs.YtkebkmbfglodlaaDoor
