/- Memory that a call works on, as a list of assertions side by side: what it began with and what is new since. Plain definitions and lemmas; no condition. -/
import Derived.Test.YtkebkmbfglodlaaDoorOwn
import Derived.Test.YtkebkmbfglodlaaDoorMany
set_option linter.unusedVariables false
namespace Go.Proofs.YtkebkmbfglodlaaDoor
open Go.RowKit
namespace Hp
def ex {α : Type} (f : α → Hp) : Hp where
  H w F := ∃ x, (f x).H w F
  lt := by rintro w F ⟨x, h⟩; exact (f x).lt h
  move := by rintro w w' F ⟨x, h⟩ hm; exact ⟨x, (f x).move h hm⟩
def pr (p : Prop) : Hp where
  H _ F := p ∧ ∀ k, ¬ F k
  lt h k hk := (h.2 k hk).elim
  move h _ := h
theorem disj {w : World} {A B : Hp} : ∀ (l : List Hp) (F : Nat → Prop) (n m : Nat), (seps l).H w F → l[n]? = some A → l[m]? = some B → n ≠ m → ∃ FA FB, A.H w FA ∧ B.H w FB ∧ ∀ k, FA k → FB k → False
  | [], F, n, m, h, ha, hb, hn => by simp at ha
  | C :: l, F, n, m, h, ha, hb, hn => by
    obtain ⟨F1, F2, h1, h2, hd, hF⟩ := h
    cases n with
    | zero =>
      obtain rfl : C = A := by simpa using ha
      cases m with
      | zero => exact absurd rfl hn
      | succ m =>
        have hb' : l[m]? = some B := by simpa using hb
        obtain ⟨F3, h3, h4⟩ := head (pick l m B hb' h2)
        exact ⟨F1, F3, h1, h3, fun k hk hk' => hd k hk (h4 k hk')⟩
    | succ n =>
      have ha' : l[n]? = some A := by simpa using ha
      cases m with
      | zero =>
        obtain rfl : C = B := by simpa using hb
        obtain ⟨F3, h3, h4⟩ := head (pick l n A ha' h2)
        exact ⟨F3, F1, h3, h1, fun k hk hk' => hd k hk' (h4 k hk)⟩
      | succ m =>
        have hb' : l[m]? = some B := by simpa using hb
        exact disj l F2 n m h2 ha' hb' (by omega)
theorem seps_append {w : World} : ∀ (l1 l2 : List Hp) (F : Nat → Prop), ((seps l1).sep (seps l2)).H w F → (seps (l1 ++ l2)).H w F
  | [], l2, F, h => by
    obtain ⟨F1, F2, h1, h2, hd, hF⟩ := h
    have : F = F2 := by funext k; exact propext ⟨fun hk => ((hF k).1 hk).elim (fun h => (h1 k h).elim) id, fun hk => (hF k).2 (.inr hk)⟩
    exact this ▸ h2
  | A :: l1, l2, F, h => by
    have h1 := assoc h
    exact imp h1 fun F' h' => seps_append l1 l2 F' h'
end Hp
/-- In w, which is w0 but for blocks of F0 and new ones, A holds of blocks of F0 and new ones. -/
structure At (F0 : Nat → Prop) (w0 w : World) (A : Hp) : Prop where
  out : ∃ F, A.H w F ∧ (∀ k, F k → F0 k ∨ w0.heap.size ≤ k) ∧ Evo w0 w F0
namespace At
variable {F0 : Nat → Prop} {w0 w w1 : World} {A B R : Hp} {l : List Hp}
theorem start {F : Nat → Prop} (h : A.H w F) : At F w w A := ⟨F, h, fun _ hk => .inl hk, Evo.refl _ _⟩
theorem start0 (h : Below w0.heap.size w0 w) : At (fun _ => False) w0 w (Hp.seps []) := ⟨fun _ => False, fun _ h => h, fun _ h => h.elim, Evo.of_below h⟩
theorem evo (h : At F0 w0 w A) : Evo w0 w F0 := by obtain ⟨_, _, _, h⟩ := h.out; exact h
theorem bl (h : At (fun _ => False) w0 w A) : Below w0.heap.size w0 w := h.evo.below (fun _ h => h.elim) (Nat.le_refl _)
theorem size (h : At F0 w0 w A) : w0.heap.size ≤ w.heap.size := h.evo.size
theorem moved (h : At F0 w0 w A) (hE : Evo w w1 (fun _ => False)) : At F0 w0 w1 A := by
  obtain ⟨F, hA, hF, hB⟩ := h.out
  exact ⟨F, A.move hA (fun k hk => hE.block k (A.lt hA k hk) (fun h => h)), hF, hB.trans hE (fun _ h => h.elim)⟩
theorem below (h : At F0 w0 w A) (hb : Below w.heap.size w w1) : At F0 w0 w1 A := h.moved (Evo.of_below hb)
theorem drew (h : At F0 w0 w A) : At F0 w0 w.drew A := h.moved (Evo.drew (Evo.refl _ _))
theorem drewN (h : At F0 w0 w A) (n : Nat) : At F0 w0 (w.drewN n) A := h.moved (Evo.drewN (Evo.refl _ _) n)
theorem map (h : At F0 w0 w A) (f : ∀ w F, A.H w F → B.H w F) : At F0 w0 w B := by
  obtain ⟨F, hA, hF, hB⟩ := h.out
  exact ⟨F, f _ _ hA, hF, hB⟩
theorem tail (h : At F0 w0 w (A.sep B)) : At F0 w0 w B := by
  obtain ⟨F, hA, hF, hB⟩ := h.out
  obtain ⟨F1, h1, h2⟩ := Hp.drop hA
  exact ⟨F1, h1, fun k hk => hF k (h2 k hk), hB⟩
theorem head (h : At F0 w0 w (A.sep B)) : At F0 w0 w A := (h.map fun _ _ => Hp.comm).tail
theorem unex {α : Type} {f : α → Hp} (h : At F0 w0 w (Hp.ex f)) : ∃ x, At F0 w0 w (f x) := by
  obtain ⟨F, ⟨x, hA⟩, hF, hB⟩ := h.out
  exact ⟨x, F, hA, hF, hB⟩
theorem toex {α : Type} {f : α → Hp} (x : α) (h : At F0 w0 w (f x)) : At F0 w0 w (Hp.ex f) := h.map fun _ _ h => ⟨x, h⟩
theorem call (h : At F0 w0 w (A.sep R)) {P : Program} {f : FuncId} {args : Array Value} {Rel : Ending → Hp → Prop} (d : Does P f args A Rel) : Calls P f args w (fun e w' => ∃ B0, Rel e B0 ∧ At F0 w0 w' (B0.sep R)) := by
  obtain ⟨F, hA, hF, hB⟩ := h.out
  refine (d.frame hA).mono ?_
  rintro e w' ⟨B, F', ⟨B0, hrel, rfl⟩, hB', hE, hN⟩
  exact ⟨B0, hrel, F', hB', fun k hk => (hN k hk).elim (hF k) (fun h => .inr (Nat.le_trans hB.size h)), hB.trans hE hF⟩
theorem call1 (h : At F0 w0 w A) {P : Program} {f : FuncId} {args : Array Value} {Rel : Ending → Hp → Prop} (d : Does P f args A Rel) : Calls P f args w (fun e w' => ∃ B0, Rel e B0 ∧ At F0 w0 w' B0) :=
  ((h.map fun _ _ h => Hp.comm (Hp.emp_sep h)).call d).mono fun _ _ ⟨B0, hr, hi⟩ => ⟨B0, hr, hi.head⟩
/-- A call that leaves the heap below as it was. -/
theorem beside (h : At F0 w0 w A) {P : Program} {f : FuncId} {args : Array Value} {Q : Ending → Prop} (d : Calls P f args w (fun e w' => Q e ∧ Below w.heap.size w w')) : Calls P f args w (fun e w' => Q e ∧ At F0 w0 w' A) :=
  d.mono fun _ _ ⟨hq, hb⟩ => ⟨hq, h.below hb⟩
theorem blk_new (h : At F0 w0 w A) (cs : Array Value) (t : Nat) : At F0 w0 (w.alloc (.cells cs t)) ((Hp.blk w.heap.size cs t).sep A) := by
  obtain ⟨F, hA, hF, hB⟩ := h.out
  exact ⟨_, Hp.alloc hA cs t, fun k hk => hk.elim (fun e => .inr (e ▸ hB.size)) (hF k), hB.alloc _⟩
theorem blk_set {g : Nat} {cs : Array Value} {t : Nat} (h : At F0 w0 w ((Hp.blk g cs t).sep A)) (i : Nat) (u : Value) : At F0 w0 (w.setCell ⟨g, i, none⟩ u) ((Hp.blk g (cs.setIfInBounds i u) t).sep A) := by
  obtain ⟨F, hA, hF, hB⟩ := h.out
  exact ⟨F, Hp.blk_set hA i u, hF, hB.setCell (p := ⟨g, i, none⟩) (hF g (Hp.blk_at hA).2) u⟩
theorem blk_at {g : Nat} {cs : Array Value} {t : Nat} (h : At F0 w0 w ((Hp.blk g cs t).sep A)) : w.heap[g]? = some (.cells cs t (0, 0)) := by
  obtain ⟨F, hA, hF, hB⟩ := h.out
  exact (Hp.blk_at hA).1
section
variable {α : Type} {e size : Nat} {enc : α → List Value} {v : Value} {xs : List α}
theorem row_at (h : At F0 w0 w ((Hp.row e size enc v xs).sep R)) : Rw w e size enc v xs := by
  obtain ⟨F, hA, hF, hB⟩ := h.out
  obtain ⟨F1, h1, _⟩ := Hp.head hA
  exact h1.1
theorem row_nil (h : At F0 w0 w R) (e size : Nat) (enc : α → List Value) : At F0 w0 w ((Hp.row e size enc (.slice none 0 0) ([] : List α)).sep R) := by
  obtain ⟨F, hA, hF, hB⟩ := h.out
  exact ⟨F, ⟨fun _ => False, F, ⟨Rw.nil _ _ _ _, by simp [Value.ownBlock], fun _ h => h.elim⟩, hA, fun _ h => h.elim, fun _ => by simp⟩, hF, hB⟩
theorem row_grown {v1 : Value} {ys : List α} (h : At F0 w0 w ((Hp.row e size enc v xs).sep R)) (hr1 : Rw w1 e size enc v1 ys) (hg : w.grownBy w1 v.ownBlock) (hl1 : v1.ownBlock = v.ownBlock ∨ v1.ownBlock = some w.heap.size) : At F0 w0 w1 ((Hp.row e size enc v1 ys).sep R) := by
  obtain ⟨F, ⟨FA, FR, ⟨hr, hv, hl⟩, hR, hd, hF0⟩, hF, hB⟩ := h.out
  have hlv : ∀ k, v1.ownBlock = some k → FA k ∨ k = w.heap.size := by
    intro k hk
    rcases hl1 with h | h
    · exact .inl (hv k (h ▸ hk))
    · rw [h] at hk; injection hk with hk; exact .inr hk.symm
  refine ⟨fun k => (FA k ∨ k = w.heap.size ∧ k < w1.heap.size) ∨ FR k, ⟨fun k => FA k ∨ k = w.heap.size ∧ k < w1.heap.size, FR, ⟨hr1, fun k hk => (hlv k hk).imp id (fun h => ⟨h, hr1.lt k hk⟩), ?_⟩, ?_, ?_, fun _ => Iff.rfl⟩, ?_, ?_⟩
  · rintro k (h | h)
    · exact Nat.lt_of_lt_of_le (hl k h) hg.size
    · exact h.2
  · exact Hp.move _ hR fun k hk => hg.block k (R.lt hR k hk) (fun e => hd k (hv k e.symm) hk)
  · rintro k (h1 | ⟨h1, _⟩) h2
    · exact hd k h1 h2
    · have := R.lt hR k h2; omega
  · rintro k ((h1 | ⟨h1, _⟩) | h1)
    · exact hF k ((hF0 k).2 (.inl h1))
    · rw [h1]; exact .inr hB.size
    · exact hF k ((hF0 k).2 (.inr h1))
  · exact hB.grown hg fun k hk => hF k ((hF0 k).2 (.inl (hv k hk)))
theorem row_set {g n c : Nat} (h : At F0 w0 w ((Hp.row e size enc (.slice (some ⟨g, 0, none⟩) n c) xs).sep R)) (he : ∀ x, (enc x).length = size) (i j : Nat) (x x' : α) (u : Value) (hx : xs[i]? = some x) (hj : j < size) (hu : enc x' = (enc x).set j u) :
    At F0 w0 (w.setCell ⟨g, i * size + j, none⟩ u) ((Hp.row e size enc (.slice (some ⟨g, 0, none⟩) n c) (xs.set i x')).sep R) := by
  obtain ⟨F, ⟨FA, FR, ⟨hr, hv, hl⟩, hR, hd, hF0⟩, hF, hB⟩ := h.out
  have hg : FA g := hv g rfl
  refine ⟨F, ⟨FA, FR, ⟨hr.set he i j x x' u hx hj hu, hv, fun k hk => by rw [size_setCell]; exact hl k hk⟩, ?_, hd, hF0⟩, hF, hB.setCell (p := ⟨g, i * size + j, none⟩) (hF g ((hF0 g).2 (.inl hg))) u⟩
  exact Hp.move _ hR fun k hk => blk_setCell_far (fun e => by subst e; exact hd k hg hk) u
theorem row_take {D : Option Addr} {n c : Nat} (m : Nat) (h : At F0 w0 w ((Hp.row e size enc (.slice D n c) xs).sep R)) (he : ∀ x, (enc x).length = size) (hm : m ≤ xs.length) : At F0 w0 w ((Hp.row e size enc (.slice D m c) (xs.take m)).sep R) := by
  obtain ⟨F, ⟨FA, FR, ⟨hr, hv, hl⟩, hR, hd, hF0⟩, hF, hB⟩ := h.out
  exact ⟨F, ⟨FA, FR, ⟨hr.take he hm, fun k hk => hv k (by cases D <;> simp_all [Value.ownBlock]), hl⟩, hR, hd, hF0⟩, hF, hB⟩
end
/-! lists -/
theorem idx_lt {n : Nat} (ha : l[n]? = some A) : n < l.length := (List.getElem?_eq_some_iff.1 ha).1
theorem pick (n : Nat) (h : At F0 w0 w (Hp.seps l)) (ha : l[n]? = some A) : At F0 w0 w (A.sep (Hp.seps (l.eraseIdx n))) := h.map fun _ _ => Hp.pick l n A ha
theorem put {n : Nat} (h : At F0 w0 w (B.sep (Hp.seps (l.eraseIdx n)))) (hn : n < l.length) : At F0 w0 w (Hp.seps (l.set n B)) := h.map fun _ _ => Hp.put l n B hn
theorem disj (n m : Nat) (h : At F0 w0 w (Hp.seps l)) (ha : l[n]? = some A) (hb : l[m]? = some B) (hn : n ≠ m) : ∃ FA FB, A.H w FA ∧ B.H w FB ∧ ∀ k, FA k → FB k → False := by
  obtain ⟨F, hA, _, _⟩ := h.out
  exact Hp.disj l F n m hA ha hb hn
/-- A call that turns the n-th one. -/
theorem callAt (n : Nat) (h : At F0 w0 w (Hp.seps l)) (ha : l[n]? = some A) {P : Program} {f : FuncId} {args : Array Value} {Rel : Ending → Hp → Prop} (d : Does P f args A Rel) : Calls P f args w (fun e w' => ∃ B0, Rel e B0 ∧ At F0 w0 w' (Hp.seps (l.set n B0))) :=
  ((h.pick n ha).call d).mono fun _ _ ⟨B0, hr, hi⟩ => ⟨B0, hr, hi.put (idx_lt ha)⟩
/-- A call that makes one more. -/
theorem callNew (h : At F0 w0 w (Hp.seps l)) {P : Program} {f : FuncId} {args : Array Value} {Rel : Ending → Hp → Prop} (d : Does P f args Hp.emp Rel) : Calls P f args w (fun e w' => ∃ B0, Rel e B0 ∧ At F0 w0 w' (Hp.seps (B0 :: l))) := (h.map fun _ _ => Hp.emp_sep).call d
theorem alloc (h : At F0 w0 w (Hp.seps l)) (cs : Array Value) (t : Nat) : At F0 w0 (w.alloc (.cells cs t)) (Hp.seps (Hp.blk w.heap.size cs t :: l)) := h.blk_new cs t
theorem nilRow {α : Type} (h : At F0 w0 w (Hp.seps l)) (e size : Nat) (enc : α → List Value) : At F0 w0 w (Hp.seps (Hp.row e size enc (.slice none 0 0) ([] : List α) :: l)) := h.row_nil e size enc
/-- One that is two. -/
theorem flat (n : Nat) (h : At F0 w0 w (Hp.seps l)) (ha : l[n]? = some (A.sep B)) : At F0 w0 w (Hp.seps (A :: l.set n B)) := by
  have h1 := h.pick n ha
  exact (h1.map fun _ _ => Hp.assoc).map fun _ _ h2 => Hp.imp h2 fun _ h3 => Hp.put l n B (idx_lt ha) h3
theorem dropAt (n : Nat) (h : At F0 w0 w (Hp.seps l)) (hn : n < l.length) : At F0 w0 w (Hp.seps (l.eraseIdx n)) := (h.pick n (List.getElem?_eq_getElem hn)).tail
/-- One that is a list. -/
theorem flats (n : Nat) {l' : List Hp} (h : At F0 w0 w (Hp.seps l)) (ha : l[n]? = some (Hp.seps l')) : At F0 w0 w (Hp.seps (l' ++ l.eraseIdx n)) := (h.pick n ha).map fun _ _ h => Hp.seps_append _ _ _ h
theorem unexAt {α : Type} {f : α → Hp} (n : Nat) (h : At F0 w0 w (Hp.seps l)) (ha : l[n]? = some (Hp.ex f)) : ∃ x, At F0 w0 w (Hp.seps (l.set n (f x))) := by
  obtain ⟨F, ⟨F1, F2, ⟨x, h1⟩, h2, hd, hF0⟩, hF, hB⟩ := (h.pick n ha).out
  exact ⟨x, At.put ⟨F, ⟨F1, F2, h1, h2, hd, hF0⟩, hF, hB⟩ (idx_lt ha)⟩
/-- One of a list alone, as an assertion. -/
theorem one (n : Nat) (h : At F0 w0 w (Hp.seps l)) (ha : l[n]? = some A) : At F0 w0 w A := (h.pick n ha).head
theorem takes {l1 l2 : List Hp} (h : At F0 w0 w (Hp.seps (l1 ++ l2))) : At F0 w0 w (Hp.seps l1) := by
  obtain ⟨F, hA, hF, hB⟩ := h.out
  have key : ∀ (l1 : List Hp) (F : Nat → Prop), (Hp.seps (l1 ++ l2)).H w F → ∃ F1, (Hp.seps l1).H w F1 ∧ ∀ k, F1 k → F k := by
    intro l1
    induction l1 with
    | nil => intro F _; exact ⟨fun _ => False, fun _ h => h, fun _ h => h.elim⟩
    | cons A l1 ih =>
      rintro F ⟨Fa, Fb, ha, hb, hd, hF⟩
      obtain ⟨F1, h1, h2⟩ := ih Fb hb
      exact ⟨fun k => Fa k ∨ F1 k, ⟨Fa, F1, ha, h1, fun k hk hk' => hd k hk (h2 k hk'), fun _ => Iff.rfl⟩, fun k hk => (hF k).2 (hk.imp id (h2 k))⟩
  obtain ⟨F1, h1, h2⟩ := key l1 F hA
  exact ⟨F1, h1, fun k hk => hF k (h2 k hk), hB⟩
theorem drops {l1 l2 : List Hp} (h : At F0 w0 w (Hp.seps (l1 ++ l2))) : At F0 w0 w (Hp.seps l2) := by
  induction l1 with
  | nil => exact h
  | cons A l1 ih => exact ih h.tail
/-- Some of a list stand for one assertion. -/
theorem fold1 {A1 : Hp} (h : At F0 w0 w (Hp.seps (A1 :: l))) (f : ∀ w F, A1.H w F → B.H w F) : At F0 w0 w (Hp.seps (B :: l)) := h.map fun _ _ h => by
  obtain ⟨F1, F2, h1, h2, hd, hF⟩ := h
  exact ⟨F1, F2, f _ _ h1, h2, hd, hF⟩
theorem fold2 {A1 A2 : Hp} (h : At F0 w0 w (Hp.seps (A1 :: A2 :: l))) (f : ∀ w F, (A1.sep A2).H w F → B.H w F) : At F0 w0 w (Hp.seps (B :: l)) := h.map fun _ _ h => by
  obtain ⟨F1, F2, h1, ⟨F3, F4, h3, h4, hd2, hF2⟩, hd, hF⟩ := h
  refine ⟨fun k => F1 k ∨ F3 k, F4, f _ _ ⟨F1, F3, h1, h3, fun k a b => hd k a ((hF2 k).2 (.inl b)), fun _ => Iff.rfl⟩, h4, ?_, fun k => by rw [hF, hF2, or_assoc]⟩
  rintro k (a | a) b
  · exact hd k a ((hF2 k).2 (.inr b))
  · exact hd2 k a b
theorem blkAt {g : Nat} {cs : Array Value} {t : Nat} (n : Nat) (h : At F0 w0 w (Hp.seps l)) (ha : l[n]? = some (Hp.blk g cs t)) : w.heap[g]? = some (.cells cs t (0, 0)) := (h.pick n ha).blk_at
theorem cellAt {g : Nat} {cs : Array Value} {t : Nat} (n : Nat) (h : At F0 w0 w (Hp.seps l)) (ha : l[n]? = some (Hp.blk g cs t)) (i : Nat) : w.cell? ⟨g, i, none⟩ = cs[i]? := cell_of_blk (h.blkAt n ha) i
theorem frozenAt {g : Nat} {cs : Array Value} {t : Nat} (n : Nat) (h : At F0 w0 w (Hp.seps l)) (ha : l[n]? = some (Hp.blk g cs t)) (i : Nat) : w.frozen? ⟨g, i, none⟩ = false := frozen_of_blk (h.blkAt n ha) i
theorem ltAt {g : Nat} {cs : Array Value} {t : Nat} (n : Nat) (h : At F0 w0 w (Hp.seps l)) (ha : l[n]? = some (Hp.blk g cs t)) : g < w.heap.size := lt_of_blk (h.blkAt n ha)
theorem setBlkAt {g : Nat} {cs : Array Value} {t : Nat} (n : Nat) (h : At F0 w0 w (Hp.seps l)) (ha : l[n]? = some (Hp.blk g cs t)) (i : Nat) (u : Value) : At F0 w0 (w.setCell ⟨g, i, none⟩ u) (Hp.seps (l.set n (Hp.blk g (cs.setIfInBounds i u) t))) := ((h.pick n ha).blk_set i u).put (idx_lt ha)
theorem neBB {g g' t t' : Nat} {cs cs' : Array Value} (n m : Nat) (h : At F0 w0 w (Hp.seps l)) (ha : l[n]? = some (Hp.blk g cs t)) (hb : l[m]? = some (Hp.blk g' cs' t')) (hn : n ≠ m) : g ≠ g' := by
  obtain ⟨FA, FB, h1, h2, h3⟩ := h.disj n m ha hb hn
  rintro rfl
  exact h3 g ((h1.2 g).2 rfl) ((h2.2 g).2 rfl)
section
variable {α : Type} {e size : Nat} {enc : α → List Value} {v : Value} {xs : List α}
theorem rowAt (n : Nat) (h : At F0 w0 w (Hp.seps l)) (ha : l[n]? = some (Hp.row e size enc v xs)) : Rw w e size enc v xs := (h.pick n ha).row_at
theorem neRB {g t : Nat} {cs : Array Value} (n m : Nat) (h : At F0 w0 w (Hp.seps l)) (ha : l[n]? = some (Hp.row e size enc v xs)) (hb : l[m]? = some (Hp.blk g cs t)) (hn : n ≠ m) : v.ownBlock ≠ some g := by
  obtain ⟨FA, FB, h1, h2, h3⟩ := h.disj n m ha hb hn
  exact fun he => h3 g (h1.2.1 g he) ((h2.2 g).2 rfl)
theorem neGB {g g' k c t : Nat} {cs : Array Value} (n m : Nat) (h : At F0 w0 w (Hp.seps l)) (ha : l[n]? = some (Hp.row e size enc (.slice (some ⟨g', 0, none⟩) k c) xs)) (hb : l[m]? = some (Hp.blk g cs t)) (hn : n ≠ m) : g' ≠ g := fun he => h.neRB n m ha hb hn (by rw [he]; rfl)
theorem neGG {β : Type} {e' size' : Nat} {enc' : β → List Value} {ys : List β} {g g' k c k' c' : Nat} (n m : Nat) (h : At F0 w0 w (Hp.seps l)) (ha : l[n]? = some (Hp.row e size enc (.slice (some ⟨g, 0, none⟩) k c) xs)) (hb : l[m]? = some (Hp.row e' size' enc' (.slice (some ⟨g', 0, none⟩) k' c') ys)) (hn : n ≠ m) : g ≠ g' := by
  obtain ⟨FA, FB, h1, h2, h3⟩ := h.disj n m ha hb hn
  exact fun he => h3 g (h1.2.1 g rfl) (h2.2.1 g (by rw [he]; rfl))
theorem neRR {β : Type} {e' size' : Nat} {enc' : β → List Value} {v' : Value} {ys : List β} (n m : Nat) (h : At F0 w0 w (Hp.seps l)) (ha : l[n]? = some (Hp.row e size enc v xs)) (hb : l[m]? = some (Hp.row e' size' enc' v' ys)) (hn : n ≠ m) (k : Nat) (hk : v.ownBlock = some k) : v'.ownBlock ≠ some k := by
  obtain ⟨FA, FB, h1, h2, h3⟩ := h.disj n m ha hb hn
  exact fun he => h3 k (h1.2.1 k hk) (h2.2.1 k he)
theorem appendAt {V : World} {v1 : Value} {p : α} (n : Nat) (hA : Appended V w1 e size enc v v1 xs p) (h : At F0 w0 w (Hp.seps l)) (ha : l[n]? = some (Hp.row e size enc v xs)) (hb : Below w.heap.size w V) : At F0 w0 w1 (Hp.seps (l.set n (Hp.row e size enc v1 (xs ++ [p])))) :=
  (((h.below hb).pick n ha).row_grown hA.row hA.grown hA.lies).put (idx_lt ha)
theorem appendLAt {V : World} {v1 : Value} {ys : List α} (n : Nat) (hA : AppendedL V w1 e size enc v v1 xs ys) (h : At F0 w0 w (Hp.seps l)) (ha : l[n]? = some (Hp.row e size enc v xs)) (hb : Below w.heap.size w V) : At F0 w0 w1 (Hp.seps (l.set n (Hp.row e size enc v1 (xs ++ ys)))) :=
  (((h.below hb).pick n ha).row_grown hA.row hA.grown hA.lies).put (idx_lt ha)
theorem setAt {g m c : Nat} (n : Nat) (h : At F0 w0 w (Hp.seps l)) (ha : l[n]? = some (Hp.row e size enc (.slice (some ⟨g, 0, none⟩) m c) xs)) (he : ∀ x, (enc x).length = size) (i j : Nat) (x x' : α) (u : Value) (hx : xs[i]? = some x) (hj : j < size) (hu : enc x' = (enc x).set j u) :
    At F0 w0 (w.setCell ⟨g, i * size + j, none⟩ u) (Hp.seps (l.set n (Hp.row e size enc (.slice (some ⟨g, 0, none⟩) m c) (xs.set i x')))) :=
  ((h.pick n ha).row_set he i j x x' u hx hj hu).put (idx_lt ha)
theorem takeAt {D : Option Addr} {k c : Nat} (n m : Nat) (h : At F0 w0 w (Hp.seps l)) (ha : l[n]? = some (Hp.row e size enc (.slice D k c) xs)) (he : ∀ x, (enc x).length = size) (hm : m ≤ xs.length) : At F0 w0 w (Hp.seps (l.set n (Hp.row e size enc (.slice D m c) (xs.take m)))) :=
  ((h.pick n ha).row_take m he hm).put (idx_lt ha)
end
theorem toL (h : At F0 w0 w A) : At F0 w0 w (Hp.seps [A]) := h.map fun _ _ h => Hp.comm (Hp.emp_sep h)
theorem ofL (h : At F0 w0 w (Hp.seps [A])) : At F0 w0 w A := h.head
theorem openAt {α : Type} {f : α → List Hp} (n : Nat) (h : At F0 w0 w (Hp.seps l)) (ha : l[n]? = some (Hp.ex fun x => Hp.seps (f x))) : ∃ x, At F0 w0 w (Hp.seps (f x ++ l.eraseIdx n)) := by
  obtain ⟨x, hx⟩ := h.unexAt n ha
  refine ⟨x, ?_⟩
  have h1 := hx.flats n (l' := f x) (List.getElem?_set_self (idx_lt ha))
  have e : (l.set n (Hp.seps (f x))).eraseIdx n = l.eraseIdx n := by
    apply List.ext_getElem?
    intro i
    rw [List.getElem?_eraseIdx, List.getElem?_eraseIdx]
    split
    · rw [List.getElem?_set_ne (by omega)]
    · rw [List.getElem?_set_ne (by omega)]
  rw [e] at h1
  exact h1
theorem seps_split {w : World} : ∀ (l1 l2 : List Hp) (F : Nat → Prop), (Hp.seps (l1 ++ l2)).H w F → ((Hp.seps l1).sep (Hp.seps l2)).H w F
  | [], l2, F, h => Hp.emp_sep h
  | A :: l1, l2, F, h => Hp.assoc' (Hp.imp h fun F' h' => seps_split l1 l2 F' h')
/-- The first ones of a list become one. -/
theorem foldL {l1 l2 : List Hp} (h : At F0 w0 w (Hp.seps (l1 ++ l2))) (f : ∀ w F, (Hp.seps l1).H w F → B.H w F) : At F0 w0 w (Hp.seps (B :: l2)) := h.map fun _ _ h => by
  obtain ⟨F1, F2, h1, h2, hd, hF⟩ := seps_split _ _ _ h
  exact ⟨F1, F2, f _ _ h1, h2, hd, hF⟩
theorem closeL {α : Type} {f : α → List Hp} (x : α) {l2 : List Hp} (h : At F0 w0 w (Hp.seps (f x ++ l2))) : At F0 w0 w (Hp.seps ((Hp.ex fun x => Hp.seps (f x)) :: l2)) := h.foldL fun _ _ h => ⟨x, h⟩
/-! some of a list, in another order: each index counts in what is left -/
end At
def selR : List Nat → List Hp → List Hp
  | [], _ => []
  | n :: ns, l => match l[n]? with
    | some a => a :: selR ns (l.eraseIdx n)
    | none => []
theorem selR_holds {w : World} : ∀ (ns : List Nat) (l : List Hp) (F : Nat → Prop), (Hp.seps l).H w F → ∃ F1, (Hp.seps (selR ns l)).H w F1 ∧ ∀ k, F1 k → F k
  | [], _, _, _ => ⟨fun _ => False, fun _ h => h, fun _ h => h.elim⟩
  | n :: ns, l, F, h => by
    unfold selR
    split
    · rename_i a ha
      obtain ⟨Fa, Fb, h1, h2, hd, hF⟩ := Hp.pick l n a ha h
      obtain ⟨F1, h3, h4⟩ := selR_holds ns _ _ h2
      exact ⟨fun k => Fa k ∨ F1 k, ⟨Fa, F1, h1, h3, fun k a b => hd k a (h4 k b), fun _ => Iff.rfl⟩, fun k hk => (hF k).2 (hk.imp id (h4 k))⟩
    · exact ⟨fun _ => False, fun _ h => h, fun _ h => h.elim⟩
namespace At
variable {F0 : Nat → Prop} {w0 w w1 : World} {A B R : Hp} {l : List Hp}
theorem sel (ns : List Nat) (h : At F0 w0 w (Hp.seps l)) : At F0 w0 w (Hp.seps (selR ns l)) := by
  obtain ⟨F, hA, hF, hB⟩ := h.out
  obtain ⟨F1, h1, h2⟩ := selR_holds ns l F hA
  exact ⟨F1, h1, fun k hk => hF k (h2 k hk), hB⟩
/-- The same list, typed otherwise. -/
theorem as (h : At F0 w0 w A) (B : Hp) (e : A = B) : At F0 w0 w B := e ▸ h
/-! contracts -/
theorem post {F : Nat → Prop} {w' : World} {e : Ending} {Rel : Ending → Hp → Prop} (h : At F w w' B) (hr : Rel e B) : Post w F Rel e w' := by
  obtain ⟨F1, h1, h2, h3⟩ := h.out
  exact ⟨B, F1, hr, h1, h3, h2⟩
theorem of_post {F : Nat → Prop} {w' : World} {e : Ending} {Rel : Ending → Hp → Prop} (h : Post w F Rel e w') : ∃ B, Rel e B ∧ At F w w' B := by
  obtain ⟨B, F1, hr, h1, h3, h2⟩ := h
  exact ⟨B, hr, ⟨F1, h1, h2, h3⟩⟩
end At
theorem Does.of {P : Program} {f : FuncId} {args : Array Value} {A : Hp} {Rel : Ending → Hp → Prop} (h : ∀ w F, At F w w A → Calls P f args w (Post w F Rel)) : Does P f args A Rel := fun w F hA => h w F (At.start hA)
theorem emp_seps {F : Nat → Prop} {w : World} (h : At F w w Hp.emp) : At F w w (Hp.seps []) := h
/-! parts of what is read -/
theorem Rd.len {α : Type} {w : World} {size : Nat} {enc : α → List Value} {D : Option Addr} {n c : Nat} {xs : List α} (h : Rd w size enc (.slice D n c) xs) : n = xs.length ∧ xs.length ≤ c := by
  obtain ⟨A, c', h1, h2, _⟩ := h.shape
  injection h1 with _ h1 h3
  exact ⟨h1, by omega⟩
theorem Rd.take {α : Type} {w : World} {size : Nat} {enc : α → List Value} {D : Option Addr} {n c : Nat} {xs : List α} (h : Rd w size enc (.slice D n c) xs) (m : Nat) (hm : m ≤ xs.length) : Rd w size enc (.slice D m c) (xs.take m) := by
  have hl : (xs.take m).length = m := by rw [List.length_take]; omega
  obtain ⟨A, c', h1, h2, h3⟩ := h.shape
  injection h1 with e1 e2 e3
  refine ⟨⟨D, c, by rw [hl], by rw [hl]; omega, by rw [hl]; omega⟩, fun A' n' c'' hv i x hx => ?_⟩
  injection hv with f1 f2 f3
  rw [List.getElem?_take] at hx
  split at hx
  · subst f1
    exact h.cells D n c rfl i x hx
  · cases hx
theorem Rd.drop {α : Type} {w : World} {size : Nat} {enc : α → List Value} {b off n c : Nat} {xs : List α} (h : Rd w size enc (.slice (some ⟨b, off, none⟩) n c) xs) (m : Nat) (hm : m ≤ xs.length) : Rd w size enc (.slice (some ⟨b, off + m * size, none⟩) (n - m) (c - m)) (xs.drop m) := by
  obtain ⟨A, c', h1, h2, h3⟩ := h.shape
  injection h1 with e1 e2 e3
  refine ⟨⟨some ⟨b, off + m * size, none⟩, c - m, by rw [List.length_drop, e2], by rw [List.length_drop]; omega, by rw [List.length_drop]; omega⟩, fun A' n' c'' hv i x hx => ?_⟩
  injection hv with f1 f2 f3
  subst f1
  rw [List.getElem?_drop] at hx
  obtain ⟨b', off', g1, g2, g3⟩ := h.cells _ _ _ rfl (m + i) x hx
  injection g1 with g1
  injection g1 with g1 g4
  subst g1; subst g4
  refine ⟨b, off + m * size, rfl, g2, fun j hj => ?_⟩
  have e5 : off + m * size + i * size + j = off + (m + i) * size + j := by rw [Nat.add_mul]; omega
  rw [e5]
  exact g3 j hj
theorem Rd.tail {α : Type} {w : World} {size : Nat} {enc : α → List Value} {b off n c : Nat} {xs : List α} (h : Rd w size enc (.slice (some ⟨b, off, none⟩) n c) xs) (m : Nat) (hm : m ≤ xs.length) : Rd w size enc (.slice (if c = m then some ⟨b, off, none⟩ else some ⟨b, off + m * size, none⟩) (n - m) (c - m)) (xs.drop m) := by
  split
  · have h1 := h.drop m hm
    have hl := h.len
    have e : xs.drop m = [] := List.drop_of_length_le (by omega)
    rw [e] at h1 ⊢
    obtain ⟨A, c', e1, e2, e3⟩ := h1.shape
    injection e1 with _ e1 e4
    exact ⟨⟨_, c - m, by rw [e1], by simp, by simp⟩, fun A' n' c'' hv i x hx => by simp at hx⟩
  · exact h.drop m hm
theorem Rw.head0 {α : Type} {w : World} {e size : Nat} {enc : α → List Value} {a : Addr} {n c : Nat} {xs : List α} (h : Rw w e size enc (.slice (some a) n c) xs) : ∃ g, a = ⟨g, 0, none⟩ ∧ g < w.heap.size := by
  rcases h.form with ⟨h1, _⟩ | ⟨g, cap, cur, h1, h2, _⟩
  · cases h1
  · injection h1 with h1
    injection h1 with h1
    exact ⟨g, h1, lt_of_blk h2⟩
theorem Rw.slice {α : Type} {w : World} {e size : Nat} {enc : α → List Value} {v : Value} {xs : List α} (h : Rw w e size enc v xs) : ∃ A n c, v = .slice A n c := by
  obtain ⟨A, c, rfl, _⟩ := h.shape
  exact ⟨A, _, c, rfl⟩
theorem Rw.none_nil {α : Type} {w : World} {e size : Nat} {enc : α → List Value} {n c : Nat} {xs : List α} (h : Rw w e size enc (.slice none n c) xs) : n = 0 ∧ c = 0 ∧ xs = [] := by
  rcases h.form with ⟨h1, h2⟩ | ⟨g, cap, cur, h1, _⟩
  · injection h1 with _ h1 h3
    exact ⟨h1, h3, h2⟩
  · injection h1 with h1
    cases h1
end Go.Proofs.YtkebkmbfglodlaaDoor
