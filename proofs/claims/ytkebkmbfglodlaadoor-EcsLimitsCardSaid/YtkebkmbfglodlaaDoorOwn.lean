/- The layer that this claim's proofs stand on: rows (slices that the call itself made), assertions with a footprint, their separate union, and contracts that keep what lies beside the footprint. No condition; plain definitions and lemmas. -/
import Derived.Below
import Derived.Deep.Draws
import Derived.Maps.AppendAt
import Derived.OwnWalk
import Derived.WalkKit
import Derived.Lib.Hide
import Derived.Deep.QuietTactic
import Derived.BigQuiet
import Derived.RegionTactic
import Derived.ChangeAlike
import Derived.StillTailTactics
import Derived.Deep.LoopGhost
import Derived.Deep.CutBlock
import Derived.Deep.DeepCutAuto
import Derived.OpenShut
set_option linter.unusedVariables false
namespace Go.Proofs.YtkebkmbfglodlaaDoor
open Go.RowKit

/-- A fact that the walk's simp does not look into. -/
structure As (p : Prop) : Prop where mk :: (out : p)

/-! ### Blocks -/
theorem lt_of_blk {w : World} {g : Nat} {o : Obj} (h : w.heap[g]? = some o) : g < w.heap.size := (Array.getElem?_eq_some_iff.1 h).1
theorem cell_of_blk {w : World} {g : Nat} {cs : Array Value} {t : Nat} {fr : Nat × Nat} (h : w.heap[g]? = some (.cells cs t fr)) (i : Nat) : w.cell? ⟨g, i, none⟩ = cs[i]? := cell_of_row w g i cs t fr h
theorem frozen_of_blk {w : World} {g : Nat} {cs : Array Value} {t : Nat} (h : w.heap[g]? = some (.cells cs t (0, 0))) (i : Nat) : w.frozen? ⟨g, i, none⟩ = false := by simp [World.frozen?, h]
theorem blk_setCell_same {w : World} {g : Nat} {cs : Array Value} {t : Nat} (h : w.heap[g]? = some (.cells cs t (0, 0))) (i : Nat) (u : Value) : (w.setCell ⟨g, i, none⟩ u).heap[g]? = some (.cells (cs.setIfInBounds i u) t (0, 0)) := by
  simp [World.setCell, Array.getElem?_modify, h]
theorem blk_setCell_far {w : World} {g g' i : Nat} (hne : g ≠ g') (u : Value) : (w.setCell ⟨g', i, none⟩ u).heap[g]? = w.heap[g]? := Below.heap_setCell w _ u g hne
theorem blk_alloc_far {w : World} {g : Nat} (h : g < w.heap.size) (o : Obj) : (w.alloc o).heap[g]? = w.heap[g]? := Below.heap_alloc w o g h
theorem blk_alloc_new (w : World) (o : Obj) : (w.alloc o).heap[w.heap.size]? = some o := heap_alloc_new w o
theorem ne_of_types {w : World} {g g' : Nat} {cs cs' : Array Value} {t t' : Nat} {fr fr' : Nat × Nat} (h : w.heap[g]? = some (.cells cs t fr)) (h' : w.heap[g']? = some (.cells cs' t' fr')) (hne : t ≠ t') : g ≠ g' := by
  rintro rfl
  rw [h] at h'
  injection h' with h'
  injection h' with _ h'
  exact hne h'
theorem size_setCell (w : World) (p : Addr) (u : Value) : (w.setCell p u).heap.size = w.heap.size := by simp [World.setCell]

/-! ### What may turn: Evo -/
/-- w' is w but for blocks of F; blocks may have been added. -/
structure Evo (w w' : World) (F : Nat → Prop) : Prop where
  os : w'.os = w.os
  tape : w'.tape = w.tape
  output : w'.output = w.output
  size : w.heap.size ≤ w'.heap.size
  block : ∀ k, k < w.heap.size → ¬ F k → w'.heap[k]? = w.heap[k]?
namespace Evo
variable {w w1 w2 : World} {F F1 : Nat → Prop}
theorem refl (w : World) (F : Nat → Prop) : Evo w w F := ⟨rfl, rfl, rfl, Nat.le_refl _, fun _ _ _ => rfl⟩
theorem trans (h : Evo w w1 F) (k : Evo w1 w2 F1) (hF : ∀ k, F1 k → F k ∨ w.heap.size ≤ k) : Evo w w2 F :=
  ⟨k.os.trans h.os, k.tape.trans h.tape, k.output.trans h.output, Nat.le_trans h.size k.size, fun i hi hn => (k.block i (Nat.lt_of_lt_of_le hi h.size) (fun hf => by rcases hF i hf with a | a; exact hn a; omega)).trans (h.block i hi hn)⟩
theorem mono (h : Evo w w1 F) (hF : ∀ k, F k → F1 k) : Evo w w1 F1 := ⟨h.os, h.tape, h.output, h.size, fun k hk hn => h.block k hk (fun hf => hn (hF k hf))⟩
theorem of_below (h : Below w.heap.size w w1) : Evo w w1 F := ⟨h.os, h.tape, h.output, h.size, fun k hk _ => h.block k hk⟩
theorem below (h : Evo w w1 F) {B : Nat} (hF : ∀ k, F k → B ≤ k) (hB : B ≤ w.heap.size) : Below B w w1 := ⟨h.os, h.tape, h.output, h.size, fun k hk => h.block k (by omega) (fun hf => by have := hF k hf; omega)⟩
theorem alloc (h : Evo w w1 F) (o : Obj) : Evo w (w1.alloc o) F := h.trans (of_below (F := F) ((Below.refl _ _).alloc (Nat.le_refl _) o)) (fun _ hf => Or.inl hf)
theorem drewN (h : Evo w w1 F) (n : Nat) : Evo w (w1.drewN n) F := ⟨h.os, h.tape, h.output, h.size, h.block⟩
theorem drew (h : Evo w w1 F) : Evo w w1.drew F := ⟨h.os, h.tape, h.output, h.size, h.block⟩
theorem setCell (h : Evo w w1 F) {p : Addr} (hp : F p.block ∨ w.heap.size ≤ p.block) (u : Value) : Evo w (w1.setCell p u) F :=
  ⟨h.os, h.tape, h.output, by rw [size_setCell]; exact h.size, fun k hk hn => (Below.heap_setCell w1 p u k (fun e => by subst e; rcases hp with a | a; exact hn a; omega)).trans (h.block k hk hn)⟩
theorem grown (h : Evo w w1 F) {row : Option Nat} (hg : w1.grownBy w2 row) (hr : ∀ k, row = some k → F k ∨ w.heap.size ≤ k) : Evo w w2 F :=
  ⟨hg.os.trans h.os, hg.tape.trans h.tape, hg.output.trans h.output, Nat.le_trans h.size hg.size, fun k hk hn => (hg.block k (Nat.lt_of_lt_of_le hk h.size) (fun e => by rcases hr k e.symm with a | a; exact hn a; omega)).trans (h.block k hk hn)⟩
end Evo

/-! ### Rows: a slice that the call made, element by element -/
/-- v is a slice over a row of its own (elements of type e, size cells each) that holds xs. -/
def Rw {α : Type} (w : World) (e size : Nat) (enc : α → List Value) (v : Value) (xs : List α) : Prop := w.ownsRow 0 e size v xs.length (xs.flatMap enc)
theorem flat_length {α : Type} {enc : α → List Value} {size : Nat} (he : ∀ x, (enc x).length = size) (xs : List α) : (xs.flatMap enc).length = xs.length * size := by
  induction xs with
  | nil => simp
  | cons x xs ih => rw [List.flatMap_cons, List.length_append, he, ih, List.length_cons, Nat.succ_mul]; omega
theorem flat_get {α : Type} {enc : α → List Value} {size : Nat} (he : ∀ x, (enc x).length = size) : ∀ (xs : List α) (i j : Nat) (x : α), xs[i]? = some x → j < size → (xs.flatMap enc)[i * size + j]? = (enc x)[j]? := by
  intro xs
  induction xs with
  | nil => intro i j x h; simp at h
  | cons y ys ih =>
    intro i j x h hj
    rw [List.flatMap_cons]
    cases i with
    | zero =>
      obtain rfl : y = x := by simpa using h
      rw [Nat.zero_mul, Nat.zero_add, List.getElem?_append_left (by rw [he]; exact hj)]
    | succ i =>
      have h' : ys[i]? = some x := by simpa using h
      rw [List.getElem?_append_right (by rw [he, Nat.succ_mul]; omega), he, show (i + 1) * size + j - size = i * size + j by rw [Nat.succ_mul]; omega]
      exact ih i j x h' hj
theorem flat_set {α : Type} {enc : α → List Value} {size : Nat} (he : ∀ x, (enc x).length = size) : ∀ (xs : List α) (i j : Nat) (x x' : α) (u : Value), xs[i]? = some x → j < size → enc x' = (enc x).set j u → (xs.set i x').flatMap enc = (xs.flatMap enc).set (i * size + j) u := by
  intro xs
  induction xs with
  | nil => intro i j x x' u h; simp at h
  | cons y ys ih =>
    intro i j x x' u h hj hu
    cases i with
    | zero =>
      obtain rfl : y = x := by simpa using h
      rw [List.set_cons_zero, List.flatMap_cons, List.flatMap_cons, hu, Nat.zero_mul, Nat.zero_add, List.set_append_left _ _ (by rw [he]; exact hj)]
    | succ i =>
      have h' : ys[i]? = some x := by simpa using h
      rw [List.set_cons_succ, List.flatMap_cons, List.flatMap_cons, ih i j x x' u h' hj hu, List.set_append_right _ _ (by rw [he, Nat.succ_mul]; omega), he, show (i + 1) * size + j - size = i * size + j by rw [Nat.succ_mul]; omega]
namespace Rw
variable {α : Type} {w w1 : World} {e size : Nat} {enc : α → List Value} {v : Value} {xs : List α}
theorem nil (w : World) (e size : Nat) (enc : α → List Value) : Rw w e size enc (.slice none 0 0) [] := World.ownsRow_nil w 0 e size
theorem lt (h : Rw w e size enc v xs) : ∀ k, v.ownBlock = some k → k < w.heap.size := fun k hk => (World.ownsRow.lt h k hk).2
theorem form (h : Rw w e size enc v xs) : (v = .slice none 0 0 ∧ xs = []) ∨ ∃ g cap cur, v = .slice (some ⟨g, 0, none⟩) xs.length cap ∧ w.heap[g]? = some (.cells cur e (0, 0)) ∧ xs.length ≤ cap ∧ cap ≤ maxLen ∧ cur.size = cap * size ∧ cur.toList.take (xs.length * size) = xs.flatMap enc := by
  rcases h.2 with ⟨h1, h2⟩ | ⟨g, cap, cur, h1, _, h3, h4, h5, h6, h7⟩
  · exact .inl ⟨h1, List.eq_nil_of_length_eq_zero h2⟩
  · exact .inr ⟨g, cap, cur, h1, h3, h4, h5, h6, h7⟩
theorem shape (h : Rw w e size enc v xs) : ∃ A c, v = .slice A xs.length c ∧ xs.length ≤ c ∧ xs.length ≤ 9223372036854775807 := by
  rcases h.form with ⟨rfl, rfl⟩ | ⟨g, cap, cur, rfl, _, h4, h5, _⟩
  · exact ⟨none, 0, rfl, Nat.le_refl _, by simp⟩
  · exact ⟨_, _, rfl, h4, by simp only [maxLen] at h5; omega⟩
theorem move (h : Rw w e size enc v xs) (hm : ∀ k, v.ownBlock = some k → w1.heap[k]? = w.heap[k]?) : Rw w1 e size enc v xs := by
  obtain ⟨h1, h2⟩ := h
  refine ⟨h1, ?_⟩
  rcases h2 with h2 | ⟨g, cap, cur, rfl, hg, hh, r⟩
  · exact .inl h2
  · exact .inr ⟨g, cap, cur, rfl, hg, (hm g (by simp [Value.ownBlock])).trans hh, r⟩
theorem typed (h : Rw w e size enc v xs) (k : Nat) (hk : v.ownBlock = some k) : ∃ cells, w.heap[k]? = some (.cells cells e (0, 0)) := by
  rcases h.2 with ⟨rfl, _⟩ | ⟨g, cap, cur, rfl, hg, hh, r⟩
  · simp [Value.ownBlock] at hk
  · have : g = k := by simpa [Value.ownBlock] using hk
    subst this
    exact ⟨cur, hh⟩
/-- Another block is written. -/
theorem far (h : Rw w e size enc v xs) {g i : Nat} (hne : v.ownBlock ≠ some g) (u : Value) : Rw (w.setCell ⟨g, i, none⟩ u) e size enc v xs := h.move fun k hk => blk_setCell_far (fun he => hne (by rw [hk, he])) u
theorem alloc (h : Rw w e size enc v xs) (o : Obj) : Rw (w.alloc o) e size enc v xs := h.move fun k hk => blk_alloc_far (h.lt k hk) o
/-- By types. -/
theorem ne_typed (h : Rw w e size enc v xs) {g t : Nat} {cs : Array Value} {fr : Nat × Nat} (hb : w.heap[g]? = some (.cells cs t fr)) (ht : e ≠ t) : v.ownBlock ≠ some g := fun he => by
  obtain ⟨cells, hc⟩ := h.typed g he
  exact ne_of_types hc hb ht rfl
/-- An element's cells. -/
theorem cell {A : Option Addr} {n c : Nat} (h : Rw w e size enc (.slice A n c) xs) (he : ∀ x, (enc x).length = size) (i : Nat) (x : α) (hx : xs[i]? = some x) : ∃ g, A = some ⟨g, 0, none⟩ ∧ g < w.heap.size ∧ ∀ j, j < size → w.cell? ⟨g, i * size + j, none⟩ = (enc x)[j]? ∧ w.frozen? ⟨g, i * size + j, none⟩ = false := by
  rcases h.form with ⟨h1, rfl⟩ | ⟨g, cap, cur, h1, hg, h4, h5, h6, h7⟩
  · simp at hx
  · injection h1 with h1 h2 h3
    refine ⟨g, h1, lt_of_blk hg, fun j hj => ⟨?_, frozen_of_blk hg _⟩⟩
    rw [cell_of_blk hg, ← flat_get he xs i j x hx hj, ← h7, List.getElem?_take, if_pos ?_]
    · simp
    · have hi : i < xs.length := (List.getElem?_eq_some_iff.1 hx).1
      have : (i + 1) * size ≤ xs.length * size := Nat.mul_le_mul_right _ hi
      rw [Nat.succ_mul] at this
      omega
/-- The same where the row's block is known. -/
theorem at_ {g n c : Nat} (h : Rw w e size enc (.slice (some ⟨g, 0, none⟩) n c) xs) (he : ∀ x, (enc x).length = size) (i : Nat) (x : α) (hx : xs[i]? = some x) (j : Nat) (hj : j < size) : w.cell? ⟨g, i * size + j, none⟩ = (enc x)[j]? ∧ w.frozen? ⟨g, i * size + j, none⟩ = false := by
  obtain ⟨g', e1, _, hc⟩ := h.cell he i x hx
  injection e1 with e1
  injection e1 with e1
  subst e1
  exact hc j hj
/-- One cell of an element is written. -/
theorem set {g n c : Nat} (h : Rw w e size enc (.slice (some ⟨g, 0, none⟩) n c) xs) (he : ∀ x, (enc x).length = size) (i j : Nat) (x x' : α) (u : Value) (hx : xs[i]? = some x) (hj : j < size) (hu : enc x' = (enc x).set j u) : Rw (w.setCell ⟨g, i * size + j, none⟩ u) e size enc (.slice (some ⟨g, 0, none⟩) n c) (xs.set i x') := by
  rcases h.form with ⟨h1, rfl⟩ | ⟨g', cap, cur, h1, hg, h4, h5, h6, h7⟩
  · simp at hx
  · injection h1 with h1 h2 h3
    obtain rfl : g = g' := by injection h1 with h1; injection h1
    have hi : i < xs.length := (List.getElem?_eq_some_iff.1 hx).1
    have hb : i * size + j < xs.length * size := by
      have : (i + 1) * size ≤ xs.length * size := Nat.mul_le_mul_right _ hi
      rw [Nat.succ_mul] at this
      omega
    refine ⟨by rw [List.length_set]; exact flat_length he _ |>.trans (by rw [List.length_set]), .inr ⟨g, c, cur.setIfInBounds (i * size + j) u, ?_, Nat.zero_le _, blk_setCell_same hg _ u, ?_, ?_, ?_, ?_⟩⟩
    · rw [List.length_set, h2]
    · rw [List.length_set, h3]; exact h4
    · rw [h3]; exact h5
    · rw [Array.size_setIfInBounds, h3]; exact h6
    · rw [List.length_set, Array.toList_setIfInBounds, List.take_set, h7, flat_set he xs i j x x' u hx hj hu]
/-- The row cut at its end. -/
theorem take {A : Option Addr} {n c m : Nat} (h : Rw w e size enc (.slice A n c) xs) (he : ∀ x, (enc x).length = size) (hm : m ≤ xs.length) : Rw w e size enc (.slice A m c) (xs.take m) := by
  rcases h.form with ⟨h1, rfl⟩ | ⟨g, cap, cur, h1, hg, h4, h5, h6, h7⟩
  · injection h1 with h1 h2 h3
    subst h1; subst h3
    obtain rfl : m = 0 := by simpa using hm
    exact nil w e size enc
  · injection h1 with h1 h2 h3
    subst h1; subst h3
    have hl : (xs.take m).length = m := by rw [List.length_take]; omega
    refine ⟨flat_length he _, .inr ⟨g, c, cur, by rw [hl], Nat.zero_le _, hg, by rw [hl]; omega, h5, h6, ?_⟩⟩
    rw [hl]
    have e1 : (xs.flatMap enc).take (m * size) = (xs.take m).flatMap enc := by
      conv => lhs; rw [← List.take_append_drop m xs, List.flatMap_append]
      rw [List.take_append_of_le_length (by rw [flat_length he, hl]; exact Nat.le_refl _), List.take_of_length_le (by rw [flat_length he, hl]; exact Nat.le_refl _)]
    rw [← e1, ← h7, List.take_take, Nat.min_eq_left (Nat.mul_le_mul_right _ hm)]
end Rw
theorem blk_new {W : World} {g0 : Nat} {o : Obj} (h : g0 = W.heap.size) : (W.alloc o).heap[g0]? = some o := by rw [h]; exact heap_alloc_new W o
theorem blk_new_drew {W : World} {g0 : Nat} {o : Obj} (h : g0 = W.heap.size) : (W.alloc o).drew.heap[g0]? = some o := blk_new h
theorem blk_new_drewN {W : World} {g0 n : Nat} {o : Obj} (h : g0 = W.heap.size) : ((W.alloc o).drewN n).heap[g0]? = some o := blk_new h
theorem Rw.drew {α : Type} {w : World} {e size : Nat} {enc : α → List Value} {v : Value} {xs : List α} (h : Rw w e size enc v xs) : Rw w.drew e size enc v xs := h
theorem Rw.drewN {α : Type} {w : World} {e size : Nat} {enc : α → List Value} {v : Value} {xs : List α} (h : Rw w e size enc v xs) (n : Nat) : Rw (w.drewN n) e size enc v xs := h
/-- What an append at V leaves. -/
structure Appended {α : Type} (V w1 : World) (e size : Nat) (enc : α → List Value) (v v1 : Value) (xs : List α) (p : α) : Prop where
  row : Rw w1 e size enc v1 (xs ++ [p])
  grown : V.grownBy w1 v.ownBlock
  lies : v1.ownBlock = v.ownBlock ∨ v1.ownBlock = some V.heap.size
  form : ∃ g cap, v1 = .slice (some ⟨g, 0, none⟩) (xs.length + 1) cap
section
variable {P : Program} {ops : Array Oper} {rest : List Oper} {o : Oper} {a : Act} {Q : Exit → Act → World → Prop} {K : Act → World → Prop} {V : World} {α : Type} {E : Prop}
/-- append(v, x) at the operation; x's cells lie in block g0. -/
theorem rw_append_wp (s x : Operand) (t e size : Nat) (enc : α → List Value) (z : Value) (bytes : Nat)
    (ho : o.op = .call { callee := .builtin .append, args := #[s, x], argTypes := #[t, t] })
    (ht : P.underlying t = some (.slice e)) (hinfo : (P.info? e).map (fun i => (i.zero, i.size, i.bytes)) = some (some z, size, bytes)) (hz : z.cells.size = size) (hs0 : 0 < size)
    (v : Value) (xs : List α) (p : α) (hs : a.eval s = v) (g0 : Nat) (hx : a.eval x = .slice (some ⟨g0, 0, none⟩) 1 1) (hg0 : V.heap[g0]? = some (.cells (enc p).toArray e (0, 0)))
    (h : Rw V e size enc v xs) (he : ∀ x, (enc x).length = size) (h1 : ∀ u ∈ enc p, u.oneCell' = true) (hm : xs.length + 1 ≤ maxLen) (hl : (xs.length + 1) * bytes ≤ 140737488355328)
    (hK : ∀ v1 w1, Appended V w1 e size enc v v1 xs p → K (a.put o.dst v1) w1) : o.wp P a V K Q := by
  obtain ⟨i0, hi, hz0, hz1, hz2⟩ := info_parts hinfo
  obtain ⟨v1, w1, hr, hown, hg, hnil, hat⟩ := run_append_own_at (P := P) V 0 t o.type e i0 z size bytes ht hi hz0 hz1 hz2 hz hs0 v xs.length (xs.flatMap enc) h ⟨g0, 0, none⟩ 1 1 (enc p) (by rw [he, Nat.one_mul])
    (by
      intro j u hj
      have e1 : ((⟨g0, 0, none⟩ : Addr).add j) = ⟨g0, j, none⟩ := by unfold Addr.add; split <;> simp_all
      rw [e1, cell_of_blk hg0]
      simpa using hj) h1 hm hl (Nat.zero_le _)
  unfold Oper.wp execOp
  simp only [ho, resolve, invoke, builtin, Sem.run_bind, Sem.run_pure, Result.andThen_ok, List.map_toArray, List.map_cons, List.map_nil, hs, hx, hr]
  have hrw : Rw w1 e size enc v1 (xs ++ [p]) := by
    unfold Rw
    rw [List.length_append, List.length_singleton, List.flatMap_append]
    simpa using hown
  refine hK v1 w1 ⟨hrw, hg, hat, ?_⟩
  rcases hrw.form with ⟨_, h2⟩ | ⟨g, cap, cur, h2, _⟩
  · simp at h2
  · exact ⟨g, cap, by rw [h2, List.length_append, List.length_singleton]⟩
theorem rw_append (hgd : o.guard = none) (s x : Operand) (t e size : Nat) (enc : α → List Value) (z : Value) (bytes : Nat)
    (ho : o.op = .call { callee := .builtin .append, args := #[s, x], argTypes := #[t, t] })
    (ht : P.underlying t = some (.slice e)) (hinfo : (P.info? e).map (fun i => (i.zero, i.size, i.bytes)) = some (some z, size, bytes)) (hz : z.cells.size = size) (hs0 : 0 < size)
    (v : Value) (xs : List α) (p : α) (hs : a.eval s = v) (g0 : Nat) (hx : a.eval x = .slice (some ⟨g0, 0, none⟩) 1 1) (hg0 : V.heap[g0]? = some (.cells (enc p).toArray e (0, 0)))
    (h : Rw V e size enc v xs) (he : ∀ x, (enc x).length = size) (h1 : ∀ u ∈ enc p, u.oneCell' = true) (hm : xs.length + 1 ≤ maxLen) (hl : (xs.length + 1) * bytes ≤ 140737488355328)
    (hK : ∀ v1 w1, Appended V w1 e size enc v v1 xs p → wpList P ops Q rest (a.put o.dst v1) w1) : wpList P ops Q (o :: rest) a V :=
  wpList_plain hgd fun _ hK' => rw_append_wp s x t e size enc z bytes ho ht hinfo hz hs0 v xs p hs g0 hx hg0 h he h1 hm hl fun v1 w1 hA => hK' _ _ (hK v1 w1 hA)
/-- The same in a region that draws: as an arm of go_region_law. -/
theorem rw_append_step (hgd : o.guard = none) (s x : Operand) (t e size : Nat) (enc : α → List Value) (z : Value) (bytes : Nat)
    (ho : o.op = .call { callee := .builtin .append, args := #[s, x], argTypes := #[t, t] })
    (ht : P.underlying t = some (.slice e)) (hinfo : (P.info? e).map (fun i => (i.zero, i.size, i.bytes)) = some (some z, size, bytes)) (hz : z.cells.size = size) (hs0 : 0 < size)
    (v : Value) (xs : List α) (p : α) (hs : a.eval s = v) (g0 : Nat) (hx : a.eval x = .slice (some ⟨g0, 0, none⟩) 1 1) (hg0 : V.heap[g0]? = some (.cells (enc p).toArray e (0, 0)))
    (h : Rw V e size enc v xs) (he : ∀ x, (enc x).length = size) (h1 : ∀ u ∈ enc p, u.oneCell' = true) (hm : xs.length + 1 ≤ maxLen) (hl : (xs.length + 1) * bytes ≤ 140737488355328)
    (hK : ∀ v1 w1, Appended V w1 e size enc v v1 xs p → K (a.put o.dst v1) w1) : if Region.wanted o (yielded ops a.tmps) = true then o.wp P a V K Q else E := by
  rw [if_pos (by simp [Region.wanted, hgd])]
  exact rw_append_wp s x t e size enc z bytes ho ht hinfo hz hs0 v xs p hs g0 hx hg0 h he h1 hm hl hK
end

/-! ### Assertions with a footprint -/
structure Hp where
  H : World → (Nat → Prop) → Prop
  lt : ∀ {w F}, H w F → ∀ k, F k → k < w.heap.size
  move : ∀ {w w' F}, H w F → (∀ k, F k → w'.heap[k]? = w.heap[k]?) → H w' F
theorem lt_move {w w' : World} {F : Nat → Prop} (h : ∀ k, F k → k < w.heap.size) (hm : ∀ k, F k → w'.heap[k]? = w.heap[k]?) : ∀ k, F k → k < w'.heap.size := by
  intro k hk
  have h1 := h k hk
  have h2 := hm k hk
  rw [Array.getElem?_eq_getElem h1] at h2
  exact lt_of_blk h2
namespace Hp
def emp : Hp where
  H _ F := ∀ k, ¬ F k
  lt h k hk := (h k hk).elim
  move h _ := h
def sep (A B : Hp) : Hp where
  H w F := ∃ FA FB, A.H w FA ∧ B.H w FB ∧ (∀ k, FA k → FB k → False) ∧ (∀ k, F k ↔ FA k ∨ FB k)
  lt := by
    rintro w F ⟨FA, FB, ha, hb, _, hF⟩ k hk
    rcases (hF k).1 hk with h | h
    · exact A.lt ha k h
    · exact B.lt hb k h
  move := by
    rintro w w' F ⟨FA, FB, ha, hb, hd, hF⟩ hm
    exact ⟨FA, FB, A.move ha (fun k hk => hm k ((hF k).2 (.inl hk))), B.move hb (fun k hk => hm k ((hF k).2 (.inr hk))), hd, hF⟩
/-- A block of cells. -/
def blk (g : Nat) (cs : Array Value) (t : Nat) : Hp where
  H w F := w.heap[g]? = some (.cells cs t (0, 0)) ∧ ∀ k, F k ↔ k = g
  lt h k hk := by rw [(h.2 k).1 hk]; exact lt_of_blk h.1
  move h hm := ⟨(hm g ((h.2 g).2 rfl)).trans h.1, h.2⟩
/-- A row. -/
def row {α : Type} (e size : Nat) (enc : α → List Value) (v : Value) (xs : List α) : Hp where
  H w F := Rw w e size enc v xs ∧ (∀ k, v.ownBlock = some k → F k) ∧ ∀ k, F k → k < w.heap.size
  lt h := h.2.2
  move h hm := ⟨h.1.move (fun k hk => hm k (h.2.1 k hk)), h.2.1, lt_move h.2.2 hm⟩
variable {A B C D R : Hp} {w w1 : World} {F : Nat → Prop}
theorem below (h : A.H w F) (hb : Below w.heap.size w w1) : A.H w1 F := A.move h (fun k hk => hb.block k (A.lt h k hk))
theorem step (h : A.H w F) (hm : ∀ k, k < w.heap.size → F k → w1.heap[k]? = w.heap[k]?) : A.H w1 F := A.move h (fun k hk => hm k (A.lt h k hk) hk)
theorem emp_sep (h : A.H w F) : (emp.sep A).H w F := ⟨fun _ => False, F, fun _ h => h, h, fun _ h => h.elim, fun _ => by simp⟩
theorem comm (h : (A.sep B).H w F) : (B.sep A).H w F := by
  obtain ⟨FA, FB, ha, hb, hd, hF⟩ := h
  exact ⟨FB, FA, hb, ha, fun k h1 h2 => hd k h2 h1, fun k => by rw [hF, or_comm]⟩
theorem assoc (h : ((A.sep B).sep C).H w F) : (A.sep (B.sep C)).H w F := by
  obtain ⟨FAB, FC, ⟨FA, FB, ha, hb, hd, hF⟩, hc, hd2, hF2⟩ := h
  refine ⟨FA, fun k => FB k ∨ FC k, ha, ⟨FB, FC, hb, hc, fun k h1 h2 => hd2 k ((hF k).2 (.inr h1)) h2, fun _ => Iff.rfl⟩, ?_, ?_⟩
  · rintro k h1 (h2 | h2)
    · exact hd k h1 h2
    · exact hd2 k ((hF k).2 (.inl h1)) h2
  · intro k; rw [hF2, hF, or_assoc]
theorem assoc' (h : (A.sep (B.sep C)).H w F) : ((A.sep B).sep C).H w F := by
  have h1 := assoc (comm h)
  exact comm (assoc (comm h1)) |> fun x => by
    have := x
    exact comm (by exact comm (by exact this))
/-- The second one ahead. -/
theorem swap (h : (A.sep (B.sep C)).H w F) : (B.sep (A.sep C)).H w F := by
  obtain ⟨FA, FBC, ha, ⟨FB, FC, hb, hc, hd, hF⟩, hd2, hF2⟩ := h
  refine ⟨FB, fun k => FA k ∨ FC k, hb, ⟨FA, FC, ha, hc, fun k h1 h2 => hd2 k h1 ((hF k).2 (.inr h2)), fun _ => Iff.rfl⟩, ?_, ?_⟩
  · rintro k h1 (h2 | h2)
    · exact hd2 k h2 ((hF k).2 (.inl h1))
    · exact hd k h1 h2
  · intro k; rw [hF2, hF]
    constructor
    · rintro (h | h | h); exact .inr (.inl h); exact .inl h; exact .inr (.inr h)
    · rintro (h | h | h); exact .inr (.inl h); exact .inl h; exact .inr (.inr h)
theorem imp (h : (A.sep B).H w F) (f : ∀ FB, B.H w FB → C.H w FB) : (A.sep C).H w F := by
  obtain ⟨FA, FB, ha, hb, hd, hF⟩ := h
  exact ⟨FA, FB, ha, f FB hb, hd, hF⟩
theorem drop (h : (A.sep B).H w F) : ∃ F1, B.H w F1 ∧ ∀ k, F1 k → F k := by
  obtain ⟨FA, FB, ha, hb, hd, hF⟩ := h
  exact ⟨FB, hb, fun k hk => (hF k).2 (.inr hk)⟩
theorem head (h : (A.sep B).H w F) : ∃ F1, A.H w F1 ∧ ∀ k, F1 k → F k := drop (comm h)
/-- A new block beside. -/
theorem alloc (h : A.H w F) (cs : Array Value) (t : Nat) : ((blk w.heap.size cs t).sep A).H (w.alloc (.cells cs t)) (fun k => k = w.heap.size ∨ F k) :=
  ⟨fun k => k = w.heap.size, F, ⟨blk_alloc_new w _, fun _ => Iff.rfl⟩, below h ((Below.refl _ _).alloc (Nat.le_refl _) _), fun k h1 h2 => by have := A.lt h k h2; omega, fun _ => Iff.rfl⟩
/-- A store into the block that stands ahead. -/
theorem blk_set {g : Nat} {cs : Array Value} {t : Nat} (h : ((blk g cs t).sep A).H w F) (i : Nat) (u : Value) : ((blk g (cs.setIfInBounds i u) t).sep A).H (w.setCell ⟨g, i, none⟩ u) F := by
  obtain ⟨FA, FB, ha, hb, hd, hF⟩ := h
  exact ⟨FA, FB, ⟨blk_setCell_same ha.1 i u, ha.2⟩, A.move hb (fun k hk => blk_setCell_far (fun e => hd k ((ha.2 k).2 e) hk) u), hd, hF⟩
theorem blk_at {g : Nat} {cs : Array Value} {t : Nat} (h : ((blk g cs t).sep A).H w F) : w.heap[g]? = some (.cells cs t (0, 0)) ∧ F g := by
  obtain ⟨FA, FB, ha, hb, hd, hF⟩ := h
  exact ⟨ha.1, (hF g).2 (.inl ((ha.2 g).2 rfl))⟩
end Hp

/-! ### Contracts -/
/-- What a call leaves: results and an assertion as Rel says; all beside the footprint is as it was. -/
def Post (w : World) (F : Nat → Prop) (Rel : Ending → Hp → Prop) (e : Ending) (w' : World) : Prop := ∃ B F', Rel e B ∧ B.H w' F' ∧ Evo w w' F ∧ ∀ k, F' k → F k ∨ w.heap.size ≤ k
def Does (P : Program) (f : FuncId) (args : Array Value) (A : Hp) (Rel : Ending → Hp → Prop) : Prop := ∀ w F, A.H w F → Calls P f args w (Post w F Rel)
theorem Does.frame {P : Program} {f : FuncId} {args : Array Value} {A R : Hp} {Rel : Ending → Hp → Prop} (h : Does P f args A Rel) {w : World} {F : Nat → Prop} (hS : (A.sep R).H w F) :
    Calls P f args w (Post w F (fun e B => ∃ B0, Rel e B0 ∧ B = B0.sep R)) := by
  obtain ⟨FA, FR, ha, hr, hd, hF⟩ := hS
  refine (h w FA ha).mono ?_
  rintro e w' ⟨B, F', hrel, hB, hE, hN⟩
  refine ⟨B.sep R, fun k => F' k ∨ FR k, ⟨B, hrel, rfl⟩, ⟨F', FR, hB, ?_, ?_, fun _ => Iff.rfl⟩, hE.mono (fun k hk => (hF k).2 (.inl hk)), ?_⟩
  · exact R.move hr (fun k hk => hE.block k (R.lt hr k hk) (fun h1 => hd k h1 hk))
  · intro k h1 h2
    rcases hN k h1 with h3 | h3
    · exact hd k h3 h2
    · have := R.lt hr k h2; omega
  · rintro k (h1 | h1)
    · rcases hN k h1 with h3 | h3
      · exact .inl ((hF k).2 (.inl h3))
      · exact .inr h3
    · exact .inl ((hF k).2 (.inr h1))
/-- A contract of a call that needs nothing. -/
theorem Does.beside {P : Program} {f : FuncId} {args : Array Value} {R : Hp} {Rel : Ending → Hp → Prop} (h : Does P f args Hp.emp Rel) {w : World} {F : Nat → Prop} (hS : R.H w F) :
    Calls P f args w (Post w F (fun e B => ∃ B0, Rel e B0 ∧ B = B0.sep R)) := h.frame (Hp.emp_sep hS)
/-! ### min and max; what is read -/
theorem mx2_int (k k' : IntKind) (x y : Int) : Builtin.max2 (.int k x) (.int k' y) = pure (.int k (if x < y then y else x)) := by simp only [Builtin.max2, gt_iff_lt]
theorem mn2_int (k k' : IntKind) (x y : Int) : Builtin.min2 (.int k x) (.int k' y) = pure (.int k (if y < x then y else x)) := by simp only [Builtin.min2]
theorem mx_two (ats : Array TypeId) (ty : TypeId) (a b : Value) : Builtin.max_ ats ty #[a, b] = (Builtin.max2 a b >>= fun s => pure s) := by simp only [Builtin.max_, List.foldlM_cons, List.foldlM_nil]
theorem mn_two (ats : Array TypeId) (ty : TypeId) (a b : Value) : Builtin.min_ ats ty #[a, b] = (Builtin.min2 a b >>= fun s => pure s) := by simp only [Builtin.min_, List.foldlM_cons, List.foldlM_nil]
/-- v is a slice that reads as xs: size cells an element. -/
structure Rd {α : Type} (w : World) (size : Nat) (enc : α → List Value) (v : Value) (xs : List α) : Prop where
  shape : ∃ A c, v = .slice A xs.length c ∧ xs.length ≤ c ∧ xs.length ≤ 9223372036854775807
  cells : ∀ A n c, v = .slice A n c → ∀ i x, xs[i]? = some x → ∃ b off, A = some ⟨b, off, none⟩ ∧ b < w.heap.size ∧ ∀ j, j < size → w.cell? ⟨b, off + i * size + j, none⟩ = (enc x)[j]?
theorem Rw.rd {α : Type} {w : World} {e size : Nat} {enc : α → List Value} {v : Value} {xs : List α} (h : Rw w e size enc v xs) (he : ∀ x, (enc x).length = size) : Rd w size enc v xs :=
  ⟨h.shape, fun A n c hv i x hx => by
    subst hv
    obtain ⟨g, h1, h2, h3⟩ := h.cell he i x hx
    exact ⟨g, 0, h1, h2, fun j hj => by rw [Nat.zero_add]; exact (h3 j hj).1⟩⟩
theorem Rd.below {α : Type} {w w1 : World} {size : Nat} {enc : α → List Value} {v : Value} {xs : List α} (h : Rd w size enc v xs) (hb : Below w.heap.size w w1) : Rd w1 size enc v xs :=
  ⟨h.shape, fun A n c hv i x hx => by
    obtain ⟨b, off, h1, h2, h3⟩ := h.cells A n c hv i x hx
    exact ⟨b, off, h1, Nat.lt_of_lt_of_le h2 hb.size, fun j hj => by rw [hb.cell (p := ⟨b, off + i * size + j, none⟩) h2]; exact h3 j hj⟩⟩
theorem Rd.belowB {α : Type} {w w1 : World} {B size : Nat} {enc : α → List Value} {v : Value} {xs : List α} (h : Rd w size enc v xs) (hB : w.heap.size ≤ B) (hb : Below B w w1) : Rd w1 size enc v xs := h.below (hb.mono hB)

/-! ### Equality of structs, field by field -/
section
variable {P : Program} {d : Nat} {xs ys : Array Value} {f : Field} {fs : List Field} {a b : Value} {r s : Bool} {w : World}
theorem seq_last (hn : (f.name == "_") = false) (ha : (part f.type xs f.offset).run P w = .ok a w) (hb : (part f.type ys f.offset).run P w = .ok b w) (he : (Op.equalIn d f.type a b).run P w = .ok r w) : (Op.eqFields d xs ys [f]).run P w = .ok r w := by
  have hn' : f.name ≠ "_" := by simpa using hn
  simp only [Op.eqFields, if_pos hn', Sem.run_bind, ha, hb, he, Result.andThen_ok]
  cases r <;> simp
theorem seq_cons (hn : (f.name == "_") = false) (ha : (part f.type xs f.offset).run P w = .ok a w) (hb : (part f.type ys f.offset).run P w = .ok b w) (he : (Op.equalIn d f.type a b).run P w = .ok r w) (hr : (Op.eqFields d xs ys fs).run P w = .ok s w) : (Op.eqFields d xs ys (f :: fs)).run P w = .ok (r && s) w := by
  have hn' : f.name ≠ "_" := by simpa using hn
  rw [Op.eqFields]
  simp only [if_pos hn', Sem.run_bind, ha, hb, he, Result.andThen_ok]
  cases r
  · simp
  · simpa using hr
theorem seq_of {t : TypeId} {fs : Array Field} (hu : P.underlying t = some (.struct fs)) (hp : P.stoodInHeld t = false) (h : (Op.eqFields d xs ys fs.toList).run P w = .ok r w) : (Op.equalIn (d + 1) t (.agg xs) (.agg ys)).run P w = .ok r w := by
  have hf : P.fieldsOf t = fs := by simp [Program.fieldsOf, hu]
  rw [run_equalIn_struct (P := P) w d t xs ys (by rw [hf]; exact hu) hp, hf]
  exact h
end

/-! ### Closers -/
theorem bl_alloc {w W : World} (h : Below w.heap.size w W) (o : Obj) : Below w.heap.size w (W.alloc o) := h.alloc h.size o
theorem bl_drewN {B : Nat} {w W : World} (h : Below B w W) (n : Nat) : Below B w (W.drewN n) := ⟨h.os, h.tape, h.output, h.size, h.block⟩
theorem bl_set {w W : World} (h : Below w.heap.size w W) {b i : Nat} (hb : w.heap.size ≤ b) (u : Value) : Below w.heap.size w (W.setCell ⟨b, i, none⟩ u) := h.setCell hb u
theorem bl_grown {w W W' : World} (h : Below w.heap.size w W) {row : Option Nat} (hg : W.grownBy W' row) (hr : ∀ k, row = some k → w.heap.size ≤ k) : Below w.heap.size w W' := h.grown hg h.size hr
/-- A call that leaves its assertion as it was. -/
theorem Post.same {w w' : World} {F : Nat → Prop} {Rel : Ending → Hp → Prop} {e : Ending} {A : Hp} (h : A.H w F) (hb : Below w.heap.size w w') (hr : Rel e A) : Post w F Rel e w' :=
  ⟨A, F, hr, Hp.below h hb, Evo.of_below hb, fun _ hk => .inl hk⟩
/-- The footprint behind: the old one and all new blocks. -/
def Foot (F : Nat → Prop) (w w' : World) : Nat → Prop := fun k => F k ∨ w.heap.size ≤ k ∧ k < w'.heap.size
theorem Post.new {w w' : World} {F : Nat → Prop} {Rel : Ending → Hp → Prop} {e : Ending} (B : Hp) (hr : Rel e B) (h : B.H w' (Foot F w w')) (hE : Evo w w' F) : Post w F Rel e w' :=
  ⟨B, _, hr, h, hE, fun k hk => hk.imp id (fun h => h.1)⟩
theorem foot_lt {w w' : World} {F : Nat → Prop} (hF : ∀ k, F k → k < w.heap.size) (hs : w.heap.size ≤ w'.heap.size) : ∀ k, Foot F w w' k → k < w'.heap.size := by
  rintro k (h | h)
  · have := hF k h; omega
  · exact h.2
theorem foot_old {w w' : World} {F : Nat → Prop} {k : Nat} (h : F k) : Foot F w w' k := .inl h
theorem foot_new {w w' : World} {F : Nat → Prop} {k : Nat} (h : w.heap.size ≤ k) (h2 : k < w'.heap.size) : Foot F w w' k := .inr ⟨h, h2⟩
theorem foot_own {w w' : World} {F : Nat → Prop} {v v1 : Value} (hv : ∀ k, v.ownBlock = some k → F k) (hat : v1.ownBlock = v.ownBlock ∨ ∃ b, v1.ownBlock = some b ∧ w.heap.size ≤ b) (hl : ∀ k, v1.ownBlock = some k → k < w'.heap.size) : ∀ k, v1.ownBlock = some k → Foot F w w' k := by
  intro k hk
  rcases hat with h | ⟨b, h, hb⟩
  · exact .inl (hv k (h ▸ hk))
  · exact .inr ⟨by rw [h] at hk; injection hk with hk; omega, hl k hk⟩
/-- What is left behind a call that came first. -/
theorem Post.after {w W w1 w' : World} {F F1 : Nat → Prop} {Rel : Ending → Hp → Prop} {e : Ending} (hb : Below w.heap.size w W) (hE : Evo W w1 F) (hN : ∀ k, F1 k → F k ∨ W.heap.size ≤ k) (h : Post w1 F1 Rel e w') : Post w F Rel e w' := by
  obtain ⟨B, F2, hr, hB, hE2, hN2⟩ := h
  have h1 : Evo w w1 F := (Evo.of_below hb).trans hE (fun _ h => .inl h)
  have h2 : ∀ k, F1 k → F k ∨ w.heap.size ≤ k := fun k hk => (hN k hk).imp id (fun h => Nat.le_trans hb.size h)
  refine ⟨B, F2, hr, hB, h1.trans hE2 h2, fun k hk => ?_⟩
  rcases hN2 k hk with h3 | h3
  · exact h2 k h3
  · exact .inr (Nat.le_trans h1.size h3)
theorem Hp.not_foot {A : Hp} {w : World} {F : Nat → Prop} (h : A.H w F) {k : Nat} (hk : w.heap.size ≤ k) : ¬ F k := fun h1 => by have := A.lt h k h1; omega
theorem grown_blk {W w1 : World} {row : Option Nat} {k : Nat} {o : Obj} (hg : W.grownBy w1 row) (h : W.heap[k]? = some o) (hne : row ≠ some k) : w1.heap[k]? = some o := (hg.block k (lt_of_blk h) (fun e => hne e.symm)).trans h
theorem Rw.grown {α : Type} {W w1 : World} {e size : Nat} {enc : α → List Value} {v : Value} {xs : List α} {row : Option Nat} (h : Rw W e size enc v xs) (hg : W.grownBy w1 row) (hne : ∀ k, v.ownBlock = some k → row ≠ some k) : Rw w1 e size enc v xs := h.move fun k hk => hg.block k (h.lt k hk) (fun e => hne k hk e.symm)
/-! ### A whole call's memory: In -/
/-- In w, which is w0 below w0's size, A holds of blocks that are new since w0. -/
def In (w0 w : World) (A : Hp) : Prop := ∃ F, A.H w F ∧ (∀ k, F k → w0.heap.size ≤ k) ∧ Below w0.heap.size w0 w
namespace In
variable {w0 w w1 : World} {A B R : Hp}
theorem bl (h : In w0 w A) : Below w0.heap.size w0 w := by obtain ⟨_, _, _, hb⟩ := h; exact hb
theorem start (h : Below w0.heap.size w0 w) : In w0 w Hp.emp := ⟨fun _ => False, fun _ h => h, fun _ h => h.elim, h⟩
theorem below (h : In w0 w A) (hb : Below w.heap.size w w1) : In w0 w1 A := by
  obtain ⟨F, hA, hF, hB⟩ := h
  exact ⟨F, Hp.below hA hb, hF, hB.trans (hb.mono hB.size)⟩
theorem map (h : In w0 w A) (f : ∀ w F, A.H w F → B.H w F) : In w0 w B := by
  obtain ⟨F, hA, hF, hB⟩ := h
  exact ⟨F, f _ _ hA, hF, hB⟩
theorem swap {C : Hp} (h : In w0 w (A.sep (B.sep C))) : In w0 w (B.sep (A.sep C)) := h.map fun _ _ => Hp.swap
theorem comm (h : In w0 w (A.sep B)) : In w0 w (B.sep A) := h.map fun _ _ => Hp.comm
theorem assoc {C : Hp} (h : In w0 w ((A.sep B).sep C)) : In w0 w (A.sep (B.sep C)) := h.map fun _ _ => Hp.assoc
theorem rot {C : Hp} (h : In w0 w (A.sep (B.sep C))) : In w0 w (C.sep (A.sep B)) := h.map fun _ _ h => Hp.imp (Hp.swap (Hp.assoc (Hp.comm h))) fun _ h => Hp.comm h
theorem tcomm {C : Hp} (h : In w0 w (A.sep (B.sep C))) : In w0 w (A.sep (C.sep B)) := h.map fun _ _ h => Hp.imp h fun _ h => Hp.comm h
theorem tail (h : In w0 w (A.sep B)) : In w0 w B := by
  obtain ⟨F, hA, hF, hB⟩ := h
  obtain ⟨F1, h1, h2⟩ := Hp.drop hA
  exact ⟨F1, h1, fun k hk => hF k (h2 k hk), hB⟩
theorem head (h : In w0 w (A.sep B)) : In w0 w A := h.comm.tail
theorem emp_sep (h : In w0 w A) : In w0 w (Hp.emp.sep A) := h.map fun _ _ => Hp.emp_sep
theorem of_emp_sep (h : In w0 w (Hp.emp.sep A)) : In w0 w A := h.tail
theorem call (h : In w0 w (A.sep R)) {P : Program} {f : FuncId} {args : Array Value} {Rel : Ending → Hp → Prop} (d : Does P f args A Rel) : Calls P f args w (fun e w' => ∃ B0, Rel e B0 ∧ In w0 w' (B0.sep R)) := by
  obtain ⟨F, hA, hF, hB⟩ := h
  refine (d.frame hA).mono ?_
  rintro e w' ⟨B, F', ⟨B0, hrel, rfl⟩, hB', hE, hN⟩
  exact ⟨B0, hrel, F', hB', fun k hk => (hN k hk).elim (hF k) (fun h => Nat.le_trans hB.size h), hB.trans (hE.below hF hB.size)⟩
theorem call0 (h : In w0 w R) {P : Program} {f : FuncId} {args : Array Value} {Rel : Ending → Hp → Prop} (d : Does P f args Hp.emp Rel) : Calls P f args w (fun e w' => ∃ B0, Rel e B0 ∧ In w0 w' (B0.sep R)) := h.emp_sep.call d
/-- A call that leaves the heap below as it was. -/
theorem beside (h : In w0 w A) {P : Program} {f : FuncId} {args : Array Value} {Q : Ending → Prop} (d : Calls P f args w (fun e w' => Q e ∧ Below w.heap.size w w')) : Calls P f args w (fun e w' => Q e ∧ In w0 w' A) :=
  d.mono fun _ _ ⟨hq, hb⟩ => ⟨hq, h.below hb⟩
theorem alloc (h : In w0 w A) (cs : Array Value) (t : Nat) : In w0 (w.alloc (.cells cs t)) ((Hp.blk w.heap.size cs t).sep A) := by
  obtain ⟨F, hA, hF, hB⟩ := h
  exact ⟨_, Hp.alloc hA cs t, fun k hk => hk.elim (fun e => e ▸ hB.size) (hF k), hB.alloc hB.size _⟩
theorem blk_set {g : Nat} {cs : Array Value} {t : Nat} (h : In w0 w ((Hp.blk g cs t).sep A)) (i : Nat) (u : Value) : In w0 (w.setCell ⟨g, i, none⟩ u) ((Hp.blk g (cs.setIfInBounds i u) t).sep A) := by
  obtain ⟨F, hA, hF, hB⟩ := h
  exact ⟨F, Hp.blk_set hA i u, hF, hB.setCell (p := ⟨g, i, none⟩) (hF g (Hp.blk_at hA).2) u⟩
theorem blk_at {g : Nat} {cs : Array Value} {t : Nat} (h : In w0 w ((Hp.blk g cs t).sep A)) : w.heap[g]? = some (.cells cs t (0, 0)) := by
  obtain ⟨F, hA, hF, hB⟩ := h
  exact (Hp.blk_at hA).1
variable {α : Type} {e size : Nat} {enc : α → List Value} {v : Value} {xs : List α}
theorem row_at (h : In w0 w ((Hp.row e size enc v xs).sep R)) : Rw w e size enc v xs := by
  obtain ⟨F, hA, hF, hB⟩ := h
  obtain ⟨F1, h1, _⟩ := Hp.head hA
  exact h1.1
theorem row_nil (h : In w0 w R) (e size : Nat) (enc : α → List Value) : In w0 w ((Hp.row e size enc (.slice none 0 0) ([] : List α)).sep R) := by
  obtain ⟨F, hA, hF, hB⟩ := h
  exact ⟨F, ⟨fun _ => False, F, ⟨Rw.nil _ _ _ _, by simp [Value.ownBlock], fun _ h => h.elim⟩, hA, fun _ h => h.elim, fun _ => by simp⟩, hF, hB⟩
theorem row_append {v1 : Value} {p : α} (h : In w0 w ((Hp.row e size enc v xs).sep R)) (hA : Appended w w1 e size enc v v1 xs p) : In w0 w1 ((Hp.row e size enc v1 (xs ++ [p])).sep R) := by
  obtain ⟨F, ⟨FA, FR, ⟨hr, hv, hl⟩, hR, hd, hF0⟩, hF, hB⟩ := h
  have hrow : ∀ k, v.ownBlock = some k → FA k := hv
  have hlv : ∀ k, v1.ownBlock = some k → FA k ∨ k = w.heap.size := by
    intro k hk
    rcases hA.lies with h | h
    · exact .inl (hv k (h ▸ hk))
    · rw [h] at hk; injection hk with hk; exact .inr hk.symm
  refine ⟨fun k => (FA k ∨ k = w.heap.size ∧ k < w1.heap.size) ∨ FR k, ⟨fun k => FA k ∨ k = w.heap.size ∧ k < w1.heap.size, FR, ⟨hA.row, fun k hk => (hlv k hk).imp id (fun h => ⟨h, hA.row.lt k hk⟩), ?_⟩, ?_, ?_, fun _ => Iff.rfl⟩, ?_, ?_⟩
  · rintro k (h | h)
    · exact Nat.lt_of_lt_of_le (hl k h) hA.grown.size
    · exact h.2
  · exact Hp.move _ hR fun k hk => hA.grown.block k (R.lt hR k hk) (fun e => hd k (hv k e.symm) hk)
  · rintro k (h1 | ⟨h1, _⟩) h2
    · exact hd k h1 h2
    · have := R.lt hR k h2; omega
  · rintro k ((h1 | ⟨h1, _⟩) | h1)
    · exact hF k ((hF0 k).2 (.inl h1))
    · rw [h1]; exact hB.size
    · exact hF k ((hF0 k).2 (.inr h1))
  · exact hB.grown hA.grown hB.size fun k hk => hF k ((hF0 k).2 (.inl (hv k hk)))
theorem appended {V : World} {v1 : Value} {p : α} (hA : Appended V w1 e size enc v v1 xs p) (h : In w0 w ((Hp.row e size enc v xs).sep R)) (hb : Below w.heap.size w V) : In w0 w1 ((Hp.row e size enc v1 (xs ++ [p])).sep R) := (h.below hb).row_append hA
theorem row_set {g n c : Nat} (h : In w0 w ((Hp.row e size enc (.slice (some ⟨g, 0, none⟩) n c) xs).sep R)) (he : ∀ x, (enc x).length = size) (i j : Nat) (x x' : α) (u : Value) (hx : xs[i]? = some x) (hj : j < size) (hu : enc x' = (enc x).set j u) :
    In w0 (w.setCell ⟨g, i * size + j, none⟩ u) ((Hp.row e size enc (.slice (some ⟨g, 0, none⟩) n c) (xs.set i x')).sep R) := by
  obtain ⟨F, ⟨FA, FR, ⟨hr, hv, hl⟩, hR, hd, hF0⟩, hF, hB⟩ := h
  have hg : FA g := hv g rfl
  refine ⟨F, ⟨FA, FR, ⟨hr.set he i j x x' u hx hj hu, hv, fun k hk => by rw [size_setCell]; exact hl k hk⟩, ?_, hd, hF0⟩, hF, hB.setCell (p := ⟨g, i * size + j, none⟩) (hF g ((hF0 g).2 (.inl hg))) u⟩
  exact Hp.move _ hR fun k hk => blk_setCell_far (fun e => by subst e; exact hd k hg hk) u
end In
/-! ### Many assertions at once -/
def Hp.seps : List Hp → Hp
  | [] => Hp.emp
  | A :: l => A.sep (Hp.seps l)
theorem Hp.pick {w : World} {F : Nat → Prop} : ∀ (l : List Hp) (n : Nat) (a : Hp), l[n]? = some a → (Hp.seps l).H w F → (a.sep (Hp.seps (l.eraseIdx n))).H w F
  | [], n, a, h, _ => by simp at h
  | A :: l, 0, a, h, hs => by
    obtain rfl : A = a := by simpa using h
    exact hs
  | A :: l, n + 1, a, h, hs => by
    have h' : l[n]? = some a := by simpa using h
    have h1 : (A.sep (a.sep (Hp.seps (l.eraseIdx n)))).H w F := Hp.imp hs fun _ h2 => Hp.pick l n a h' h2
    exact Hp.swap h1
theorem Hp.put {w : World} {F : Nat → Prop} : ∀ (l : List Hp) (n : Nat) (b : Hp), n < l.length → (b.sep (Hp.seps (l.eraseIdx n))).H w F → (Hp.seps (l.set n b)).H w F
  | [], n, b, h, _ => by simp at h
  | A :: l, 0, b, h, hs => hs
  | A :: l, n + 1, b, h, hs => by
    have h' : n < l.length := by simpa using h
    exact Hp.imp (Hp.swap hs) fun _ h2 => Hp.put l n b h' h2
namespace In
variable {w0 w w1 : World} {A B R : Hp} {l : List Hp}
theorem pick (n : Nat) (h : In w0 w (Hp.seps l)) (ha : l[n]? = some A) : In w0 w (A.sep (Hp.seps (l.eraseIdx n))) := h.map fun _ _ => Hp.pick l n A ha
theorem put {n : Nat} (h : In w0 w (B.sep (Hp.seps (l.eraseIdx n)))) (hn : n < l.length) : In w0 w (Hp.seps (l.set n B)) := h.map fun _ _ => Hp.put l n B hn
theorem idx_lt {n : Nat} (ha : l[n]? = some A) : n < l.length := (List.getElem?_eq_some_iff.1 ha).1
theorem startL (h : Below w0.heap.size w0 w) : In w0 w (Hp.seps []) := start h
/-- A call that turns the n-th one. -/
theorem callAt (n : Nat) (h : In w0 w (Hp.seps l)) (ha : l[n]? = some A) {P : Program} {f : FuncId} {args : Array Value} {Rel : Ending → Hp → Prop} (d : Does P f args A Rel) : Calls P f args w (fun e w' => ∃ B0, Rel e B0 ∧ In w0 w' (Hp.seps (l.set n B0))) :=
  ((h.pick n ha).call d).mono fun _ _ ⟨B0, hr, hi⟩ => ⟨B0, hr, hi.put (idx_lt ha)⟩
/-- A call that makes one more. -/
theorem callNew (h : In w0 w (Hp.seps l)) {P : Program} {f : FuncId} {args : Array Value} {Rel : Ending → Hp → Prop} (d : Does P f args Hp.emp Rel) : Calls P f args w (fun e w' => ∃ B0, Rel e B0 ∧ In w0 w' (Hp.seps (B0 :: l))) := h.call0 d
theorem allocL (h : In w0 w (Hp.seps l)) (cs : Array Value) (t : Nat) : In w0 (w.alloc (.cells cs t)) (Hp.seps (Hp.blk w.heap.size cs t :: l)) := h.alloc cs t
theorem nilRow {α : Type} (h : In w0 w (Hp.seps l)) (e size : Nat) (enc : α → List Value) : In w0 w (Hp.seps (Hp.row e size enc (.slice none 0 0) ([] : List α) :: l)) := h.row_nil e size enc
/-- One that is two. -/
theorem flat (n : Nat) (h : In w0 w (Hp.seps l)) (ha : l[n]? = some (A.sep B)) : In w0 w (Hp.seps (A :: l.set n B)) := by
  have h1 := h.pick n ha
  exact h1.assoc.map fun _ _ h2 => Hp.imp h2 fun _ h3 => Hp.put l n B (idx_lt ha) h3
theorem dropAt (n : Nat) (h : In w0 w (Hp.seps l)) (hn : n < l.length) : In w0 w (Hp.seps (l.eraseIdx n)) := (h.pick n (List.getElem?_eq_getElem hn)).tail
section
variable {α : Type} {e size : Nat} {enc : α → List Value} {v : Value} {xs : List α}
theorem rowAt (n : Nat) (h : In w0 w (Hp.seps l)) (ha : l[n]? = some (Hp.row e size enc v xs)) : Rw w e size enc v xs := (h.pick n ha).row_at
theorem appendAt {V : World} {v1 : Value} {p : α} (n : Nat) (hA : Appended V w1 e size enc v v1 xs p) (h : In w0 w (Hp.seps l)) (ha : l[n]? = some (Hp.row e size enc v xs)) (hb : Below w.heap.size w V) : In w0 w1 (Hp.seps (l.set n (Hp.row e size enc v1 (xs ++ [p])))) :=
  (In.appended hA (h.pick n ha) hb).put (idx_lt ha)
theorem setAt {g m c : Nat} (n : Nat) (h : In w0 w (Hp.seps l)) (ha : l[n]? = some (Hp.row e size enc (.slice (some ⟨g, 0, none⟩) m c) xs)) (he : ∀ x, (enc x).length = size) (i j : Nat) (x x' : α) (u : Value) (hx : xs[i]? = some x) (hj : j < size) (hu : enc x' = (enc x).set j u) :
    In w0 (w.setCell ⟨g, i * size + j, none⟩ u) (Hp.seps (l.set n (Hp.row e size enc (.slice (some ⟨g, 0, none⟩) m c) (xs.set i x')))) :=
  ((h.pick n ha).row_set he i j x x' u hx hj hu).put (idx_lt ha)
end
theorem blkAt {g : Nat} {cs : Array Value} {t : Nat} (n : Nat) (h : In w0 w (Hp.seps l)) (ha : l[n]? = some (Hp.blk g cs t)) : w.heap[g]? = some (.cells cs t (0, 0)) := (h.pick n ha).blk_at
theorem setBlkAt {g : Nat} {cs : Array Value} {t : Nat} (n : Nat) (h : In w0 w (Hp.seps l)) (ha : l[n]? = some (Hp.blk g cs t)) (i : Nat) (u : Value) : In w0 (w.setCell ⟨g, i, none⟩ u) (Hp.seps (l.set n (Hp.blk g (cs.setIfInBounds i u) t))) := ((h.pick n ha).blk_set i u).put (idx_lt ha)
end In
end Go.Proofs.YtkebkmbfglodlaaDoor
