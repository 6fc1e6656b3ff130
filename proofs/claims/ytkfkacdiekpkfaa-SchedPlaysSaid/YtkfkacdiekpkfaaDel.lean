/- append where there is room, its value told; clear behind a row's end. -/
import Derived.Test.YtkfkacdiekpkfaaGrow
import Derived.Room.AppendUpon
import Derived.Laws.IdiomCopy
set_option linter.unusedVariables false
namespace Go.Proofs.Ytkfkacdiekpkfaa
open Go.RowKit
section
variable {P : Program} {ops : Array Oper} {rest : List Oper} {o : Oper} {a : Act} {Q : Exit → Act → World → Prop} {K : Act → World → Prop} {V : World} {α : Type} {E : Prop}
theorem rw_appendR_wp (s x : Operand) (t e size : Nat) (enc : α → List Value) (z : Value) (bytes : Nat)
    (ho : o.op = .call { callee := .builtin .append, args := #[s, x], argTypes := #[t, t] })
    (ht : P.underlying t = some (.slice e)) (hinfo : (P.info? e).map (fun i => (i.zero, i.size, i.bytes)) = some (some z, size, bytes)) (hz : z.cells.size = size) (hs0 : 0 < size)
    (base : Option Addr) (n cap : Nat) (yv : Value) (xs ys : List α) (hs : a.eval s = .slice base n cap) (hx : a.eval x = yv) (hg0 : Rd V size enc yv ys)
    (h : Rw V e size enc (.slice base n cap) xs) (hroom : n + ys.length ≤ cap) (he : ∀ x, (enc x).length = size) (h1 : ∀ y, ∀ u ∈ enc y, u.oneCell' = true) (hm : xs.length + ys.length ≤ maxLen) (hl : (xs.length + ys.length) * bytes ≤ 140737488355328)
    (hK : ∀ w1, AppendedL V w1 e size enc (.slice base n cap) (.slice base (n + ys.length) cap) xs ys → K (a.put o.dst (.slice base (n + ys.length) cap)) w1) : o.wp P a V K Q := by
  obtain ⟨i0, hi, hz0, hz1, hz2⟩ := info_parts hinfo
  obtain ⟨A, c, rfl, hc, hn⟩ := hg0.shape
  have hnx : n = xs.length := (h.rd he).len.1
  cases A with
  | none =>
    have hy : ys = [] := by
      cases ys with
      | nil => rfl
      | cons y ys' => obtain ⟨_, _, h1, _⟩ := hg0.cells _ _ _ rfl 0 y rfl; cases h1
    subst hy
    have hr := run_append_none (P := P) (V := V) 0 t o.type e i0 size c ht hi (.slice base n cap) xs.length (xs.flatMap enc) h
    unfold Oper.wp execOp
    simp only [ho, resolve, invoke, builtin, Sem.run_bind, Sem.run_pure, Result.andThen_ok, List.map_toArray, List.map_cons, List.map_nil, hs, hx, List.length_nil, hr]
    exact hK V ⟨by rw [List.append_nil]; exact h, World.grownBy.refl V _, .inl rfl⟩
  | some p =>
    have hcells : ∀ j u, (ys.flatMap enc)[j]? = some u → V.cell? (p.add j) = some u := by
      intro j u hj
      cases ys with
      | nil => simp at hj
      | cons y ys' =>
        obtain ⟨b, off, h1, _⟩ := hg0.cells _ _ _ rfl 0 y rfl
        injection h1 with h1
        subst h1
        exact rd_flat hg0 he hs0 j u hj
    have hone : ∀ u ∈ ys.flatMap enc, u.oneCell' = true := by
      intro u hu
      obtain ⟨y, _, hy⟩ := List.mem_flatMap.1 hu
      exact h1 y u hy
    obtain ⟨v1, w1, hr, hown, hg, hnil, hat⟩ := run_append_own_at (P := P) V 0 t o.type e i0 z size bytes ht hi hz0 hz1 hz2 hz hs0 (.slice base n cap) xs.length (xs.flatMap enc) h p ys.length c (ys.flatMap enc) (by rw [flat_length he])
      hcells hone hm hl (Nat.zero_le _)
    have hv1 := run_append_cap_room (P := P) V t t o.type e i0 ht hi base n cap (.slice (some p) ys.length c) ys.length (ys.flatMap enc) (Src.ofSlice V ht p ys.length c _ (by rw [flat_length he, hz1]) hcells hone) hroom hr
    subst hv1
    unfold Oper.wp execOp
    simp only [ho, resolve, invoke, builtin, Sem.run_bind, Sem.run_pure, Result.andThen_ok, List.map_toArray, List.map_cons, List.map_nil, hs, hx, hr]
    have hrw : Rw w1 e size enc (.slice base (n + ys.length) cap) (xs ++ ys) := by
      unfold Rw
      rw [List.length_append, List.flatMap_append]
      exact hown
    exact hK w1 ⟨hrw, hg, hat⟩
theorem rw_appendR_step (hgd : o.guard = none) (s x : Operand) (t e size : Nat) (enc : α → List Value) (z : Value) (bytes : Nat)
    (ho : o.op = .call { callee := .builtin .append, args := #[s, x], argTypes := #[t, t] })
    (ht : P.underlying t = some (.slice e)) (hinfo : (P.info? e).map (fun i => (i.zero, i.size, i.bytes)) = some (some z, size, bytes)) (hz : z.cells.size = size) (hs0 : 0 < size)
    (base : Option Addr) (n cap : Nat) (yv : Value) (xs ys : List α) (hs : a.eval s = .slice base n cap) (hx : a.eval x = yv) (hg0 : Rd V size enc yv ys)
    (h : Rw V e size enc (.slice base n cap) xs) (hroom : n + ys.length ≤ cap) (he : ∀ x, (enc x).length = size) (h1 : ∀ y, ∀ u ∈ enc y, u.oneCell' = true) (hm : xs.length + ys.length ≤ maxLen) (hl : (xs.length + ys.length) * bytes ≤ 140737488355328)
    (hK : ∀ w1, AppendedL V w1 e size enc (.slice base n cap) (.slice base (n + ys.length) cap) xs ys → K (a.put o.dst (.slice base (n + ys.length) cap)) w1) : if Region.wanted o (yielded ops a.tmps) = true then o.wp P a V K Q else E := by
  rw [if_pos (by simp [Region.wanted, hgd])]
  exact rw_appendR_wp s x t e size enc z bytes ho ht hinfo hz hs0 base n cap yv xs ys hs hx hg0 h hroom he h1 hm hl hK
theorem heap_setCells_far {g g' : Nat} (hne : g ≠ g') : ∀ (vs : List Value) (off : Nat) (w : World), (w.setCells g' off vs).heap[g]? = w.heap[g]?
  | [], _, _ => rfl
  | v :: vs, off, w => (heap_setCells_far hne vs (off + 1) _).trans (blk_setCell_far hne v)
theorem size_setCells (g : Nat) : ∀ (vs : List Value) (off : Nat) (w : World), (w.setCells g off vs).heap.size = w.heap.size
  | [], _, _ => rfl
  | v :: vs, off, w => (size_setCells g vs (off + 1) _).trans (size_setCell w _ v)
theorem setCells_plain (g : Nat) : ∀ (vs : List Value) (off : Nat) (w : World), (w.setCells g off vs).os = w.os ∧ (w.setCells g off vs).tape = w.tape ∧ (w.setCells g off vs).output = w.output
  | [], _, _ => ⟨rfl, rfl, rfl⟩
  | v :: vs, off, w => setCells_plain g vs (off + 1) (w.setCell ⟨g, off, none⟩ v)
theorem heap_setCells {g t : Nat} : ∀ (vs : List Value) (off : Nat) (w : World) (cs : Array Value), w.heap[g]? = some (.cells cs t (0, 0)) → ∃ cs', (w.setCells g off vs).heap[g]? = some (.cells cs' t (0, 0)) ∧ cs'.size = cs.size ∧ cs'.toList.take off = cs.toList.take off
  | [], _, _, cs, h => ⟨cs, h, rfl, rfl⟩
  | v :: vs, off, w, cs, h => by
    obtain ⟨cs', h1, h2, h3⟩ := heap_setCells vs (off + 1) _ _ (blk_setCell_same h off v)
    refine ⟨cs', h1, by rw [h2, Array.size_setIfInBounds], ?_⟩
    have h4 := congrArg (List.take off) h3
    rw [List.take_take, List.take_take, Nat.min_eq_left (by omega), Array.toList_setIfInBounds, List.take_set_of_le (by omega)] at h4
    exact h4
/-- clear behind a row's end. -/
theorem rw_clear (hgd : o.guard = none) (x : Operand) (t e size : Nat) (enc : α → List Value) (z : Value) (bytes : Nat)
    (ho : o.op = .call { callee := .builtin .clear, args := #[x], argTypes := #[t] })
    (ht : P.underlying t = some (.slice e)) (hinfo : (P.info? e).map (fun i => (i.zero, i.size, i.bytes)) = some (some z, size, bytes)) (hz : z.cells.size = size) (hz1 : ∀ u ∈ z.cells.toList, u.oneCell' = true)
    (g n c cc : Nat) (xs : List α) (hx : a.eval x = .slice (some ⟨g, n * size, none⟩) 1 cc) (h : Rw V e size enc (.slice (some ⟨g, 0, none⟩) n c) xs) (hroom : n + 1 ≤ c)
    (hK : ∀ w1, Rw w1 e size enc (.slice (some ⟨g, 0, none⟩) n c) xs → V.grownBy w1 (some g) → wpList P ops Q rest (a.put o.dst (.tuple #[])) w1) : wpList P ops Q (o :: rest) a V :=
  wpList_plain hgd fun _ hK' => by
    obtain ⟨i0, hi, hz0, hz1', hz2⟩ := info_parts hinfo
    have hzc : (Builtin.zeroCells z.cells 1).toList = z.cells.toList := by
      apply List.ext_getElem
      · simp [Builtin.zeroCells]
      · intro i h1 h2
        simp only [Builtin.zeroCells, Nat.one_mul] at h1 ⊢
        simp at h1
        simp only [Array.getElem_toList, Array.getElem_map, Array.getElem_range, Nat.mod_eq_of_lt h1, getElem!_pos z.cells i h1]
    rcases h.form with ⟨h2, _⟩ | ⟨g', cap, cur, h2, h3, h4, h5, h6, h7⟩
    · cases h2
    · injection h2 with h2 e2 e3
      injection h2 with h2
      injection h2 with h2
      subst h2
      subst e3
      have hfit : n * size + size ≤ cur.size := by
        rw [h6]
        have := Nat.mul_le_mul_right size hroom
        rw [Nat.add_mul, Nat.one_mul] at this
        exact this
      have hst := run_storeCells_cells (P := P) g (n * size) z.cells.toList 0 V (by
          intro j hj
          have : j < size := by rw [← hz]; simpa using hj
          rw [Nat.add_zero, cell_of_blk h3, Array.getElem?_eq_getElem (by omega)]
          rfl) (by intro j hj; exact frozen_of_blk h3 _) hz1
      rw [Nat.add_zero] at hst
      have hr : (Builtin.clear_ #[t] o.type #[.slice (some ⟨g, n * size, none⟩) 1 cc]).run P V = .ok (.tuple #[]) (V.setCells g (n * size) z.cells.toList) := by
        simp [Builtin.clear_, run_underlying ht, zeroValue, typeInfo, hi, hz0, hzc, hst]
      unfold Oper.wp execOp
      simp only [ho, resolve, invoke, builtin, Sem.run_bind, Sem.run_pure, Result.andThen_ok, List.map_toArray, List.map_cons, List.map_nil, hx, hr]
      obtain ⟨cs', g1, g2, g3⟩ := heap_setCells z.cells.toList (n * size) V cur h3
      obtain ⟨p1, p2, p3⟩ := setCells_plain g z.cells.toList (n * size) V
      refine hK' _ _ (hK _ ⟨h.1, .inr ⟨g, c, cs', by rw [e2], Nat.zero_le _, g1, h4, h5, by rw [g2, h6], ?_⟩⟩ ⟨p1, p2, p3, by rw [size_setCells]; exact Nat.le_refl _, fun k hk hne => heap_setCells_far (fun e => hne (by rw [e])) _ _ _⟩)
      rw [← e2, g3, e2, h7]
end
end Go.Proofs.Ytkfkacdiekpkfaa
