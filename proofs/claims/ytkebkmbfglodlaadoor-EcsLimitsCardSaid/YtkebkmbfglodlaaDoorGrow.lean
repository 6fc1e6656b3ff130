/- append(s, make([]E, n)...) onto nil; a row that a call made, beside the others. -/
import Derived.Test.YtkebkmbfglodlaaDoorAt
import Derived.Deep.AppendSrc
import Derived.IntWalk
namespace Go.Proofs.YtkebkmbfglodlaaDoor
open Go.RowKit
section
variable {P : Program}
theorem run_append_zeros (w : World) (t ti ty e : TypeId) (k k' : IntKind) (i : TypeInfo) (z : Value) (ht : P.underlying t = some (.slice e)) (hti : P.underlying ti = some (.int k)) (hi : P.info? e = some i) (hz : i.zero = some z) (hs : 0 < i.size)
    (n : Nat) (h0 : 0 < n) (hb : n * i.bytes ≤ 140737488355328) (hn : n ≤ 4611686018427387904) :
    (Builtin.append_ #[t, ti] ty #[.slice none 0 0, .int k' (n : Int)]).run P w = .ok (.slice (some ⟨w.heap.size, 0, none⟩) n (grownCap w n 0 e)) (w.drew.alloc (.cells (Builtin.zeroCells z.cells n ++ Builtin.zeroCells z.cells (grownCap w n 0 e - n)) e)) := by
  have e1 : IntKind.i64.wrap (n : Int) = (n : Int) := IntWalk.i64_in _ (by omega)
  have e2 : ¬ ((n : Int) < 0) := by omega
  have e3 : ¬ (281474976710656 < (n : Int) * (i.bytes : Int)) := by
    have : ((n * i.bytes : Nat) : Int) ≤ 140737488355328 := by omega
    rw [Int.natCast_mul] at this
    omega
  have e5 : ¬ (9223372036854775807 < (n : Int)) := by omega
  have e6 : Builtin.nextslicecap n 0 = n := by unfold Builtin.nextslicecap; rw [if_pos (by omega)]
  have e7 : ¬ (281474976710656 < n * i.bytes) := by omega
  have e8 : ¬ (n * i.size = 0) := by
    have := Nat.mul_pos h0 hs
    omega
  have e9 : ¬ (n = 0) := by omega
  simp [Builtin.append_, run_underlying ht, run_underlying hti, sizeOf, typeInfo, zeroValue, hi, hz, e1, e2, e3, e5, e6, e7, e9, Question.forced, Builtin.firstCells, newRow, grownCap, asInt, asIntOf]
  exact fun h => absurd h e8
variable {ops : Array Oper} {rest : List Oper} {o : Oper} {a : Act} {Q : Exit → Act → World → Prop} {K : Act → World → Prop} {V : World}
theorem rw_grow {α : Type} (hgd : o.guard = none) (s x : Operand) (t ti e size : Nat) (enc : α → List Value) (z : Value) (bytes : Nat) (k k' : IntKind)
    (ho : o.op = .call { callee := .builtin .append, args := #[s, x], argTypes := #[t, ti] })
    (ht : P.underlying t = some (.slice e)) (hti : P.underlying ti = some (.int k)) (hinfo : (P.info? e).map (fun i => (i.zero, i.size, i.bytes)) = some (some z, size, bytes)) (hz : z.cells.size = size) (hs0 : 0 < size)
    (hs : a.eval s = .slice none 0 0) (n : Nat) (hx : a.eval x = .int k' (n : Int)) (h0 : 0 < n) (hb : n * bytes ≤ 140737488355328) (hn : n ≤ 4611686018427387904)
    (hK : ∀ cap w1, n ≤ cap → Below V.heap.size V w1 → Rw w1 e size enc (.slice (some ⟨V.heap.size, 0, none⟩) 0 cap) ([] : List α) → wpList P ops Q rest (a.put o.dst (.slice (some ⟨V.heap.size, 0, none⟩) n cap)) w1) : wpList P ops Q (o :: rest) a V :=
  wpList_plain hgd fun _ hK' => by
    obtain ⟨i0, hi, hz0, hz1, hz2⟩ := info_parts hinfo
    have hr := run_append_zeros (P := P) V t ti o.type e k k' i0 z ht hti hi hz0 (by rw [hz1]; exact hs0) n h0 (by rw [hz2]; exact hb) hn
    unfold Oper.wp execOp
    simp only [ho, resolve, invoke, builtin, Sem.run_bind, Sem.run_pure, Result.andThen_ok, List.map_toArray, List.map_cons, List.map_nil, hs, hx, hr]
    have hge := grownCap_ge V n 0 e
    have hcm : grownCap V n 0 e ≤ maxLen := grownCap_le_maxLen V n 0 e (by simp only [maxLen]; omega)
    refine hK' _ _ (hK _ _ hge ((Below.drew (Below.refl _ _)).alloc (Nat.le_refl _) _) ⟨by simp, .inr ⟨V.heap.size, _, _, rfl, Nat.zero_le _, heap_alloc_new V.drew _, Nat.zero_le _, hcm, ?_, by simp⟩⟩)
    simp only [Array.size_append, size_zeroCells, hz, ← Nat.add_mul]
    congr 1
    omega
end
/-- A row that a call made, beside the others. -/
theorem At.newRow {F0 : Nat → Prop} {w0 w w1 : World} {l : List Hp} {α : Type} {e size : Nat} {enc : α → List Value} {v : Value} {xs : List α} (h : At F0 w0 w (Hp.seps l)) (hb : Below w.heap.size w w1) (hr : Rw w1 e size enc v xs) (hn : ∀ k, v.ownBlock = some k → w.heap.size ≤ k) : At F0 w0 w1 (Hp.seps (Hp.row e size enc v xs :: l)) := by
  obtain ⟨F, hA, hF, hB⟩ := h.out
  refine ⟨fun k => (w.heap.size ≤ k ∧ k < w1.heap.size) ∨ F k, ⟨fun k => w.heap.size ≤ k ∧ k < w1.heap.size, F, ⟨hr, fun k hk => ⟨hn k hk, hr.lt k hk⟩, fun k hk => hk.2⟩, Hp.below hA hb, fun k h1 h2 => by have := Hp.lt _ hA k h2; omega, fun _ => Iff.rfl⟩, ?_, hB.trans (Evo.of_below hb) (fun _ h => .inl h)⟩
  rintro k (⟨h1, _⟩ | h1)
  · exact .inr (Nat.le_trans hB.size h1)
  · exact hF k h1
theorem At.own_new {w0 w : World} {l : List Hp} {α : Type} {e size : Nat} {enc : α → List Value} {v : Value} {xs : List α} (n : Nat) (h : At (fun _ => False) w0 w (Hp.seps l)) (ha : l[n]? = some (Hp.row e size enc v xs)) : ∀ k, v.ownBlock = some k → w0.heap.size ≤ k := by
  intro k hk
  obtain ⟨F, hA, hF, hB⟩ := (h.one n ha).out
  exact (hF k (hA.2.1 k hk)).elim (fun h => h.elim) id
theorem rw_tail {α : Type} (e size : Nat) (enc : α → List Value) (he : ∀ x, (enc x).length = size) (i : Nat) (sA : Option Addr) (sc : Nat) (xs : List α) (hi : i ≤ xs.length) : ∃ A42, (if sc = i then sA else sA.map (fun x => x.add (i * size))) = A42 ∧ As (∀ W, Rw W e size enc (.slice sA xs.length sc) xs → Rd W size enc (.slice A42 (xs.length - i) (sc - i)) (xs.drop i)) := by
  refine ⟨_, rfl, ⟨fun W h => ?_⟩⟩
  cases sA with
  | none =>
    obtain ⟨_, rfl, rfl⟩ := h.none_nil
    obtain rfl : i = 0 := by simpa using hi
    exact ⟨⟨none, 0, rfl, by simp, by simp⟩, by intro A n c hv i x hx; simp at hx⟩
  | some a =>
    obtain ⟨g, rfl, _⟩ := h.head0
    have := (h.rd he).tail i hi
    rw [Option.map_some, Addr.add_lit]
    exact this
end Go.Proofs.YtkebkmbfglodlaaDoor
