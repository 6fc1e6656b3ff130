/- The append of a whole row: the source is any readable slice. -/
import Derived.Test.YtkebkmbfglodlaaDoorOwn
namespace Go.Proofs.YtkebkmbfglodlaaDoor
open Go.RowKit
structure AppendedL {α : Type} (V w1 : World) (e size : Nat) (enc : α → List Value) (v v1 : Value) (xs ys : List α) : Prop where
  row : Rw w1 e size enc v1 (xs ++ ys)
  grown : V.grownBy w1 v.ownBlock
  lies : v1.ownBlock = v.ownBlock ∨ v1.ownBlock = some V.heap.size
section
variable {P : Program} {ops : Array Oper} {rest : List Oper} {o : Oper} {a : Act} {Q : Exit → Act → World → Prop} {K : Act → World → Prop} {V : World} {α : Type} {E : Prop}
theorem rd_flat {w : World} {size : Nat} {enc : α → List Value} {b off n c : Nat} {ys : List α} (h : Rd w size enc (.slice (some ⟨b, off, none⟩) n c) ys) (he : ∀ x, (enc x).length = size) (hs0 : 0 < size) (j : Nat) (u : Value) (hj : (ys.flatMap enc)[j]? = some u) : w.cell? ((⟨b, off, none⟩ : Addr).add j) = some u := by
  have hl := (List.getElem?_eq_some_iff.1 hj).1
  rw [flat_length he] at hl
  have hi : j / size < ys.length := by rw [Nat.div_lt_iff_lt_mul hs0]; exact hl
  have hx : ys[j / size]? = some ys[j / size] := List.getElem?_eq_getElem hi
  obtain ⟨b', off', h1, _, h3⟩ := h.cells _ _ _ rfl _ _ hx
  injection h1 with h1; injection h1 with h1 h2; subst h1; subst h2
  have hr := Nat.mod_lt j hs0
  have e1 := flat_get he ys (j / size) (j % size) _ hx hr
  have e2 : j / size * size + j % size = j := by rw [Nat.mul_comm]; exact Nat.div_add_mod j size
  have e3 : ((⟨b, off, none⟩ : Addr).add j) = ⟨b, off + j, none⟩ := by unfold Addr.add; split <;> simp_all
  rw [e2] at e1
  rw [e3, ← hj, e1, ← h3 _ hr]
  congr 2
  omega
theorem run_append_none (base : Nat) (t ty e : TypeId) (i : TypeInfo) (size c : Nat) (ht : P.underlying t = some (.slice e)) (hi : P.info? e = some i)
    (v : Value) (n : Nat) (xs : List Value) (hown : V.ownsRow base e size v n xs) :
    (Builtin.append_ #[t, t] ty #[v, .slice none 0 c]).run P V = .ok v V := by
  rcases hown.2 with ⟨rfl, rfl⟩ | ⟨g, cap, cur, rfl, _, _, hnc, _⟩
  · simp [Builtin.append_, run_underlying ht, sizeOf, typeInfo, hi, Builtin.lenOf, Builtin.firstCells]
  · simp [Builtin.append_, run_underlying ht, sizeOf, typeInfo, hi, Builtin.lenOf, Builtin.firstCells, hnc, storeCells]
theorem rw_appendL_wp (s x : Operand) (t e size : Nat) (enc : α → List Value) (z : Value) (bytes : Nat)
    (ho : o.op = .call { callee := .builtin .append, args := #[s, x], argTypes := #[t, t] })
    (ht : P.underlying t = some (.slice e)) (hinfo : (P.info? e).map (fun i => (i.zero, i.size, i.bytes)) = some (some z, size, bytes)) (hz : z.cells.size = size) (hs0 : 0 < size)
    (v yv : Value) (xs ys : List α) (hs : a.eval s = v) (hx : a.eval x = yv) (hg0 : Rd V size enc yv ys)
    (h : Rw V e size enc v xs) (he : ∀ x, (enc x).length = size) (h1 : ∀ y, ∀ u ∈ enc y, u.oneCell' = true) (hm : xs.length + ys.length ≤ maxLen) (hl : (xs.length + ys.length) * bytes ≤ 140737488355328)
    (hK : ∀ v1 w1, AppendedL V w1 e size enc v v1 xs ys → K (a.put o.dst v1) w1) : o.wp P a V K Q := by
  obtain ⟨i0, hi, hz0, hz1, hz2⟩ := info_parts hinfo
  obtain ⟨A, c, rfl, hc, hn⟩ := hg0.shape
  cases A with
  | none =>
    have hy : ys = [] := by
      cases ys with
      | nil => rfl
      | cons y ys' => obtain ⟨_, _, h1, _⟩ := hg0.cells _ _ _ rfl 0 y rfl; cases h1
    subst hy
    have hr := run_append_none (P := P) (V := V) 0 t o.type e i0 size c ht hi v xs.length (xs.flatMap enc) h
    unfold Oper.wp execOp
    simp only [ho, resolve, invoke, builtin, Sem.run_bind, Sem.run_pure, Result.andThen_ok, List.map_toArray, List.map_cons, List.map_nil, hs, hx, List.length_nil, hr]
    exact hK v V ⟨by rw [List.append_nil]; exact h, World.grownBy.refl V _, .inl rfl⟩
  | some p =>
    have hcells : ∀ j u, (ys.flatMap enc)[j]? = some u → V.cell? (p.add j) = some u := by
      intro j u hj
      cases ys with
      | nil => simp at hj
      | cons y ys' =>
        obtain ⟨b, off, h1, _⟩ := hg0.cells _ _ _ rfl 0 y rfl
        injection h1 with h1
        subst h1
        exact rd_flat hg0 he hs0 j u hj
    obtain ⟨v1, w1, hr, hown, hg, hnil, hat⟩ := run_append_own_at (P := P) V 0 t o.type e i0 z size bytes ht hi hz0 hz1 hz2 hz hs0 v xs.length (xs.flatMap enc) h p ys.length c (ys.flatMap enc) (by rw [flat_length he])
      hcells (by
        intro u hu
        obtain ⟨y, _, hy⟩ := List.mem_flatMap.1 hu
        exact h1 y u hy) hm hl (Nat.zero_le _)
    unfold Oper.wp execOp
    simp only [ho, resolve, invoke, builtin, Sem.run_bind, Sem.run_pure, Result.andThen_ok, List.map_toArray, List.map_cons, List.map_nil, hs, hx, hr]
    have hrw : Rw w1 e size enc v1 (xs ++ ys) := by
      unfold Rw
      rw [List.length_append, List.flatMap_append]
      exact hown
    exact hK v1 w1 ⟨hrw, hg, hat⟩
theorem rw_appendL (hgd : o.guard = none) (s x : Operand) (t e size : Nat) (enc : α → List Value) (z : Value) (bytes : Nat)
    (ho : o.op = .call { callee := .builtin .append, args := #[s, x], argTypes := #[t, t] })
    (ht : P.underlying t = some (.slice e)) (hinfo : (P.info? e).map (fun i => (i.zero, i.size, i.bytes)) = some (some z, size, bytes)) (hz : z.cells.size = size) (hs0 : 0 < size)
    (v yv : Value) (xs ys : List α) (hs : a.eval s = v) (hx : a.eval x = yv) (hg0 : Rd V size enc yv ys)
    (h : Rw V e size enc v xs) (he : ∀ x, (enc x).length = size) (h1 : ∀ y, ∀ u ∈ enc y, u.oneCell' = true) (hm : xs.length + ys.length ≤ maxLen) (hl : (xs.length + ys.length) * bytes ≤ 140737488355328)
    (hK : ∀ v1 w1, AppendedL V w1 e size enc v v1 xs ys → wpList P ops Q rest (a.put o.dst v1) w1) : wpList P ops Q (o :: rest) a V :=
  wpList_plain hgd fun _ hK' => rw_appendL_wp s x t e size enc z bytes ho ht hinfo hz hs0 v yv xs ys hs hx hg0 h he h1 hm hl fun v1 w1 hA => hK' _ _ (hK v1 w1 hA)
theorem rw_appendL_step (hgd : o.guard = none) (s x : Operand) (t e size : Nat) (enc : α → List Value) (z : Value) (bytes : Nat)
    (ho : o.op = .call { callee := .builtin .append, args := #[s, x], argTypes := #[t, t] })
    (ht : P.underlying t = some (.slice e)) (hinfo : (P.info? e).map (fun i => (i.zero, i.size, i.bytes)) = some (some z, size, bytes)) (hz : z.cells.size = size) (hs0 : 0 < size)
    (v yv : Value) (xs ys : List α) (hs : a.eval s = v) (hx : a.eval x = yv) (hg0 : Rd V size enc yv ys)
    (h : Rw V e size enc v xs) (he : ∀ x, (enc x).length = size) (h1 : ∀ y, ∀ u ∈ enc y, u.oneCell' = true) (hm : xs.length + ys.length ≤ maxLen) (hl : (xs.length + ys.length) * bytes ≤ 140737488355328)
    (hK : ∀ v1 w1, AppendedL V w1 e size enc v v1 xs ys → K (a.put o.dst v1) w1) : if Region.wanted o (yielded ops a.tmps) = true then o.wp P a V K Q else E := by
  rw [if_pos (by simp [Region.wanted, hgd])]
  exact rw_appendL_wp s x t e size enc z bytes ho ht hinfo hz hs0 v yv xs ys hs hx hg0 h he h1 hm hl hK
end
end Go.Proofs.YtkebkmbfglodlaaDoor
