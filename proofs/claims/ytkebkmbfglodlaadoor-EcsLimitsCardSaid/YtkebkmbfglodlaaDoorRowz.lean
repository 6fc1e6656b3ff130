/- A row of rows: a list of owned rows beside the other memory. No condition; plain definitions and lemmas. -/
import Derived.Test.YtkebkmbfglodlaaDoorAt
namespace Go.Proofs.YtkebkmbfglodlaaDoor
open Go.RowKit
def Hp.rows {α : Type} (e size : Nat) (enc : α → List Value) (L : List (Value × List α)) : Hp := Hp.seps (L.map fun p => Hp.row e size enc p.1 p.2)
namespace At
variable {F0 : Nat → Prop} {w0 w : World} {l : List Hp} {α : Type} {e size : Nat} {enc : α → List Value} {L : List (Value × List α)} {p : Value × List α}
theorem map_erase {β γ : Type} (f : β → γ) : ∀ (l : List β) (i : Nat), (l.map f).eraseIdx i = (l.eraseIdx i).map f
  | [], _ => rfl
  | _ :: _, 0 => rfl
  | x :: xs, i + 1 => by simp [List.eraseIdx, map_erase f xs i]
theorem row_lt {g m c : Nat} {xs : List α} (n : Nat) (h : At F0 w0 w (Hp.seps l)) (ha : l[n]? = some (Hp.row e size enc (.slice (some ⟨g, 0, none⟩) m c) xs)) : g < w.heap.size := (h.rowAt n ha).lt g rfl
theorem rowsOut (n i : Nat) (h : At F0 w0 w (Hp.seps l)) (ha : l[n]? = some (Hp.rows e size enc L)) {v : Value} {xs : List α} (hi : L[i]? = some (v, xs)) : At F0 w0 w (Hp.seps (Hp.row e size enc v xs :: l.set n (Hp.rows e size enc (L.eraseIdx i)))) := by
  have h1 : At F0 w0 w (((Hp.row e size enc v xs).sep (Hp.rows e size enc (L.eraseIdx i))).sep (Hp.seps (l.eraseIdx n))) := (h.pick n ha).map fun w F hh => by
    refine Hp.comm (Hp.imp (Hp.comm hh) fun FB hB => ?_)
    have := Hp.pick (L.map fun p : Value × List α => Hp.row e size enc p.1 p.2) i (Hp.row e size enc v xs) (by simp [hi]) hB
    rw [map_erase] at this
    exact this
  have h2 := h1.put (idx_lt ha)
  have h3 := h2.flat n (A := Hp.row e size enc v xs) (B := Hp.rows e size enc (L.eraseIdx i)) (by rw [List.getElem?_set_self (idx_lt ha)])
  rw [List.set_set] at h3
  exact h3
theorem rowsIn {v : Value} {xs : List α} (n i : Nat) (h : At F0 w0 w (Hp.seps (Hp.row e size enc v xs :: l))) (ha : l[n]? = some (Hp.rows e size enc (L.eraseIdx i))) (hi : i < L.length) : At F0 w0 w (Hp.seps (l.set n (Hp.rows e size enc (L.set i (v, xs))))) := by
  have h1 : At F0 w0 w ((Hp.rows e size enc (L.set i (v, xs))).sep (Hp.seps (l.eraseIdx n))) := h.map fun w F hh => by
    have h2 := Hp.assoc' (Hp.imp hh fun FB hB => Hp.pick l n _ ha hB)
    refine Hp.comm (Hp.imp (Hp.comm h2) fun FB hB => ?_)
    have h3 := Hp.put (L.map fun p : Value × List α => Hp.row e size enc p.1 p.2) i (Hp.row e size enc v xs) (by simpa using hi) (by rw [map_erase]; exact hB)
    unfold Hp.rows
    rw [List.map_set]
    exact h3
  exact h1.put (idx_lt ha)
theorem rowsAt (n i : Nat) (h : At F0 w0 w (Hp.seps l)) (ha : l[n]? = some (Hp.rows e size enc L)) {v : Value} {xs : List α} (hi : L[i]? = some (v, xs)) : Rw w e size enc v xs := (h.rowsOut n i ha hi).rowAt 0 rfl
theorem rowsNil {α : Type} (e size : Nat) (enc : α → List Value) (h : At F0 w0 w (Hp.seps l)) : ∀ n, At F0 w0 w (Hp.seps (Hp.rows e size enc (List.replicate n (.slice none 0 0, [])) :: l))
  | 0 => h.map fun w F hh => Hp.emp_sep hh
  | n + 1 => by
    have h1 := (rowsNil e size enc h n).nilRow e size enc
    refine h1.map fun w F hh => ?_
    exact Hp.assoc' hh
theorem rowsAdd {v : Value} {xs : List α} (n : Nat) (h : At F0 w0 w (Hp.seps (Hp.row e size enc v xs :: l))) (ha : l[n]? = some (Hp.rows e size enc L)) : At F0 w0 w (Hp.seps (l.set n (Hp.rows e size enc ((v, xs) :: L)))) := by
  have h1 : At F0 w0 w ((Hp.rows e size enc ((v, xs) :: L)).sep (Hp.seps (l.eraseIdx n))) := h.map fun w F hh => Hp.assoc' (Hp.imp hh fun FB hB => Hp.pick l n _ ha hB)
  exact h1.put (idx_lt ha)
theorem blk_row {α : Type} {w : World} {F : Nat → Prop} {g e : Nat} {enc : α → List Value} {size : Nat} (h : (Hp.blk g #[] e).H w F) : (Hp.row e size enc (.slice (some ⟨g, 0, none⟩) 0 0) ([] : List α)).H w F :=
  ⟨⟨by simp, .inr ⟨g, 0, #[], rfl, Nat.zero_le _, h.1, Nat.le_refl _, Nat.zero_le _, by simp, by simp⟩⟩, fun k hk => by injection hk with hk; exact (h.2 k).2 hk.symm, fun k hk => by rw [(h.2 k).1 hk]; exact lt_of_blk h.1⟩
/-- An empty block is an empty row. -/
theorem rowOfBlk {α : Type} {g e : Nat} (size : Nat) (enc : α → List Value) (h : At F0 w0 w (Hp.seps (Hp.blk g #[] e :: l))) : At F0 w0 w (Hp.seps (Hp.row e size enc (.slice (some ⟨g, 0, none⟩) 0 0) ([] : List α) :: l)) := h.fold1 fun _ _ hh => blk_row hh
theorem also {F0 : Nat → Prop} {w0 w w1 : World} {l1 l2 : List Hp} (h : At F0 w0 w (Hp.seps l1)) (h2 : At (fun _ => False) w w1 (Hp.seps l2)) : At F0 w0 w1 (Hp.seps (l2 ++ l1)) := by
  obtain ⟨F, hA, hF, hB⟩ := h.out
  obtain ⟨F2, hA2, hF2, hB2⟩ := h2.out
  refine ⟨fun k => F2 k ∨ F k, Hp.seps_append _ _ _ ⟨F2, F, hA2, Hp.move _ hA fun k hk => hB2.block k (Hp.lt _ hA k hk) id, fun k h1 h3 => ?_, fun _ => Iff.rfl⟩, ?_, hB.trans hB2 fun k hk => hk.elim⟩
  · have := Hp.lt _ hA k h3
    rcases hF2 k h1 with h4 | h4
    · exact h4
    · omega
  · rintro k (h1 | h1)
    · rcases hF2 k h1 with h4 | h4
      · exact h4.elim
      · exact .inr (Nat.le_trans hB.size h4)
    · exact hF k h1
end At
theorem At.rowOfBlk1 {F0 : Nat → Prop} {w0 w : World} {l : List Hp} {α : Type} {g e : Nat} (size : Nat) (enc : α → List Value) (x : α) (hx : (enc x).length = size) (h : At F0 w0 w (Hp.seps (Hp.blk g (enc x).toArray e :: l))) : At F0 w0 w (Hp.seps (Hp.row e size enc (.slice (some ⟨g, 0, none⟩) 1 1) [x] :: l)) :=
  h.fold1 fun w F hh => ⟨⟨by simp [hx], .inr ⟨g, 1, (enc x).toArray, rfl, Nat.zero_le _, hh.1, Nat.le_refl _, by simp [maxLen], by simp [hx], by simp [← hx]⟩⟩, fun k hk => by injection hk with hk; exact (hh.2 k).2 hk.symm, fun k hk => by rw [(hh.2 k).1 hk]; exact lt_of_blk hh.1⟩
/-- A call of a Go function, by its contract, in a region that draws. -/
theorem rw_call_step {P : Program} {ops : Array Oper} {o : Oper} {a : Act} {Q : Exit → Act → World → Prop} {K : Act → World → Prop} {V : World} {E : Prop} (hgd : o.guard = none) (f : FuncId) (args : Array Value)
    (hx : (execOp a.eval o).run P V = .ok (.enter f args) V) {v : Value} {R : World → Prop} (h : Calls P f args V (fun e w' => e = .returned v ∧ R w')) (hK : ∀ w', R w' → K (a.put o.dst v) w') : if Region.wanted o (yielded ops a.tmps) = true then o.wp P a V K Q else E := by
  rw [if_pos (by simp [Region.wanted, hgd])]
  unfold Oper.wp
  rw [hx, Oper.upon_enter]
  refine h.mono ?_
  rintro e w' ⟨rfl, hr⟩
  exact hK w' hr
end Go.Proofs.YtkebkmbfglodlaaDoor
