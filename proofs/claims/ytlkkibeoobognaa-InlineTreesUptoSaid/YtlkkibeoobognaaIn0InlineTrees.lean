/- Rows of printed kinds as assertions of a list, nodes of the call's own. Plain; no condition. -/
import Derived.Test.YtlkkibeoobognaaSameNInlineTrees
import Derived.Deep.RegionHeld3
import Derived.Deep.Cut
import Derived.Test.YtlkkibeoobognaaPInlineTreesx
set_option linter.unusedVariables false
set_option maxRecDepth 100000
namespace Go.Proofs.Ytlkkibeoobognaa.OpenInlineTrees
open Go.RowKit Go.Deep
open Go.Proofs.YtlkkibeoobognaaW.PrintWords Go.Proofs.YtlkkibeoobognaaW.PrintLast Go.Proofs.YtlkkibeoobognaaW.PrintMore Go.Proofs.Ytlkkibeoobognaa.PInlineTrees
section
variable {α : Type}
def hkd (d : Kd α) (e : Nat) (v : Value) (xs : List α) : Hp where
  H w F := d.R e w 0 F v xs ∧ ∀ k, F k → k < w.heap.size
  lt h k hk := h.2 k hk
  move h hm := ⟨Kd.R_move h.1 hm, fun k hk => by
    have h1 := hm k hk
    have h2 := h.2 k hk
    rw [Array.getElem?_eq_getElem h2] at h1
    exact (Array.getElem?_eq_some_iff.1 h1).1⟩
def hkm (d : Kd α) (p : α) (cs : List Value) : Hp where
  H w F := d.M w 0 F p cs ∧ ∀ k, F k → k < w.heap.size
  lt h k hk := h.2 k hk
  move h hm := ⟨d.M_move hm h.1, fun k hk => by
    have h1 := hm k hk
    have h2 := h.2 k hk
    rw [Array.getElem?_eq_getElem h2] at h1
    exact (Array.getElem?_eq_some_iff.1 h1).1⟩
end
theorem At.withEmp {F0 : Nat → Prop} {w0 w : World} {A : Hp} {l : List Hp} (h : At F0 w0 w (Hp.seps (A :: l))) : At F0 w0 w (Hp.seps (A :: Hp.emp :: l)) := h.map fun _ _ h => by
  obtain ⟨F1, F2, h1, h2, hd, hF⟩ := h
  exact ⟨F1, F2, h1, Hp.emp_sep h2, hd, hF⟩
section
variable {α : Type} {F0 : Nat → Prop} {w0 W : World} {l : List Hp} {d : Kd α} {e : Nat} {v : Value} {xs : List α} {C : Hp} {p : α} {cs : List Value}
theorem At.kd_grown {w1 : World} {v1 : Value} {ys : List α} {FA FC FL : Nat → Prop} (hR : d.R e W 0 FA v xs) (hltA : ∀ k, FA k → k < W.heap.size) (hL : (Hp.seps l).H W FL) (hdA : ∀ k, FA k → FL k → False) (hdC : ∀ k, FC k → FL k → False)
    (hF : ∀ k, FA k ∨ FC k ∨ FL k → F0 k ∨ w0.heap.size ≤ k) (hE : Evo w0 W F0) (hR1 : d.R e w1 0 (fun k => FA k ∨ FC k ∨ W.heap.size ≤ k) v1 ys) (hg : W.grownBy w1 v.ownBlock) : At F0 w0 w1 (Hp.seps (hkd d e v1 ys :: l)) := by
  have hb := Kd.R_bound hR1
  refine ⟨fun k => ((FA k ∨ FC k ∨ W.heap.size ≤ k) ∧ k < w1.heap.size) ∨ FL k, ⟨_, FL, ⟨Kd.R_mono hb fun k hk => ⟨hk.1, hk.2.2.1⟩, fun k hk => hk.2⟩, ?_, ?_, fun _ => Iff.rfl⟩, ?_, ?_⟩
  · exact Hp.move _ hL fun k hk => hg.block k (Hp.lt _ hL k hk) fun he => hdA k (hR.1 k he.symm) hk
  · rintro k ⟨h1 | h1 | h1, _⟩ h2
    · exact hdA k h1 h2
    · exact hdC k h1 h2
    · have := Hp.lt _ hL k h2; omega
  · rintro k (⟨h1 | h1 | h1, _⟩ | h1)
    · exact hF k (.inl h1)
    · exact hF k (.inr (.inl h1))
    · exact .inr (Nat.le_trans hE.size h1)
    · exact hF k (.inr (.inr h1))
  · exact hE.grown hg fun k hk => hF k (.inl (hR.1 k hk))
theorem At.kd_append_step {P : Program} {ops : Array Oper} {o : Oper} {a : Act} {Q : Exit → Act → World → Prop} {Kc : Act → World → Prop} (hS : At F0 w0 W (Hp.seps (hkd d e v xs :: C :: l))) (hC : ∀ F, C.H W F → d.M W 0 F p cs)
    (hw : Region.wanted o (yielded ops a.tmps) = true) (s x : Operand) (t : TypeId) (z : Value) (bytes : Nat)
    (ho : o.op = .call { callee := .builtin .append, args := #[s, x], argTypes := #[t, t] })
    (ht : P.underlying t = some (.slice e)) (hinfo : (P.info? e).map (fun i => (i.zero, i.size, i.bytes)) = some (some z, d.sz, bytes)) (hz : z.cells.size = d.sz) (hs0 : 0 < d.sz) (hb0 : 0 < bytes)
    (hs : a.eval s = v) (hx : a.eval x = .slice (some ⟨W.heap.size, 0, none⟩) 1 1) (hl : (xs.length + 1) * bytes ≤ 140737488355328)
    (h : ∀ v1 w1, At F0 w0 w1 (Hp.seps (hkd d e v1 (xs ++ [p]) :: l)) → Kc (a.put o.dst v1) w1) :
    if Region.wanted o (yielded ops a.tmps) = true then Oper.wp P o a (W.alloc (.cells cs.toArray e)) Kc Q else Kc (a.put o.dst undef) (W.alloc (.cells cs.toArray e)) := by
  obtain ⟨F, ⟨FA, FR, ⟨hR, hltA⟩, ⟨FC, FL, hC0, hL, hd2, hF2⟩, hd1, hF1⟩, hF, hE⟩ := hS.out
  refine Kd.R_append_step d (w0 := W) (W := W) 0 hw s x t e z bytes ho ht hinfo hz hs0 hb0 v xs p cs (fun k => FA k ∨ FC k ∨ W.heap.size ≤ k) FC hs hx (hC _ hC0) (fun k hk => ⟨.inr (.inl hk), fun he => hd1 k (hR.1 k he.symm) ((hF2 k).2 (.inl hk))⟩)
    (fun k hk => .inr (.inr hk)) (Kd.R_mono hR fun k hk => .inl hk) (Below.refl _ _) (Nat.zero_le _) hl ?_
  intro v1 w1 hR1 _ hg _
  refine h v1 w1 (At.kd_grown (FC := FC) hR hltA hL (fun k h1 h2 => hd1 k h1 ((hF2 k).2 (.inr h2))) hd2 (fun k hk => hF k ((hF1 k).2 ?_)) hE hR1 hg)
  rcases hk with hk | hk | hk
  · exact .inl hk
  · exact .inr ((hF2 k).2 (.inl hk))
  · exact .inr ((hF2 k).2 (.inr hk))
theorem At.kd_append {P : Program} {ops : Array Oper} {rest : List Oper} {o : Oper} {a : Act} {Q : Exit → Act → World → Prop} (hS : At F0 w0 W (Hp.seps (hkd d e v xs :: C :: l))) (hC : ∀ F, C.H W F → d.M W 0 F p cs)
    (hgd : o.guard = none) (s x : Operand) (t : TypeId) (z : Value) (bytes : Nat)
    (ho : o.op = .call { callee := .builtin .append, args := #[s, x], argTypes := #[t, t] })
    (ht : P.underlying t = some (.slice e)) (hinfo : (P.info? e).map (fun i => (i.zero, i.size, i.bytes)) = some (some z, d.sz, bytes)) (hz : z.cells.size = d.sz) (hs0 : 0 < d.sz) (hb0 : 0 < bytes)
    (hs : a.eval s = v) (hx : a.eval x = .slice (some ⟨W.heap.size, 0, none⟩) 1 1) (hl : (xs.length + 1) * bytes ≤ 140737488355328)
    (h : ∀ v1 w1, At F0 w0 w1 (Hp.seps (hkd d e v1 (xs ++ [p]) :: l)) → wpList P ops Q rest (a.put o.dst v1) w1) :
    wpList P ops Q (o :: rest) a (W.alloc (.cells cs.toArray e)) := by
  obtain ⟨F, ⟨FA, FR, ⟨hR, hltA⟩, ⟨FC, FL, hC0, hL, hd2, hF2⟩, hd1, hF1⟩, hF, hE⟩ := hS.out
  refine Kd.R_append d (w0 := W) (W := W) 0 hgd s x t e z bytes ho ht hinfo hz hs0 hb0 v xs p cs (fun k => FA k ∨ FC k ∨ W.heap.size ≤ k) FC hs hx (hC _ hC0) (fun k hk => ⟨.inr (.inl hk), fun he => hd1 k (hR.1 k he.symm) ((hF2 k).2 (.inl hk))⟩)
    (fun k hk => .inr (.inr hk)) (Kd.R_mono hR fun k hk => .inl hk) (Below.refl _ _) (Nat.zero_le _) hl ?_
  intro v1 w1 hR1 _ hg _
  refine h v1 w1 (At.kd_grown (FC := FC) hR hltA hL (fun k h1 h2 => hd1 k h1 ((hF2 k).2 (.inr h2))) hd2 (fun k hk => hF k ((hF1 k).2 ?_)) hE hR1 hg)
  rcases hk with hk | hk | hk
  · exact .inl hk
  · exact .inr ((hF2 k).2 (.inl hk))
  · exact .inr ((hF2 k).2 (.inr hk))
theorem At.kd_at (n : Nat) (hS : At F0 w0 W (Hp.seps l)) (ha : l[n]? = some (hkd d e v xs)) : ∃ F, d.R e W 0 F v xs := by
  obtain ⟨F, hA, _⟩ := (hS.pick n ha).out
  obtain ⟨F1, F2, h1, _⟩ := hA
  exact ⟨F1, h1.1⟩
end
/-! nodes that are open -/
structure Fr where
  i : Nat
  x : S30
  A : Option Addr
  c : Nat
  B : Option Addr
  d : Nat
  C : Option Addr
  q : Nat
def nodC (o : Fr) : List Value := [.int .i64 o.x.f0, .int .i64 o.x.f1, .int .i64 o.x.f2, .string o.x.f3, .int .i64 o.x.f4.f0, .int .i64 o.x.f4.f1, .string o.x.f4.f2, .slice o.A o.x.f4.f3.length o.c, .slice o.B o.x.f5.length o.d, .slice o.C o.x.f6.length o.q]
/-- A node's expressions, of the call's own. -/
def hew (o : Fr) : Hp where
  H w F := (k27.R 27 w 0 F (.slice o.A o.x.f4.f3.length o.c) o.x.f4.f3 ∧ k27.R 27 w 0 F (.slice o.C o.x.f6.length o.q) o.x.f6) ∧ ∀ k, F k → k < w.heap.size
  lt h k hk := h.2 k hk
  move h hm := ⟨⟨Kd.R_move h.1.1 hm, Kd.R_move h.1.2 hm⟩, fun k hk => by
    have h1 := hm k hk
    have h2 := h.2 k hk
    rw [Array.getElem?_eq_getElem h2] at h1
    exact (Array.getElem?_eq_some_iff.1 h1).1⟩
def hki (o : Fr) : Hp := hkd k30 30 (.slice o.B o.x.f5.length o.d) o.x.f5
theorem fr_close (o : Fr) (w : World) (F : Nat → Prop) (h : ((hew o).sep (hki o)).H w F) : (hkm k30 o.x (nodC o)).H w F := by
  obtain ⟨F1, F2, ⟨⟨h1, h2⟩, h3⟩, ⟨h4, h5⟩, hd, hF⟩ := h
  refine ⟨k30_mkM w 0 F o.x (Kd.R_mono h1 fun k hk => (hF k).2 (.inl hk)) (Kd.R_mono h4 fun k hk => (hF k).2 (.inr hk)) (Kd.R_mono h2 fun k hk => (hF k).2 (.inl hk)), fun k hk => ?_⟩
  rcases (hF k).1 hk with hk | hk
  · exact h3 k hk
  · exact h5 k hk
section
variable {F0 : Nat → Prop} {w0 w : World} {l : List Hp}
theorem At.new_ew {w1 : World} {o : Fr} (h : At F0 w0 w (Hp.seps l)) (hb : Below w.heap.size w w1) (h1 : k27.R 27 w1 w.heap.size tt (.slice o.A o.x.f4.f3.length o.c) o.x.f4.f3) (h2 : k27.R 27 w1 w.heap.size tt (.slice o.C o.x.f6.length o.q) o.x.f6) : At F0 w0 w1 (Hp.seps (hew o :: l)) := by
  obtain ⟨F, hA, hF, hE⟩ := (h.below hb).out
  obtain ⟨F', hA', _, _⟩ := h.out
  have hlt := Hp.lt _ hA'
  obtain ⟨G, hG, hGF, hGE⟩ := h.out
  refine ⟨fun k => (w.heap.size ≤ k ∧ k < w1.heap.size) ∨ G k, ⟨_, G, ⟨⟨Kd.R_lower (Kd.R_mono (Kd.R_bound h1) fun k hk => ⟨hk.2.1, hk.2.2.1⟩) (Nat.zero_le _), Kd.R_lower (Kd.R_mono (Kd.R_bound h2) fun k hk => ⟨hk.2.1, hk.2.2.1⟩) (Nat.zero_le _)⟩, fun k hk => hk.2⟩, ?_, ?_, fun _ => Iff.rfl⟩, ?_, hE⟩
  · exact Hp.move _ hG fun k hk => hb.block k (Hp.lt _ hG k hk)
  · rintro k hk h2
    have := Hp.lt _ hG k h2
    omega
  · rintro k (hk | hk)
    · exact .inr (Nat.le_trans hGE.size hk.1)
    · exact hGF k hk
theorem At.new_kd {α : Type} (d : Kd α) (e : Nat) (h : At F0 w0 w (Hp.seps l)) : At F0 w0 w (Hp.seps (hkd d e (.slice none 0 0) [] :: l)) := by
  obtain ⟨F, hA, hF, hE⟩ := h.out
  exact ⟨F, ⟨fun _ => False, F, ⟨Kd.R_nil d e w 0 _, fun _ h => h.elim⟩, hA, fun _ h => h.elim, fun _ => by simp⟩, hF, hE⟩
theorem At.new_emp (h : At F0 w0 w (Hp.seps l)) : At F0 w0 w (Hp.seps (Hp.emp :: l)) := h.map fun _ _ h => Hp.emp_sep h
end
theorem At.front {F0 : Nat → Prop} {w0 w : World} {A : Hp} {l : List Hp} (n : Nat) (h : At F0 w0 w (Hp.seps l)) (ha : l[n]? = some A) : At F0 w0 w (Hp.seps (A :: l.eraseIdx n)) := h.pick n ha
theorem At.newAt {w0 w : World} {l : List Hp} {g t : Nat} {cs : Array Value} (n : Nat) (h : At (fun _ => False) w0 w (Hp.seps l)) (ha : l[n]? = some (Hp.blk g cs t)) : w0.heap.size ≤ g := by
  obtain ⟨F, ⟨F1, F2, h1, _, _, hF0⟩, hF, _⟩ := (h.pick n ha).out
  exact (hF g ((hF0 g).2 (.inl ((h1.2 g).2 rfl)))).elim (fun h => h.elim) id
def zE : S27 := ⟨0, 0, ⟨#[]⟩, []⟩
def zN : S30 := ⟨0, 0, 0, ⟨#[]⟩, zE, [], []⟩
theorem zN_M (w : World) (ok : Nat → Prop) : k30.M w 0 ok zN [.int .i64 0, .int .i64 0, .int .i64 0, .string ⟨#[]⟩, .int .i64 0, .int .i64 0, .string ⟨#[]⟩, .slice none 0 0, .slice none 0 0, .slice none 0 0] :=
  k30_mkM w 0 ok zN (Kd.R_nil k27 27 w 0 ok) (Kd.R_nil k30 30 w 0 ok) (Kd.R_nil k27 27 w 0 ok)
theorem infoN : (Try.prog.info? 30).map (fun i => (i.zero, i.size, i.bytes)) = some (some (.agg #[.int .i64 0, .int .i64 0, .int .i64 0, .string ⟨#[]⟩, .int .i64 0, .int .i64 0, .string ⟨#[]⟩, .slice none 0 0, .slice none 0 0, .slice none 0 0]), 10, 144) := by kernel_rfl
/-! what it is to put trees in -/
inductive Res where
  | out
  | err (c : Int)
  | ok (x : S30) (n : Nat)
inductive ResL where
  | out
  | err (c : Int)
  | ok (l : List S30) (n : Nat)
def kidsG (f : S30 → Nat → Res) : List S30 → List S30 → Nat → ResL
  | done, [], n => .ok done n
  | done, k :: ks, n => match f k n with
    | .out => .out
    | .err c => .err c
    | .ok y n1 => kidsG f (done ++ [y]) ks n1
def findT (L : List S32) (s : ByteArray) : Option S32 := L.find? (fun t => decide (t.f0.toList = s.toList))
def inS (op : List ByteArray) (s : ByteArray) : Bool := op.any fun o => decide (o.toList = s.toList)
def usedG (f : S30 → Nat → List ByteArray → Nat → Res) (L : List S32) (s : ByteArray) (d : Nat) (op : List ByteArray) (n : Nat) : Res :=
  match findT L s with
  | none => .err 5
  | some t => if inS op s = true then .err 8 else f t.f1 d (op ++ [s]) n
def nodeF (L : List S32) : Nat → S30 → Nat → List ByteArray → Nat → Res
  | 0, _, _, _, _ => .out
  | m + 1, x, d, op, n => if x.f0 = 10 then usedG (nodeF L m) L x.f3 d op n else
    if 40 < d then .err 4 else if 4000 < n + 1 then .err 9 else
    match kidsG (fun k n => nodeF L m k (d + 1) op n) [] x.f5 (n + 1) with
    | .out => .out
    | .err c => .err c
    | .ok l n1 => .ok { x with f5 := l } n1
def encS (s : ByteArray) : List Value := [.string s]
end Go.Proofs.Ytlkkibeoobognaa.OpenInlineTrees
