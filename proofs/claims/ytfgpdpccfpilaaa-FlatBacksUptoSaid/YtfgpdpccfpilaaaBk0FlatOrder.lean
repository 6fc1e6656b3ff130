/- Rows of printed kinds as assertions of a list; an append of one, and a store of a whole element. Plain; no condition. -/
import Derived.Test.YtfgpdpccfpilaaaNodeFlatOrder
set_option linter.unusedVariables false
namespace Go.Proofs.Ytfgpdpccfpilaaa.OpenFlatOrder
open Go.RowKit Go.Deep
open Go.Proofs.YtfgpdpccfpilaaaW.PrintWords Go.Proofs.YtfgpdpccfpilaaaW.PrintLast Go.Proofs.YtfgpdpccfpilaaaW.PrintMore Go.Proofs.Ytfgpdpccfpilaaa.PFlatOrder
section
variable {α : Type}
def hkd (d : Kd α) (e : Nat) (v : Value) (xs : List α) : Hp where
  H w F := d.R e w 0 F v xs ∧ ∀ k, F k → k < w.heap.size
  lt h k hk := h.2 k hk
  move h hm := ⟨Kd.R_move h.1 hm, fun k hk => by
    have h1 := hm k hk
    have h2 := h.2 k hk
    rw [Array.getElem?_eq_getElem h2] at h1
    exact (Array.getElem?_eq_some_iff.1 h1).1⟩
def hkm (d : Kd α) (p : α) (cs : List Value) : Hp where
  H w F := d.M w 0 F p cs ∧ ∀ k, F k → k < w.heap.size
  lt h k hk := h.2 k hk
  move h hm := ⟨d.M_move hm h.1, fun k hk => by
    have h1 := hm k hk
    have h2 := h.2 k hk
    rw [Array.getElem?_eq_getElem h2] at h1
    exact (Array.getElem?_eq_some_iff.1 h1).1⟩
end
theorem At.withEmp {F0 : Nat → Prop} {w0 w : World} {A : Hp} {l : List Hp} (h : At F0 w0 w (Hp.seps (A :: l))) : At F0 w0 w (Hp.seps (A :: Hp.emp :: l)) := h.map fun _ _ h => by
  obtain ⟨F1, F2, h1, h2, hd, hF⟩ := h
  exact ⟨F1, F2, h1, Hp.emp_sep h2, hd, hF⟩
section
variable {α : Type} {F0 : Nat → Prop} {w0 W : World} {l : List Hp} {d : Kd α} {e : Nat} {v : Value} {xs : List α} {C : Hp} {p : α} {cs : List Value}
theorem At.kd_grown {w1 : World} {v1 : Value} {ys : List α} {FA FC FL : Nat → Prop} (hR : d.R e W 0 FA v xs) (hltA : ∀ k, FA k → k < W.heap.size) (hL : (Hp.seps l).H W FL) (hdA : ∀ k, FA k → FL k → False) (hdC : ∀ k, FC k → FL k → False)
    (hF : ∀ k, FA k ∨ FC k ∨ FL k → F0 k ∨ w0.heap.size ≤ k) (hE : Evo w0 W F0) (hR1 : d.R e w1 0 (fun k => FA k ∨ FC k ∨ W.heap.size ≤ k) v1 ys) (hg : W.grownBy w1 v.ownBlock) : At F0 w0 w1 (Hp.seps (hkd d e v1 ys :: l)) := by
  have hb := Kd.R_bound hR1
  refine ⟨fun k => ((FA k ∨ FC k ∨ W.heap.size ≤ k) ∧ k < w1.heap.size) ∨ FL k, ⟨_, FL, ⟨Kd.R_mono hb fun k hk => ⟨hk.1, hk.2.2.1⟩, fun k hk => hk.2⟩, ?_, ?_, fun _ => Iff.rfl⟩, ?_, ?_⟩
  · exact Hp.move _ hL fun k hk => hg.block k (Hp.lt _ hL k hk) fun he => hdA k (hR.1 k he.symm) hk
  · rintro k ⟨h1 | h1 | h1, _⟩ h2
    · exact hdA k h1 h2
    · exact hdC k h1 h2
    · have := Hp.lt _ hL k h2; omega
  · rintro k (⟨h1 | h1 | h1, _⟩ | h1)
    · exact hF k (.inl h1)
    · exact hF k (.inr (.inl h1))
    · exact .inr (Nat.le_trans hE.size h1)
    · exact hF k (.inr (.inr h1))
  · exact hE.grown hg fun k hk => hF k (.inl (hR.1 k hk))
theorem At.kd_append_step {P : Program} {ops : Array Oper} {o : Oper} {a : Act} {Q : Exit → Act → World → Prop} {Kc : Act → World → Prop} (hS : At F0 w0 W (Hp.seps (hkd d e v xs :: C :: l))) (hC : ∀ F, C.H W F → d.M W 0 F p cs)
    (hw : Region.wanted o (yielded ops a.tmps) = true) (s x : Operand) (t : TypeId) (z : Value) (bytes : Nat)
    (ho : o.op = .call { callee := .builtin .append, args := #[s, x], argTypes := #[t, t] })
    (ht : P.underlying t = some (.slice e)) (hinfo : (P.info? e).map (fun i => (i.zero, i.size, i.bytes)) = some (some z, d.sz, bytes)) (hz : z.cells.size = d.sz) (hs0 : 0 < d.sz) (hb0 : 0 < bytes)
    (hs : a.eval s = v) (hx : a.eval x = .slice (some ⟨W.heap.size, 0, none⟩) 1 1) (hl : (xs.length + 1) * bytes ≤ 140737488355328)
    (h : ∀ v1 w1, At F0 w0 w1 (Hp.seps (hkd d e v1 (xs ++ [p]) :: l)) → Kc (a.put o.dst v1) w1) :
    if Region.wanted o (yielded ops a.tmps) = true then Oper.wp P o a (W.alloc (.cells cs.toArray e)) Kc Q else Kc (a.put o.dst undef) (W.alloc (.cells cs.toArray e)) := by
  obtain ⟨F, ⟨FA, FR, ⟨hR, hltA⟩, ⟨FC, FL, hC0, hL, hd2, hF2⟩, hd1, hF1⟩, hF, hE⟩ := hS.out
  refine Kd.R_append_step d (w0 := W) (W := W) 0 hw s x t e z bytes ho ht hinfo hz hs0 hb0 v xs p cs (fun k => FA k ∨ FC k ∨ W.heap.size ≤ k) FC hs hx (hC _ hC0) (fun k hk => ⟨.inr (.inl hk), fun he => hd1 k (hR.1 k he.symm) ((hF2 k).2 (.inl hk))⟩)
    (fun k hk => .inr (.inr hk)) (Kd.R_mono hR fun k hk => .inl hk) (Below.refl _ _) (Nat.zero_le _) hl ?_
  intro v1 w1 hR1 _ hg _
  refine h v1 w1 (At.kd_grown (FC := FC) hR hltA hL (fun k h1 h2 => hd1 k h1 ((hF2 k).2 (.inr h2))) hd2 (fun k hk => hF k ((hF1 k).2 ?_)) hE hR1 hg)
  rcases hk with hk | hk | hk
  · exact .inl hk
  · exact .inr ((hF2 k).2 (.inl hk))
  · exact .inr ((hF2 k).2 (.inr hk))
theorem At.kd_seg {g n cap : Nat} {z : α} (hS : At F0 w0 W (Hp.seps (hkd d e (.slice (some ⟨g, 0, none⟩) n cap) (xs ++ [z]) :: C :: l))) (hC : ∀ F, C.H W F → d.M W 0 F p cs) (hcs : cs.length = d.sz) :
    At F0 w0 (W.setCells g (xs.length * d.sz) cs) (Hp.seps (hkd d e (.slice (some ⟨g, 0, none⟩) n cap) (xs ++ [p]) :: l)) := by
  obtain ⟨F, ⟨FA, FR, ⟨hR, hltA⟩, ⟨FC, FL, hC0, hL, hd2, hF2⟩, hd1, hF1⟩, hF, hE⟩ := hS.out
  have hn := (Kd.R_reads' hR).1
  rw [List.length_append, List.length_singleton] at hn
  have hR2 : d.R e W 0 (fun k => FA k ∨ FC k ∨ W.heap.size ≤ k) (.slice (some ⟨g, 0, none⟩) n cap) (xs ++ [z]) := Kd.R_mono hR fun k hk => .inl hk
  obtain ⟨c, hcl, hM, hc, hf⟩ := Kd.R_elem hR2 z (xs.length : Int) (by omega) (by omega)
  have hs := Kd.R_seg hR2 (xs.length : Int) (by omega) (by omega) (seg := cs) (j := 0) (x' := p) (okp := FC) hcl hc (by omega)
    (by
      rw [List.take_zero, List.nil_append, List.drop_of_length_le (by omega), List.append_nil]
      exact hC _ hC0) (fun k hk => ⟨.inr (.inl hk), fun he => hd1 k (hR.1 k (by rw [he]; rfl)) ((hF2 k).2 (.inl hk))⟩)
  rw [Int.toNat_natCast, Nat.add_zero, List.set_append_right _ _ (Nat.le_refl _), Nat.sub_self, List.set_cons_zero] at hs
  refine At.kd_grown (v := .slice (some ⟨g, 0, none⟩) n cap) (FC := FC) hR hltA hL (fun k h1 h2 => hd1 k h1 ((hF2 k).2 (.inr h2))) hd2 (fun k hk => hF k ((hF1 k).2 ?_)) hE hs.1 hs.2
  rcases hk with hk | hk | hk
  · exact .inl hk
  · exact .inr ((hF2 k).2 (.inl hk))
  · exact .inr ((hF2 k).2 (.inr hk))
theorem At.kd_at (n : Nat) (hS : At F0 w0 W (Hp.seps l)) (ha : l[n]? = some (hkd d e v xs)) : ∃ F, d.R e W 0 F v xs := by
  obtain ⟨F, hA, _⟩ := (hS.pick n ha).out
  obtain ⟨F1, F2, h1, _⟩ := hA
  exact ⟨F1, h1.1⟩
end
/-! nodes that are open -/
structure Fr where
  i : Nat
  x : S27
  A : Option Addr
  c : Nat
  B : Option Addr
  d : Nat
  C : Option Addr
  q : Nat
def nodC (o : Fr) : List Value := [.int .i64 o.x.f0, .int .i64 o.x.f1, .int .i64 o.x.f2, .string o.x.f3, .int .i64 o.x.f4.f0, .int .i64 o.x.f4.f1, .string o.x.f4.f2, .slice o.A o.x.f4.f3.length o.c, .slice o.B o.x.f5.length o.d, .slice o.C o.x.f6.length o.q]
def encF (o : Fr) : List Value := [.int .i64 o.i, .int .i64 o.x.f0, .int .i64 o.x.f1, .int .i64 o.x.f2, .string o.x.f3, .int .i64 o.x.f4.f0, .int .i64 o.x.f4.f1, .string o.x.f4.f2, .slice o.A o.x.f4.f3.length o.c, .slice o.B o.x.f5.length o.d, .slice o.C o.x.f6.length o.q]
theorem encF_len (o : Fr) : (encF o).length = 11 := rfl
theorem one_F (o : Fr) : ∀ u ∈ encF o, u.oneCell' = true := by
  intro u hu
  simp only [encF, List.mem_cons, List.not_mem_nil, or_false] at hu
  rcases hu with rfl | rfl | rfl | rfl | rfl | rfl | rfl | rfl | rfl | rfl | rfl <;> rfl
/-- A node's expressions, of the call's own. -/
def hew (o : Fr) : Hp where
  H w F := (k24.R 24 w 0 F (.slice o.A o.x.f4.f3.length o.c) o.x.f4.f3 ∧ k24.R 24 w 0 F (.slice o.C o.x.f6.length o.q) o.x.f6) ∧ ∀ k, F k → k < w.heap.size
  lt h k hk := h.2 k hk
  move h hm := ⟨⟨Kd.R_move h.1.1 hm, Kd.R_move h.1.2 hm⟩, fun k hk => by
    have h1 := hm k hk
    have h2 := h.2 k hk
    rw [Array.getElem?_eq_getElem h2] at h1
    exact (Array.getElem?_eq_some_iff.1 h1).1⟩
def hki (o : Fr) : Hp := hkd k27 27 (.slice o.B o.x.f5.length o.d) o.x.f5
theorem fr_close (o : Fr) (w : World) (F : Nat → Prop) (h : ((hew o).sep (hki o)).H w F) : (hkm k27 o.x (nodC o)).H w F := by
  obtain ⟨F1, F2, ⟨⟨h1, h2⟩, h3⟩, ⟨h4, h5⟩, hd, hF⟩ := h
  refine ⟨k27_mkM w 0 F o.x (Kd.R_mono h1 fun k hk => (hF k).2 (.inl hk)) (Kd.R_mono h4 fun k hk => (hF k).2 (.inr hk)) (Kd.R_mono h2 fun k hk => (hF k).2 (.inl hk)), fun k hk => ?_⟩
  rcases (hF k).1 hk with hk | hk
  · exact h3 k hk
  · exact h5 k hk
end Go.Proofs.Ytfgpdpccfpilaaa.OpenFlatOrder
