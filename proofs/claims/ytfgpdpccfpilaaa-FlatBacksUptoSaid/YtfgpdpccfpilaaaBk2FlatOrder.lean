/- The machine that puts a flat list back, in plain words; gotos in a scope; the open nodes in memory. -/
import Derived.Test.YtfgpdpccfpilaaaBk1FlatOrder
import Derived.ScopeJumps
set_option linter.unusedVariables false
namespace Go.Proofs.Ytfgpdpccfpilaaa.OpenFlatOrder
open Go.RowKit Go.Deep
open Go.Proofs.YtfgpdpccfpilaaaW.PrintWords Go.Proofs.YtfgpdpccfpilaaaW.PrintLast Go.Proofs.YtfgpdpccfpilaaaW.PrintMore Go.Proofs.Ytfgpdpccfpilaaa.PFlatOrder
/-! gotos -/
def Gj (J : Nat → Nat → Act → World → Prop) (n : Nat) (Q : Exit → Act → World → Prop) : Exit → Act → World → Prop
  | .goto l, a, w => ∃ m, m < n ∧ J l m a w
  | e, a, w => Q e a w
theorem gj_ret {J : Nat → Nat → Act → World → Prop} {n : Nat} {Q : Exit → Act → World → Prop} {a : Act} {w : World} : Gj J n Q .ret a w = Q .ret a w := rfl
theorem wp_scope_gotos {P : Program} {c : Code} {Q : Exit → Act → World → Prop} {a : Act} {w : World} (J : Nat → Nat → Act → World → Prop) (N : Nat) (first : c.wp P (Gj J N Q) a w)
    (pass : ∀ l n a w, J l n a w → ∃ rest, findLabel c l = some rest ∧ rest.wp P (Gj J n Q) a w) : (Code.scope c).wp P Q a w := by
  intro b k cs
  have key : ∀ n l a w, J l n a w → ∃ rest, findLabel c l = some rest ∧ ∃ e a' w', Q e a' w' ∧ Arrives P (lone (b.at a (.code rest :: .inScope c :: k)) cs w) b k cs e a' w' := by
    intro n
    induction n using Nat.strongRecOn with
    | _ n ih =>
      intro l a w hJ
      obtain ⟨rest, hf, hw⟩ := pass l n a w hJ
      refine ⟨rest, hf, ?_⟩
      obtain ⟨e, a₁, w₁, hq, harr⟩ := hw b (.inScope c :: k) cs
      cases e with
      | normal => exact ⟨.normal, a₁, w₁, hq, Steps.trans harr (.one step_inScope)⟩
      | exit id => exact ⟨.exit id, a₁, w₁, hq, fun k' hk => harr k' (by simp [exitTo, hk])⟩
      | goto l' =>
        obtain ⟨m, hlt, hJ'⟩ := hq
        obtain ⟨rest', hf', e₂, a₂, w₂, hq₂, harr₂⟩ := ih m hlt l' a₁ w₁ hJ'
        have hg : gotoIn l' (.inScope c :: k) = some (.code rest' :: .inScope c :: k) := by simp [gotoIn, hf']
        exact ⟨e₂, a₂, w₂, hq₂, .of_steps (harr _ hg) harr₂⟩
      | ret => exact ⟨_, a₁, w₁, hq, harr⟩
      | panic ch => exact ⟨_, a₁, w₁, hq, harr⟩
      | outgrown => exact ⟨_, a₁, w₁, hq, harr⟩
  obtain ⟨e, a₁, w₁, hq, harr⟩ := first b (.inScope c :: k) cs
  cases e with
  | normal => exact ⟨.normal, a₁, w₁, hq, .head step_scope (Steps.trans harr (.one step_inScope))⟩
  | exit id => exact ⟨.exit id, a₁, w₁, hq, fun k' hk => .head step_scope (harr k' (by simp [exitTo, hk]))⟩
  | goto l' =>
    obtain ⟨m, _, hJ'⟩ := hq
    obtain ⟨rest', hf', e₂, a₂, w₂, hq₂, harr₂⟩ := key m l' a₁ w₁ hJ'
    have hg : gotoIn l' (.inScope c :: k) = some (.code rest' :: .inScope c :: k) := by simp [gotoIn, hf']
    exact ⟨e₂, a₂, w₂, hq₂, .of_steps (.head step_scope (harr _ hg)) harr₂⟩
  | ret => exact ⟨_, a₁, w₁, hq, .of_steps (.one step_scope) harr⟩
  | panic ch => exact ⟨_, a₁, w₁, hq, .of_steps (.one step_scope) harr⟩
  | outgrown => exact ⟨_, a₁, w₁, hq, .of_steps (.one step_scope) harr⟩
/-! the machine -/
abbrev Stk := List (Nat × S27)
def nodeOf (y : S39) : S27 := ⟨y.f0, y.f1, y.f2, y.f5, y.f6, [], y.f7⟩
def addK (b t : S27) : S27 := { b with f5 := b.f5 ++ [t] }
def endI (l : List S39) (i : Nat) : Int := match l[i]? with
  | some y => y.f3
  | none => 0
def popw (l : List S39) (at_ : Nat) : Nat → Stk → Stk
  | 0, s => s
  | k + 1, (i, t) :: (j, b) :: r => if endI l i = (at_ : Int) then popw l at_ k ((j, addK b t) :: r) else (i, t) :: (j, b) :: r
  | k + 1, s => s
def topI : Stk → Int
  | [] => -1
  | (i, _) :: _ => (i : Int)
def bad1 (l : List S39) (at_ : Nat) (y : S39) (S : Stk) : Bool := (y.f4 != topI S) || (decide (y.f3 ≤ (at_ : Int)) || (decide ((l.length : Int) < y.f3) || (decide (topI S < 0) && decide ((0 : Int) < (at_ : Int)))))
def bad2 (l : List S39) (y : S39) (S : Stk) : Bool := match S with
  | [] => false
  | (i, _) :: _ => decide (endI l i < y.f3)
def stepB (l : List S39) (at_ : Nat) (S : Stk) : Option Stk := match l[at_]? with
  | none => none
  | some y => if bad1 l at_ y S then none else if bad2 l y S then none else some (popw l (at_ + 1) (S.length + 1) ((at_, nodeOf y) :: S))
def runB (l : List S39) : Nat → Option Stk
  | 0 => some []
  | k + 1 => (runB l k).bind (stepB l k)
def backB (l : List S39) : Option S27 := match runB l l.length with
  | some [(_, x)] => if endI l 0 = (l.length : Int) then some x else none
  | _ => none
theorem runB_none (l : List S39) (k : Nat) (h : runB l k = none) : ∀ j, runB l (k + j) = none
  | 0 => h
  | j + 1 => by rw [← Nat.add_assoc, runB, runB_none l k h j]; rfl
theorem backB_none (l : List S39) (k : Nat) (hk : k ≤ l.length) (h : runB l k = none) : backB l = none := by
  have h2 := runB_none l k h (l.length - k)
  rw [show k + (l.length - k) = l.length by omega] at h2
  unfold backB
  rw [h2]
def tot : Stk → Nat
  | [] => 0
  | (_, x) :: r => 1 + x.f5.length + tot r
/-! the open nodes in memory: the last one first -/
def frs : List Fr → Hp
  | [] => Hp.emp
  | o :: r => (hew o).sep ((hki o).sep (frs r))
def absF (fs : List Fr) : Stk := fs.map fun o => (o.i, o.x)
theorem absF_len (fs : List Fr) : (absF fs).length = fs.length := by simp [absF]
section
variable {F0 : Nat → Prop} {w0 w : World} {l : List Hp}
theorem At.frs_open {o : Fr} {r : List Fr} (h : At F0 w0 w (Hp.seps (frs (o :: r) :: l))) : At F0 w0 w (Hp.seps (hew o :: hki o :: frs r :: l)) := h.map fun _ _ h => by
  have h1 := Hp.assoc h
  obtain ⟨F1, F2, h2, h3, hd, hF⟩ := h1
  exact ⟨F1, F2, h2, Hp.assoc h3, hd, hF⟩
theorem At.frs_close {o : Fr} {r : List Fr} (h : At F0 w0 w (Hp.seps (hew o :: hki o :: frs r :: l))) : At F0 w0 w (Hp.seps (frs (o :: r) :: l)) := h.map fun _ _ h => by
  obtain ⟨F1, F2, h2, h3, hd, hF⟩ := h
  exact Hp.assoc' ⟨F1, F2, h2, Hp.assoc' h3, hd, hF⟩
theorem At.new_ew {w1 : World} {o : Fr} (h : At F0 w0 w (Hp.seps l)) (hb : Below w.heap.size w w1) (h1 : k24.R 24 w1 w.heap.size tt (.slice o.A o.x.f4.f3.length o.c) o.x.f4.f3) (h2 : k24.R 24 w1 w.heap.size tt (.slice o.C o.x.f6.length o.q) o.x.f6) : At F0 w0 w1 (Hp.seps (hew o :: l)) := by
  obtain ⟨F, hA, hF, hE⟩ := (h.below hb).out
  obtain ⟨F', hA', _, _⟩ := h.out
  have hlt := Hp.lt _ hA'
  obtain ⟨G, hG, hGF, hGE⟩ := h.out
  refine ⟨fun k => (w.heap.size ≤ k ∧ k < w1.heap.size) ∨ G k, ⟨_, G, ⟨⟨Kd.R_lower (Kd.R_mono (Kd.R_bound h1) fun k hk => ⟨hk.2.1, hk.2.2.1⟩) (Nat.zero_le _), Kd.R_lower (Kd.R_mono (Kd.R_bound h2) fun k hk => ⟨hk.2.1, hk.2.2.1⟩) (Nat.zero_le _)⟩, fun k hk => hk.2⟩, ?_, ?_, fun _ => Iff.rfl⟩, ?_, hE⟩
  · exact Hp.move _ hG fun k hk => hb.block k (Hp.lt _ hG k hk)
  · rintro k hk h2
    have := Hp.lt _ hG k h2
    omega
  · rintro k (hk | hk)
    · exact .inr (Nat.le_trans hGE.size hk.1)
    · exact hGF k hk
theorem At.new_kd {α : Type} (d : Kd α) (e : Nat) (h : At F0 w0 w (Hp.seps l)) : At F0 w0 w (Hp.seps (hkd d e (.slice none 0 0) [] :: l)) := by
  obtain ⟨F, hA, hF, hE⟩ := h.out
  exact ⟨F, ⟨fun _ => False, F, ⟨Kd.R_nil d e w 0 _, fun _ h => h.elim⟩, hA, fun _ h => h.elim, fun _ => by simp⟩, hF, hE⟩
theorem At.new_emp (h : At F0 w0 w (Hp.seps l)) : At F0 w0 w (Hp.seps (Hp.emp :: l)) := h.map fun _ _ h => Hp.emp_sep h
end
end Go.Proofs.Ytfgpdpccfpilaaa.OpenFlatOrder
