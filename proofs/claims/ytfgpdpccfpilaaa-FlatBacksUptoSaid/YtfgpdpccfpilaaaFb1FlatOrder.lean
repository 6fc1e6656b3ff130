/- A node that was put together from a list's rows, in memory: its Kids are of the call's own, its expressions are the list's. -/
import Derived.Test.YtfgpdpccfpilaaaFb0FlatOrder
set_option linter.unusedVariables false
set_option linter.unusedSimpArgs false
namespace Go.Proofs.Ytfgpdpccfpilaaa.OpenFlatOrder
open Go.RowKit Go.Deep
open Go.Proofs.YtfgpdpccfpilaaaW.PrintWords Go.Proofs.YtfgpdpccfpilaaaW.PrintLast Go.Proofs.YtfgpdpccfpilaaaW.PrintMore Go.Proofs.Ytfgpdpccfpilaaa.PFlatOrder
structure GoodX (wb : World) (o : Fr) : Prop where
  l7 : o.x.f4.f3.length ≤ o.c
  g7 : k24.C wb o.A o.x.f4.f3.length o.x.f4.f3
  l9 : o.x.f6.length ≤ o.q
  g9 : k24.C wb o.C o.x.f6.length o.x.f6
def hAll (f : Fr → Hp) : List Fr → Hp
  | [] => Hp.emp
  | k :: ks => (f k).sep (hAll f ks)
def hkN : Nat → World → Fr → Hp
  | 0, _, _ => Hp.pr False
  | n + 1, wb, o => Hp.ex fun ks : List Fr => Hp.seps [Hp.pr (ks.map (·.x) = o.x.f5 ∧ GoodX wb o), Hp.row 27 10 nodC (.slice o.B o.x.f5.length o.d) ks, hAll (hkN n wb) ks]
theorem nodC_len (o : Fr) : (nodC o).length = 10 := rfl
theorem one_nodC (o : Fr) : ∀ u ∈ nodC o, u.oneCell' = true := by
  intro u hu
  simp only [nodC, List.mem_cons, List.not_mem_nil, or_false] at hu
  rcases hu with rfl | rfl | rfl | rfl | rfl | rfl | rfl | rfl | rfl | rfl <;> rfl
theorem hAll_snoc (f : Fr → Hp) {w : World} : ∀ (ks : List Fr) (k : Fr) (F : Nat → Prop), ((hAll f ks).sep (f k)).H w F → (hAll f (ks ++ [k])).H w F
  | [], k, F, h => Hp.comm h
  | a :: ks, k, F, h => by
    have h1 := Hp.assoc h
    exact Hp.imp h1 fun F' h' => hAll_snoc f ks k F' h'
theorem hAll_each (f : Fr → Hp) {w : World} : ∀ (ks : List Fr) (F : Nat → Prop), (hAll f ks).H w F → ∀ k ∈ ks, ∃ F', (f k).H w F'
  | [], F, h, k, hk => by simp at hk
  | a :: ks, F, h, k, hk => by
    obtain ⟨F1, F2, h1, h2, _, _⟩ := h
    rcases List.mem_cons.1 hk with rfl | hk
    · exact ⟨F1, h1⟩
    · exact hAll_each f ks F2 h2 k hk
theorem row_C27 {w : World} {v : Value} {ks : List Fr} (h : Rw w 27 10 nodC v ks) (hg : ∀ k ∈ ks, k27.K w k.x (nodC k)) : ∃ A c, v = .slice A ks.length c ∧ ks.length ≤ c ∧ k27.C w A (ks.map (·.x)).length (ks.map (·.x)) := by
  obtain ⟨A, c, rfl, h1, h2⟩ := h.shape
  refine ⟨A, c, rfl, h1, rfl, by rw [List.length_map]; exact h2, fun hn => ?_⟩
  rw [List.length_map] at hn
  obtain ⟨g, e, _, _⟩ := h.cell nodC_len 0 ks[0] (List.getElem?_eq_getElem hn)
  subst e
  refine ⟨_, rfl, fun j p hj => ?_⟩
  rw [List.getElem?_map] at hj
  obtain ⟨o, ho, rfl⟩ := Option.map_eq_some_iff.1 hj
  obtain ⟨g', e, _, hc⟩ := h.cell nodC_len j o ho
  injection e with e; injection e with e; subst e
  refine ⟨nodC o, rfl, hg o (List.mem_of_getElem? ho), fun i u hu => ?_⟩
  have hi : i < 10 := (List.getElem?_eq_some_iff.1 hu).1
  rw [Addr.add_lit, Nat.zero_add]
  exact (hc i hi).1.trans hu
theorem hkN_K : ∀ (n : Nat) (wb w : World) (o : Fr) (F : Nat → Prop), Below wb.heap.size wb w → (hkN n wb o).H w F → k27.K w o.x (nodC o)
  | 0, wb, w, o, F, hb, h => (h.1).elim
  | n + 1, wb, w, o, F, hb, ⟨ks, h⟩ => by
    obtain ⟨F1, F2, ⟨⟨hks, hg⟩, _⟩, ⟨F3, F4, hrow, ⟨F5, F6, hall, _, _, _⟩, _, _⟩, _, _⟩ := h
    have hK : ∀ k ∈ ks, k27.K w k.x (nodC k) := fun k hk => by
      obtain ⟨F', h'⟩ := hAll_each _ ks F5 hall k hk
      exact hkN_K n wb w k F' hb h'
    obtain ⟨A, c, he, hc, hC⟩ := row_C27 hrow.1 hK
    rw [hks] at hC
    have hl : ks.length = o.x.f5.length := by rw [← hks, List.length_map]
    injection he with h1 h2 h3
    rw [hl] at hc
    have hB : k27.C w o.B o.x.f5.length o.x.f5 := by rw [h1]; exact hC
    exact k27_mk w o.x hg.l7 (Kd.C_below hg.g7 hb) (by rw [h3]; exact hc) hB hg.l9 (Kd.C_below hg.g9 hb)
end Go.Proofs.Ytfgpdpccfpilaaa.OpenFlatOrder
