/- Kids: the places whose Parent is a place. -/
import Derived.Test.YtfgpdpccfpilaaaOrdFlatOrder
import Derived.Test.YtfgpdpccfpilaaaCBFlatOrder
set_option linter.unusedVariables false
namespace Go.Proofs.Ytfgpdpccfpilaaa.OpenFlatOrder
open Go.RowKit
open Go.Proofs.YtfgpdpccfpilaaaW.PrintWords Go.Proofs.YtfgpdpccfpilaaaW.PrintLast Go.Proofs.YtfgpdpccfpilaaaW.PrintMore Go.Proofs.Ytfgpdpccfpilaaa.PFlatOrder
def kidsOf (L : List S39) (a : Nat) : List Nat := (List.range L.length).filter (pars L a)
def kidI (l : List Nat) : List Int := List.map (fun (n : Nat) => (n : Int)) l
theorem rd_row (L : List S39) (i : Nat) (h : i < L.length) : rd_T39 L (i : Int) = L[i] := by
  unfold rd_T39
  rw [Int.toNat_natCast, List.getD_eq_getElem?_getD, List.getElem?_eq_getElem h]
  rfl
theorem kids_loop (L : List S39) (a : Nat) (hL : L.length ≤ 2097152) : ∀ (j i : Nat) (acc : List Int), i + j = L.length → acc.length ≤ i →
    Evt (fun k => flat_Kids.l0 k (a : Int) acc L (L.length : Int) (i : Int)) (acc ++ kidI ((List.range' i j).filter (pars L a)))
  | 0, i, acc, hi, hb => Evt.succ 0 fun k _ => by
    rw [flat_Kids.l0, if_neg (by omega)]; simp [kidI]
  | j + 1, i, acc, hi, hb => by
    have hlt : i < L.length := by omega
    have hg : L[i]? = some L[i] := List.getElem?_eq_getElem hlt
    by_cases hp : L[i].f4 = (a : Int)
    · obtain ⟨K, hK⟩ := kids_loop L a hL j (i + 1) (acc ++ [(i : Int)]) (by omega) (by rw [List.length_append, List.length_singleton]; omega)
      refine Evt.succ K fun k hk => ?_
      have e1 := hK k hk
      rw [flat_Kids.l0, if_pos (by omega), if_pos (by omega), if_pos (by omega), rd_row L i hlt, if_pos hp, if_pos (by omega), w64 _ (by omega) (by omega), show ((i : Int) + 1) = ((i + 1 : Nat) : Int) by omega]
      simp only [] at e1
      rw [e1, List.range'_succ, List.filter_cons_of_pos (pars_true hg hp)]
      simp [kidI]
    · obtain ⟨K, hK⟩ := kids_loop L a hL j (i + 1) acc (by omega) (by omega)
      refine Evt.succ K fun k hk => ?_
      have e1 := hK k hk
      rw [flat_Kids.l0, if_pos (by omega), if_pos (by omega), if_pos (by omega), rd_row L i hlt, if_neg hp, w64 _ (by omega) (by omega), show ((i : Int) + 1) = ((i + 1 : Nat) : Int) by omega]
      simp only [] at e1
      rw [e1, List.range'_succ, List.filter_cons_of_neg (by rw [pars_false fun r hr => by rw [hg] at hr; obtain rfl := Option.some.inj hr; exact hp]; simp)]
theorem kids_does (L : List S39) (a : Nat) (hL : L.length ≤ 2097152) (A : Option Addr) (c : Nat) (w : World) (hC : k39.C w A L.length L) (hc : L.length ≤ c) :
    Calls Try.prog 17 #[.slice A L.length c, .int .i64 a] w fun e w' => ∃ v, e = .returned v ∧ Kd.R (Kd.int .i64) 3 w' w.heap.size (fun _ => True) v (kidI (kidsOf L a)) ∧ Below w.heap.size w w' := by
  obtain ⟨K, hK⟩ := kids_loop L a hL L.length 0 [] (by omega) (Nat.le_refl _)
  have e := hK K (Nat.le_refl _)
  rw [List.nil_append, ← List.range_eq_range'] at e
  exact flat_Kids.calls K A c L (a : Int) _ w hC hc e
theorem big_does (x : S27) (hx : szN x ≤ 1048576) (A7 : Option Addr) (c7 : Nat) (A8 : Option Addr) (c8 : Nat) (A9 : Option Addr) (c9 : Nat) (w : World) (h : NodeIn w x A7 c7 A8 c8 A9 c9) :
    Calls Try.prog 8 #[nodeV x A7 c7 A8 c8 A9 c9, .int .i64 0] w fun e w' => e = .returned (.bool (bigN x 0)) ∧ Below w.heap.size w w' := by
  obtain ⟨K, hK⟩ := big_evt x 0 hx (by omega)
  exact puppeteerlaw14_Big.calls K _ _ _ _ _ _ _ A7 c7 _ A8 c8 _ A9 c9 _ _ _ w h.g7 h.l7 h.g8 h.l8 h.g9 h.l9 (hK K (Nat.le_refl _))
theorem count_does (x : S27) (hx : szN x ≤ 1048576) (A7 : Option Addr) (c7 : Nat) (A8 : Option Addr) (c8 : Nat) (A9 : Option Addr) (c9 : Nat) (w : World) (h : NodeIn w x A7 c7 A8 c8 A9 c9) :
    Calls Try.prog 9 #[nodeV x A7 c7 A8 c8 A9 c9] w fun e w' => e = .returned (.int .i64 (cntN x)) ∧ Below w.heap.size w w' := by
  obtain ⟨K, hK⟩ := count_evt x hx
  exact puppeteerref9_Count.calls K _ _ _ _ _ _ _ A7 c7 _ A8 c8 _ A9 c9 _ _ w h.g7 h.l7 h.g8 h.l8 h.g9 h.l9 (hK K (Nat.le_refl _))
end Go.Proofs.Ytfgpdpccfpilaaa.OpenFlatOrder
