/- BoundAdds, the plain law: true for every tree of bounded size. -/
import Derived.Test.YthnoehcbediboaaNumBoundAdds
set_option linter.unusedVariables false
namespace Go.Proofs.Ythnoehcbediboaa.OpenBoundAdds
open Go.RowKit
open Go.Proofs.YthnoehcbediboaaW.PrintWords Go.Proofs.YthnoehcbediboaaW.PrintLast Go.Proofs.YthnoehcbediboaaW.PrintMore Go.Proofs.Ythnoehcbediboaa.PBoundAdds
theorem adds_loop (x : S27) (hx : szN x ≤ 1048576) (c0 : Nat) (hc : c0 + stpNs x.f5 = stpN x) (hl : x.f5.length ≤ 2097152) (h : ∀ y ∈ x.f5, Evt (fun k => stepsF k y) (stpN y : Int)) : ∀ (j i acc : Nat), i + j = x.f5.length → acc + stpNs (x.f5.drop i) = stpN x → stpN x ≤ 1000000000 →
    Evt (fun k => puppeteerlaw23_BoundAdds.l0 k (acc : Int) (i : Int) x.f0 x.f1 x.f2 x.f3 x.f4.f0 x.f4.f1 x.f4.f2 x.f4.f3 x.f5 x.f6) true
  | 0, i, acc, hi, he, hb => by
    obtain ⟨K1, h1⟩ := steps_evt x hx
    obtain ⟨K2, h2⟩ := count_evt x hx
    refine Evt.succ (max K1 K2) fun k hk => ?_
    have e1 := h1 k (by omega)
    have e2 := h2 k (by omega)
    unfold stepsF at e1
    unfold countF at e2
    simp only [] at e1 e2
    rw [List.drop_of_length_le (by omega)] at he
    simp only [stpNs] at he
    have h3 := (stpN_le x).1
    rw [puppeteerlaw23_BoundAdds.l0, if_neg (by omega), e1, Option.bind_some, if_pos (by omega), e2, Option.bind_some, decide_eq_true (by omega)]
  | j + 1, i, acc, hi, he, hb => by
    have hlt : i < x.f5.length := by omega
    have hd : x.f5.drop i = x.f5[i] :: x.f5.drop (i + 1) := List.drop_eq_getElem_cons hlt
    rw [hd, stpNs] at he
    obtain ⟨K1, h1⟩ := h x.f5[i] (List.getElem_mem hlt)
    obtain ⟨K2, h2⟩ := adds_loop x hx c0 hc hl h j (i + 1) (acc + stpN x.f5[i]) (by omega) (by omega) hb
    refine Evt.succ (max K1 K2) fun k hk => ?_
    have e1 := h1 k (by omega)
    have e2 := h2 k (by omega)
    rw [puppeteerlaw23_BoundAdds.l0, if_pos (by omega), if_pos (by omega), rd_at x.f5 i hlt]
    unfold stepsF at e1
    simp only [] at e1 e2
    rw [e1, Option.bind_some, w64 _ (by omega) (by omega), w64 _ (by omega) (by omega)]
    rw [show ((acc : Int) + (stpN x.f5[i] : Int)) = ((acc + stpN x.f5[i] : Nat) : Int) by omega, show ((i : Int) + 1) = ((i + 1 : Nat) : Int) by omega, e2]
theorem adds_evt (x : S27) (hx : szN x ≤ 1048576) : ∃ k, puppeteerlaw23_BoundAdds.f k x.f0 x.f1 x.f2 x.f3 x.f4.f0 x.f4.f1 x.f4.f2 x.f4.f3 x.f5 x.f6 = some true := by
  obtain ⟨K0, h0⟩ := alive_evt
  obtain ⟨K1, h1⟩ := big_evt x 0 hx (by omega)
  obtain ⟨K2, h2⟩ := count_evt x hx
  have hst := stpN_le x
  have hcn := cntN_le x
  have hsub : ∃ c0, c0 + stpNs x.f5 = stpN x ∧ (c0 : Int) = (if x.f0 = 12 then 201 else 1) ∧ szNs x.f5 ≤ szN x := by
    obtain ⟨kd, a, b, s, e, l, ws⟩ := x
    refine ⟨if kd = 12 then 201 else 1, by simp only [stpN], by simp only []; split <;> rfl, by simp only [szN]; omega⟩
  obtain ⟨c0, hc, hc2, hsz⟩ := hsub
  have hlen := len_szNs x.f5
  obtain ⟨K3, h3⟩ := adds_loop x hx c0 hc (by omega) (steps_evts x.f5 (by omega)) x.f5.length 0 c0 (by omega) (by simpa using hc) (by omega)
  refine ⟨max K0 (max K1 (max K2 K3)) + 2, ?_⟩
  have e0 := h0 (max K0 (max K1 (max K2 K3)) + 2) (by omega)
  have e1 := h1 (max K0 (max K1 (max K2 K3)) + 2) (by omega)
  have e2 := h2 (max K0 (max K1 (max K2 K3)) + 2) (by omega)
  have e3 := h3 (max K0 (max K1 (max K2 K3))) (by omega)
  unfold bigF at e1
  unfold countF at e2
  simp only [Int.natCast_zero] at e0 e1 e2 e3
  unfold puppeteerlaw23_BoundAdds.f
  rw [e0, Option.bind_some, e1, Option.bind_some, if_pos rfl]
  cases bigN x 0 with
  | true => simp [puppeteerlaw23_BoundAdds.j0]
  | false =>
    rw [if_neg (by simp), e2, Option.bind_some]
    simp only [puppeteerlaw23_BoundAdds.j0]
    by_cases h300 : (cntN x : Int) > 300
    · rw [if_pos (by simpa using h300)]
    · rw [if_neg (by simpa using h300)]
      simp only [puppeteerlaw23_BoundAdds.j1]
      by_cases hk : x.f0 = 12
      · rw [if_pos hk] at hc2 ⊢
        rw [← hc2]; exact e3
      · rw [if_neg hk] at hc2 ⊢
        rw [← hc2]; exact e3
theorem adds_walk (v : Value) (x : S27) (w : World) (h : ∃ cs, v = .agg cs ∧ k27.K w x cs.toList ∧ szN x ≤ 1048576) : Calls Try.prog 5 #[v] w fun e w' => e = .returned (.bool true) ∧ Below w.heap.size w w' := by
  obtain ⟨cs, rfl, hK, hs⟩ := h
  obtain ⟨k, hk⟩ := adds_evt x hs
  obtain ⟨A7, c7, A8, c8, A9, c9, he, l7, g7, l8, g8, l9, g9⟩ := k27_open hK
  obtain ⟨csl⟩ := cs
  simp only at he
  subst he
  exact puppeteerlaw23_BoundAdds.calls k _ _ _ _ _ _ _ A7 c7 _ A8 c8 _ A9 c9 _ true w g7 l7 g8 l8 g9 l9 hk
end Go.Proofs.Ythnoehcbediboaa.OpenBoundAdds
