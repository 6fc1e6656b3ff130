/- What the reference's Count and Depth and the law's Big tell. -/
import Derived.Test.YtlkkibeoobognaaInCInlineTrees
set_option linter.unusedVariables false
set_option maxRecDepth 100000
namespace Go.Proofs.Ytlkkibeoobognaa.OpenInlineTrees
open Go.RowKit
open Go.Proofs.YtlkkibeoobognaaW.PrintWords Go.Proofs.YtlkkibeoobognaaW.PrintLast Go.Proofs.YtlkkibeoobognaaW.PrintMore Go.Proofs.Ytlkkibeoobognaa.PInlineTrees
/-! Count -/
def countF (k : Nat) (x : S30) : Option Int := puppeteerref9_Count.f k x.f0 x.f1 x.f2 x.f3 x.f4.f0 x.f4.f1 x.f4.f2 x.f4.f3 x.f5 x.f6
theorem count_loop (a0 a1 a2 : Int) (a3 : ByteArray) (a4 a5 : Int) (a6 : ByteArray) (a7 a9 : List S27) (l : List S30) (hl : l.length ≤ 2097152) (h : ∀ x ∈ l, Evt (fun k => countF k x) (cntN x : Int)) : ∀ (j i acc : Nat), i + j = l.length → acc + cntNs (l.drop i) ≤ 1000000000 →
    Evt (fun k => puppeteerref9_Count.l0 k (acc : Int) (i : Int) a0 a1 a2 a3 a4 a5 a6 a7 l a9) ((acc + cntNs (l.drop i) : Nat) : Int)
  | 0, i, acc, hi, hb => Evt.succ 0 fun k _ => by
    rw [puppeteerref9_Count.l0, if_neg (by omega), List.drop_of_length_le (by omega)]; simp [cntNs]
  | j + 1, i, acc, hi, hb => by
    have hlt : i < l.length := by omega
    have hd : l.drop i = l[i] :: l.drop (i + 1) := List.drop_eq_getElem_cons hlt
    rw [hd, cntNs] at hb
    obtain ⟨K1, h1⟩ := h l[i] (List.getElem_mem hlt)
    obtain ⟨K2, h2⟩ := count_loop a0 a1 a2 a3 a4 a5 a6 a7 a9 l hl h j (i + 1) (acc + cntN l[i]) (by omega) (by omega)
    refine Evt.succ (max K1 K2) fun k hk => ?_
    have e1 := h1 k (by omega)
    have e2 := h2 k (by omega)
    rw [puppeteerref9_Count.l0, if_pos (by omega), if_pos (by omega), rd_at l i hlt]
    unfold countF at e1
    simp only [] at e1 e2
    rw [e1, Option.bind_some, w64 _ (by omega) (by omega), w64 _ (by omega) (by omega), hd, cntNs]
    rw [show ((acc : Int) + (cntN l[i] : Int)) = ((acc + cntN l[i] : Nat) : Int) by omega, show ((i : Int) + 1) = ((i + 1 : Nat) : Int) by omega, e2]
    congr 2; omega
mutual
theorem count_evt : ∀ x : S30, cntN x ≤ 2000000 → Evt (fun k => countF k x) (cntN x : Int)
  | ⟨kd, a, b, s, e, l, ws⟩, hs => by
    rw [cntN] at hs
    have h3 := len_cntNs l
    obtain ⟨K, hK⟩ := count_loop kd a b s e.f0 e.f1 e.f2 e.f3 ws l (by omega) (count_evts l (by omega)) l.length 0 1 (by omega) (by simp only [List.drop_zero]; omega)
    refine Evt.succ K fun k hk => ?_
    have e1 := hK k (by omega)
    simp only [List.drop_zero] at e1
    simp only [countF, puppeteerref9_Count.f, cntN]
    refine e1.trans ?_
    congr 2; omega
theorem count_evts : ∀ l : List S30, cntNs l ≤ 2000000 → ∀ x ∈ l, Evt (fun k => countF k x) (cntN x : Int)
  | [], _, x, hx => by simp at hx
  | y :: l, hs, x, hx => by
    rw [cntNs] at hs
    rcases List.mem_cons.1 hx with e | e
    · rw [e]; exact count_evt y (by omega)
    · exact count_evts l (by omega) x e
end
/-! Depth -/
def depthF (k : Nat) (x : S30) : Option Int := puppeteerref9_Depth.f k x.f0 x.f1 x.f2 x.f3 x.f4.f0 x.f4.f1 x.f4.f2 x.f4.f3 x.f5 x.f6
theorem depth_loop (a0 a1 a2 : Int) (a3 : ByteArray) (a4 a5 : Int) (a6 : ByteArray) (a7 a9 : List S27) (l : List S30) (hl : l.length ≤ 2097152) (h : ∀ x ∈ l, Evt (fun k => depthF k x) (depN x : Int)) : ∀ (j i acc : Nat), i + j = l.length → max acc (depNs (l.drop i)) ≤ 1000000000 →
    Evt (fun k => puppeteerref9_Depth.l0 k (acc : Int) (i : Int) a0 a1 a2 a3 a4 a5 a6 a7 l a9) ((max acc (depNs (l.drop i)) + 1 : Nat) : Int)
  | 0, i, acc, hi, hb => Evt.succ 0 fun k _ => by
    rw [List.drop_of_length_le (by omega), depNs] at hb ⊢
    rw [puppeteerref9_Depth.l0, if_neg (by omega), w64 _ (by omega) (by omega)]
    congr 1; omega
  | j + 1, i, acc, hi, hb => by
    have hlt : i < l.length := by omega
    have hd : l.drop i = l[i] :: l.drop (i + 1) := List.drop_eq_getElem_cons hlt
    rw [hd, depNs] at hb
    obtain ⟨K1, h1⟩ := h l[i] (List.getElem_mem hlt)
    obtain ⟨K2, h2⟩ := depth_loop a0 a1 a2 a3 a4 a5 a6 a7 a9 l hl h j (i + 1) (max acc (depN l[i])) (by omega) (by omega)
    refine Evt.succ (max K1 K2) fun k hk => ?_
    have e1 := h1 k (by omega)
    have e2 := h2 k (by omega)
    rw [puppeteerref9_Depth.l0, if_pos (by omega), if_pos (by omega), rd_at l i hlt]
    unfold depthF at e1
    simp only [] at e1 e2
    rw [e1, Option.bind_some, w64 ((i : Int) + 1) (by omega) (by omega), hd, depNs, show ((i : Int) + 1) = ((i + 1 : Nat) : Int) by omega]
    by_cases hg : (depN l[i] : Int) > (acc : Int)
    · rw [if_pos hg]
      rw [show max acc (depN l[i]) = depN l[i] by omega] at e2
      rw [e2]; congr 2; omega
    · rw [if_neg hg]
      rw [show max acc (depN l[i]) = acc by omega] at e2
      rw [e2]; congr 2; omega
mutual
theorem depth_evt : ∀ x : S30, cntN x ≤ 2000000 → Evt (fun k => depthF k x) (depN x : Int)
  | ⟨kd, a, b, s, e, l, ws⟩, hs => by
    rw [cntN] at hs
    have h3 := len_cntNs l
    have h4 := dep_cnts l
    obtain ⟨K, hK⟩ := depth_loop kd a b s e.f0 e.f1 e.f2 e.f3 ws l (by omega) (depth_evts l (by omega)) l.length 0 0 (by omega) (by simp only [List.drop_zero]; omega)
    refine Evt.succ K fun k hk => ?_
    have e1 := hK k (by omega)
    simp only [List.drop_zero] at e1
    simp only [depthF, puppeteerref9_Depth.f, depN]
    exact e1.trans (by first | rfl | (congr 2; omega))
theorem depth_evts : ∀ l : List S30, cntNs l ≤ 2000000 → ∀ x ∈ l, Evt (fun k => depthF k x) (depN x : Int)
  | [], _, x, hx => by simp at hx
  | y :: l, hs, x, hx => by
    rw [cntNs] at hs
    rcases List.mem_cons.1 hx with e | e
    · rw [e]; exact depth_evt y (by omega)
    · exact depth_evts l (by omega) x e
end
/-! Big -/
def bigF (k : Nat) (x : S30) (d : Int) : Option Bool := puppeteerlaw14_Big.f k x.f0 x.f1 x.f2 x.f3 x.f4.f0 x.f4.f1 x.f4.f2 x.f4.f3 x.f5 x.f6 d
mutual
def bigN : S30 → Nat → Bool
  | ⟨_, _, _, _, _, l, _⟩, d => decide (45 < d) || (decide (20 < l.length) || bigNs l (d + 1))
def bigNs : List S30 → Nat → Bool
  | [], _ => false
  | x :: l, d => bigN x d || bigNs l d
end
theorem big_loop (a0 a1 a2 : Int) (a3 : ByteArray) (a4 a5 : Int) (a6 : ByteArray) (a7 a9 : List S27) (l : List S30) (hl : l.length ≤ 2097152) (d : Nat) (hd45 : d ≤ 45) (h : ∀ x ∈ l, Evt (fun k => bigF k x ((d + 1 : Nat) : Int)) (bigN x (d + 1))) : ∀ (j i : Nat), i + j = l.length →
    Evt (fun k => puppeteerlaw14_Big.l0 k (d : Int) (i : Int) a0 a1 a2 a3 a4 a5 a6 a7 l a9) (bigNs (l.drop i) (d + 1))
  | 0, i, hi => Evt.succ 0 fun k _ => by
    rw [puppeteerlaw14_Big.l0, if_neg (by omega), List.drop_of_length_le (by omega)]; simp [bigNs]
  | j + 1, i, hi => by
    have hlt : i < l.length := by omega
    have hd : l.drop i = l[i] :: l.drop (i + 1) := List.drop_eq_getElem_cons hlt
    obtain ⟨K1, h1⟩ := h l[i] (List.getElem_mem hlt)
    obtain ⟨K2, h2⟩ := big_loop a0 a1 a2 a3 a4 a5 a6 a7 a9 l hl d hd45 h j (i + 1) (by omega)
    refine Evt.succ (max K1 K2) fun k hk => ?_
    have e1 := h1 k (by omega)
    have e2 := h2 k (by omega)
    rw [puppeteerlaw14_Big.l0, if_pos (by omega), if_pos (by omega), rd_at l i hlt, w64 _ (by omega) (by omega)]
    unfold bigF at e1
    simp only [] at e1 e2
    rw [show ((d : Int) + 1) = ((d + 1 : Nat) : Int) by omega, e1, Option.bind_some, w64 _ (by omega) (by omega), hd, bigNs, show ((i : Int) + 1) = ((i + 1 : Nat) : Int) by omega]
    cases hb : bigN l[i] (d + 1) with
    | true => simp
    | false => simpa using e2
mutual
theorem big_evt : ∀ (x : S30) (d : Nat), cntN x ≤ 2000000 → d ≤ 46 → Evt (fun k => bigF k x (d : Int)) (bigN x d)
  | ⟨kd, a, b, s, e, l, ws⟩, d, hs, hd => by
    rw [cntN] at hs
    have h3 := len_cntNs l
    by_cases h45 : 45 < d
    · refine Evt.succ 1 fun k hk => ?_
      obtain ⟨k, rfl⟩ : ∃ j, k = j + 1 := ⟨k - 1, by omega⟩
      simp only [bigF, puppeteerlaw14_Big.f, puppeteerlaw14_Big.j0, bigN]
      rw [if_pos (by omega), decide_eq_true h45]
      simp
    · obtain ⟨K, hK⟩ := big_loop kd a b s e.f0 e.f1 e.f2 e.f3 ws l (by omega) d (by omega) (big_evts l (d + 1) (by omega) (by omega)) l.length 0 (by omega)
      refine Evt.succ (K + 1) fun k hk => ?_
      obtain ⟨k, rfl⟩ : ∃ j, k = j + 1 := ⟨k - 1, by omega⟩
      have e1 := hK k (by omega)
      simp only [List.drop_zero] at e1
      simp only [bigF, puppeteerlaw14_Big.f, puppeteerlaw14_Big.j0, bigN]
      rw [if_neg (by omega), decide_eq_false h45]
      by_cases h20 : 20 < l.length
      · rw [decide_eq_true h20, decide_eq_true (show (l.length : Int) > 20 by omega)]
        simp
      · rw [decide_eq_false h20, decide_eq_false (show ¬ (l.length : Int) > 20 by omega)]
        simpa using e1
theorem big_evts : ∀ (l : List S30) (d : Nat), cntNs l ≤ 2000000 → d ≤ 46 → ∀ x ∈ l, Evt (fun k => bigF k x (d : Int)) (bigN x d)
  | [], _, _, _, x, hx => by simp at hx
  | y :: l, d, hs, hd, x, hx => by
    rw [cntNs] at hs
    rcases List.mem_cons.1 hx with e | e
    · rw [e]; exact big_evt y d (by omega) hd
    · exact big_evts l d (by omega) hd x e
end
mutual
theorem cnt_sz : ∀ x : S30, cntN x ≤ szN x
  | ⟨_, _, _, _, _, l, _⟩ => by have := cnt_szs l; rw [cntN, szN]; omega
theorem cnt_szs : ∀ l : List S30, cntNs l ≤ szNs l
  | [] => by rw [cntNs, szNs]; exact Nat.le_refl _
  | x :: l => by have := cnt_sz x; have := cnt_szs l; rw [cntNs, szNs]; omega
end
theorem rcount_does (w : World) (x : S30) {A7 A8 A9 : Option Addr} {c7 c8 c9 : Nat} (h : NodeIn w x A7 c7 A8 c8 A9 c9) (hc : cntN x ≤ 2000000) : Calls Try.prog 9 #[nodeV x A7 c7 A8 c8 A9 c9] w fun e w' => e = .returned (.int .i64 (cntN x)) ∧ Below w.heap.size w w' := by
  obtain ⟨K, hK⟩ := count_evt x hc
  exact puppeteerref9_Count.calls K x.f0 x.f1 x.f2 x.f3 x.f4.f0 x.f4.f1 x.f4.f2 A7 c7 x.f4.f3 A8 c8 x.f5 A9 c9 x.f6 _ w h.g7 h.l7 h.g8 h.l8 h.g9 h.l9 (hK K (Nat.le_refl _))
theorem rdepth_does (w : World) (x : S30) {A7 A8 A9 : Option Addr} {c7 c8 c9 : Nat} (h : NodeIn w x A7 c7 A8 c8 A9 c9) (hc : cntN x ≤ 2000000) : Calls Try.prog 16 #[nodeV x A7 c7 A8 c8 A9 c9] w fun e w' => e = .returned (.int .i64 (depN x)) ∧ Below w.heap.size w w' := by
  obtain ⟨K, hK⟩ := depth_evt x hc
  exact puppeteerref9_Depth.calls K x.f0 x.f1 x.f2 x.f3 x.f4.f0 x.f4.f1 x.f4.f2 A7 c7 x.f4.f3 A8 c8 x.f5 A9 c9 x.f6 _ w h.g7 h.l7 h.g8 h.l8 h.g9 h.l9 (hK K (Nat.le_refl _))
theorem big_does (w : World) (x : S30) {A7 A8 A9 : Option Addr} {c7 c8 c9 : Nat} (h : NodeIn w x A7 c7 A8 c8 A9 c9) (hc : cntN x ≤ 2000000) : Calls Try.prog 8 #[nodeV x A7 c7 A8 c8 A9 c9, .int .i64 0] w fun e w' => e = .returned (.bool (bigN x 0)) ∧ Below w.heap.size w w' := by
  obtain ⟨K, hK⟩ := big_evt x 0 hc (by omega)
  exact puppeteerlaw14_Big.calls K x.f0 x.f1 x.f2 x.f3 x.f4.f0 x.f4.f1 x.f4.f2 A7 c7 x.f4.f3 A8 c8 x.f5 A9 c9 x.f6 0 _ w h.g7 h.l7 h.g8 h.l8 h.g9 h.l9 (hK K (Nat.le_refl _))
end Go.Proofs.Ytlkkibeoobognaa.OpenInlineTrees
