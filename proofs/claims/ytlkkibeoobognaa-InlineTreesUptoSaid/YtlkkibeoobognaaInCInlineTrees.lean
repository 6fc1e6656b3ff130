/- What Count and Depth tell of trees of bounded size: plain laws over the printed functions. -/
import Derived.Test.YtlkkibeoobognaaIn5InlineTrees
set_option linter.unusedVariables false
set_option maxRecDepth 100000
namespace Go.Proofs.Ytlkkibeoobognaa.OpenInlineTrees
open Go.RowKit
open Go.Proofs.YtlkkibeoobognaaW.PrintWords Go.Proofs.YtlkkibeoobognaaW.PrintLast Go.Proofs.YtlkkibeoobognaaW.PrintMore Go.Proofs.Ytlkkibeoobognaa.PInlineTrees
def Evt {α : Type} (f : Nat → Option α) (r : α) : Prop := ∃ K, ∀ k, K ≤ k → f k = some r
theorem Evt.succ {α : Type} {f : Nat → Option α} {r : α} (K : Nat) (h : ∀ k, K ≤ k → f (k + 1) = some r) : Evt f r := ⟨K + 1, fun k hk => by
  obtain ⟨j, rfl⟩ : ∃ j, k = j + 1 := ⟨k - 1, by omega⟩
  exact h j (by omega)⟩
theorem rd_at (l : List S30) (i : Nat) (h : i < l.length) : rd_T30 l (i : Int) = l[i] := by
  unfold rd_T30
  rw [Int.toNat_natCast, List.getD_eq_getElem?_getD, List.getElem?_eq_getElem h]
  rfl
theorem w64 (n : Int) (h0 : -9223372036854775808 ≤ n) (h1 : n ≤ 9223372036854775807) : wrap64 n = n := by unfold wrap64; omega
mutual
def cntN : S30 → Nat
  | ⟨_, _, _, _, _, kids, _⟩ => cntNs kids + 1
def cntNs : List S30 → Nat
  | [] => 0
  | x :: xs => cntN x + cntNs xs
end
mutual
def depN : S30 → Nat
  | ⟨_, _, _, _, _, kids, _⟩ => depNs kids + 1
def depNs : List S30 → Nat
  | [] => 0
  | x :: xs => max (depN x) (depNs xs)
end
theorem cntN_pos : ∀ x : S30, 1 ≤ cntN x
  | ⟨_, _, _, _, _, kids, _⟩ => by rw [cntN]; omega
theorem len_cntNs : ∀ (l : List S30), l.length ≤ cntNs l
  | [] => Nat.zero_le _
  | x :: l => by have := len_cntNs l; have := cntN_pos x; rw [cntNs, List.length_cons]; omega
mutual
theorem dep_cnt : ∀ x : S30, depN x ≤ cntN x
  | ⟨_, _, _, _, _, kids, _⟩ => by have := dep_cnts kids; rw [depN, cntN]; omega
theorem dep_cnts : ∀ l : List S30, depNs l ≤ cntNs l
  | [] => by rw [depNs, cntNs]; exact Nat.le_refl _
  | x :: l => by have := dep_cnt x; have := dep_cnts l; rw [depNs, cntNs]; omega
end
theorem mx_nat (a b : Nat) : mx (a : Int) (b : Int) = ((max a b : Nat) : Int) := by
  unfold mx
  split <;> omega
def countI (k : Nat) (x : S30) : Option Int := inline_Count.f k x.f0 x.f1 x.f2 x.f3 x.f4.f0 x.f4.f1 x.f4.f2 x.f4.f3 x.f5 x.f6
def depthI (k : Nat) (x : S30) : Option Int := inline_Depth.f k x.f0 x.f1 x.f2 x.f3 x.f4.f0 x.f4.f1 x.f4.f2 x.f4.f3 x.f5 x.f6
theorem countI_loop (l : List S30) (hl : l.length ≤ 2097152) (h : ∀ x ∈ l, Evt (fun k => countI k x) (cntN x : Int)) : ∀ (j i acc : Nat), i + j = l.length → acc + cntNs (l.drop i) ≤ 1000000000 →
    Evt (fun k => inline_Count.l0 k (acc : Int) l (l.length : Int) (i : Int)) ((acc + cntNs (l.drop i) : Nat) : Int)
  | 0, i, acc, hi, hb => Evt.succ 0 fun k _ => by
    rw [inline_Count.l0, if_neg (by omega), List.drop_of_length_le (by omega)]; simp [cntNs]
  | j + 1, i, acc, hi, hb => by
    have hlt : i < l.length := by omega
    have hd : l.drop i = l[i] :: l.drop (i + 1) := List.drop_eq_getElem_cons hlt
    rw [hd, cntNs] at hb
    obtain ⟨K1, h1⟩ := h l[i] (List.getElem_mem hlt)
    obtain ⟨K2, h2⟩ := countI_loop l hl h j (i + 1) (acc + cntN l[i]) (by omega) (by omega)
    refine Evt.succ (max K1 K2) fun k hk => ?_
    have e1 := h1 k (by omega)
    have e2 := h2 k (by omega)
    rw [inline_Count.l0, if_pos (by omega), if_pos (by omega), if_pos (by omega), rd_at l i hlt]
    unfold countI at e1
    simp only [] at e1 e2
    rw [e1, Option.bind_some, w64 _ (by omega) (by omega), w64 _ (by omega) (by omega), hd, cntNs]
    rw [show ((acc : Int) + (cntN l[i] : Int)) = ((acc + cntN l[i] : Nat) : Int) by omega, show ((i : Int) + 1) = ((i + 1 : Nat) : Int) by omega, e2]
    congr 2; omega
theorem depthI_loop (l : List S30) (hl : l.length ≤ 2097152) (h : ∀ x ∈ l, Evt (fun k => depthI k x) (depN x : Int)) : ∀ (j i acc : Nat), i + j = l.length → max acc (depNs (l.drop i)) ≤ 1000000000 →
    Evt (fun k => inline_Depth.l0 k (acc : Int) l (l.length : Int) (i : Int)) ((max acc (depNs (l.drop i)) + 1 : Nat) : Int)
  | 0, i, acc, hi, hb => Evt.succ 0 fun k _ => by
    rw [List.drop_of_length_le (by omega), depNs] at hb ⊢
    rw [inline_Depth.l0, if_neg (by omega), w64 _ (by omega) (by omega)]
    congr 1; omega
  | j + 1, i, acc, hi, hb => by
    have hlt : i < l.length := by omega
    have hd : l.drop i = l[i] :: l.drop (i + 1) := List.drop_eq_getElem_cons hlt
    rw [hd, depNs] at hb
    obtain ⟨K1, h1⟩ := h l[i] (List.getElem_mem hlt)
    obtain ⟨K2, h2⟩ := depthI_loop l hl h j (i + 1) (max acc (depN l[i])) (by omega) (by omega)
    refine Evt.succ (max K1 K2) fun k hk => ?_
    have e1 := h1 k (by omega)
    have e2 := h2 k (by omega)
    rw [inline_Depth.l0, if_pos (by omega), if_pos (by omega), if_pos (by omega), rd_at l i hlt]
    unfold depthI at e1
    simp only [] at e1 e2
    rw [e1, Option.bind_some, w64 _ (by omega) (by omega), hd, depNs, mx_nat]
    rw [show ((i : Int) + 1) = ((i + 1 : Nat) : Int) by omega, e2]
    congr 2; omega
mutual
theorem countI_evt : ∀ x : S30, cntN x ≤ 1000000 → Evt (fun k => countI k x) (cntN x : Int)
  | ⟨kd, a, b, s, e, l, ws⟩, hs => by
    rw [cntN] at hs
    have h3 := len_cntNs l
    obtain ⟨K, hK⟩ := countI_loop l (by omega) (countI_evts l (by omega)) l.length 0 1 (by omega) (by simp only [List.drop_zero]; omega)
    refine Evt.succ K fun k hk => ?_
    have e1 := hK k (by omega)
    simp only [List.drop_zero] at e1
    simp only [countI, inline_Count.f, cntN]
    refine e1.trans ?_
    congr 2; omega
theorem countI_evts : ∀ l : List S30, cntNs l ≤ 1000000 → ∀ x ∈ l, Evt (fun k => countI k x) (cntN x : Int)
  | [], _, x, hx => by simp at hx
  | y :: l, hs, x, hx => by
    rw [cntNs] at hs
    rcases List.mem_cons.1 hx with e | e
    · rw [e]; exact countI_evt y (by omega)
    · exact countI_evts l (by omega) x e
end
mutual
theorem depthI_evt : ∀ x : S30, cntN x ≤ 1000000 → Evt (fun k => depthI k x) (depN x : Int)
  | ⟨kd, a, b, s, e, l, ws⟩, hs => by
    rw [cntN] at hs
    have h3 := len_cntNs l
    have h4 := dep_cnts l
    obtain ⟨K, hK⟩ := depthI_loop l (by omega) (depthI_evts l (by omega)) l.length 0 0 (by omega) (by simp only [List.drop_zero]; omega)
    refine Evt.succ K fun k hk => ?_
    have e1 := hK k (by omega)
    simp only [List.drop_zero] at e1
    simp only [depthI, inline_Depth.f, depN]
    exact e1.trans (by first | rfl | (congr 2; omega))
theorem depthI_evts : ∀ l : List S30, cntNs l ≤ 1000000 → ∀ x ∈ l, Evt (fun k => depthI k x) (depN x : Int)
  | [], _, x, hx => by simp at hx
  | y :: l, hs, x, hx => by
    rw [cntNs] at hs
    rcases List.mem_cons.1 hx with e | e
    · rw [e]; exact depthI_evt y (by omega)
    · exact depthI_evts l (by omega) x e
end
theorem count_does (w : World) (x : S30) {A7 A8 A9 : Option Addr} {c7 c8 c9 : Nat} (h : NodeIn w x A7 c7 A8 c8 A9 c9) (hc : cntN x ≤ 1000000) : Calls Try.prog 14 #[nodeV x A7 c7 A8 c8 A9 c9] w fun e w' => e = .returned (.int .i64 (cntN x)) ∧ Below w.heap.size w w' := by
  obtain ⟨K, hK⟩ := countI_evt x hc
  exact inline_Count.calls K x.f0 x.f1 x.f2 x.f3 x.f4.f0 x.f4.f1 x.f4.f2 A7 c7 x.f4.f3 A8 c8 x.f5 A9 c9 x.f6 _ w h.g7 h.l7 h.g8 h.l8 h.g9 h.l9 (hK K (Nat.le_refl _))
theorem depth_does (w : World) (x : S30) {A7 A8 A9 : Option Addr} {c7 c8 c9 : Nat} (h : NodeIn w x A7 c7 A8 c8 A9 c9) (hc : cntN x ≤ 1000000) : Calls Try.prog 15 #[nodeV x A7 c7 A8 c8 A9 c9] w fun e w' => e = .returned (.int .i64 (depN x)) ∧ Below w.heap.size w w' := by
  obtain ⟨K, hK⟩ := depthI_evt x hc
  exact inline_Depth.calls K x.f0 x.f1 x.f2 x.f3 x.f4.f0 x.f4.f1 x.f4.f2 A7 c7 x.f4.f3 A8 c8 x.f5 A9 c9 x.f6 _ w h.g7 h.l7 h.g8 h.l8 h.g9 h.l9 (hK K (Nat.le_refl _))
theorem num_does (a : Int) (w : World) : Calls Try.prog 13 #[.int .i64 a] w fun e w' => e = .returned (.int .i64 a) ∧ Below w.heap.size w w' := (puppeteerlaw14_num.calls a a w rfl).mono fun e w' h => ⟨h.1, h.2.below⟩
end Go.Proofs.Ytlkkibeoobognaa.OpenInlineTrees
