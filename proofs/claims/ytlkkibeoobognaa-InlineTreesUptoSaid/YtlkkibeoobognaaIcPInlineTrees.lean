/- Plain laws: what a tree of n uses of a chain of m becomes; what rings and rows of trees become. -/
import Derived.Test.YtlkkibeoobognaaInAInlineTrees
set_option linter.unusedVariables false
set_option linter.unusedSimpArgs false
set_option maxRecDepth 100000
namespace Go.Proofs.Ytlkkibeoobognaa.OpenInlineTrees
open Go.RowKit Go.Deep
open Go.Proofs.YtlkkibeoobognaaW.PrintWords Go.Proofs.YtlkkibeoobognaaW.PrintLast Go.Proofs.YtlkkibeoobognaaW.PrintMore Go.Proofs.Ytlkkibeoobognaa.PInlineTrees
theorem nodeF_use (L : List S32) (k : Nat) (a b : Int) (s : ByteArray) (e : S27) (l : List S30) (ws : List S27) (d : Nat) (op : List ByteArray) (n : Nat) : nodeF L (k + 1) ⟨10, a, b, s, e, l, ws⟩ d op n = usedG (nodeF L k) L s d op n := by
  rw [nodeF, if_pos rfl]
theorem nodeF_in (L : List S32) (k : Nat) (g a b : Int) (s : ByteArray) (e : S27) (l : List S30) (ws : List S27) (d : Nat) (op : List ByteArray) (n : Nat) (hg : g ≠ 10) (hd : d ≤ 40) (hn : n + 1 ≤ 4000) :
    nodeF L (k + 1) ⟨g, a, b, s, e, l, ws⟩ d op n = match kidsG (fun k' n => nodeF L k k' (d + 1) op n) [] l (n + 1) with
    | .out => .out
    | .err c => .err c
    | .ok l' n1 => .ok ⟨g, a, b, s, e, l', ws⟩ n1 := by
  rw [nodeF, if_neg hg, if_neg (by omega), if_neg (by omega)]
  rfl
def chN : Nat → S30
  | 0 => ⟨13, 0, 0, ⟨#[]⟩, zE, [], []⟩
  | m + 1 => ⟨5, 0, 0, ⟨#[]⟩, zE, [chN m], []⟩
theorem ch_res (L : List S32) : ∀ (m k d : Nat) (op : List ByteArray) (n : Nat), d + m ≤ 40 → n + m + 1 ≤ 4000 → nodeF L (k + m + 1) (chN m) d op n = .ok (chN m) (n + m + 1)
  | 0, k, d, op, n, hd, hn => by
    rw [chN, nodeF_in _ _ _ _ _ _ _ _ _ _ _ _ (by decide) (by omega) (by omega), kidsG]
  | m + 1, k, d, op, n, hd, hn => by
    rw [chN, nodeF_in _ _ _ _ _ _ _ _ _ _ _ _ (by decide) (by omega) (by omega), kidsG, ← Nat.add_assoc k m 1, ch_res L m k (d + 1) op (n + 1) (by omega) (by omega)]
    simp only [kidsG, List.nil_append]
    congr 1; omega
theorem ch_cnt : ∀ m, cntN (chN m) = m + 1
  | 0 => by simp [chN, cntN, cntNs]
  | m + 1 => by rw [chN, cntN, cntNs, cntNs, ch_cnt m]
theorem ch_dep : ∀ m, depN (chN m) = m + 1
  | 0 => by simp [chN, depN, depNs]
  | m + 1 => by rw [chN, depN, depNs, depNs, ch_dep m, Nat.max_eq_left (Nat.zero_le _)]
def useU : S30 := ⟨10, 0, 0, ⟨#[117]⟩, zE, [], []⟩
def seqN (l : List S30) : S30 := ⟨0, 0, 0, ⟨#[]⟩, zE, l, []⟩
def cL (n m : Nat) : List S32 := [⟨⟨#[116]⟩, seqN (List.replicate n useU)⟩, ⟨⟨#[117]⟩, chN m⟩]
theorem uses_res (L : List S32) (f : S30 → Nat → Res) (y : S30) (m : Nat) (hf : ∀ n, n + m + 1 ≤ 4000 → f useU n = .ok y (n + m + 1)) : ∀ (j : Nat) (done : List S30) (n : Nat), n + j * (m + 1) ≤ 4000 → kidsG f done (List.replicate j useU) n = .ok (done ++ List.replicate j y) (n + j * (m + 1))
  | 0, done, n, h => by simp [kidsG]
  | j + 1, done, n, h => by
    rw [Nat.succ_mul] at h ⊢
    rw [List.replicate_succ, kidsG, hf n (by omega)]
    simp only []
    rw [uses_res L f y m hf j _ _ (by omega), List.append_assoc, List.replicate_succ, List.singleton_append]
    congr 1; omega
theorem find_t (n m : Nat) : findT (cL n m) ⟨#[116]⟩ = some ⟨⟨#[116]⟩, seqN (List.replicate n useU)⟩ := by simp [findT, cL, ByteArray.toList_eq]
theorem find_u (n m : Nat) : findT (cL n m) ⟨#[117]⟩ = some ⟨⟨#[117]⟩, chN m⟩ := by simp [findT, cL, ByteArray.toList_eq]
theorem in_t : inS [⟨#[116]⟩] ⟨#[117]⟩ = false := by simp [inS, ByteArray.toList_eq]
theorem cnt_res (n m : Nat) (hn : n ≤ 16) (hm : m ≤ 30) : usedG (nodeF (cL n m) 50) (cL n m) ⟨#[116]⟩ 1 [] 0 = .ok (seqN (List.replicate n (chN m))) (1 + n * (m + 1)) := by
  have hb : n * (m + 1) ≤ 16 * 31 := Nat.mul_le_mul hn (by omega)
  rw [usedG, find_t]
  simp only [inS, List.any_nil, List.nil_append, seqN, Bool.false_eq_true, if_false]
  rw [show (50 : Nat) = 49 + 1 from rfl, nodeF_in _ _ _ _ _ _ _ _ _ _ _ _ (by decide) (by omega) (by omega)]
  rw [uses_res (cL n m) _ (chN m) m (fun c hc => ?_) n [] (0 + 1) (by omega)]
  · simp only [List.nil_append, Nat.zero_add]
  · simp only [useU]
    rw [show (49 : Nat) = 48 + 1 from rfl, nodeF_use, usedG, find_u]
    simp only [in_t, Bool.false_eq_true, if_false]
    have := ch_res (cL n m) m (47 - m) 2 ([⟨#[116]⟩] ++ [⟨#[117]⟩]) c (by omega) hc
    rwa [show 47 - m + m + 1 = 48 by omega] at this
theorem rep_cnt (x : S30) : ∀ n, cntNs (List.replicate n x) = n * cntN x
  | 0 => by simp [cntNs]
  | n + 1 => by rw [List.replicate_succ, cntNs, rep_cnt x n, Nat.succ_mul]; omega
theorem rep_dep (x : S30) : ∀ n, 1 ≤ n → depNs (List.replicate n x) = depN x
  | 0, h => by omega
  | 1, _ => by simp [depNs]
  | n + 2, _ => by rw [List.replicate_succ, depNs, rep_dep x (n + 1) (by omega), Nat.max_self]
theorem top_cnt (n m : Nat) : cntN (seqN (List.replicate n (chN m))) = 1 + n * (m + 1) := by rw [seqN, cntN, rep_cnt, ch_cnt]; omega
theorem top_dep (n m : Nat) (h : 1 ≤ n) : depN (seqN (List.replicate n (chN m))) = m + 2 := by rw [seqN, depN, rep_dep _ _ h, ch_dep]
/-! rings and rows -/
def decS (i : Nat) : ByteArray := if i < 10 then ⟨#[UInt8.ofNat (48 + i)]⟩ else ⟨#[UInt8.ofNat (48 + i / 10), UInt8.ofNat (48 + i % 10)]⟩
def nmS (i : Nat) : ByteArray := (⟨#[116]⟩ : ByteArray) ++ decS i
def nmD (i : Nat) : List UInt8 := (nmS i).data.toList
theorem nm_inj : ∀ i, i < 30 → ∀ j, j < 30 → nmD i = nmD j → i = j := by decide +kernel
def ringX (n i : Nat) (r : Bool) : S30 := if i + 1 = n ∧ r = false then ⟨15, 0, 0, ⟨#[]⟩, zE, [], []⟩ else ⟨10, 0, 0, nmS ((i + 1) % n), zE, [], []⟩
def notN (x : S30) : S30 := ⟨5, 0, 0, ⟨#[]⟩, zE, [x], []⟩
def ringT (n : Nat) (r : Bool) (i : Nat) : S32 := ⟨nmS i, notN (ringX n i r)⟩
def ringL (n : Nat) (r : Bool) (j : Nat) : List S32 := (List.range j).map (ringT n r)
def rowN : Nat → S30
  | 0 => ⟨15, 0, 0, ⟨#[]⟩, zE, [], []⟩
  | j + 1 => notN (rowN j)
theorem ring_find (n : Nat) (r : Bool) (hn : n ≤ 30) (i : Nat) (hi : i < n) : findT (ringL n r n) (nmS i) = some (ringT n r i) := by
  unfold findT ringL
  rw [List.find?_eq_some_iff_append]
  refine ⟨by simp [ringT], (List.range i).map (ringT n r), ((List.range' (i + 1) (n - (i + 1))).map (ringT n r)), ?_, ?_⟩
  · rw [← List.map_cons, ← List.map_append]
    congr 1
    rw [List.range_eq_range', List.range_eq_range', ← List.range'_succ, show n - (i + 1) + 1 = n - i by omega]
    have := @List.range'_append_1 0 i (n - i)
    rw [Nat.zero_add, show i + (n - i) = n by omega] at this
    exact this.symm
  · intro t ht
    obtain ⟨j, hj, rfl⟩ := List.mem_map.1 ht
    have hj := List.mem_range.1 hj
    simp only [ringT, Bool.not_eq_true']
    refine decide_eq_false fun h => ?_
    have := nm_inj j (by omega) i (by omega) (by rw [nmD, nmD, ← ByteArray.toList_eq, ← ByteArray.toList_eq, h])
    omega
theorem ring_in (k i : Nat) (hk : k ≤ 30) (hi : i < 30) : inS ((List.range k).map nmS) (nmS i) = decide (i < k) := by
  unfold inS
  rw [List.any_map]
  by_cases h : i < k
  · rw [decide_eq_true h, List.any_eq_true]
    exact ⟨i, List.mem_range.2 h, by simp⟩
  · rw [decide_eq_false h, List.any_eq_false]
    intro j hj
    have hj := List.mem_range.1 hj
    simp only [Function.comp, decide_eq_true_eq]
    intro he
    have := nm_inj j (by omega) i hi (by rw [nmD, nmD, ← ByteArray.toList_eq, ← ByteArray.toList_eq, he])
    omega
theorem ring_step (n : Nat) (hn : n ≤ 30) (r : Bool) : ∀ (j i k : Nat), i + 1 + j = n → nodeF (ringL n r n) (k + 2 * j + 3) (notN (ringX n i r)) (i + 1) ((List.range (i + 1)).map nmS) i = if r = true then .err 8 else .ok (rowN (j + 1)) (n + 1)
  | 0, i, k, h => by
    rw [notN, nodeF_in _ _ _ _ _ _ _ _ _ _ _ _ (by decide) (by omega) (by omega), kidsG]
    cases r with
    | false =>
      rw [ringX, if_pos ⟨by omega, rfl⟩, nodeF_in _ (k + 1) 15 0 0 ⟨#[]⟩ zE [] [] _ _ _ (by decide) (by omega) (by omega), kidsG]
      simp only [kidsG, List.nil_append, Bool.false_eq_true, if_false, rowN, notN]
      congr 1; omega
    | true =>
      rw [ringX, if_neg (fun h => by cases h.2), nodeF_use, usedG, show (i + 1) % n = 0 by rw [show i + 1 = n by omega, Nat.mod_self], ring_find n true hn 0 (by omega)]
      simp only []
      rw [ring_in _ _ (by omega) (by omega), decide_eq_true (by omega), if_pos rfl]
      simp only [if_true]
  | j + 1, i, k, h => by
    rw [notN, nodeF_in _ _ _ _ _ _ _ _ _ _ _ _ (by decide) (by omega) (by omega), kidsG, ringX, if_neg (fun h => by omega), show k + 2 * (j + 1) + 2 = k + 2 * j + 3 + 1 by omega, nodeF_use, usedG, Nat.mod_eq_of_lt (by omega), ring_find n r hn (i + 1) (by omega)]
    simp only []
    rw [ring_in _ _ (by omega) (by omega), decide_eq_false (by omega)]
    simp only [Bool.false_eq_true, if_false]
    have h2 := ring_step n hn r j (i + 1) k (by omega)
    rw [List.range_succ, List.map_append] at h2
    simp only [List.map_cons, List.map_nil] at h2
    simp only [ringT]
    rw [h2]
    cases r with
    | false => simp only [Bool.false_eq_true, if_false, kidsG, List.nil_append, rowN, notN]
    | true => simp only [if_true]
theorem ring_res (n : Nat) (h1 : 1 ≤ n) (hn : n ≤ 30) (r : Bool) : usedG (nodeF (ringL n r n) 100) (ringL n r n) (nmS 0) 1 [] 0 = if r = true then .err 8 else .ok (rowN n) (n + 1) := by
  rw [usedG, ring_find n r hn 0 (by omega)]
  simp only [inS, List.any_nil, List.nil_append, Bool.false_eq_true, if_false]
  have := ring_step n hn r (n - 1) 0 (99 - 2 * n) (by omega)
  rw [show 99 - 2 * n + 2 * (n - 1) + 3 = 100 by omega, show n - 1 + 1 = n by omega] at this
  exact this
theorem row_cnt : ∀ j, cntN (rowN j) = j + 1
  | 0 => by simp [rowN, cntN, cntNs]
  | j + 1 => by rw [rowN, notN, cntN, cntNs, cntNs, row_cnt j]
theorem row_dep : ∀ j, depN (rowN j) = j + 1
  | 0 => by simp [rowN, depN, depNs]
  | j + 1 => by rw [rowN, notN, depN, depNs, depNs, row_dep j, Nat.max_eq_left (Nat.zero_le _)]
end Go.Proofs.Ytlkkibeoobognaa.OpenInlineTrees
