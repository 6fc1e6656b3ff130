/- ChooseOrders: plain laws. -/
import Derived.Test.YtjgeccnfdndllaaSoL
import Derived.Deep.OwnRows
set_option linter.unusedVariables false
set_option linter.unusedSimpArgs false
namespace Go.Proofs.Ytjgeccnfdndllaa
open Go.RowKit
def encB (x : Bool) : List Value := [.bool x]
theorem encB_len (x : Bool) : (encB x).length = 1 := rfl
theorem Try.info4 : (Try.prog.info? 4).map (fun i => (i.zero, i.size, i.bytes)) = some (some (.bool false), 1, 1) := by kernel_rfl
def upd {α : Type} (f : Nat → α) (k : Nat) (x : α) : Nat → α := fun j => if j = k then x else f j
def tab {α : Type} (n : Nat) (f : Nat → α) : List α := (List.range n).map f
theorem tab_len {α : Type} (n : Nat) (f : Nat → α) : (tab n f).length = n := by simp [tab]
theorem tab_get {α : Type} (n : Nat) (f : Nat → α) (i : Nat) (h : i < n) : (tab n f)[i]? = some (f i) := by simp [tab, h]
theorem tab_set {α : Type} (n : Nat) (f : Nat → α) (k : Nat) (x : α) : (tab n f).set k x = tab n (upd f k x) := by
  apply List.ext_getElem?
  intro i
  by_cases hi : i < n
  · rw [tab_get _ _ _ hi]
    by_cases e : k = i
    · subst e
      rw [List.getElem?_set_self (by rw [tab_len]; exact hi)]
      simp [upd]
    · rw [List.getElem?_set_ne e, tab_get _ _ _ hi]
      simp [upd, Ne.symm e]
  · rw [List.getElem?_eq_none (by rw [List.length_set, tab_len]; omega), List.getElem?_eq_none (by rw [tab_len]; omega)]
theorem rw_made {α : Type} (w : World) (e : TypeId) (z : Value) (n : Nat) (enc : α → List Value) (x : α) (hx : enc x = [z]) (hn : n ≤ maxLen) :
    Rw (w.alloc (.cells (madeCells #[z] n) e)) e 1 enc (.slice (some ⟨w.heap.size, 0, none⟩) n n) (tab n fun _ => x) := by
  have e1 : (tab n fun _ => x).flatMap enc = List.replicate n z := by
    unfold tab
    rw [List.flatMap_map]
    simp only [hx]
    induction n with
    | zero => rfl
    | succ n ih => rw [List.range_succ, List.flatMap_append, ih (by omega)]; simp [List.replicate_succ']
  refine ⟨by rw [e1, tab_len]; simp, .inr ⟨w.heap.size, n, _, by rw [tab_len], Nat.zero_le _, heap_alloc_new w _, by rw [tab_len]; exact Nat.le_refl _, hn, by simp [madeCells], ?_⟩⟩
  rw [e1, tab_len]
  apply List.ext_getElem?
  intro i
  simp only [madeCells]
  by_cases hi : i < n
  · rw [List.getElem?_take, if_pos (by omega)]
    simp [hi, Nat.mod_one]
  · rw [List.getElem?_eq_none (by simp; omega), List.getElem?_eq_none (by simp; omega)]

theorem Seg.nodup {ws S : List Int} {lo : Nat} (h : Seg ws lo S) : S.Nodup := h.1.nodup_iff.2 ((iota_lt _ _).imp (fun h => by omega))
theorem seg_get {ws S : List Int} {N i : Nat} (h : Seg ws 0 S) (hl : S.length = N) (hi : i < N) : ∃ j : Nat, S[i]? = some (j : Int) ∧ j < N ∧ (j : Int) ∉ S.take i := by
  have hi' : i < S.length := by omega
  have hm := h.mem (List.getElem_mem hi')
  refine ⟨S[i].toNat, ?_, by omega, ?_⟩
  · rw [List.getElem?_eq_getElem hi']; congr 1; omega
  · intro hc
    rw [show ((S[i].toNat : Nat) : Int) = S[i] by omega] at hc
    obtain ⟨k, hk, e⟩ := List.mem_iff_getElem.1 hc
    rw [List.length_take] at hk
    rw [List.getElem_take] at e
    have := (List.nodup_iff_pairwise_ne.1 h.nodup)
    have := List.pairwise_iff_getElem.1 this k i (by omega) hi' (by omega)
    exact this e
theorem seg_step {ws S : List Int} {N i p j : Nat} (h : Seg ws 0 S) (h0 : 0 < i) (hp : S[i - 1]? = some (p : Int)) (hj : S[i]? = some (j : Int)) {wp wj : Int} (h1 : ws[p]? = some wp) (h2 : ws[j]? = some wj) : ¬ wp < wj ∧ (wp = wj → p < j) := by
  have hr := pw_get h.2 (show i - 1 < i by omega) hp hj
  unfold RO wtI at hr
  rw [Int.toNat_natCast, Int.toNat_natCast, List.getD_eq_getElem?_getD, List.getD_eq_getElem?_getD, h1, h2] at hr
  simp only [Option.getD_some] at hr
  omega
theorem seg_best {ws S : List Int} {N j : Nat} {r : Int} (h : Seg ws 0 S) (hl : S.length = N) (hN : ws.length = N) (h0 : 0 < N) (hj : S[0]? = some (j : Int)) (hr : IsBest ws.length ws r) : (j : Int) = r := by
  rcases hr with ⟨h1, _⟩ | ⟨h1, h2, m, h3, h4, h5⟩
  · omega
  · obtain ⟨q, rfl⟩ : ∃ q : Nat, r = q := ⟨r.toNat, by omega⟩
    rw [Int.toNat_natCast] at h3
    have hq : (q : Int) ∈ S := by
      rw [h.1.mem_iff, iota_mem]
      omega
    obtain ⟨k, hk, e⟩ := List.mem_iff_getElem.1 hq
    have hjw : j < ws.length := by
      have := h.mem (List.mem_of_getElem? hj)
      omega
    by_cases hk0 : k = 0
    · subst hk0
      rw [List.getElem?_eq_getElem hk] at hj
      injection hj with hj
      omega
    · have ho := pw_get h.2 (show 0 < k by omega) hj (by rw [List.getElem?_eq_getElem hk, e])
      unfold RO wtI at ho
      have hwj := List.getElem?_eq_getElem hjw
      rw [Int.toNat_natCast, Int.toNat_natCast, List.getD_eq_getElem?_getD, List.getD_eq_getElem?_getD, h3, hwj] at ho
      simp only [Option.getD_some] at ho
      have a1 := h4 j _ (by omega) hwj
      by_cases hlt : (j : Int) < (q : Int)
      · have := h5 j _ hlt hwj; omega
      · omega
def usedF (S : List Int) (i : Nat) (j : Nat) : Bool := decide ((j : Int) ∈ S.take i)
theorem usedF_zero (S : List Int) : usedF S 0 = fun _ => false := by funext j; simp [usedF]
theorem usedF_succ {S : List Int} {i j : Nat} (h : S[i]? = some (j : Int)) : upd (usedF S i) j true = usedF S (i + 1) := by
  funext k
  unfold upd usedF
  have e : S.take (i + 1) = S.take i ++ [(j : Int)] := by rw [List.take_add_one, h]; rfl
  rw [e]
  by_cases hk : k = j
  · subst hk; simp
  · rw [if_neg hk]
    have : ¬ (k : Int) = (j : Int) := by omega
    simp [this]
end Go.Proofs.Ytjgeccnfdndllaa
