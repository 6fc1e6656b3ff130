/- EcsLimits: what is kept. Plain Lean. -/
import Derived.Test.YtkebkmbfglodlaaDoorEr2
set_option linter.unusedVariables false
set_option linter.unusedSimpArgs false
namespace Go.Proofs.YtkebkmbfglodlaaDoor
open Go.RowKit
/-! the mask of the cells -/
theorem mod_bit {m c : Nat} : m % 2 ^ (c + 1) = if m.testBit c then m % 2 ^ c ||| 2 ^ c else m % 2 ^ c := by
  apply Nat.eq_of_testBit_eq
  intro i
  rw [Nat.testBit_mod_two_pow]
  by_cases h : m.testBit c = true
  · rw [if_pos h, Nat.testBit_or, Nat.testBit_mod_two_pow, Nat.testBit_two_pow]
    by_cases e : c = i
    · subst e; simp [h]
    · by_cases hi : i < c
      · simp [hi, show i < c + 1 by omega, e]
      · simp [hi, show ¬ i < c + 1 by omega, e]
  · rw [if_neg h, Nat.testBit_mod_two_pow]
    by_cases e : c = i
    · subst e; simp [h]
    · by_cases hi : i < c
      · simp [hi, show i < c + 1 by omega]
      · simp [hi, show ¬ i < c + 1 by omega]
theorem maskC_step {cells : List (Int × Int)} {m c : Nat} (v : Int) (hc : c < 16) (h : maskC cells = some (m % 2 ^ c)) (hb : m.testBit c = true) : maskC (cells ++ [((c : Int), v)]) = some (m % 2 ^ (c + 1)) := by
  have hf : (m % 2 ^ c).testBit c = false := by rw [Nat.testBit_mod_two_pow]; simp
  have e : maskC (cells ++ [((c : Int), v)]) = addC (maskC cells) ((c : Int), v) := by unfold maskC; rw [List.foldl_append]; rfl
  rw [e, h]
  unfold addC
  simp only [Int.toNat_natCast]
  rw [if_pos ⟨by omega, by omega, hf⟩, mod_bit, if_pos hb]
theorem mod_skip {m c : Nat} (hb : m.testBit c = false) : m % 2 ^ (c + 1) = m % 2 ^ c := by rw [mod_bit, hb]; rfl
/-! how many there are -/
def total (D : List TD) : Nat := (D.map fun d => d.2.2.length).sum
theorem total_set {D : List TD} {i m p : Nat} {R R' : List TRow} (h : D[i]? = some (m, p, R)) (hl : R'.length = R.length + 1) : total (D.set i (m, p, R')) = total D + 1 := by
  induction D generalizing i with
  | nil => simp at h
  | cons d D ih =>
    cases i with
    | zero =>
      simp at h
      subst h
      simp [total, hl]
      omega
    | succ i =>
      simp at h
      have := ih h
      simp only [List.set_cons_succ, total, List.map_cons, List.sum_cons] at this ⊢
      omega
theorem total_put {D D' : List TD} {m : Nat} {id : Int × Int} {cells : List (Int × Int)} (hP : PutD D m id cells D') : total D' = total D + 1 := by
  rcases hP with ⟨i, p, R, hi, rfl⟩ | ⟨_, p, rfl⟩
  · exact total_set hi (addR_parts _ _ _ _).1
  · have := (addR_parts (bitsN m) [] id cells).1
    simp [total, this]
theorem masks_put {D D' : List TD} {m : Nat} {id : Int × Int} {cells : List (Int × Int)} (hP : PutD D m id cells D') : masksOf D' = if m ∈ masksOf D then masksOf D else masksOf D ++ [m] := by
  rcases hP with ⟨i, p, R, hi, rfl⟩ | ⟨hn, p, rfl⟩
  · have hmem : m ∈ masksOf D := List.mem_map.2 ⟨_, List.mem_of_getElem? hi, rfl⟩
    rw [masks_set hi, if_pos hmem]
  · rw [if_neg (tf_none.1 hn)]
    simp [masksOf]
theorem query_total {D : List TD} (hn : (masksOf D).Nodup) {ss : List Int} (h : KeysOf (tf D) ss) : (queryF D 0 0 ss).length = total D := by
  have hp : ss.Perm ((masksOf D).map fun m : Nat => (m : Int)) := by
    refine (List.perm_ext_iff_of_nodup ?_ ?_).2 fun x => ?_
    · exact List.nodup_iff_pairwise_ne.2 (h.1.imp fun h => by omega)
    · exact List.nodup_iff_pairwise_ne.2 (List.pairwise_map.2 ((List.nodup_iff_pairwise_ne.1 hn).imp fun h => by omega))
    · rw [h.2 x, List.mem_map]
      constructor
      · rintro ⟨m, rfl, hm⟩
        refine ⟨m, ?_, rfl⟩
        apply Classical.byContradiction
        intro hx
        rw [tf_none.2 hx] at hm
        cases hm
      · rintro ⟨m, hm, rfl⟩
        refine ⟨m, rfl, ?_⟩
        cases hf : tf D m with
        | none => exact absurd hm (tf_none.1 hf)
        | some p => rfl
  have e1 : ∀ l : List Int, (queryF D 0 0 l).length = (l.map fun x => (idsAt D x.toNat).length).sum := by
    intro l
    induction l with
    | nil => rfl
    | cons x l ih =>
      have e : queryF D 0 0 (x :: l) = (if takes 0 0 x then idsAt D x.toNat else []) ++ queryF D 0 0 l := rfl
      have t : takes 0 0 x = true := by simp [takes]
      rw [e, t, if_pos rfl, List.length_append, ih, List.map_cons, List.sum_cons]
  rw [e1, (hp.map _).sum_nat]
  have e2 : ∀ (E : List TD), (∀ d ∈ E, (idsAt D d.1).length = d.2.2.length) → (((masksOf E).map fun m : Nat => (m : Int)).map fun x => (idsAt D x.toNat).length).sum = total E := by
    intro E
    induction E with
    | nil => intro _; rfl
    | cons d E ih =>
      intro hE
      have := ih fun d hd => hE d (List.mem_cons_of_mem _ hd)
      simp only [masksOf, List.map_cons, List.sum_cons, total, Int.toNat_natCast] at this ⊢
      rw [this, hE d (by simp)]
  refine e2 D fun d hd => ?_
  obtain ⟨i, hi⟩ := List.mem_iff_getElem?.1 hd
  obtain ⟨m, p, R⟩ := d
  rw [idsAt_at hn hi]
  simp [idsOf]
theorem WF.more {sl : List (Int × Bool)} {D : List TD} {M : Int × Int → Option Nat} {n : Nat} (h : WF sl D M n) : WF sl D M (n + 1) := { h with len := fun i m p R hi => Nat.le_succ_of_le (h.len i m p R hi) }
theorem bit_has (m k : Nat) (hm : m < 65536) (h : k < 16) : (bits .and .u16 ((m : Int) / 2 ^ k) 1 == 1) = decide ((k : Int) ∈ bitsN m) := by
  have e1 : (m : Int) / 2 ^ k = ((m / 2 ^ k : Nat) : Int) := by simp
  have hlt : m / 2 ^ k < 65536 := Nat.lt_of_le_of_lt (Nat.div_le_self _ _) hm
  have e2 : bits .and .u16 ((m / 2 ^ k : Nat) : Int) 1 = (((m / 2 ^ k) &&& 1 : Nat) : Int) := u16_and_nat (m / 2 ^ k) 1 hlt (by omega)
  have e3 : ((k : Int) ∈ bitsN m) ↔ m / 2 ^ k % 2 = 1 := by
    rw [mem_bitsN, Int.toNat_natCast, Nat.testBit_eq_decide_div_mod_eq, decide_eq_true_eq]
    constructor
    · exact fun h => h.2.2
    · exact fun h2 => ⟨by omega, by omega, h2⟩
  rw [e1, e2, Nat.and_one_is_mod]
  rw [Bool.eq_iff_iff, beq_iff_eq, decide_eq_true_eq, e3]
  omega
theorem bit_is (m k : Nat) (hm : m < 65536) (h : k < 16) : (bits .and .u16 ((m : Int) / 2 ^ k) 1 == 1) = m.testBit k := by
  rw [bit_has m k hm h, Bool.eq_iff_iff, decide_eq_true_eq, mem_bitsN, Int.toNat_natCast]
  constructor
  · exact fun h => h.2.2
  · exact fun h2 => ⟨by omega, by omega, h2⟩
theorem mostF_nat {t : Nat} (h1 : 1 ≤ t) (h2 : t ≤ 1000) : mostF (t : Int) = (t : Int) := by
  have e : (if 1 < (t : Int) then (t : Int) else 1) = (t : Int) := by split <;> omega
  unfold mostF
  rw [e, if_neg (by omega)]
theorem rm_nat {t : Nat} (h1 : 1 ≤ t) (h2 : t ≤ 1000) : I.rm (t : Int) = (t : Int) := by
  have e : (if 0 < (t : Int) then (t : Int) else 0) = (t : Int) := by split <;> omega
  unfold I.rm
  rw [e, if_neg (by omega)]
theorem WF.spawnL {pi : Nat} {room : Int} {sl sl' : List (Int × Bool)} {fr fr' : List Int} {D D' : List TD} {M : Int × Int → Option Nat} {n m : Nat} {id : Int × Int} {cells : List (Int × Int)} (h : WF sl D M n) (hk : MkOk pi room sl fr id sl' fr') (hm : m < 65536) (hP : PutD D m id cells D') : WF sl' D' (fput M id (some m)) (n + 1) := by
  have hM : M id = none := by
    have := h.alive id
    rw [hk.new] at this
    simpa using this
  refine (h.wt.put hm hk.ok hM hP).wf fun id' => ?_
  rw [hk.alive id']
  unfold fput
  by_cases e : id' = id
  · rw [if_pos e]; simp [e]
  · rw [if_neg e, h.alive id']; simp [e]
theorem one_h (x : Int) : ∀ u ∈ encH x, u.oneCell' = true := by intro u hu; simp [encH] at hu; subst hu; rfl
end Go.Proofs.YtkebkmbfglodlaaDoor
