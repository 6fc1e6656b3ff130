/- The plain law of the heap: a tree in a list, sifted up and down. -/
import Derived.Test.YthnojjlaicajhaaA
namespace Go.Proofs.Ythnojjlaicajhaa
/-! ### The tree in a list, as a function -/
def isUp (g : Nat → Item) (n i : Nat) : Prop := (∀ j, 0 < j → j < n → j ≠ i → ¬ (g j).lt (g ((j - 1) / 2))) ∧ (∀ j, 0 < i → 0 < j → j < n → (j - 1) / 2 = i → ¬ (g j).lt (g ((i - 1) / 2)))
def isDown (g : Nat → Item) (n i : Nat) : Prop := (∀ j, 0 < j → j < n → (j - 1) / 2 ≠ i → ¬ (g j).lt (g ((j - 1) / 2))) ∧ (∀ j, 0 < i → 0 < j → j < n → (j - 1) / 2 = i → ¬ (g j).lt (g ((i - 1) / 2)))
def isHeap (g : Nat → Item) (n : Nat) : Prop := ∀ j, 0 < j → j < n → ¬ (g j).lt (g ((j - 1) / 2))
def swp (g : Nat → Item) (i k : Nat) : Nat → Item := fun j => if j = k then g i else if j = i then g k else g j
theorem up_step {g : Nat → Item} {n i : Nat} (h : isUp g n i) (hi : 0 < i) (hn : i < n) (hl : (g i).lt (g ((i - 1) / 2))) : isUp (swp g i ((i - 1) / 2)) n ((i - 1) / 2) := by
  obtain ⟨h1, h2⟩ := h
  have hp : (i - 1) / 2 < i := by omega
  generalize hq : (i - 1) / 2 = q at *
  refine ⟨fun j h0 hj hne => ?_, fun j hq0 h0 hj he => ?_⟩
  · unfold swp
    rw [if_neg hne]
    by_cases hji : j = i
    · subst hji
      rw [if_pos rfl, hq, if_pos rfl]
      exact Item.asymm hl
    · rw [if_neg hji]
      by_cases hpi : (j - 1) / 2 = i
      · rw [hpi, if_neg (by omega), if_pos rfl]
        exact h2 j hi h0 hj hpi
      · by_cases hpq : (j - 1) / 2 = q
        · rw [hpq, if_pos rfl]
          have := h1 j h0 hj hji
          rw [hpq] at this
          exact fun h => this (Item.trans h hl)
        · rw [if_neg hpq, if_neg hpi]
          exact h1 j h0 hj hji
  · unfold swp
    rw [if_neg (by omega : ¬ j = q), if_neg (by omega : ¬ (q - 1) / 2 = q), if_neg (by omega : ¬ (q - 1) / 2 = i)]
    have hb := h1 q hq0 (by omega) (by omega)
    by_cases hji : j = i
    · rw [if_pos hji]; exact hb
    · rw [if_neg hji]
      have := h1 j h0 hj hji
      rw [he] at this
      exact Item.le_trans hb this
theorem up_done {g : Nat → Item} {n i : Nat} (h : isUp g n i) (hd : i = 0 ∨ ¬ (g i).lt (g ((i - 1) / 2))) : isHeap g n := by
  intro j h0 hj
  by_cases e : j = i
  · subst e
    rcases hd with hd | hd
    · omega
    · exact hd
  · exact h.1 j h0 hj e
/-- k: the least of i's children. -/
def isLesser (g : Nat → Item) (n i k : Nat) : Prop := (2 * i + 1 < n ∧ (k = 2 * i + 1 ∨ k = 2 * i + 2) ∧ k < n ∧ ∀ j, (j = 2 * i + 1 ∨ j = 2 * i + 2) → j < n → ¬ (g j).lt (g k)) ∨ (n ≤ 2 * i + 1 ∧ k = i)
theorem down_step {g : Nat → Item} {n i k : Nat} (h : isDown g n i) (hk : isLesser g n i k) (hl : (g k).lt (g i)) : isDown (swp g k i) n k ∧ k < n ∧ i < k := by
  obtain ⟨h1, h2⟩ := h
  rcases hk with ⟨_, hk1, hkn, hkl⟩ | ⟨_, rfl⟩
  case inr => exact absurd hl (Item.irrefl _)
  have hik : i < k := by omega
  have hki : (k - 1) / 2 = i := by omega
  refine ⟨⟨fun j h0 hj hne => ?_, fun j hk0 h0 hj he => ?_⟩, hkn, hik⟩
  · unfold swp
    rw [if_neg hne]
    by_cases hjk : j = k
    · subst hjk
      rw [if_neg (by omega), if_pos rfl, hki, if_pos rfl]
      exact Item.asymm hl
    · rw [if_neg hjk]
      by_cases hji : j = i
      · subst hji
        rw [if_pos rfl, if_neg (by omega)]
        exact h2 k h0 (by omega) hkn hki
      · rw [if_neg hji]
        by_cases hpi : (j - 1) / 2 = i
        · rw [if_pos hpi]
          exact hkl j (by omega) hj
        · rw [if_neg hpi]
          exact h1 j h0 hj hpi
  · unfold swp
    rw [if_neg (by omega : ¬ j = i), if_neg (by omega : ¬ j = k), hki, if_pos rfl]
    have := h1 j h0 hj (by omega)
    rw [he] at this
    exact this
theorem down_done {g : Nat → Item} {n i k : Nat} (h : isDown g n i) (hk : isLesser g n i k) (hd : ¬ (g k).lt (g i)) : isHeap g n := by
  intro j h0 hj
  by_cases e : (j - 1) / 2 = i
  · rw [e]
    rcases hk with ⟨_, _, _, hkl⟩ | ⟨hk, rfl⟩
    · exact Item.le_trans hd (hkl j (by omega) hj)
    · omega
  · exact h.1 j h0 hj e
theorem heap_root {g : Nat → Item} {n : Nat} (h : isHeap g n) : ∀ j, j < n → ¬ (g j).lt (g 0) := by
  intro j
  induction j using Nat.strongRecOn with
  | ind j ih =>
    intro hj
    by_cases h0 : j = 0
    · subst h0; exact Item.irrefl _
    · exact Item.le_trans (ih ((j - 1) / 2) (by omega) (by omega)) (h j (by omega) hj)
/-! ### The list -/
def dIt : Item := ⟨0, 0, 0⟩
def fn (xs : List Item) : Nat → Item := fun i => xs.getD i dIt
theorem fn_some {xs : List Item} {i : Nat} {a : Item} (h : xs[i]? = some a) : fn xs i = a := by unfold fn; rw [List.getD_eq_getElem?_getD, h]; rfl
theorem fn_get {xs : List Item} {i : Nat} (h : i < xs.length) : xs[i]? = some (fn xs i) := by unfold fn; rw [List.getD_eq_getElem?_getD, List.getElem?_eq_getElem h]; rfl
def Heaped (xs : List Item) : Prop := isHeap (fn xs) xs.length
def swapL (xs : List Item) (i k : Nat) (a b : Item) : List Item := (xs.set i b).set k a
theorem fn_swap {xs : List Item} {i k : Nat} {a b : Item} (hi : xs[i]? = some a) (hk : xs[k]? = some b) : fn (swapL xs i k a b) = swp (fn xs) i k := by
  have hil : i < xs.length := (List.getElem?_eq_some_iff.1 hi).1
  have hkl : k < xs.length := (List.getElem?_eq_some_iff.1 hk).1
  funext j
  unfold swp
  rw [fn_some hi, fn_some hk]
  unfold fn swapL
  rw [List.getD_eq_getElem?_getD, List.getElem?_set]
  by_cases h1 : j = k
  · subst h1; simp [hkl]
  · rw [if_neg (fun e => h1 e.symm), if_neg h1, List.getElem?_set]
    by_cases h2 : j = i
    · subst h2; simp [hil]
    · rw [if_neg (fun e => h2 e.symm), if_neg h2, List.getD_eq_getElem?_getD]
theorem swapL_len (xs : List Item) (i k : Nat) (a b : Item) : (swapL xs i k a b).length = xs.length := by simp [swapL]
theorem swapL_perm {xs : List Item} {i k : Nat} {a b : Item} (hi : xs[i]? = some a) (hk : xs[k]? = some b) : (swapL xs i k a b).Perm xs := by
  unfold swapL
  have hil : i < xs.length := (List.getElem?_eq_some_iff.1 hi).1
  have hkl : k < xs.length := (List.getElem?_eq_some_iff.1 hk).1
  have ea : xs[i] = a := by rw [List.getElem?_eq_getElem hil] at hi; exact Option.some.inj hi
  have eb : xs[k] = b := by rw [List.getElem?_eq_getElem hkl] at hk; exact Option.some.inj hk
  subst ea; subst eb
  exact List.set_set_perm hil hkl
theorem heaped_nil : Heaped [] := by intro j h0 h; simp at h
theorem heaped_get0 {xs : List Item} {x : Item} (h : Heaped xs) (h0 : xs[0]? = some x) : ∀ y ∈ xs, ¬ y.lt x := by
  intro y hy
  obtain ⟨j, hj, rfl⟩ := List.getElem_of_mem hy
  have := heap_root h j hj
  rw [fn_some h0, fn_some (List.getElem?_eq_getElem hj)] at this
  exact this
theorem heaped_push {xs : List Item} (h : Heaped xs) (x : Item) : isUp (fn (xs ++ [x])) (xs ++ [x]).length xs.length := by
  have hf : ∀ j, j < xs.length → fn (xs ++ [x]) j = fn xs j := by
    intro j hj
    unfold fn
    rw [List.getD_eq_getElem?_getD, List.getElem?_append_left hj, List.getD_eq_getElem?_getD]
  refine ⟨fun j h0 hj hne => ?_, fun j h0 hj0 hj he => ?_⟩
  · rw [List.length_append, List.length_singleton] at hj
    rw [hf j (by omega), hf _ (by omega)]
    exact h j h0 (by omega)
  · rw [List.length_append, List.length_singleton] at hj
    omega
/-- The last one set at the head, its place dropped. -/
theorem heaped_pop {xs : List Item} (h : Heaped xs) (l : Item) : isDown (fn ((xs.set 0 l).take (xs.length - 1))) ((xs.set 0 l).take (xs.length - 1)).length 0 := by
  have hl : ((xs.set 0 l).take (xs.length - 1)).length = xs.length - 1 := by simp
  rw [hl]
  have hf : ∀ j, 0 < j → j < xs.length - 1 → fn ((xs.set 0 l).take (xs.length - 1)) j = fn xs j := by
    intro j h0 hj
    unfold fn
    rw [List.getD_eq_getElem?_getD, List.getElem?_take, if_pos hj, List.getElem?_set_ne (by omega), List.getD_eq_getElem?_getD]
  refine ⟨fun j h0 hj hne => ?_, fun j h0 => by omega⟩
  rw [hf j h0 hj, hf _ (by omega) (by omega)]
  exact h j h0 (by omega)
theorem pop_perm {xs : List Item} {x l : Item} (h0 : xs[0]? = some x) (hl : xs[xs.length - 1]? = some l) : (x :: (xs.set 0 l).take (xs.length - 1)).Perm xs := by
  cases xs with
  | nil => simp at h0
  | cons y ys =>
    obtain rfl : y = x := by simpa using h0
    rcases List.eq_nil_or_concat ys with rfl | ⟨zs, z, rfl⟩
    · simp
    · rw [List.concat_eq_append] at *
      have : z = l := by
        have e : (y :: (zs ++ [z])).length - 1 = zs.length + 1 := by simp
        rw [e] at hl
        simpa using hl
      subst this
      have e2 : (((y :: (zs ++ [z])).set 0 z).take ((y :: (zs ++ [z])).length - 1)) = z :: zs := by simp
      rw [e2]
      exact List.Perm.cons _ (List.perm_append_singleton z zs).symm
/-! ### The sorted list -/
def Srt (l : List Item) : Prop := l.Pairwise fun a b => ¬ b.lt a
theorem srt_head {xs rl : List Item} {x y : Item} (h : Heaped xs) (hp : xs.Perm rl) (hs : Srt (y :: rl.tail)) (hr : rl = y :: rl.tail) (h0 : xs[0]? = some x) : x = y := by
  have hx : x ∈ xs := List.mem_of_getElem? h0
  have hy : y ∈ xs := hp.mem_iff.2 (by rw [hr]; simp)
  have h1 := heaped_get0 h h0 y hy
  have hx2 : x ∈ y :: rl.tail := by rw [← hr]; exact hp.mem_iff.1 hx
  rcases List.mem_cons.1 hx2 with e | e
  · exact e
  · exact Item.antisymm (List.rel_of_pairwise_cons hs e) h1
theorem srt_insert {xs : List Item} {x : Item} (h : Srt xs) (i : Nat) (hi : i ≤ xs.length) (h1 : i = 0 ∨ ∃ y, xs[i - 1]? = some y ∧ ¬ x.lt y) (h2 : ∀ j y, i ≤ j → xs[j]? = some y → x.lt y) : Srt (xs.take i ++ [x] ++ xs.drop i) := by
  have hlow : ∀ y ∈ xs.take i, ¬ x.lt y := by
    intro y hy
    obtain ⟨j, hj, rfl⟩ := List.getElem_of_mem hy
    rw [List.length_take] at hj
    rcases h1 with rfl | ⟨z, hz, hzx⟩
    · omega
    · rw [List.getElem_take]
      have hz' : i - 1 < xs.length := (List.getElem?_eq_some_iff.1 hz).1
      have ez : xs[i - 1] = z := (List.getElem?_eq_some_iff.1 hz).2
      by_cases e : j = i - 1
      · subst e; rw [ez]; exact hzx
      · have := List.pairwise_iff_getElem.1 h j (i - 1) (by omega) hz' (by omega)
        rw [ez] at this
        exact Item.le_trans this hzx
  have hhigh : ∀ y ∈ xs.drop i, x.lt y := by
    intro y hy
    obtain ⟨j, hj, rfl⟩ := List.getElem_of_mem hy
    rw [List.length_drop] at hj
    rw [List.getElem_drop]
    exact h2 (i + j) _ (by omega) (List.getElem?_eq_getElem (by omega))
  unfold Srt at *
  rw [List.append_assoc, List.pairwise_append]
  refine ⟨h.sublist (List.take_sublist _ _), ?_, ?_⟩
  · rw [List.singleton_append, List.pairwise_cons]
    exact ⟨fun y hy => Item.asymm (hhigh y hy), h.sublist (List.drop_sublist _ _)⟩
  · intro a ha b hb
    rw [List.singleton_append] at hb
    rcases List.mem_cons.1 hb with rfl | hb
    · exact hlow a ha
    · exact Item.le_trans (hlow a ha) (Item.asymm (hhigh b hb))
theorem insert_perm (xs : List Item) (x : Item) (i : Nat) : (xs.take i ++ [x] ++ xs.drop i).Perm (xs ++ [x]) := by
  have h1 : (xs.take i ++ [x] ++ xs.drop i).Perm (xs.take i ++ (xs.drop i ++ [x])) := by
    rw [List.append_assoc]
    exact List.Perm.append_left _ List.perm_append_comm
  rw [← List.append_assoc, List.take_append_drop] at h1
  exact h1
end Go.Proofs.Ythnojjlaicajhaa
