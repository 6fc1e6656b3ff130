/- What IdsOnce keeps in view, over lists alone. -/
import Derived.Test.YtkebkmbfglodlaaDoorId4
namespace Go.Proofs.YtkebkmbfglodlaaDoor.I
structure Inv (room : Int) (m : Nat) (slots : List (Int × Bool)) (free : List Int) (made : List (Int × Int)) (there : List Bool) (n : Int) : Prop where
  len : made.length = there.length
  lenm : made.length ≤ m
  slen : (slots.length : Int) ≤ room
  slenm : slots.length ≤ m
  flen : free.length ≤ m
  gens : ∀ (j : Nat) (x : Int × Bool), slots[j]? = some x → 1 ≤ x.1 ∧ x.1 ≤ m
  at_ : ∀ (k : Nat) (id : Int × Int) (b : Bool), made[k]? = some id → there[k]? = some b → 0 ≤ id.1 ∧ ∃ x, slots[id.1.toNat]? = some x ∧ 1 ≤ id.2 ∧ id.2 ≤ x.1 ∧ (b = true ↔ x = (id.2, true))
  distinct : ∀ (k k' : Nat) (id : Int × Int), made[k]? = some id → made[k']? = some id → k = k'
  freeOk : ∀ j ∈ free, 0 ≤ j ∧ ∃ g, slots[j.toNat]? = some (g, false)
  nodup : free.Nodup
  count : n + free.length = slots.length
  taken : n = slots.countP (·.2)

theorem Inv.start (room : Int) (h : 0 ≤ room) : Inv room 0 [] [] [] [] 0 :=
  ⟨rfl, by simp, by simpa using h, by simp, by simp, by simp, by simp, by simp, by simp, by simp, by simp, by simp⟩
theorem Inv.more {room : Int} {m : Nat} {slots : List (Int × Bool)} {free : List Int} {made : List (Int × Int)} {there : List Bool} {n : Int} (h : Inv room m slots free made there n) : Inv room (m + 1) slots free made there n :=
  { h with lenm := Nat.le_succ_of_le h.lenm, slenm := Nat.le_succ_of_le h.slenm, flen := Nat.le_succ_of_le h.flen, gens := fun j x hx => ⟨(h.gens j x hx).1, by have := (h.gens j x hx).2; omega⟩ }
/-- A place that was dropped is taken again. -/
theorem Inv.pop {room : Int} {m : Nat} {slots : List (Int × Bool)} {f0 : List Int} {i : Int} {made : List (Int × Int)} {there : List Bool} {n : Int} (h : Inv room m slots (f0 ++ [i]) made there n) :
    0 ≤ i ∧ n < room ∧ ∃ g, slots[i.toNat]? = some (g, false) ∧ g ≤ m ∧ 1 ≤ g ∧ (i, g + 1) ∉ made ∧ Inv room (m + 1) (slots.set i.toNat (g + 1, true)) f0 (made ++ [(i, g + 1)]) (there ++ [true]) (n + 1) := by
  obtain ⟨hi, g, hg⟩ := h.freeOk i (by simp)
  obtain ⟨g1, g2⟩ := h.gens _ _ hg
  have hil : i.toNat < slots.length := (List.getElem?_eq_some_iff.1 hg).1
  have hnew : (i, g + 1) ∉ made := by
    intro hm
    obtain ⟨k, hk, he⟩ := List.mem_iff_getElem.1 hm
    obtain ⟨_, x, hx, _, hle, _⟩ := h.at_ k (i, g + 1) (there[k]'(by rw [← h.len]; exact hk)) (by rw [List.getElem?_eq_getElem hk, he]) (List.getElem?_eq_getElem _)
    simp only at hx hle
    rw [hg] at hx
    injection hx with hx
    subst hx
    simp only at hle
    omega
  have hc := h.count
  have hs := h.slen
  rw [List.length_append, List.length_singleton] at hc
  refine ⟨hi, by omega, g, hg, g2, g1, hnew, ?_⟩
  refine ⟨by simp [h.len], by simpa using h.lenm, by simpa using h.slen, by simpa using Nat.le_succ_of_le h.slenm, ?_, ?_, ?_, ?_, ?_, ?_, ?_, ?_⟩
  · have := h.flen; rw [List.length_append, List.length_singleton] at this; omega
  · intro j x hx
    rw [List.getElem?_set] at hx
    split at hx
    · (try rw [if_pos (by omega)] at hx)
      injection hx with hx
      subst hx
      simp only
      omega
    · have := h.gens j x hx; omega
  · intro k id b hk hb
    by_cases hkl : k < made.length
    · rw [List.getElem?_append_left hkl] at hk
      rw [List.getElem?_append_left (by rw [← h.len]; exact hkl)] at hb
      obtain ⟨h0, x, hx, h1, h2, h3⟩ := h.at_ k id b hk hb
      refine ⟨h0, ?_⟩
      by_cases he : i.toNat = id.1.toNat
      · rw [← he, List.getElem?_set_self hil]
        rw [← he, hg] at hx
        injection hx with hx
        subst hx
        refine ⟨_, rfl, h1, ?_, ?_⟩
        · simp only at h2 ⊢; omega
        · simp only [Prod.mk.injEq, Bool.false_eq_true, and_false, iff_false, Bool.not_eq_true] at h3 ⊢
          constructor
          · intro hb'; rw [hb'] at h3; cases h3
          · intro ⟨e, _⟩; simp only at h2; omega
      · rw [List.getElem?_set_ne he]
        exact ⟨x, hx, h1, h2, h3⟩
    · have hkk : k = made.length := by
        have := (List.getElem?_eq_some_iff.1 hk).1
        simp at this; omega
      subst hkk
      rw [List.getElem?_append_right (Nat.le_refl _), Nat.sub_self] at hk
      rw [h.len, List.getElem?_append_right (Nat.le_refl _), Nat.sub_self] at hb
      simp only [List.getElem?_cons_zero, Option.some.injEq] at hk hb
      subst hk; subst hb
      refine ⟨hi, _, List.getElem?_set_self hil, ?_, ?_, ?_⟩
      · simp only; omega
      · simp only; omega
      · simp
  · intro k k' id hk hk'
    have key : ∀ a, (made ++ [(i, g + 1)])[a]? = some id → a < made.length ∧ made[a]? = some id ∨ a = made.length ∧ id = (i, g + 1) := by
      intro a ha
      by_cases hal : a < made.length
      · exact .inl ⟨hal, by rwa [List.getElem?_append_left hal] at ha⟩
      · have : a = made.length := by have := (List.getElem?_eq_some_iff.1 ha).1; simp at this; omega
        subst this
        rw [List.getElem?_append_right (Nat.le_refl _), Nat.sub_self] at ha
        exact .inr ⟨rfl, by simpa using ha.symm⟩
    rcases key k hk with ⟨_, a⟩ | ⟨a, a2⟩ <;> rcases key k' hk' with ⟨_, c⟩ | ⟨c, c2⟩
    · exact h.distinct k k' id a c
    · exact (hnew (c2 ▸ List.mem_of_getElem? a)).elim
    · exact (hnew (a2 ▸ List.mem_of_getElem? c)).elim
    · omega
  · intro j hj
    obtain ⟨h0, g', hg'⟩ := h.freeOk j (by simp [hj])
    refine ⟨h0, g', ?_⟩
    have hne : i.toNat ≠ j.toNat := by
      intro e
      have : j = i := by omega
      subst this
      have := h.nodup
      rw [List.nodup_append] at this
      exact this.2.2 j hj j (by simp) rfl
    rwa [List.getElem?_set_ne hne]
  · have := h.nodup
    rw [List.nodup_append] at this
    exact this.1
  · rw [List.length_set]; omega
  · rw [List.countP_set hil]
    have : slots[i.toNat] = (g, false) := by rw [List.getElem?_eq_getElem hil] at hg; injection hg
    rw [this, h.taken]
    simp
/-- A new place. -/
theorem Inv.next {room : Int} {m : Nat} {slots : List (Int × Bool)} {made : List (Int × Int)} {there : List Bool} {n : Int} (h : Inv room m slots [] made there n) (hr : (slots.length : Int) < room) :
    n < room ∧ ((slots.length : Int), (1 : Int)) ∉ made ∧ Inv room (m + 1) (slots ++ [(1, true)]) [] (made ++ [((slots.length : Int), 1)]) (there ++ [true]) (n + 1) := by
  have hnew : ((slots.length : Int), (1 : Int)) ∉ made := by
    intro hm
    obtain ⟨k, hk, he⟩ := List.mem_iff_getElem.1 hm
    obtain ⟨_, x, hx, _⟩ := h.at_ k _ (there[k]'(by rw [← h.len]; exact hk)) (by rw [List.getElem?_eq_getElem hk, he]) (List.getElem?_eq_getElem _)
    have := (List.getElem?_eq_some_iff.1 hx).1
    simp at this
  have hc := h.count
  simp only [List.length_nil] at hc
  refine ⟨by omega, hnew, ?_⟩
  refine ⟨by simp [h.len], by simpa using h.lenm, by simp; omega, by simpa using h.slenm, by simp, ?_, ?_, ?_, by simp, by simp, by simp; omega, ?_⟩
  · intro j x hx
    by_cases hj : j < slots.length
    · rw [List.getElem?_append_left hj] at hx
      have := h.gens j x hx; omega
    · have hjl : j = slots.length := by have := (List.getElem?_eq_some_iff.1 hx).1; simp at this; omega
      subst hjl
      rw [List.getElem?_append_right (Nat.le_refl _), Nat.sub_self] at hx
      obtain rfl : (1, true) = x := by simpa using hx
      simp only; omega
  · intro k id b hk hb
    by_cases hkl : k < made.length
    · rw [List.getElem?_append_left hkl] at hk
      rw [List.getElem?_append_left (by rw [← h.len]; exact hkl)] at hb
      obtain ⟨h0, x, hx, h1⟩ := h.at_ k id b hk hb
      exact ⟨h0, x, by rw [List.getElem?_append_left (List.getElem?_eq_some_iff.1 hx).1]; exact hx, h1⟩
    · have hkk : k = made.length := by
        have := (List.getElem?_eq_some_iff.1 hk).1
        simp at this; omega
      subst hkk
      rw [List.getElem?_append_right (Nat.le_refl _), Nat.sub_self] at hk
      rw [h.len, List.getElem?_append_right (Nat.le_refl _), Nat.sub_self] at hb
      simp only [List.getElem?_cons_zero, Option.some.injEq] at hk hb
      subst hk; subst hb
      exact ⟨by simp, (1, true), by simp, by simp, by simp, by simp⟩
  · intro k k' id hk hk'
    have key : ∀ a, (made ++ [((slots.length : Int), (1 : Int))])[a]? = some id → a < made.length ∧ made[a]? = some id ∨ a = made.length ∧ id = ((slots.length : Int), 1) := by
      intro a ha
      by_cases hal : a < made.length
      · exact .inl ⟨hal, by rwa [List.getElem?_append_left hal] at ha⟩
      · have : a = made.length := by have := (List.getElem?_eq_some_iff.1 ha).1; simp at this; omega
        subst this
        rw [List.getElem?_append_right (Nat.le_refl _), Nat.sub_self] at ha
        exact .inr ⟨rfl, by simpa using ha.symm⟩
    rcases key k hk with ⟨_, a⟩ | ⟨a, a2⟩ <;> rcases key k' hk' with ⟨_, c⟩ | ⟨c, c2⟩
    · exact h.distinct k k' id a c
    · exact (hnew (c2 ▸ List.mem_of_getElem? a)).elim
    · exact (hnew (a2 ▸ List.mem_of_getElem? c)).elim
    · omega
  · rw [List.countP_append, h.taken]; simp
theorem Inv.full {room : Int} {m : Nat} {slots : List (Int × Bool)} {made : List (Int × Int)} {there : List Bool} {n : Int} (h : Inv room m slots [] made there n) (hr : ¬ (slots.length : Int) < room) : room = slots.length ∧ ¬ n < room := by
  have hc := h.count
  have hs := h.slen
  simp only [List.length_nil] at hc
  omega
/-- Each that was made is there just if it was not dropped. -/
theorem Inv.has {room : Int} {m : Nat} {slots : List (Int × Bool)} {free : List Int} {made : List (Int × Int)} {there : List Bool} {n : Int} (h : Inv room m slots free made there n) {k : Nat} {id : Int × Int} {b : Bool} (hk : made[k]? = some id) (hb : there[k]? = some b) : hasB slots id.1 id.2 = b := by
  obtain ⟨h0, x, hx, _, _, h3⟩ := h.at_ k id b hk hb
  have hl := (List.getElem?_eq_some_iff.1 hx).1
  unfold hasB
  rw [decide_eq_true ⟨h0, by omega⟩, List.getD_eq_getElem?_getD, hx]
  simp only [Option.getD_some, Bool.true_and]
  rw [Bool.eq_iff_iff, h3]
  obtain ⟨x1, x2⟩ := x
  simp [and_comm]
/-- One that is there is dropped. -/
theorem Inv.drop {room : Int} {m : Nat} {slots : List (Int × Bool)} {free : List Int} {made : List (Int × Int)} {there : List Bool} {n : Int} (h : Inv room (m + 1) slots free made there n) (hf : free.length ≤ m) {k : Nat} {id : Int × Int} (hk : made[k]? = some id) (hb : there[k]? = some true) :
    Inv room (m + 1) (slots.set id.1.toNat (id.2, false)) (free ++ [id.1]) made (there.set k false) (n - 1) := by
  obtain ⟨h0, x, hx, h1, _, h3⟩ := h.at_ k id true hk hb
  obtain rfl := h3.1 rfl
  have hil := (List.getElem?_eq_some_iff.1 hx).1
  have hkl := (List.getElem?_eq_some_iff.1 hb).1
  refine ⟨by simp [h.len], h.lenm, by simpa using h.slen, by simpa using h.slenm, by simp; omega, ?_, ?_, h.distinct, ?_, ?_, ?_, ?_⟩
  · intro j y hy
    rw [List.getElem?_set] at hy
    split at hy
    · (try rw [if_pos (by omega)] at hy)
      injection hy with hy
      subst hy
      have := h.gens _ _ hx
      simpa using this
    · exact h.gens j y hy
  · intro k' id' b hk' hb'
    by_cases hkk : k = k'
    · subst hkk
      rw [hk] at hk'
      injection hk' with hk'
      subst hk'
      rw [List.getElem?_set_self hkl] at hb'
      injection hb' with hb'
      subst hb'
      exact ⟨h0, _, List.getElem?_set_self hil, h1, Int.le_refl _, by simp⟩
    · rw [List.getElem?_set_ne hkk] at hb'
      obtain ⟨a0, y, hy, a1, a2, a3⟩ := h.at_ k' id' b hk' hb'
      refine ⟨a0, ?_⟩
      by_cases he : id.1.toNat = id'.1.toNat
      · rw [← he, hx] at hy
        injection hy with hy
        subst hy
        rw [← he]
        refine ⟨_, List.getElem?_set_self hil, a1, a2, ?_⟩
        have hbf : b = false := by
          cases b with
          | false => rfl
          | true =>
            have := a3.1 rfl
            have e1 : id = id' := by
              obtain ⟨i1, i2⟩ := id
              obtain ⟨j1, j2⟩ := id'
              simp only [Prod.mk.injEq, and_true] at this he a0 h0 ⊢
              omega
            subst e1
            exact (hkk (h.distinct k k' id hk hk')).elim
        subst hbf
        simp
      · rw [List.getElem?_set_ne he]
        exact ⟨y, hy, a1, a2, a3⟩
  · intro j hj
    rw [List.mem_append] at hj
    rcases hj with hj | hj
    · obtain ⟨a0, g, hg⟩ := h.freeOk j hj
      refine ⟨a0, g, ?_⟩
      have hne : id.1.toNat ≠ j.toNat := by
        intro e
        rw [← e, hx] at hg
        simp at hg
      rwa [List.getElem?_set_ne hne]
    · obtain rfl : j = id.1 := by simpa using hj
      exact ⟨h0, id.2, List.getElem?_set_self hil⟩
  · rw [List.nodup_append]
    refine ⟨h.nodup, by simp, ?_⟩
    intro a ha b hb' e
    obtain rfl : b = id.1 := by simpa using hb'
    subst e
    obtain ⟨_, g, hg⟩ := h.freeOk _ ha
    rw [hx] at hg
    simp at hg
  · have := h.count
    rw [List.length_set, List.length_append, List.length_singleton]
    omega
  · rw [List.countP_set hil]
    have e : slots[id.1.toNat] = (id.2, true) := by rw [List.getElem?_eq_getElem hil] at hx; injection hx
    have hpos : 0 < slots.countP (·.2) := List.countP_pos_iff.2 ⟨(id.2, true), List.mem_of_getElem? hx, rfl⟩
    rw [e, h.taken]
    simp
    omega
open Go.RowKit
theorem make_ok {room : Int} {m : Nat} {slots : List (Int × Bool)} {free : List Int} {made : List (Int × Int)} {there : List Bool} {n : Int} (h : Inv room m slots free made there n) (hr : room ≤ 1000) (hm : m ≤ 1000) (hn : n < room) (p : Nat) :
    ∃ id slots' free', Does Tryd.prog 28 #[.pointer (some ⟨p, 0, none⟩)] (isIds p room slots free) (fun e B => e = .returned (.tuple #[.agg #[.int .i64 id.1, .int .i64 id.2], .int .i64 0]) ∧ B = isIds p room slots' free') ∧ id ∉ made ∧ free'.length ≤ m ∧ Inv room (m + 1) slots' free' (made ++ [id]) (there ++ [true]) (n + 1) := by
  have hsl := h.slen
  rcases List.eq_nil_or_concat free with rfl | ⟨f0, i, rfl⟩
  · have hlt : (slots.length : Int) < room := by
      by_cases h1 : (slots.length : Int) < room
      · exact h1
      · exact ((h.full h1).2 hn).elim
    obtain ⟨_, h2, h3⟩ := h.next hlt
    exact ⟨_, _, _, make_more p room slots (by omega) (by omega), h2, Nat.zero_le _, h3⟩
  · rw [List.concat_eq_append] at h ⊢
    obtain ⟨h0, _, g, hg, hgm, hg1, h2, h3⟩ := h.pop
    have e : wrap64 (g + 1) = g + 1 := by unfold wrap64; omega
    refine ⟨(i, g + 1), _, _, ?_, h2, by have := h.flen; simp at this; omega, h3⟩
    have := make_pop p room slots f0 i (g, false) h0 hg
    simpa only [e] using this
theorem make_no {room : Int} {m : Nat} {slots : List (Int × Bool)} {free : List Int} {made : List (Int × Int)} {there : List Bool} {n : Int} (h : Inv room m slots free made there n) (hn : ¬ n < room) (p : Nat) :
    Does Tryd.prog 28 #[.pointer (some ⟨p, 0, none⟩)] (isIds p room slots free) (fun e B => e = .returned (.tuple #[.agg #[.int .i64 0, .int .i64 0], .int .i64 10]) ∧ B = isIds p room slots free) := by
  have hc := h.count
  have hs := h.slen
  obtain rfl : free = [] := List.eq_nil_of_length_eq_zero (by omega)
  simp only [List.length_nil] at hc
  obtain rfl : room = (slots.length : Int) := by omega
  exact make_full p slots

end Go.Proofs.YtkebkmbfglodlaaDoor.I
