/- The reference's Named, FindKey, CheckKeys: what they tell; plain laws over the printed functions. -/
import Derived.Test.YtmonnibleolhhaaD
set_option linter.unusedVariables false
namespace Go.Proofs.Ytmonnibleolhhaa
open Go.RowKit
open Go.Proofs.YtmonnibleolhhaaW.PrintWords Go.Proofs.YtmonnibleolhhaaW.PrintLast Go.Proofs.YtmonnibleolhhaaW.PrintMore
open PSchemaKeys (k24 k24_mk puppeteerref1_Named.f puppeteerref1_Named.l0 puppeteerref1_FindKey.f puppeteerref1_FindKey.l0 puppeteerref1_CheckKeys.f puppeteerref1_CheckKeys.l0 puppeteerref1_CheckKeys.j1 rd_T24)
theorem C_of_rd {w : World} {A : Option Addr} {n c : Nat} {l : List KeyM} (h : Rd w 3 encKey (.slice A n c) l) : Kd.C k24 w A l.length l := by
  obtain ⟨A', c', h1, h2, h3⟩ := h.shape
  refine ⟨rfl, h3, fun h0 => ?_⟩
  obtain ⟨b, off, hA, _, _⟩ := h.cells A n c rfl 0 _ (List.getElem?_eq_getElem h0)
  refine ⟨⟨b, off, none⟩, hA, fun j p hp => ⟨encKey p, rfl, k24_mk w p, fun i u hu => ?_⟩⟩
  obtain ⟨b', off', hA', _, hc⟩ := h.cells A n c rfl j p hp
  rw [hA] at hA'
  injection hA' with hA'
  injection hA' with e1 e2
  subst e1; subst e2
  have hi : i < 3 := by have := (List.getElem?_eq_some_iff.1 hu).1; exact this
  have := hc i hi
  rw [Addr.add_lit, show k24.sz = 3 from rfl]
  rw [show off + (j * 3 + i) = off + j * 3 + i by omega]
  exact this.trans hu
theorem w64 (n : Int) (h0 : -9223372036854775808 ≤ n) (h1 : n ≤ 9223372036854775807) : wrap64 n = n := by unfold wrap64; omega
theorem named_step (k : Nat) (s : ByteArray) (i : Nat) (hi : i < s.size) (hs : s.size ≤ 9223372036854775807) : puppeteerref1_Named.l0 (k + 1) s (i : Int) = if isLet (s[i].toNat : Int) = true ∨ (i ≠ 0 ∧ isGo (s[i].toNat : Int) = true) then puppeteerref1_Named.l0 k s ((i + 1 : Nat) : Int) else some false := by
  have hb : bt s (i : Int) = (s[i].toNat : Int) := by unfold bt; rw [dif_pos (by simpa using hi)]; simp
  have e1 : isLet (s[i].toNat : Int) = true ↔ (97 ≤ (s[i].toNat : Int) ∧ (s[i].toNat : Int) ≤ 122) ∨ (65 ≤ (s[i].toNat : Int) ∧ (s[i].toNat : Int) ≤ 90) := by unfold isLet; simp
  have e2 : isGo (s[i].toNat : Int) = true ↔ isLet (s[i].toNat : Int) = true ∨ (48 ≤ (s[i].toNat : Int) ∧ (s[i].toNat : Int) ≤ 57) ∨ (s[i].toNat : Int) = 95 := by unfold isGo; simp
  rw [puppeteerref1_Named.l0, hb, w64 _ (by omega) (by omega), show ((i : Int) + 1) = ((i + 1 : Nat) : Int) by omega, if_pos (by omega), if_pos (by omega)]
  generalize puppeteerref1_Named.l0 k s ((i + 1 : Nat) : Int) = N
  generalize (s[i].toNat : Int) = c at *
  obtain ⟨R, hR⟩ : ∃ R, (if isLet c = true ∨ (i ≠ 0 ∧ isGo c = true) then N else some false) = R := ⟨_, rfl⟩
  have h1 : ((97 ≤ c ∧ c ≤ 122) ∨ (65 ≤ c ∧ c ≤ 90)) ∨ (i ≠ 0 ∧ ((48 ≤ c ∧ c ≤ 57) ∨ c = 95)) → R = N := by
    intro h
    rw [← hR, if_pos]
    rw [e2, e1]
    omega
  have h2 : ¬ (((97 ≤ c ∧ c ≤ 122) ∨ (65 ≤ c ∧ c ≤ 90)) ∨ (i ≠ 0 ∧ ((48 ≤ c ∧ c ≤ 57) ∨ c = 95))) → R = some false := by
    intro h
    rw [← hR, if_neg]
    rw [e2, e1]
    omega
  rw [hR]
  clear hR e1 e2 hb
  repeat' split
  all_goals first | exact (h1 (by omega)).symm | exact (h2 (by omega)).symm
theorem named_all (s : ByteArray) (hs : s.size ≤ 9223372036854775807) : ∀ (j i : Nat), i + j = s.size → 0 < i → ∀ k, j < k → puppeteerref1_Named.l0 k s (i : Int) = some (decide (s.size ≤ 24) && (s.data.toList.drop i).all fun c => isGo (byI c))
  | 0, i, hi, h0, k, hk => by
    obtain ⟨k, rfl⟩ : ∃ k', k = k' + 1 := ⟨k - 1, by omega⟩
    rw [puppeteerref1_Named.l0, if_neg (by omega), if_pos (by omega), List.drop_of_length_le (by rw [Array.length_toList]; show s.size ≤ i; omega)]
    simp
    omega
  | j + 1, i, hi, h0, k, hk => by
    obtain ⟨k, rfl⟩ : ∃ k', k = k' + 1 := ⟨k - 1, by omega⟩
    have hlt : i < s.size := by omega
    rw [named_step k s i hlt hs]
    have hd : s.data.toList.drop i = s[i] :: s.data.toList.drop (i + 1) := List.drop_eq_getElem_cons (by rw [Array.length_toList]; exact hlt)
    have e2 : isLet (s[i].toNat : Int) = true → isGo (s[i].toNat : Int) = true := by unfold isGo; intro h; rw [h]; rfl
    rw [hd, List.all_cons]
    by_cases hg : isGo (s[i].toNat : Int) = true
    · rw [if_pos (.inr ⟨by omega, hg⟩), named_all s hs j (i + 1) (by omega) (by omega) k (by omega)]
      have : isGo (byI s[i]) = true := hg
      rw [this, Bool.true_and]
    · rw [if_neg (fun h => hg (h.elim e2 (·.2)))]
      have : isGo (byI s[i]) = false := by simpa [byI] using hg
      rw [this]
      simp
theorem named_f (s : ByteArray) (hs : s.size ≤ 9223372036854775807) (k : Nat) (hk : s.size + 2 ≤ k) : puppeteerref1_Named.f k s = some (nameB s.data.toList) := by
  unfold puppeteerref1_Named.f
  by_cases h0 : s.size = 0
  · obtain ⟨k, rfl⟩ : ∃ k', k = k' + 1 := ⟨k - 1, by omega⟩
    rw [nameB_nil s h0, puppeteerref1_Named.l0, if_neg (by omega), if_neg (by omega)]
  · obtain ⟨k, rfl⟩ : ∃ k', k = k' + 1 := ⟨k - 1, by omega⟩
    have hpos : 0 < s.size := by omega
    have h := named_step k s 0 hpos hs
    rw [show ((0 : Nat) : Int) = 0 from rfl] at h
    rw [h, nameB_of s hpos]
    have hd : s.data.toList = s[0] :: s.data.toList.drop 1 := by
      have := List.drop_eq_getElem_cons (l := s.data.toList) (i := 0) (by rw [Array.length_toList]; exact hpos)
      rw [List.drop_zero] at this
      exact this
    have hb : isGo (byI s[0]) = isGo (s[0].toNat : Int) := rfl
    conv => rhs; rw [hd, List.all_cons, hb]
    cases hl : isLet (s[0].toNat : Int) with
    | true =>
      rw [if_pos (.inl rfl), named_all s hs (s.size - 1) 1 (by omega) (by omega) k (by omega)]
      have : isGo (s[0].toNat : Int) = true := by unfold isGo; rw [hl]; rfl
      rw [this]
      simp
    | false =>
      rw [if_neg (by simp)]
      simp
/-- The first key of a name, below 0: none. -/
def fk (l : List KeyM) (s : ByteArray) : Int := match atF l s with
  | some i => ((i : Nat) : Int)
  | none => -1
theorem rd_at (l : List KeyM) (i : Nat) (h : i < l.length) : rd_T24 l (i : Int) = l[i] := by
  unfold rd_T24
  rw [Int.toNat_natCast, List.getD_eq_getElem?_getD, List.getElem?_eq_getElem h]
  rfl
theorem find_all (l : List KeyM) (s : ByteArray) (hl : l.length ≤ 1000) : ∀ (j i : Nat), i + j = l.length → (∀ m, m < i → ∀ x, l[m]? = some x → x.f0 ≠ s) → ∀ k, j < k → puppeteerref1_FindKey.l0 k l s (i : Int) = some (fk l s)
  | 0, i, hi, hn, k, hk => by
    obtain ⟨k, rfl⟩ : ∃ k', k = k' + 1 := ⟨k - 1, by omega⟩
    rw [puppeteerref1_FindKey.l0, if_neg (by omega)]
    have : atF l s = none := by
      unfold atF
      rw [List.findIdx?_eq_none_iff]
      intro x hx
      obtain ⟨m, hm, e⟩ := List.getElem_of_mem hx
      have := hn m (by omega) x (by rw [List.getElem?_eq_getElem hm, e])
      simpa using this
    unfold fk
    rw [this]
  | j + 1, i, hi, hn, k, hk => by
    obtain ⟨k, rfl⟩ : ∃ k', k = k' + 1 := ⟨k - 1, by omega⟩
    have hlt : i < l.length := by omega
    rw [puppeteerref1_FindKey.l0, if_pos (by omega), if_pos (by omega), rd_at l i hlt]
    by_cases h : l[i].f0 = s
    · rw [if_pos (by rw [h])]
      have : atF l s = some i := by
        unfold atF
        rw [List.findIdx?_eq_some_iff_getElem]
        refine ⟨hlt, by simpa using h, fun m hm => ?_⟩
        have := hn m hm l[m] (List.getElem?_eq_getElem (by omega))
        simpa using this
      unfold fk
      rw [this]
    · rw [if_neg (fun e => h (by
        rw [ByteArray.toList_eq, ByteArray.toList_eq] at e
        exact Go.WideShapes.bytes_inj e))]
      rw [w64 _ (by omega) (by omega), show ((i : Int) + 1) = ((i + 1 : Nat) : Int) by omega]
      refine find_all l s hl j (i + 1) (by omega) (fun m hm x hx => ?_) k (by omega)
      by_cases e : m = i
      · subst e
        rw [List.getElem?_eq_getElem hlt] at hx
        injection hx with hx
        rw [← hx]; exact h
      · exact hn m (by omega) x hx
theorem findkey_f (l : List KeyM) (s : ByteArray) (hl : l.length ≤ 1000) (k : Nat) (hk : l.length + 1 ≤ k) : puppeteerref1_FindKey.f k l s = some (fk l s) := by
  unfold puppeteerref1_FindKey.f
  exact find_all l s hl l.length 0 (by omega) (fun m hm => by omega) k (by omega)
def pairE (o : Option (Int × Int)) : Int × Int := match o with
  | none => (0, 0)
  | some x => x
theorem check_all (l : List KeyM) (hl : l.length ≤ 1000) (M : Nat) (hsz : ∀ x ∈ l, x.f0.size ≤ M) (hM : M ≤ 9223372036854775807) : ∀ (j i : Nat), i + j = l.length → ∀ k, 2 * j + M + 2000 ≤ k → puppeteerref1_CheckKeys.l0 k l (i : Int) = some (pairE (badF (l.take i) (l.drop i)))
  | 0, i, hi, k, hk => by
    obtain ⟨k, rfl⟩ : ∃ k', k = k' + 1 := ⟨k - 1, by omega⟩
    rw [puppeteerref1_CheckKeys.l0, if_neg (by omega), List.drop_of_length_le (by omega)]
    rfl
  | j + 1, i, hi, k, hk => by
    obtain ⟨k, rfl⟩ : ∃ k', k = k' + 2 := ⟨k - 2, by omega⟩
    have hlt : i < l.length := by omega
    have hd : l.drop i = l[i] :: l.drop (i + 1) := List.drop_eq_getElem_cons hlt
    have ht : l.take (i + 1) = l.take i ++ [l[i]] := List.take_succ_eq_append_getElem hlt
    have hlen : (l.take i).length = i := by rw [List.length_take]; omega
    have hsi := hsz l[i] (List.getElem_mem hlt)
    rw [puppeteerref1_CheckKeys.l0, if_pos (by omega), if_pos (by omega), rd_at l i hlt, named_f _ (by omega) _ (by omega), Option.bind_some, hd, badF, hlen]
    have ih := check_all l hl M hsz hM j (i + 1) (by omega) k (by omega)
    rw [ht] at ih
    cases hn : nameB l[i].f0.data.toList with
    | false =>
      have hc : chk (l.take i) l[i] = 5 := by unfold chk; rw [if_pos hn]
      rw [if_neg (by simp)]
      have hb : (if chk (l.take i) l[i] = 0 then badF (l.take i ++ [l[i]]) (l.drop (i + 1)) else some ((i : Int), chk (l.take i) l[i])) = some ((i : Int), 5) := by rw [hc, if_neg (by omega)]
      rw [hb]
      rfl
    | true =>
      rw [if_pos rfl]
      by_cases hk1 : l[i].f1 < 0 ∨ 4 < l[i].f1
      · have hc : chk (l.take i) l[i] = 7 := by unfold chk; rw [if_neg (by rw [hn]; simp), if_pos hk1]
        have hb : (if chk (l.take i) l[i] = 0 then badF (l.take i ++ [l[i]]) (l.drop (i + 1)) else some ((i : Int), chk (l.take i) l[i])) = some ((i : Int), 7) := by rw [hc, if_neg (by omega)]
        rw [hb]
        by_cases h0 : l[i].f1 < 0
        · rw [if_pos h0, puppeteerref1_CheckKeys.j1, if_pos rfl]; rfl
        · rw [if_neg h0, puppeteerref1_CheckKeys.j1, if_pos (by simp; omega)]; rfl
      · rw [if_neg (by omega), puppeteerref1_CheckKeys.j1, if_neg (by simp; omega), if_pos (by omega), if_pos (by omega), if_pos (by omega), Int.toNat_natCast, rd_at l i hlt]
        rw [findkey_f _ _ (by omega) _ (by omega), Option.bind_some]
        have hcc : chk (l.take i) l[i] = if (atF (l.take i) l[i].f0).isSome then 6 else 0 := by unfold chk; rw [if_neg (by rw [hn]; simp), if_neg hk1]
        rw [hcc]
        cases hf : atF (l.take i) l[i].f0 with
        | some y =>
          rw [if_pos (by unfold fk; rw [hf]; simp only []; omega)]
          simp
          rfl
        | none =>
          rw [if_neg (by unfold fk; rw [hf]; simp only []; omega), w64 _ (by omega) (by omega), show ((i : Int) + 1) = ((i + 1 : Nat) : Int) by omega, ih]
          simp
theorem checkkeys_f (l : List KeyM) (hl : l.length ≤ 1000) (M : Nat) (hsz : ∀ x ∈ l, x.f0.size ≤ M) (hM : M ≤ 9223372036854775807) : ∃ i k, puppeteerref1_CheckKeys.f k l = some (i, newE l) := by
  unfold newE
  by_cases h : 100 < l.length
  · refine ⟨0, 0, ?_⟩
    unfold puppeteerref1_CheckKeys.f
    rw [if_pos (by omega), if_pos h]
  · have := check_all l hl M hsz hM l.length 0 (by omega) (2 * l.length + M + 2000) (Nat.le_refl _)
    rw [List.take_zero, List.drop_zero] at this
    refine ⟨(pairE (badF [] l)).1, 2 * l.length + M + 2000, ?_⟩
    unfold puppeteerref1_CheckKeys.f
    rw [if_neg (by omega), if_neg h]
    rw [show ((0 : Nat) : Int) = 0 from rfl] at this
    rw [this]
    cases badF [] l <;> rfl
end Go.Proofs.Ytmonnibleolhhaa
