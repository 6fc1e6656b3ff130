/- New, names, Own, Shared; the example of the document. -/
import Derived.Test.YtdbdijicicbhfaaSC
set_option linter.unusedVariables false
namespace Go.Proofs.Ytdbdijicicbhfaa
open Go.RowKit
theorem chk_vals (l : List KeyM) (k : KeyM) : chk l k = 0 ∨ chk l k = 5 ∨ chk l k = 6 ∨ chk l k = 7 := by
  unfold chk
  split
  · exact .inr (.inl rfl)
  · split
    · exact .inr (.inr (.inr rfl))
    · split
      · exact .inr (.inr (.inl rfl))
      · exact .inl rfl
theorem badF_ne : ∀ (l pre : List KeyM) (i c : Int), badF pre l = some (i, c) → c = 5 ∨ c = 6 ∨ c = 7
  | [], pre, i, c, h => by simp [badF] at h
  | k :: r, pre, i, c, h => by
    rw [badF] at h
    split at h
    · exact badF_ne r _ i c h
    · rename_i h0
      injection h with h
      injection h with _ h
      subst h
      rcases chk_vals pre k with h | h | h | h
      · exact absurd h h0
      · exact .inl h
      · exact .inr (.inl h)
      · exact .inr (.inr h)
/-- What New tells. -/
def newE (l : List KeyM) : Int := if 100 < l.length then 9 else match badF [] l with
  | none => 0
  | some x => x.2
/-- A result of New, in memory: a schema, or nil. -/
def isNew (v : Value) (l : List KeyM) (B : List Hp) : Prop := (newE l = 0 ∧ ∃ p, v = .pointer (some ⟨p, 0, none⟩) ∧ B = [isSc p l]) ∨ (newE l ≠ 0 ∧ v = .pointer none ∧ B = [])
set_option maxHeartbeats 3200000 in
theorem new_does (v : Value) (l : List KeyM) (w : World) (hd : Rd w 3 encKey v l) (hsz : ∀ x ∈ l, x.f0.size ≤ 9223372036854775807) : Calls Try.prog 14 #[v] w fun e w' =>
    ∃ u B, e = .returned (.tuple #[u, .int .i64 (newE l)]) ∧ isNew u l B ∧ At (fun _ => False) w w' (Hp.seps B) := by
  obtain ⟨dA, dc, rfl, hdc, hdn⟩ := hd.shape
  have HD := As.mk hd
  have HSz := As.mk hsz
  clear hd hsz
  obtain ⟨C, hC⟩ : ∃ C, newE l = C := ⟨_, rfl⟩
  have HI : As (∀ u B, ((C = 0 ∧ ∃ p, u = Value.pointer (some ⟨p, 0, none⟩) ∧ B = [isSc p l]) ∨ (C ≠ 0 ∧ u = .pointer none ∧ B = [])) → isNew u l B) := ⟨fun u B h => by unfold isNew; rw [hC]; exact h⟩
  rw [hC]
  by_cases h100 : 100 < l.length
  · have t1 : decide (100 < (l.length : Int)) = true := decide_eq_true (by omega)
    have t2 : decide (100 < l.length) = true := decide_eq_true h100
    obtain rfl : C = 9 := by rw [← hC]; unfold newE; rw [if_pos h100]
    clear hC h100
    go_enter Try.func14, Try.ntmps14
    go_wp2_with fail
    go_ret2
    exact ⟨_, [], rfl, HI.out _ _ (.inr ⟨by decide, rfl, rfl⟩), At.start0 (Below.refl _ _)⟩
  · have t1 : decide (100 < (l.length : Int)) = false := decide_eq_false (by omega)
    have t2 : decide (100 < l.length) = false := decide_eq_false h100
    have HC := As.mk hC
    have HM := As.mk (made_does (.slice dA l.length dc) l w HD.out (by omega) HSz.out)
    have HH := As.mk h100
    clear hC h100
    go_enter Try.func14, Try.ntmps14
    go_wp2_with fail
    refine HM.out.mono ?_
    rintro e w1 (⟨hn, p, rfl, hS⟩ | ⟨i, c, hs, rfl, hb⟩)
    · have HC0 : As (C = 0) := ⟨by rw [← HC.out]; unfold newE; rw [if_neg HH.out, hn]⟩
      obtain rfl := HC0.out
      clear hn HC HC0
      go_wp2_with fail
      go_ret2
      exact ⟨_, _, rfl, HI.out _ _ (.inl ⟨by first | rfl | trivial, p, rfl, rfl⟩), hS⟩
    · have HC0 : As (C = c) := ⟨by rw [← HC.out]; unfold newE; rw [if_neg HH.out, hs]⟩
      obtain rfl := HC0.out
      have HNe : As (C ≠ 0) := ⟨by rcases badF_ne _ _ _ _ hs with h | h | h <;> omega⟩
      have HBl := As.mk hb
      clear hs hb HC HC0
      go_wp2_with fail
      go_ret2
      exact ⟨_, [], rfl, HI.out _ _ (.inr ⟨HNe.out, rfl, rfl⟩), At.start0 HBl.out⟩
def encSt (s : ByteArray) : List Value := [.string s]
theorem encSt_len (s : ByteArray) : (encSt s).length = 1 := rfl
theorem one_st (s : ByteArray) : ∀ u ∈ encSt s, u.oneCell' = true := by intro u hu; simp [encSt] at hu; subst hu; rfl
theorem Try.info9 : (Try.prog.info? 9).map (fun i => (i.zero, i.size, i.bytes)) = some (some (.string ⟨#[]⟩), 1, 16) := by kernel_rfl
def nms (b : Bool) (l : List KeyM) : List ByteArray := (l.filter fun k => k.f2 == b).map (·.f0)
theorem nms_snoc (b : Bool) (l : List KeyM) (k : KeyM) : nms b (l ++ [k]) = if k.f2 == b then nms b l ++ [k.f0] else nms b l := by
  unfold nms
  rw [List.filter_append, List.map_append]
  by_cases h : k.f2 == b
  · rw [if_pos h]; simp [h]
  · rw [if_neg h]; simp [h]
theorem nms_len (b : Bool) (l : List KeyM) : (nms b l).length ≤ l.length := by unfold nms; rw [List.length_map]; exact List.length_filter_le _ _
set_option maxRecDepth 100000 in
set_option maxHeartbeats 6400000 in
theorem names_does (p : Nat) (l : List KeyM) (b : Bool) (hl : l.length ≤ 200) : Does Try.prog 26 #[.pointer (some ⟨p, 0, none⟩), .bool b] (isSc p l) (fun e B => ∃ v, e = .returned v ∧ B = Hp.seps [Hp.row 9 1 encSt v (nms b l), isSc p l]) := by
  refine Does.of fun w F hS => ?_
  obtain ⟨A, c, m, hc, hn, hS⟩ := sc_openL hS.toL
  have p0 := (hS.cellAt 0 rfl 0).trans rfl
  have p1 := (hS.cellAt 0 rfl 1).trans rfl
  have hS1 := hS.nilRow 9 1 encSt
  clear hS
  go_enter Try.func26, Try.ntmps26
  go_wp2_with fail
  go_loopg [5, 13] l.length (fun g0 ov iv wr => ∃ k : Nat, k + g0 = l.length ∧ iv = .int .i64 k ∧ At F w wr (Hp.seps [Hp.row 9 1 encSt ov (nms b (l.take k)), Hp.blk p #[.slice A l.length c, .map (some m)] 81, Hp.row 30 3 encKey (.slice A l.length c) l, Hp.mp Try.prog 9 m l.length encS encN (atF l)]))
  case atStart => exact ⟨0, by omega, rfl, hS1⟩
  case round =>
    clear hS1 p0 p1
    obtain ⟨k, hk, rfl, hS⟩ := hrel
    obtain ⟨D, n0, cc, rfl⟩ := (hS.rowAt 0 rfl).slice
    by_cases hlt : k < l.length
    · have HK := As.mk hk
      obtain ⟨x, hx⟩ : ∃ x, l[k]? = some x := ⟨_, List.getElem?_eq_getElem hlt⟩
      obtain ⟨g, rfl, hgl, hcell⟩ := (hS.rowAt 2 rfl).cell encKey_len k x hx
      have c0 := (hcell 0 (by omega)).1
      have c1 := (hcell 1 (by omega)).1
      have c2 := (hcell 2 (by omega)).1
      have hts := take_snoc hx
      have hns := nms_snoc b (l.take k) x
      rw [← hts] at hns
      have HN := As.mk hns
      have hnl := nms_len b (l.take k)
      rw [List.length_take] at hnl
      have HNl : As ((nms b (l.take k)).length ≤ 200) := ⟨by omega⟩
      obtain ⟨s, kd, sh⟩ := x
      simp only [encKey, List.getElem?_cons_zero, List.getElem?_cons_succ, Nat.add_zero] at c0 c1 c2
      simp only at HN
      have hS2 := hS.alloc #[.string s, .int .i64 kd, .bool sh] 30
      clear hk hcell hx hts hns hnl hS
      by_cases hb : sh = b
      · subst hb
        have HN2 : As (nms sh (l.take (k + 1)) = nms sh (l.take k) ++ [s]) := ⟨by rw [HN.out]; simp⟩
        clear HN
        go_wp2_with (at_builtin; refine rw_append rfl (.tmp 21) (.tmp 24) 42 9 1 encSt (.string ⟨#[]⟩) 16 rfl Try.underlying42 Try.info9 rfl (by decide) (.slice D n0 cc) (nms sh (l.take k)) s rfl _ rfl (by first | exact blk_new (by simp) | exact blk_new_drew (by simp)) ((hS2.below (by repeat (first | exact Below.refl _ _ | refine bl_drewN ?_ _ | refine Below.drew ?_ | refine bl_alloc ?_ _ | refine bl_set ?_ (by first | (simp; done) | omega | (simp; omega)) _))).rowAt 1 rfl) encSt_len (one_st _) ?c1 ?c2 ?c3)
        case c1 => simp only [maxLen]; have := HNl.out; omega
        case c2 => have := HNl.out; omega
        case c3 =>
          intro v1 w2 hA
          have hT := At.appendAt 1 hA hS2 rfl (by repeat (first | exact Below.refl _ _ | refine bl_drewN ?_ _ | refine Below.drew ?_ | refine bl_alloc ?_ _ | refine bl_set ?_ (by first | (simp; done) | omega | (simp; omega)) _))
          rw [← HN2.out] at hT
          clear hA hS2
          go_wp2_with fail
          go_roundg (gk - 1)
          case measure => have := HK.out; omega
          case rel => exact ⟨k + 1, by have := HK.out; omega, by go_num, hT.sel [1, 1, 1, 1]⟩
      · have t0 : (sh == b) = false := by simpa using hb
        have HN2 : As (nms b (l.take (k + 1)) = nms b (l.take k)) := ⟨by rw [HN.out, if_neg (by simpa using hb)]⟩
        clear HN hb
        go_wp2_with fail
        go_roundg (gk - 1)
        case measure => have := HK.out; omega
        case rel => exact ⟨k + 1, by have := HK.out; omega, by go_num, by rw [HN2.out]; exact hS2.sel [1, 1, 1, 1]⟩
    · obtain rfl : k = l.length := by omega
      rw [List.take_length] at hS
      go_wp2_with fail
      go_ret
      exact At.post (((sc_closeL (hS.sel [1, 1, 1, 0])).sel [1, 0])) ⟨_, rfl, rfl⟩
theorem own_does (p : Nat) (l : List KeyM) (hl : l.length ≤ 200) : Does Try.prog 18 #[.pointer (some ⟨p, 0, none⟩)] (isSc p l) (fun e B => ∃ v, e = .returned v ∧ B = Hp.seps [Hp.row 9 1 encSt v (nms false l), isSc p l]) := by
  refine Does.of fun w F hS => ?_
  have HC := As.mk (names_does p l false hl)
  go_enter Try.func18, Try.ntmps18
  go_wp2_with fail
  refine ((hS.toL).callAt 0 rfl HC.out).mono ?_
  rintro e w1 ⟨B, ⟨v, rfl, rfl⟩, hS1⟩
  have hS2 := hS1.flats (l' := [_, _]) 0 rfl
  obtain ⟨A, n, c, rfl⟩ := (hS2.rowAt 0 rfl).slice
  clear hS hS1
  go_wp2_with fail
  go_ret
  exact At.post hS2 ⟨_, rfl, rfl⟩
set_option maxHeartbeats 1600000 in
theorem num_does (a : Int) (w : World) : Calls Try.prog 8 #[.int .i64 a] w fun e w' => e = .returned (.int .i64 a) ∧ w = w' := by
  go_enter Try.func8, Try.ntmps8
  go_wp2
  go_ret
  exact ⟨rfl, rfl⟩
theorem rd_blk {α : Type} {w : World} {g t size : Nat} {fr : Nat × Nat} {enc : α → List Value} (xs : List α) (he : ∀ x, (enc x).length = size) (h : w.heap[g]? = some (.cells (xs.flatMap enc).toArray t fr)) (hn : xs.length ≤ 9223372036854775807) : Rd w size enc (.slice (some ⟨g, 0, none⟩) xs.length xs.length) xs :=
  ⟨⟨_, _, rfl, Nat.le_refl _, hn⟩, fun A n c hv i x hx => by
    injection hv with h1 h2 h3
    subst h1
    refine ⟨g, 0, rfl, lt_of_blk h, fun j hj => ?_⟩
    rw [cell_of_blk h, Nat.zero_add]
    simpa using flat_get he xs i j x hx hj⟩
def kA : KeyM := ⟨⟨#[97]⟩, 0, false⟩
end Go.Proofs.Ytdbdijicicbhfaa
