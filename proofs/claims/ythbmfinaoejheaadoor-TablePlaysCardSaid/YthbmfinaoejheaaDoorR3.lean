/- The reference's table: Ids, Column; lists that are one. -/
import Derived.Test.YthbmfinaoejheaaDoorR2
set_option linter.unusedVariables false
namespace Go.Proofs.YthbmfinaoejheaaDoor
open Go.RowKit
set_option maxHeartbeats 6400000 in
theorem rids_does (q m : Nat) (R : List TRow) (hm : R.length ≤ 100000) : Does Tryd.prog 22 #[.pointer (some ⟨q, 0, none⟩)] (isRt q m R) (fun e B => ∃ v, e = .returned v ∧ B = Hp.seps [Hp.row 29 2 encId v (idsOf R), isRt q m R]) := by
  refine Does.of fun w F hS => ?_
  obtain ⟨A, c, hc, hn, hS⟩ := rt_open hS.toL
  go_enter Tryd.func22, Tryd.ntmps22
  go_wp2
  go_loopg [3, 4] R.length (fun g0 sv iv wr => ∃ k : Nat, k + g0 = R.length ∧ iv = .int .i64 k ∧ At F w wr (Hp.seps [Hp.row 29 2 encId sv ((idsOf R).take k), Hp.blk q #[.int .u16 (m : Nat), .slice A R.length c] 67, Hp.row 70 18 encRow (.slice A R.length c) R]))
  case atStart => exact ⟨0, by omega, rfl, hS.nilRow 29 2 encId⟩
  case round =>
    clear hS
    obtain ⟨k, hk, rfl, hS⟩ := hrel
    have HK := As.mk hk
    have q0 := (hS.cellAt 1 rfl 0).trans rfl
    have q1 := (hS.cellAt 1 rfl 1).trans rfl
    by_cases hlt : k < R.length
    · obtain ⟨x, hx⟩ : ∃ x, R[k]? = some x := ⟨_, List.getElem?_eq_getElem hlt⟩
      obtain ⟨gr, rfl, hgr, hcell⟩ := (hS.rowAt 2 rfl).cell encRow_len k _ hx
      have c0 := (hcell 0 (by decide)).1
      have c1 := (hcell 1 (by decide)).1
      have HT : As ((idsOf R).take k ++ [x.1] = (idsOf R).take (k + 1)) := ⟨take_snoc (by simp [idsOf, hx])⟩
      have HLn : As (((idsOf R).take k).length ≤ 100000) := ⟨by rw [List.length_take, idsOf_len]; omega⟩
      obtain ⟨⟨x1, x2⟩, f⟩ := x
      simp only [encRow, List.getElem?_cons_zero, List.getElem?_cons_succ, Nat.add_zero] at c0 c1
      have hm0 : (k : Int) < (R.length : Int) := by omega
      obtain ⟨Ao, no, co, rfl⟩ := (hS.rowAt 0 rfl).slice
      clear hk hcell hx hm
      go_wp2_with (at_builtin; refine rw_append rfl (.tmp 14) (.tmp 23) 40 29 2 encId (.agg #[.int .i64 0, .int .i64 0]) 16 rfl Tryd.underlying40 Tryd.infoD rfl (by decide) (.slice Ao no co) ((idsOf R).take k) (x1, x2) rfl _ rfl (by first | exact blk_new (by simp) | exact blk_new_drew (by simp)) ((hS.below (by repeat (first | exact Below.refl _ _ | refine bl_drewN ?_ _ | refine Below.drew ?_ | refine bl_alloc ?_ _ | refine bl_set ?_ (by first | (simp; done) | omega | (simp; omega)) _))).rowAt 0 rfl) encId_len (one_id _) ?c1 ?c2 ?c3)
      case c1 => have := HLn.out; simp only [maxLen]; omega
      case c2 => have h1 := HLn.out; have h2 := h1; rw [List.length_take] at h2; omega
      case c3 =>
        intro v1 w2 hA
        have hS3 := At.appendAt 0 hA hS rfl (by repeat (first | exact Below.refl _ _ | refine bl_drewN ?_ _ | refine Below.drew ?_ | refine bl_alloc ?_ _ | refine bl_set ?_ (by first | (simp; done) | omega | (simp; omega)) _))
        rw [HT.out] at hS3
        clear hA hS c0 c1 q0 q1
        go_wp2_with fail
        go_roundg (gk - 1)
        case measure => have := HK.out; omega
        case rel => exact ⟨k + 1, by have := HK.out; omega, by go_num, hS3⟩
    · obtain rfl : k = R.length := by omega
      have hT : (idsOf R).take R.length = idsOf R := List.take_of_length_le (by rw [idsOf_len]; omega)
      rw [hT] at hS
      clear hk hlt hT
      go_wp2_with fail
      go_ret
      exact At.post ((rt_close (hS.sel [1, 1, 0])).sel [1, 0]) ⟨_, rfl, rfl⟩
set_option maxHeartbeats 6400000 in
theorem rcol_does (q m : Nat) (hmm : m < 65536) (R : List TRow) (comp : Int) (hm : R.length ≤ 100000) : Does Tryd.prog 24 #[.pointer (some ⟨q, 0, none⟩), .int .i64 comp] (isRt q m R) (fun e B => ∃ v, e = .returned v ∧ B = Hp.seps [Hp.row 3 1 encI v (colC (bitsN m) R comp), isRt q m R]) := by
  refine Does.of fun w F hS => ?_
  obtain ⟨A, c, hc, hn, hS⟩ := rt_open hS.toL
  have HH := As.mk (has_blk q m hmm comp)
  have HB := As.mk (fun h => (mem_bitsN m comp).1 h)
  obtain ⟨V, hV⟩ : ∃ V, colC (bitsN m) R comp = V := ⟨_, rfl⟩
  rw [hV]
  by_cases hb : comp ∈ bitsN m
  · rw [decide_eq_true hb] at HH
    obtain rfl : V = colOf R comp := by rw [← hV]; unfold colC; rw [if_pos hb]
    obtain ⟨j, rfl⟩ : ∃ j : Nat, comp = (j : Int) := ⟨comp.toNat, by have := HB.out hb; omega⟩
    have m1 : (j : Int) < 16 := (HB.out hb).2.1
    have HJ : As (j < 16) := ⟨by omega⟩
    clear hV hb HB
    go_enter Tryd.func24, Tryd.ntmps24
    go_wp2
    go_loopg [5, 6] R.length (fun g0 sv iv wr => ∃ k : Nat, k + g0 = R.length ∧ iv = .int .i64 k ∧ At F w wr (Hp.seps [Hp.row 3 1 encI sv ((colOf R j).take k), Hp.blk q #[.int .u16 (m : Nat), .slice A R.length c] 67, Hp.row 70 18 encRow (.slice A R.length c) R]))
    case atStart => exact ⟨0, by omega, rfl, hS.nilRow 3 1 encI⟩
    case round =>
      clear hS
      obtain ⟨k, hk, rfl, hS⟩ := hrel
      have HK := As.mk hk
      have q0 := (hS.cellAt 1 rfl 0).trans rfl
      have q1 := (hS.cellAt 1 rfl 1).trans rfl
      by_cases hlt : k < R.length
      · obtain ⟨x, hx⟩ : ∃ x, R[k]? = some x := ⟨_, List.getElem?_eq_getElem hlt⟩
        have HXX := As.mk hx
        have HT : As ((colOf R j).take k ++ [x.2 j] = (colOf R j).take (k + 1)) := ⟨take_snoc (colOf_get hx j)⟩
        have HLn : As (((colOf R j).take k).length ≤ 100000) := ⟨by rw [List.length_take, colOf_len]; omega⟩
        have hm0 : (k : Int) < (R.length : Int) := by omega
        have t0 : decide ((k : Int) < (R.length : Int)) = true := decide_eq_true hm0
        have t0' : decide (k < R.length) = true := decide_eq_true hlt
        clear hk hx hm
        go_wp2_with fail
        refine (hS.beside (HH.out _ q0)).mono ?_
        rintro e w1 ⟨rfl, hS1⟩
        obtain ⟨gr, rfl, hgr, hcell⟩ := (hS1.rowAt 2 rfl).cell encRow_len k _ HXX.out
        have c0 := (hcell (2 + j) (by have := HJ.out; omega)).1
        rw [encRow_at x j HJ.out, ← Nat.add_assoc] at c0
        obtain ⟨Ao, no, co, rfl⟩ := (hS1.rowAt 0 rfl).slice
        clear q0 q1 hS hcell
        have q0 := (hS1.cellAt 1 rfl 0).trans rfl
        have q1 := (hS1.cellAt 1 rfl 1).trans rfl
        go_wp2_with (at_builtin; refine rw_append rfl (.tmp 21) (.tmp 32) 35 3 1 encI (.int .i64 0) 8 rfl Tryd.underlying35 Tryd.infoI rfl (by decide) (.slice Ao no co) ((colOf R j).take k) (x.2 j) rfl _ rfl (by first | exact blk_new (by simp) | exact blk_new_drew (by simp)) ((hS1.below (by repeat (first | exact Below.refl _ _ | refine bl_drewN ?_ _ | refine Below.drew ?_ | refine bl_alloc ?_ _ | refine bl_set ?_ (by first | (simp; done) | omega | (simp; omega)) _))).rowAt 0 rfl) encI_len (one_i _) ?c1 ?c2 ?c3)
        case c1 => have := HLn.out; simp only [maxLen]; omega
        case c2 => have h1 := HLn.out; have h2 := h1; rw [List.length_take] at h2; omega
        case c3 =>
          intro v1 w2 hA
          have hS3 := At.appendAt 0 hA hS1 rfl (by repeat (first | exact Below.refl _ _ | refine bl_drewN ?_ _ | refine Below.drew ?_ | refine bl_alloc ?_ _ | refine bl_set ?_ (by first | (simp; done) | omega | (simp; omega)) _))
          rw [HT.out] at hS3
          clear hA hS1 c0 q0 q1
          go_wp2_with fail
          go_roundg (gk - 1)
          case measure => have := HK.out; omega
          case rel => exact ⟨k + 1, by have := HK.out; omega, by go_num, hS3⟩
      · obtain rfl : k = R.length := by omega
        have hT : (colOf R j).take R.length = colOf R j := List.take_of_length_le (by rw [colOf_len]; omega)
        rw [hT] at hS
        clear hk hlt hT
        go_wp2_with fail
        go_ret
        exact At.post ((rt_close (hS.sel [1, 1, 0])).sel [1, 0]) ⟨_, rfl, rfl⟩
  · rw [decide_eq_false hb] at HH
    obtain rfl : V = [] := by rw [← hV]; unfold colC; rw [if_neg hb]
    clear hV hb HB
    go_enter Tryd.func24, Tryd.ntmps24
    go_wp2
    go_loopg [5, 6] 1 (fun g0 sv iv wr => sv = .slice none 0 0 ∧ iv = .int .i64 0 ∧ At F w wr (Hp.seps [Hp.row 3 1 encI (.slice none 0 0) ([] : List Int), Hp.blk q #[.int .u16 (m : Nat), .slice A R.length c] 67, Hp.row 70 18 encRow (.slice A R.length c) R]))
    case atStart => exact ⟨rfl, rfl, hS.nilRow 3 1 encI⟩
    case round =>
      clear hS
      obtain ⟨rfl, rfl, hS⟩ := hrel
      have q0 := (hS.cellAt 1 rfl 0).trans rfl
      have q1 := (hS.cellAt 1 rfl 1).trans rfl
      by_cases hl : R.length = 0
      · have t0 : decide ((0 : Int) < (R.length : Int)) = false := decide_eq_false (by omega)
        have t0' : decide (0 < R.length) = false := decide_eq_false (by omega)
        have HL0 := As.mk hl
        clear hl
        go_wp2_with fail
        go_ret
        exact At.post ((rt_close (hS.sel [1, 1, 0])).sel [1, 0]) ⟨_, rfl, rfl⟩
      · have t0 : decide ((0 : Int) < (R.length : Int)) = true := decide_eq_true (by omega)
        have t0' : decide (0 < R.length) = true := decide_eq_true (by omega)
        clear hl
        go_wp2_with fail
        refine (hS.beside (HH.out _ q0)).mono ?_
        rintro e w1 ⟨rfl, hS1⟩
        clear hS q0 q1
        go_wp2_with fail
        go_ret
        exact At.post ((rt_close (hS1.sel [1, 1, 0])).sel [1, 0]) ⟨_, rfl, rfl⟩
theorem eqCell (d : Nat) (w : World) (x0 y0 x1 y1 : Int) :
    (Op.equalIn (d + 2) 31 (.agg #[.int .i64 x0, .int .i64 x1]) (.agg #[.int .i64 y0, .int .i64 y1])).run Tryd.prog w = .ok (x0 == y0 && (x1 == y1)) w := by
  refine seq_of Tryd.underlying31 (by kernel_rfl) ?_
  refine seq_cons (by rfl) (by go_simp; rfl) (by go_simp; rfl) (by go_simp) ?_
  exact seq_last (by rfl) (by go_simp; rfl) (by go_simp; rfl) (by go_simp)
attribute [local go_sem high] eqId eqCell
set_option maxHeartbeats 6400000 in
theorem sameI_does (u v : Value) (xs : List (Int × Int)) (w : World) (h1 : Rd w 2 encId u xs) (h2 : Rd w 2 encId v xs) : Calls Tryd.prog 21 #[u, v] w fun e w' => e = .returned (.bool true) ∧ Below w.heap.size w w' := by
  obtain ⟨A, ca, rfl, hca, hn⟩ := h1.shape
  obtain ⟨B, cb, rfl, hcb, _⟩ := h2.shape
  have H1 := As.mk h1
  have H2 := As.mk h2
  clear h1 h2
  go_enter Tryd.func21, Tryd.ntmps21
  go_wp2
  go_loopg [5] xs.length (fun g0 iv wr => ∃ k : Nat, k + g0 = xs.length ∧ iv = .int .i64 k ∧ As (Below w.heap.size w wr))
  case atStart => exact ⟨0, by omega, rfl, ⟨Below.refl _ _⟩⟩
  case round =>
    obtain ⟨k, hk, rfl, HB⟩ := hrel
    have HK := As.mk hk
    by_cases hlt : k < xs.length
    · obtain ⟨x, hx⟩ : ∃ x, xs[k]? = some x := ⟨_, List.getElem?_eq_getElem hlt⟩
      obtain ⟨ba, oa, rfl, _, hca'⟩ := (H1.out.below HB.out).cells _ _ _ rfl k x hx
      obtain ⟨bb, ob, rfl, _, hcb'⟩ := (H2.out.below HB.out).cells _ _ _ rfl k x hx
      have a0 := hca' 0 (by decide)
      have a1 := hca' 1 (by decide)
      have b0 := hcb' 0 (by decide)
      have b1 := hcb' 1 (by decide)
      obtain ⟨x1, x2⟩ := x
      simp only [encId, List.getElem?_cons_zero, List.getElem?_cons_succ, Nat.add_zero] at a0 a1 b0 b1
      have hm0 : (k : Int) < (xs.length : Int) := by omega
      clear hk hx hca' hcb'
      go_wp2
      go_quiet (fail)
      go_wp2_with fail
      go_roundg (gk - 1)
      case measure => have := HK.out; omega
      case rel => exact ⟨k + 1, by have := HK.out; omega, by go_num, ⟨HB.out.trans (Below.mono (bl_drewN (Below.refl _ _) _) HB.out.size)⟩⟩
    · obtain rfl : k = xs.length := by omega
      clear hk hlt
      go_wp2_with fail
      go_ret
      exact ⟨rfl, HB.out⟩
set_option maxHeartbeats 6400000 in
theorem sameC_does (u v : Value) (xs : List (Int × Int)) (w : World) (h1 : Rd w 2 encId u xs) (h2 : Rd w 2 encId v xs) : Calls Tryd.prog 17 #[u, v] w fun e w' => e = .returned (.bool true) ∧ Below w.heap.size w w' := by
  obtain ⟨A, ca, rfl, hca, hn⟩ := h1.shape
  obtain ⟨B, cb, rfl, hcb, _⟩ := h2.shape
  have H1 := As.mk h1
  have H2 := As.mk h2
  clear h1 h2
  go_enter Tryd.func17, Tryd.ntmps17
  go_wp2
  go_loopg [5] xs.length (fun g0 iv wr => ∃ k : Nat, k + g0 = xs.length ∧ iv = .int .i64 k ∧ As (Below w.heap.size w wr))
  case atStart => exact ⟨0, by omega, rfl, ⟨Below.refl _ _⟩⟩
  case round =>
    obtain ⟨k, hk, rfl, HB⟩ := hrel
    have HK := As.mk hk
    by_cases hlt : k < xs.length
    · obtain ⟨x, hx⟩ : ∃ x, xs[k]? = some x := ⟨_, List.getElem?_eq_getElem hlt⟩
      obtain ⟨ba, oa, rfl, _, hca'⟩ := (H1.out.below HB.out).cells _ _ _ rfl k x hx
      obtain ⟨bb, ob, rfl, _, hcb'⟩ := (H2.out.below HB.out).cells _ _ _ rfl k x hx
      have a0 := hca' 0 (by decide)
      have a1 := hca' 1 (by decide)
      have b0 := hcb' 0 (by decide)
      have b1 := hcb' 1 (by decide)
      obtain ⟨x1, x2⟩ := x
      simp only [encId, List.getElem?_cons_zero, List.getElem?_cons_succ, Nat.add_zero] at a0 a1 b0 b1
      have hm0 : (k : Int) < (xs.length : Int) := by omega
      clear hk hx hca' hcb'
      go_wp2
      go_quiet (fail)
      go_wp2_with fail
      go_roundg (gk - 1)
      case measure => have := HK.out; omega
      case rel => exact ⟨k + 1, by have := HK.out; omega, by go_num, ⟨HB.out.trans (Below.mono (bl_drewN (Below.refl _ _) _) HB.out.size)⟩⟩
    · obtain rfl : k = xs.length := by omega
      clear hk hlt
      go_wp2_with fail
      go_ret
      exact ⟨rfl, HB.out⟩
set_option maxHeartbeats 6400000 in
theorem sameN_does (u v : Value) (xs : List Int) (w : World) (h1 : Rd w 1 encI u xs) (h2 : Rd w 1 encI v xs) : Calls Tryd.prog 23 #[u, v] w fun e w' => e = .returned (.bool true) ∧ Below w.heap.size w w' := by
  obtain ⟨A, ca, rfl, hca, hn⟩ := h1.shape
  obtain ⟨B, cb, rfl, hcb, _⟩ := h2.shape
  have H1 := As.mk h1
  have H2 := As.mk h2
  clear h1 h2
  go_enter Tryd.func23, Tryd.ntmps23
  go_wp2
  go_loopg [5] xs.length (fun g0 iv wr => ∃ k : Nat, k + g0 = xs.length ∧ iv = .int .i64 k ∧ As (Below w.heap.size w wr))
  case atStart => exact ⟨0, by omega, rfl, ⟨Below.refl _ _⟩⟩
  case round =>
    obtain ⟨k, hk, rfl, HB⟩ := hrel
    have HK := As.mk hk
    by_cases hlt : k < xs.length
    · obtain ⟨x, hx⟩ : ∃ x, xs[k]? = some x := ⟨_, List.getElem?_eq_getElem hlt⟩
      obtain ⟨ba, oa, rfl, _, hca'⟩ := (H1.out.below HB.out).cells _ _ _ rfl k x hx
      obtain ⟨bb, ob, rfl, _, hcb'⟩ := (H2.out.below HB.out).cells _ _ _ rfl k x hx
      have a0 := hca' 0 (by decide)
      have b0 := hcb' 0 (by decide)
      simp only [encI, Nat.mul_one, List.getElem?_cons_zero, Nat.add_zero] at a0 b0
      have hm0 : (k : Int) < (xs.length : Int) := by omega
      clear hk hx hca' hcb'
      go_wp2
      go_quiet (fail)
      go_wp2_with fail
      go_roundg (gk - 1)
      case measure => have := HK.out; omega
      case rel => exact ⟨k + 1, by have := HK.out; omega, by go_num, ⟨HB.out.trans (Below.mono (bl_drewN (Below.refl _ _) _) HB.out.size)⟩⟩
    · obtain rfl : k = xs.length := by omega
      clear hk hlt
      go_wp2_with fail
      go_ret
      exact ⟨rfl, HB.out⟩
end Go.Proofs.YthbmfinaoejheaaDoor
