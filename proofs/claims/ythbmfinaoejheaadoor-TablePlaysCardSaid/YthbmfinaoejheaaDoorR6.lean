/- The reference's table: Remove, the walk. -/
import Derived.Test.YthbmfinaoejheaaDoorR5
set_option linter.unusedVariables false
namespace Go.Proofs.YthbmfinaoejheaaDoor
open Go.RowKit
set_option maxHeartbeats 6400000 in
theorem rrem_none (q m : Nat) (R : List TRow) (row : Int) (hr : row < 0 ∨ (R.length : Int) ≤ row) : Does Tryd.prog 16 #[.pointer (some ⟨q, 0, none⟩), .int .i64 row] (isRt q m R) (fun e B => e = .returned (.tuple #[.slice none 0 0, .bool false]) ∧ B = isRt q m R) := by
  refine Does.of fun w F hS => ?_
  obtain ⟨A, c, hc, hn, hS⟩ := rt_open hS.toL
  have q0 := (hS.cellAt 0 rfl 0).trans rfl
  have q1 := (hS.cellAt 0 rfl 1).trans rfl
  by_cases h2 : row < 0
  · have t2 : decide (row < 0) = true := decide_eq_true h2
    clear hr h2
    go_enter Tryd.func16, Tryd.ntmps16
    go_wp2
    go_ret2
    exact At.post (rt_close hS).ofL ⟨rfl, rfl⟩
  · have t2 : decide (row < 0) = false := decide_eq_false h2
    have t3 : decide ((R.length : Int) ≤ row) = true := decide_eq_true (by omega)
    clear hr h2
    go_enter Tryd.func16, Tryd.ntmps16
    go_wp2
    go_ret2
    exact At.post (rt_close hS).ofL ⟨rfl, rfl⟩
theorem cells_snoc (xs : List Int) (c : Int) (r : TRow) : cellsOf (xs ++ [c]) r = cellsOf xs r ++ [(c, r.2 c)] := by simp [cellsOf]
set_option maxRecDepth 100000 in
set_option maxHeartbeats 12800000 in
theorem rrem_some (q m : Nat) (hm : m < 65536) (R : List TRow) (n : Nat) (r : TRow) (hr : R[n]? = some r) (hl : R.length ≤ 100000) : Does Tryd.prog 16 #[.pointer (some ⟨q, 0, none⟩), .int .i64 (n : Nat)] (isRt q m R) (fun e B => ∃ v, e = .returned (.tuple #[v, .bool true]) ∧ B = Hp.seps [Hp.row 31 2 encId v (cellsOf (bitsN m) r), isRt q m (swp R n)]) := by
  refine Does.of fun w F hS => ?_
  obtain ⟨A, c, hc, hn, hS⟩ := rt_open hS.toL
  have hnl := (List.getElem?_eq_some_iff.1 hr).1
  obtain ⟨z, hz⟩ : ∃ z, R[R.length - 1]? = some z := ⟨_, List.getElem?_eq_getElem (by omega)⟩
  obtain ⟨N, hN⟩ : ∃ N, R.length = N + 1 := ⟨R.length - 1, by omega⟩
  have hz2 : R[N]? = some z := by rw [hN, Nat.add_sub_cancel] at hz; exact hz
  obtain ⟨gr, hA, hgr, _⟩ := (hS.rowAt 1 rfl).cell encRow_len n _ hr
  subst hA
  rw [hN] at hS hc
  have t2 : decide ((n : Int) < 0) = false := decide_eq_false (by omega)
  have t3 : decide ((N : Int) + 1 ≤ (n : Int)) = false := decide_eq_false (by omega)
  have t3' : decide (N + 1 ≤ n) = false := decide_eq_false (by omega)
  have HX := As.mk (And.intro hr (And.intro hz hz2))
  have HNN := As.mk hN
  have hN6 : N ≤ 100000 := by omega
  have hnN : n < N + 1 := by omega
  have m0 : (n : Int) < (N : Int) + 1 := by omega
  have m3 : (N : Int) < (N : Int) + 1 := by omega
  have m4 : (N : Int) ≤ (c : Int) := by omega
  clear hr hz hz2 hN hnl hl
  have q0 := (hS.cellAt 0 rfl 0).trans rfl
  have q1 := (hS.cellAt 0 rfl 1).trans rfl
  go_enter Tryd.func16, Tryd.ntmps16
  go_wp2_with fail
  go_loopg [6, 7] 16 (fun g0 ov iv wr => ∃ k : Nat, k + g0 = 16 ∧ iv = .int .i64 k ∧ At F w wr (Hp.seps [Hp.row 31 2 encId ov (cellsOf (bitsTo m k) r), Hp.blk q #[.int .u16 (m : Nat), .slice (some ⟨gr, 0, none⟩) (N + 1) c] 67, Hp.row 70 18 encRow (.slice (some ⟨gr, 0, none⟩) (N + 1) c) R]))
  case atStart => exact ⟨0, by omega, rfl, hS.nilRow 31 2 encId⟩
  case round =>
    clear hS q0 q1
    obtain ⟨k, hk, rfl, hS⟩ := hrel
    have HK := As.mk hk
    have q0 := (hS.cellAt 1 rfl 0).trans rfl
    have q1 := (hS.cellAt 1 rfl 1).trans rfl
    by_cases hk16 : k < 16
    · have t6 : decide ((k : Int) < 16) = true := decide_eq_true (by omega)
      have t6' : decide (k < 16) = true := decide_eq_true hk16
      have HK6 := As.mk hk16
      have HH := As.mk (has_blk q m hm k _ q0)
      have HTo := As.mk (bitsTo_snoc m k hk16)
      clear hk hk16
      go_wp2_with fail
      refine (hS.beside HH.out).mono ?_
      rintro e w1 ⟨rfl, hS1⟩
      clear hS HH q0 q1
      by_cases hb : (k : Int) ∈ bitsN m
      · rw [if_pos hb] at HTo
        rw [decide_eq_true hb]
        have c0 := ((hS1.rowAt 2 rfl).at_ encRow_len n _ HX.out.1 (2 + k) (by have := HK6.out; omega)).1
        rw [encRow_at r k HK6.out, ← Nat.add_assoc] at c0
        have m1 : (k : Int) < 16 := by have := HK6.out; omega
        have HLn : As ((cellsOf (bitsTo m k) r).length ≤ 16) := ⟨by
          simp only [cellsOf, bitsTo, List.length_map]
          exact Nat.le_trans (List.length_filter_le _ _) (by rw [List.length_range]; have := HK6.out; omega)⟩
        obtain ⟨Ao, no, co, rfl⟩ := (hS1.rowAt 0 rfl).slice
        clear hb
        have q0 := (hS1.cellAt 1 rfl 0).trans rfl
        have q1 := (hS1.cellAt 1 rfl 1).trans rfl
        go_wp2_with (at_builtin; refine rw_append rfl (.tmp 26) (.tmp 39) 23 31 2 encId (.agg #[.int .i64 0, .int .i64 0]) 16 rfl Tryd.underlying23 Tryd.infoC rfl (by decide) (.slice Ao no co) (cellsOf (bitsTo m k) r) ((k : Int), r.2 k) rfl _ rfl (by first | exact blk_new (by simp) | exact blk_new_drew (by simp)) ((hS1.below (by repeat (first | exact Below.refl _ _ | refine bl_drewN ?_ _ | refine Below.drew ?_ | refine bl_alloc ?_ _ | refine bl_set ?_ (by first | (simp; done) | omega | (simp; omega)) _))).rowAt 0 rfl) encId_len (one_id _) ?c1 ?c2 ?c3)
        case c1 => have := HLn.out; simp only [maxLen]; omega
        case c2 => have := HLn.out; omega
        case c3 =>
          intro v1 w2 hA
          have hS3 := At.appendAt 0 hA hS1 rfl (by repeat (first | exact Below.refl _ _ | refine bl_drewN ?_ _ | refine Below.drew ?_ | refine bl_alloc ?_ _ | refine bl_set ?_ (by first | (simp; done) | omega | (simp; omega)) _))
          rw [← cells_snoc, ← HTo.out] at hS3
          clear hA hS1 c0 q0 q1
          go_wp2_with fail
          go_roundg (gk - 1)
          case measure => have h1 := HK.out; have h2 := HK6.out; omega
          case rel => exact ⟨k + 1, by have h1 := HK.out; have h2 := HK6.out; omega, by first | rfl | (rw [IntWalk.wrap64_in _ (by have h2 := HK6.out; omega)]; rfl), hS3⟩
      · rw [if_neg hb] at HTo
        rw [decide_eq_false hb]
        clear hb
        rw [← HTo.out] at hS1
        go_wp2_with fail
        go_roundg (gk - 1)
        case measure => have h1 := HK.out; have h2 := HK6.out; omega
        case rel => exact ⟨k + 1, by have h1 := HK.out; have h2 := HK6.out; omega, by first | rfl | (rw [IntWalk.wrap64_in _ (by have h2 := HK6.out; omega)]; rfl), hS1⟩
    · obtain rfl : k = 16 := by omega
      have hS : At F w wr (Hp.seps [Hp.row 31 2 encId u6 (cellsOf (bitsN m) r), Hp.blk q #[.int .u16 (m : Nat), .slice (some ⟨gr, 0, none⟩) (N + 1) c] 67, Hp.row 70 18 encRow (.slice (some ⟨gr, 0, none⟩) (N + 1) c) R]) := hS
      clear hk HK hk16
      go_wp2_with fail
      obtain ⟨⟨z1, z2⟩, zf⟩ := z
      have z0' : wr.cell? ⟨gr, N * 18, none⟩ = some (.int .i64 (z1)) := ((hS.rowAt 2 rfl).at_ encRow_len N _ HX.out.2.2 0 (by decide)).1.trans rfl
      have z1' : wr.cell? ⟨gr, N * 18 + 1, none⟩ = some (.int .i64 (z2)) := ((hS.rowAt 2 rfl).at_ encRow_len N _ HX.out.2.2 1 (by decide)).1.trans rfl
      have z2' : wr.cell? ⟨gr, N * 18 + 2, none⟩ = some (.int .i64 (zf 0)) := ((hS.rowAt 2 rfl).at_ encRow_len N _ HX.out.2.2 2 (by decide)).1.trans rfl
      have z3' : wr.cell? ⟨gr, N * 18 + 3, none⟩ = some (.int .i64 (zf 1)) := ((hS.rowAt 2 rfl).at_ encRow_len N _ HX.out.2.2 3 (by decide)).1.trans rfl
      have z4' : wr.cell? ⟨gr, N * 18 + 4, none⟩ = some (.int .i64 (zf 2)) := ((hS.rowAt 2 rfl).at_ encRow_len N _ HX.out.2.2 4 (by decide)).1.trans rfl
      have z5' : wr.cell? ⟨gr, N * 18 + 5, none⟩ = some (.int .i64 (zf 3)) := ((hS.rowAt 2 rfl).at_ encRow_len N _ HX.out.2.2 5 (by decide)).1.trans rfl
      have z6' : wr.cell? ⟨gr, N * 18 + 6, none⟩ = some (.int .i64 (zf 4)) := ((hS.rowAt 2 rfl).at_ encRow_len N _ HX.out.2.2 6 (by decide)).1.trans rfl
      have z7' : wr.cell? ⟨gr, N * 18 + 7, none⟩ = some (.int .i64 (zf 5)) := ((hS.rowAt 2 rfl).at_ encRow_len N _ HX.out.2.2 7 (by decide)).1.trans rfl
      have z8' : wr.cell? ⟨gr, N * 18 + 8, none⟩ = some (.int .i64 (zf 6)) := ((hS.rowAt 2 rfl).at_ encRow_len N _ HX.out.2.2 8 (by decide)).1.trans rfl
      have z9' : wr.cell? ⟨gr, N * 18 + 9, none⟩ = some (.int .i64 (zf 7)) := ((hS.rowAt 2 rfl).at_ encRow_len N _ HX.out.2.2 9 (by decide)).1.trans rfl
      have z10' : wr.cell? ⟨gr, N * 18 + 10, none⟩ = some (.int .i64 (zf 8)) := ((hS.rowAt 2 rfl).at_ encRow_len N _ HX.out.2.2 10 (by decide)).1.trans rfl
      have z11' : wr.cell? ⟨gr, N * 18 + 11, none⟩ = some (.int .i64 (zf 9)) := ((hS.rowAt 2 rfl).at_ encRow_len N _ HX.out.2.2 11 (by decide)).1.trans rfl
      have z12' : wr.cell? ⟨gr, N * 18 + 12, none⟩ = some (.int .i64 (zf 10)) := ((hS.rowAt 2 rfl).at_ encRow_len N _ HX.out.2.2 12 (by decide)).1.trans rfl
      have z13' : wr.cell? ⟨gr, N * 18 + 13, none⟩ = some (.int .i64 (zf 11)) := ((hS.rowAt 2 rfl).at_ encRow_len N _ HX.out.2.2 13 (by decide)).1.trans rfl
      have z14' : wr.cell? ⟨gr, N * 18 + 14, none⟩ = some (.int .i64 (zf 12)) := ((hS.rowAt 2 rfl).at_ encRow_len N _ HX.out.2.2 14 (by decide)).1.trans rfl
      have z15' : wr.cell? ⟨gr, N * 18 + 15, none⟩ = some (.int .i64 (zf 13)) := ((hS.rowAt 2 rfl).at_ encRow_len N _ HX.out.2.2 15 (by decide)).1.trans rfl
      have z16' : wr.cell? ⟨gr, N * 18 + 16, none⟩ = some (.int .i64 (zf 14)) := ((hS.rowAt 2 rfl).at_ encRow_len N _ HX.out.2.2 16 (by decide)).1.trans rfl
      have z17' : wr.cell? ⟨gr, N * 18 + 17, none⟩ = some (.int .i64 (zf 15)) := ((hS.rowAt 2 rfl).at_ encRow_len N _ HX.out.2.2 17 (by decide)).1.trans rfl
      have e9 : IntKind.i64.wrap (N : Int) = (N : Int) := IntWalk.i64_in _ (by omega)
      go_still_tail 18, (by kernel_rfl)
      generalize hWd : ({ heap := wr.heap, tape := wr.tape, drawn := wr.drawn + 1, os := wr.os, output := wr.output } : World) = Wd
      have hSd : At F w Wd (Hp.seps [Hp.row 31 2 encId u6 (cellsOf (bitsN m) r), Hp.blk q #[.int .u16 (m : Nat), .slice (some ⟨gr, 0, none⟩) (N + 1) c] 67, Hp.row 70 18 encRow (.slice (some ⟨gr, 0, none⟩) (N + 1) c) R]) := by rw [← hWd]; exact hS.drew
      clear hWd hS q0 q1 z0' z1' z2' z3' z4' z5' z6' z7' z8' z9' z10' z11' z12' z13' z14' z15' z16' z17'
      have hth : Wd.there gr (n * 18) 18 := fun j hj => by
        have h := (hSd.rowAt 2 rfl).at_ encRow_len n _ HX.out.1 j hj
        rw [h.1]
        exact ⟨by rw [List.getElem?_eq_getElem (by rw [encRow_len]; exact hj)]; rfl, h.2⟩
      have hE : #[.int .i64 (z1), .int .i64 (z2), .int .i64 (zf 0), .int .i64 (zf 1), .int .i64 (zf 2), .int .i64 (zf 3), .int .i64 (zf 4), .int .i64 (zf 5), .int .i64 (zf 6), .int .i64 (zf 7), .int .i64 (zf 8), .int .i64 (zf 9), .int .i64 (zf 10), .int .i64 (zf 11), .int .i64 (zf 12), .int .i64 (zf 13), .int .i64 (zf 14), .int .i64 (zf 15)] = (encRow ((z1, z2), zf)).toArray := rfl
      have hS5 := setRowAt 2 hSd rfl n _ ((z1, z2), zf) HX.out.1 18 (Nat.le_refl _)
      rw [List.take_of_length_le (by rw [encRow_len]; exact Nat.le_refl _)] at hS5
      have hS6 : At F w (Wd.setCells gr (n * 18) (encRow ((z1, z2), zf)).toArray.toList) (Hp.seps [Hp.row 31 2 encId u6 (cellsOf (bitsN m) r), Hp.blk q #[.int .u16 (m : Nat), .slice (some ⟨gr, 0, none⟩) (N + 1) c] 67, Hp.row 70 18 encRow (.slice (some ⟨gr, 0, none⟩) (N + 1) c) (R.set n (mixR r ((z1, z2), zf) 18))]) := hS5
      refine wpList_store_mid rfl 70 (.tmp 58) (.tmp 57) rfl gr (n * 18) #[.int .i64 (z1), .int .i64 (z2), .int .i64 (zf 0), .int .i64 (zf 1), .int .i64 (zf 2), .int .i64 (zf 3), .int .i64 (zf 4), .int .i64 (zf 5), .int .i64 (zf 6), .int .i64 (zf 7), .int .i64 (zf 8), .int .i64 (zf 9), .int .i64 (zf 10), .int .i64 (zf 11), .int .i64 (zf 12), .int .i64 (zf 13), .int .i64 (zf 14), .int .i64 (zf 15)] rfl rfl hth (by kernel_rfl) (by simp [Value.oneCell']) ?_
      rw [hE]
      generalize Wd.setCells gr (n * 18) (encRow ((z1, z2), zf)).toArray.toList = W4 at hS6 ⊢
      clear hS5 hE hth hSd
      have q0 := (hS6.cellAt 1 rfl 0).trans rfl
      have q1 := (hS6.cellAt 1 rfl 1).trans rfl
      have qf0 := hS6.frozenAt 1 rfl 0
      have qf1 := hS6.frozenAt 1 rfl 1
      have qlt := hS6.ltAt 1 rfl
      go_wp2_with fail
      go_still_tail 14, (by kernel_rfl)
      go_wp2_with fail
      go_ret2
      have hS7 := (hS6.drew.takeAt 2 N rfl encRow_len (by rw [List.length_set, HNN.out]; omega)).setBlkAt 1 rfl 1 (.slice (some ⟨gr, 0, none⟩) N c)
      have hcg : ((R.set n (mixR r ((z1, z2), zf) 18)).take N).map encRow = (swp R n).map encRow := by
        rw [swp_eq HX.out.2.1, HNN.out, Nat.add_sub_cancel, List.map_take, List.map_take, List.map_set, List.map_set, mix_all]
      have hS8 : At F w _ (Hp.seps [Hp.row 31 2 encId u6 (cellsOf (bitsN m) r), Hp.blk q #[.int .u16 (m : Nat), .slice (some ⟨gr, 0, none⟩) N c] 67, Hp.row 70 18 encRow (.slice (some ⟨gr, 0, none⟩) N c) (swp R n)]) := hS7.as _ (by rw [← row_congr hcg]; rfl)
      exact At.post ((rt_close (hS8.sel [1, 1, 0])).sel [1, 0]) ⟨_, rfl, rfl⟩
end Go.Proofs.YthbmfinaoejheaaDoor
