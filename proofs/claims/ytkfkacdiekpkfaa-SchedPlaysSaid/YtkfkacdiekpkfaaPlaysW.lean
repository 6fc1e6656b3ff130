/- SchedPlays answers true for every list of calls; no conditions: the walk. -/
import Derived.Test.YtkfkacdiekpkfaaPlays
namespace Go.Proofs.Ytkfkacdiekpkfaa
open Go.RowKit
attribute [local go_sem high] eq35
set_option maxRecDepth 100000 in
set_option maxHeartbeats 25600000 in
theorem plays_walk (lv : Value) (l : List SAct) (w : World) (hd : Rd w 4 encSA lv l) (hgood : ∀ a ∈ l, a.n ≤ 9223372036854775807) : Calls Try.prog 6 #[lv] w fun e w' => e = .returned (.bool true) ∧ Below w.heap.size w w' := by
  obtain ⟨dA, dc, rfl, hdc, hdn⟩ := hd.shape
  have HD := As.mk hd
  have HGd := As.mk hgood
  clear hd hgood
  go_enter Try.func6, Try.ntmps6
  go_wp2_with fail
  refine (alive_does w).mono ?_
  rintro e w1 ⟨rfl, hb⟩
  have hS1 := At.start0 hb
  clear hb
  by_cases hg : l.length ≤ 100
  · have d3 : decide (100 < (l.length : Int)) = false := decide_eq_false (by omega)
    have d4 : decide (100 < l.length) = false := decide_eq_false (by omega)
    go_wp2_with fail
    refine (hS1.callNew new_does).mono ?_
    rintro e w2 ⟨B, ⟨p, rfl, rfl⟩, hS2⟩
    clear hS1
    go_wp2_with fail
    refine (hS2.callNew new_does).mono ?_
    rintro e w3 ⟨B, ⟨p2, rfl, rfl⟩, hS3⟩
    clear hS2
    have hS4 := (hS3.nilRow 35 2 encId).alloc #[.slice none 0 0, .int .i64 (0 : Nat)] 44
    have hS5 : At (fun _ => False) w _ (Hp.seps [isRg 44 w3.heap.size [] 0, isRg 51 p2 [] 0, isRg 51 p [] 0]) := rg_closeL hS4
    obtain ⟨q, hq⟩ : ∃ q, q = w3.heap.size := ⟨_, rfl⟩
    rw [← hq] at hS5
    have HQ := As.mk hq
    clear hq hS3 hS4
    go_wp2_with fail
    rw [← HQ.out]
    clear HQ
    go_loopg [7] l.length (fun g0 iv wr => ∃ (i cur : Nat) (xs ys : List (Int × Int)), i + g0 = l.length ∧ iv = .int .i64 i ∧ As (RInv i xs cur) ∧ As (RInv i ys 0) ∧ At (fun _ => False) w wr (Hp.seps [isRg 44 q xs cur, isRg 51 p2 ys 0, isRg 51 p xs cur]))
    case atStart => exact ⟨0, 0, [], [], by omega, rfl, ⟨⟨by simp, .inr ⟨rfl, rfl⟩⟩⟩, ⟨⟨by simp, .inr ⟨rfl, rfl⟩⟩⟩, hS5⟩
    case round =>
      clear hS5
      obtain ⟨i, cur, xs, ys, hi, rfl, HR, HO, hS⟩ := hrel
      by_cases hlt : i < l.length
      · obtain ⟨x, hx⟩ : ∃ x, l[i]? = some x := ⟨_, List.getElem?_eq_getElem hlt⟩
        obtain ⟨db, doff, rfl, hdb, hdcell⟩ := HD.out.cells _ _ _ rfl i _ hx
        have HC := As.mk hdcell
        have HI := As.mk hi
        have hn := HGd.out x (List.mem_of_getElem? hx)
        obtain ⟨ro, ys', ho1, _, ho2⟩ := add_both HO.out (by omega) p2 0 (i : Int) 0
        have HO1 := As.mk ho1
        have HO2 := As.mk ho2
        obtain ⟨xw, xn, xi, xg⟩ := x
        simp only at hn
        clear hx hdcell hi ho1 ho2 HO
        go_wp2_with fail
        refine (hS.callAt 1 rfl HO1.out).mono ?_
        rintro e w4 ⟨B, ⟨rfl, rfl⟩, hS6⟩
        clear hS HO1
        have a0 : w4.cell? ⟨db, doff + i * 4, none⟩ = some (.int .i64 xw) := (hS6.bl.cell (p := ⟨db, doff + i * 4, none⟩) hdb).trans (HC.out 0 (by omega))
        have m1 : (i : Int) < (l.length : Int) := by omega
        have hS6 : At (fun _ => False) w w4 (Hp.seps [isRg 44 q xs cur, isRg 51 p2 ys' 0, isRg 51 p xs cur]) := hS6
        have b1 : w4.cell? ⟨db, doff + i * 4 + 1, none⟩ = some (.int .i64 xn) := (hS6.bl.cell (p := ⟨db, doff + i * 4 + 1, none⟩) hdb).trans (HC.out 1 (by omega))
        have b2 : w4.cell? ⟨db, doff + i * 4 + 2, none⟩ = some (.int .i64 xi) := (hS6.bl.cell (p := ⟨db, doff + i * 4 + 2, none⟩) hdb).trans (HC.out 2 (by omega))
        have b3 : w4.cell? ⟨db, doff + i * 4 + 3, none⟩ = some (.int .i64 xg) := (hS6.bl.cell (p := ⟨db, doff + i * 4 + 3, none⟩) hdb).trans (HC.out 3 (by omega))
        by_cases h0 : xw = 0
        · subst h0
          obtain ⟨r, xs', hd1, hd2, hd3⟩ := add_both HR.out (by omega) p q xi xg
          have HD1 := As.mk hd1
          have HD2 := As.mk hd2
          have HD3 := As.mk hd3
          clear hd1 hd2 hd3
          go_wp2_with fail
          go_region_with (first | (go_at_call 14; refine ((hS6.below (by repeat (first | exact Below.refl _ _ | refine bl_drewN ?_ _ | refine Below.drew ?_ | refine bl_alloc ?_ _ | refine bl_set ?_ (by first | (simp; done) | omega | (simp; omega)) _))).callAt 2 rfl HD1.out).mono ?_; rintro e w7 ⟨B, ⟨rfl, rfl⟩, hI⟩; have b2 : w7.cell? ⟨db, doff + i * 4 + 2, none⟩ = some (.int .i64 xi) := (hI.bl.cell (p := ⟨db, doff + i * 4 + 2, none⟩) hdb).trans (HC.out 2 (by omega)); have b3 : w7.cell? ⟨db, doff + i * 4 + 3, none⟩ = some (.int .i64 xg) := (hI.bl.cell (p := ⟨db, doff + i * 4 + 3, none⟩) hdb).trans (HC.out 3 (by omega))) | (go_at_call 18; refine ((hI.below (by repeat (first | exact Below.refl _ _ | refine bl_drewN ?_ _ | refine Below.drew ?_ | refine bl_alloc ?_ _ | refine bl_set ?_ (by first | (simp; done) | omega | (simp; omega)) _))).callAt 0 rfl HD2.out).mono ?_; rintro e w8 ⟨B, ⟨rfl, rfl⟩, hJ⟩))
          all_goals
            have HL1 := As.mk (list_rot p xs' cur (by rcases HD3.out.cur with h | ⟨h, h'⟩ <;> omega) (by have := HD3.out.len; omega))
            have HL2 := As.mk (rlist_does q xs' cur (by rcases HD3.out.cur with h | ⟨h, _⟩; exact .inl h; exact .inr h) (by have := HD3.out.len; omega))
            go_wp2_with fail
            refine ((hJ.below (by repeat (first | exact Below.refl _ _ | refine bl_drewN ?_ _ | refine Below.drew ?_ | refine bl_alloc ?_ _ | refine bl_set ?_ (by first | (simp; done) | omega | (simp; omega)) _))).callAt 2 rfl HL1.out).mono ?_
            rintro e w11 ⟨B, ⟨v1, rfl, rfl⟩, hM⟩
            have hM2 := hM.flats (l' := [_, _]) 2 rfl
            clear hM
            go_wp2_with fail
            refine (hM2.callAt 2 rfl HL2.out).mono ?_
            rintro e w12 ⟨B, ⟨v2, rfl, rfl⟩, hN⟩
            have hN2 := hN.flats (l' := [_, _]) 2 rfl
            clear hN hM2
            go_wp2_with fail
            refine (hN2.beside (sameids_does _ _ _ _ ((hN2.rowAt 2 rfl).rd encId_len) ((hN2.rowAt 0 rfl).rd encId_len))).mono ?_
            rintro e w13 ⟨rfl, hO⟩
            go_wp2_with fail
            go_roundg (gk - 1)
            case measure => have := HI.out; omega
            case rel => exact ⟨i + 1, cur, xs', ys', by have := HI.out; omega, by go_num, HD3, HO2, hO.sel [1, 3, 2]⟩
        · have h0a : (xw == 0) = false := beq_eq_false_iff_ne.2 h0
          by_cases h1 : xw = 1
          · subst h1
            obtain ⟨r, xs', cur', hd1, hd2, hd3⟩ := rm_both HR.out (by omega) p q xi xg
            have HD1 := As.mk hd1
            have HD2 := As.mk hd2
            have HD3 := As.mk hd3
            clear hd1 hd2 hd3 h0
            go_wp2_with fail
            go_region_with (first | (go_at_call 19; refine ((hS6.below (by repeat (first | exact Below.refl _ _ | refine bl_drewN ?_ _ | refine Below.drew ?_ | refine bl_alloc ?_ _ | refine bl_set ?_ (by first | (simp; done) | omega | (simp; omega)) _))).callAt 2 rfl HD1.out).mono ?_; rintro e w7 ⟨B, ⟨rfl, rfl⟩, hI⟩; have b2 : w7.cell? ⟨db, doff + i * 4 + 2, none⟩ = some (.int .i64 xi) := (hI.bl.cell (p := ⟨db, doff + i * 4 + 2, none⟩) hdb).trans (HC.out 2 (by omega)); have b3 : w7.cell? ⟨db, doff + i * 4 + 3, none⟩ = some (.int .i64 xg) := (hI.bl.cell (p := ⟨db, doff + i * 4 + 3, none⟩) hdb).trans (HC.out 3 (by omega))) | (go_at_call 20; refine ((hI.below (by repeat (first | exact Below.refl _ _ | refine bl_drewN ?_ _ | refine Below.drew ?_ | refine bl_alloc ?_ _ | refine bl_set ?_ (by first | (simp; done) | omega | (simp; omega)) _))).callAt 0 rfl HD2.out).mono ?_; rintro e w8 ⟨B, ⟨rfl, rfl⟩, hJ⟩))
            all_goals
              have HL1 := As.mk (list_rot p xs' cur' (by rcases HD3.out.cur with h | ⟨h, h'⟩ <;> omega) (by have := HD3.out.len; omega))
              have HL2 := As.mk (rlist_does q xs' cur' (by rcases HD3.out.cur with h | ⟨h, _⟩; exact .inl h; exact .inr h) (by have := HD3.out.len; omega))
              go_wp2_with fail
              refine ((hJ.below (by repeat (first | exact Below.refl _ _ | refine bl_drewN ?_ _ | refine Below.drew ?_ | refine bl_alloc ?_ _ | refine bl_set ?_ (by first | (simp; done) | omega | (simp; omega)) _))).callAt 2 rfl HL1.out).mono ?_
              rintro e w11 ⟨B, ⟨v1, rfl, rfl⟩, hM⟩
              have hM2 := hM.flats (l' := [_, _]) 2 rfl
              clear hM
              go_wp2_with fail
              refine (hM2.callAt 2 rfl HL2.out).mono ?_
              rintro e w12 ⟨B, ⟨v2, rfl, rfl⟩, hN⟩
              have hN2 := hN.flats (l' := [_, _]) 2 rfl
              clear hN hM2
              go_wp2_with fail
              refine (hN2.beside (sameids_does _ _ _ _ ((hN2.rowAt 2 rfl).rd encId_len) ((hN2.rowAt 0 rfl).rd encId_len))).mono ?_
              rintro e w13 ⟨rfl, hO⟩
              go_wp2_with fail
              go_roundg (gk - 1)
              case measure => have := HI.out; omega
              case rel => exact ⟨i + 1, cur', xs', ys', by have := HI.out; omega, by go_num, HD3, HO2, hO.sel [1, 3, 2]⟩
          · have h1a : (xw == 1) = false := beq_eq_false_iff_ne.2 h1
            by_cases h2 : xw = 2
            · subst h2
              obtain ⟨cur', hd1, hd2, hd3⟩ := mv_both HR.out (by omega) p q xn hn
              have HD1 := As.mk hd1
              have HD2 := As.mk hd2
              have HD3 := As.mk hd3
              clear hd1 hd2 hd3 h0 h1
              go_wp2_with fail
              refine (hS6.callAt 2 rfl HD1.out).mono ?_
              rintro e w7 ⟨B, ⟨rfl, rfl⟩, hI⟩
              have b1 : w7.cell? ⟨db, doff + i * 4 + 1, none⟩ = some (.int .i64 xn) := (hI.bl.cell (p := ⟨db, doff + i * 4 + 1, none⟩) hdb).trans (HC.out 1 (by omega))
              go_wp2_with fail
              refine (hI.callAt 0 rfl HD2.out).mono ?_
              rintro e w8 ⟨B, ⟨rfl, rfl⟩, hJ⟩
              have HL1 := As.mk (list_rot p xs cur' (by rcases HD3.out.cur with h | ⟨h, h'⟩ <;> omega) (by have := HD3.out.len; omega))
              have HL2 := As.mk (rlist_does q xs cur' (by rcases HD3.out.cur with h | ⟨h, _⟩; exact .inl h; exact .inr h) (by have := HD3.out.len; omega))
              go_wp2_with fail
              refine ((hJ.below (by repeat (first | exact Below.refl _ _ | refine bl_drewN ?_ _ | refine Below.drew ?_ | refine bl_alloc ?_ _ | refine bl_set ?_ (by first | (simp; done) | omega | (simp; omega)) _))).callAt 2 rfl HL1.out).mono ?_
              rintro e w11 ⟨B, ⟨v1, rfl, rfl⟩, hM⟩
              have hM2 := hM.flats (l' := [_, _]) 2 rfl
              clear hM
              go_wp2_with fail
              refine (hM2.callAt 2 rfl HL2.out).mono ?_
              rintro e w12 ⟨B, ⟨v2, rfl, rfl⟩, hN⟩
              have hN2 := hN.flats (l' := [_, _]) 2 rfl
              clear hN hM2
              go_wp2_with fail
              refine (hN2.beside (sameids_does _ _ _ _ ((hN2.rowAt 2 rfl).rd encId_len) ((hN2.rowAt 0 rfl).rd encId_len))).mono ?_
              rintro e w13 ⟨rfl, hO⟩
              go_wp2_with fail
              go_roundg (gk - 1)
              case measure => have := HI.out; omega
              case rel => exact ⟨i + 1, cur', xs, ys', by have := HI.out; omega, by go_num, HD3, HO2, hO.sel [1, 3, 2]⟩
            · have h2a : (xw == 2) = false := beq_eq_false_iff_ne.2 h2
              have HD3 : As (RInv (i + 1) xs cur) := ⟨⟨Nat.le_succ_of_le HR.out.len, HR.out.cur⟩⟩
              clear h0 h1 h2
              have HL1 := As.mk (list_rot p xs cur (by rcases HD3.out.cur with h | ⟨h, h'⟩ <;> omega) (by have := HD3.out.len; omega))
              have HL2 := As.mk (rlist_does q xs cur (by rcases HD3.out.cur with h | ⟨h, _⟩; exact .inl h; exact .inr h) (by have := HD3.out.len; omega))
              go_wp2_with fail
              refine ((hS6.below (by repeat (first | exact Below.refl _ _ | refine bl_drewN ?_ _ | refine Below.drew ?_ | refine bl_alloc ?_ _ | refine bl_set ?_ (by first | (simp; done) | omega | (simp; omega)) _))).callAt 2 rfl HL1.out).mono ?_
              rintro e w11 ⟨B, ⟨v1, rfl, rfl⟩, hM⟩
              have hM2 := hM.flats (l' := [_, _]) 2 rfl
              clear hM
              go_wp2_with fail
              refine (hM2.callAt 2 rfl HL2.out).mono ?_
              rintro e w12 ⟨B, ⟨v2, rfl, rfl⟩, hN⟩
              have hN2 := hN.flats (l' := [_, _]) 2 rfl
              clear hN hM2
              go_wp2_with fail
              refine (hN2.beside (sameids_does _ _ _ _ ((hN2.rowAt 2 rfl).rd encId_len) ((hN2.rowAt 0 rfl).rd encId_len))).mono ?_
              rintro e w13 ⟨rfl, hO⟩
              go_wp2_with fail
              go_roundg (gk - 1)
              case measure => have := HI.out; omega
              case rel => exact ⟨i + 1, cur, xs, ys', by have := HI.out; omega, by go_num, HD3, HO2, hO.sel [1, 3, 2]⟩
      · obtain rfl : i = l.length := by omega
        go_wp2_with fail
        go_ret
        exact ⟨rfl, hS.bl⟩
  · have HG := As.mk hg
    clear hg
    go_wp2_with fail
    all_goals first | (exfalso; have := HG.out; omega) | (go_ret; exact ⟨rfl, hS1.bl⟩)
end Go.Proofs.Ytkfkacdiekpkfaa
