/- IdsPlay answers true for every room and every row of calls; no conditions. -/
import Derived.Test.YthlfkkmhjmjenaaK
import Derived.Test.YthlfkkmhjmjenaaOpen
import Derived.Deep.RegionWith
import Derived.Deep.DeepCutAuto
import Derived.Deep.CutBlock
import Derived.Laws.StructEq
namespace Go.Proofs.Ythlfkkmhjmjenaa
open Go.RowKit
attribute [local go_sem high] eq26
structure PInv (room : Int) (m : Nat) (slots : List (Int × Bool)) (free : List Int) : Prop where
  slen : (slots.length : Int) ≤ room
  slenm : slots.length ≤ m
  flen : free.length ≤ m
  ok : ∀ j ∈ free, 0 ≤ j ∧ j.toNat < slots.length
theorem PInv.start {room : Int} (h : 0 ≤ room) : PInv room 0 [] [] := ⟨by simpa using h, by simp, by simp, by simp⟩
theorem mk_both {room : Int} {m : Nat} {slots : List (Int × Bool)} {free : List Int} (h : PInv room m slots free) (hm : m ≤ 1000) (p q : Nat) :
    ∃ (id : Int × Int) (err : Int) (slots' : List (Int × Bool)) (free' : List Int),
      Does Try.prog 8 #[.pointer (some ⟨p, 0, none⟩)] (isIds p room slots free) (fun e B => e = .returned (.tuple #[.agg #[.int .i64 id.1, .int .i64 id.2], .int .i64 err]) ∧ B = isIds p room slots' free') ∧
      Does Try.prog 14 #[.pointer (some ⟨q, 0, none⟩)] (isRef q room slots free) (fun e B => e = .returned (.tuple #[.agg #[.int .i64 id.1, .int .i64 id.2], .int .i64 err]) ∧ B = isRef q room slots' free') ∧
      PInv room (m + 1) slots' free' ∧ (err = 0 ∨ err = 10) := by
  have hsl := h.slen
  have hslm := h.slenm
  rcases List.eq_nil_or_concat free with rfl | ⟨f0, i, rfl⟩
  · by_cases h1 : (slots.length : Int) < room
    · exact ⟨((slots.length : Int), 1), 0, _, _, make_more p room slots (by omega) (by omega), rmake_more q room slots h1 (by omega), ⟨by simp; omega, by simpa using h.slenm, by simp, by simp⟩, .inl rfl⟩
    · obtain rfl : room = (slots.length : Int) := by omega
      exact ⟨(0, 0), 10, _, _, make_full p slots, rmake_full q slots, ⟨by simp, Nat.le_succ_of_le h.slenm, by simp, by simp⟩, .inr rfl⟩
  · rw [List.concat_eq_append] at h ⊢
    obtain ⟨h0, h1⟩ := h.ok i (by simp)
    have hx := List.getElem?_eq_getElem h1
    have hfl := h.flen
    rw [List.length_append, List.length_singleton] at hfl
    refine ⟨(i, wrap64 (slots[i.toNat].1 + 1)), 0, _, _, make_pop p room slots f0 i _ h0 hx, rmake_pop q room slots f0 i _ h0 hx, ⟨by simpa using h.slen, by simpa using Nat.le_succ_of_le h.slenm, by omega, fun j hj => ?_⟩, .inl rfl⟩
    have := h.ok j (by simp [hj])
    simpa using this
theorem dr_both {room : Int} {m : Nat} {slots : List (Int × Bool)} {free : List Int} (h : PInv room m slots free) (hm : m ≤ 1000) (p q : Nat) (i g : Int) :
    ∃ (err : Int) (slots' : List (Int × Bool)) (free' : List Int),
      Does Try.prog 10 #[.pointer (some ⟨p, 0, none⟩), .agg #[.int .i64 i, .int .i64 g]] (isIds p room slots free) (fun e B => e = .returned (.int .i64 err) ∧ B = isIds p room slots' free') ∧
      Does Try.prog 13 #[.pointer (some ⟨q, 0, none⟩), .agg #[.int .i64 i, .int .i64 g]] (isRef q room slots free) (fun e B => e = .returned (.int .i64 err) ∧ B = isRef q room slots' free') ∧
      PInv room (m + 1) slots' free' := by
  have hfl := h.flen
  cases hh : hasB slots i g with
  | true =>
    obtain ⟨h0, h1, hx⟩ := hasB_at hh
    refine ⟨0, _, _, drop_ok p i g room slots free hh (by omega), rdrop_ok q i g room slots free hh (by omega), ⟨by simpa using h.slen, by simpa using Nat.le_succ_of_le h.slenm, by simp; omega, fun j hj => ?_⟩⟩
    rw [List.mem_append] at hj
    rcases hj with hj | hj
    · simpa using h.ok j hj
    · obtain rfl : j = i := by simpa using hj
      simp; omega
  | false => exact ⟨11, _, _, drop_stale p i g room slots free hh, rdrop_stale q i g room slots free hh, ⟨h.slen, Nat.le_succ_of_le h.slenm, by omega, h.ok⟩⟩
theorem rm7 : rm 7 = 7 := by decide
theorem rm_nn (room : Int) : 0 ≤ rm room := by unfold rm; split <;> (try split) <;> omega
/-- A call of IdsPlay's list. -/
structure PAct where
  drop : Bool
  made : Bool
  i : Int
  g : Int
  at_ : Int
def encAct (a : PAct) : List Value := [.bool a.drop, .bool a.made, .int .i64 a.i, .int .i64 a.g, .int .i64 a.at_]

set_option maxRecDepth 100000 in
set_option maxHeartbeats 64000000 in
theorem play_walk (room : Int) (lv : Value) (l : List PAct) (w : World) (hd : Rd w 5 encAct lv l) : Calls Try.prog 4 #[.int .i64 room, lv] w fun e w' => e = .returned (.bool true) ∧ Below w.heap.size w w' := by
  obtain ⟨dA, dc, rfl, hdc, hdn⟩ := hd.shape
  have HD := As.mk hd
  clear hd
  go_enter Try.func4, Try.ntmps4
  go_wp2_with fail
  refine (alive_does w).mono ?_
  rintro e w1 ⟨rfl, hb⟩
  have HI : As (In w w1 (Hp.seps [])) := ⟨In.startL hb⟩
  clear hb
  by_cases hg : l.length ≤ 100
  · have d3 : decide (100 < (l.length : Int)) = false := decide_eq_false (by omega)
    have d4 : decide (100 < l.length) = false := decide_eq_false (by omega)
    go_wp2_with fail
    refine (HI.out.callNew (new_does room)).mono ?_
    rintro e w2 ⟨B, ⟨p, rfl, rfl⟩, hI⟩
    have HI2 := As.mk hI
    clear hI HI
    go_wp2_with fail
    refine (HI2.out.callNew (new_does 7)).mono ?_
    rintro e w3 ⟨B, ⟨p2, rfl, rfl⟩, hI⟩
    have HI3 := As.mk hI
    clear hI HI2
    go_wp2_with fail
    refine (HI3.out.callNew (rnew_does room)).mono ?_
    rintro e w4 ⟨B, ⟨q, rfl, rfl⟩, hI⟩
    have HI4 : As (In w w4 (Hp.seps [Hp.row 26 2 encId (.slice none 0 0) [], isRef q (rm room) [] [], isIds p2 7 [] [], isIds p (rm room) [] []])) := ⟨by
      have h := hI.nilRow 26 2 encId
      rw [rm7] at h
      exact h⟩
    have HP0 := As.mk (PInv.start (rm_nn room))
    have HP7 := As.mk (PInv.start (show (0 : Int) ≤ 7 by omega))
    clear hI HI3
    generalize rm room = r at HI4 HP0
    go_wp2_with fail
    go_loopw [9, 10] (fun mv iv wr => ∃ (i : Nat) (slots : List (Int × Bool)) (free : List Int) (so : List (Int × Bool)) (fo : List Int) (made : List (Int × Int)), i ≤ l.length ∧ iv = .int .i64 i ∧ made.length ≤ i ∧ As (PInv r i slots free) ∧ As (PInv 7 i so fo) ∧ As (In w wr (Hp.seps [Hp.row 26 2 encId mv made, isRef q r slots free, isIds p2 7 so fo, isIds p r slots free]))) (fun _ iv _ => l.length - (intOf iv).toNat)
    case atStart => exact ⟨0, [], [], [], [], [], by omega, rfl, by simp, HP0, HP7, HI4⟩
    case round =>
      clear HI4 HP0 HP7
      obtain ⟨i, slots, free, so, fo, made, hi, rfl, hml, HP, HP7, HI⟩ := hrel
      by_cases hlt : i < l.length
      · obtain ⟨a, ha⟩ : ∃ a, l[i]? = some a := ⟨_, List.getElem?_eq_getElem hlt⟩
        obtain ⟨db, doff, rfl, hdb, hdcell⟩ := HD.out.cells _ _ _ rfl i _ ha
        have HC := As.mk hdcell
        obtain ⟨ad, am, ai, ag, aa⟩ := a
        obtain ⟨mA, mc, rfl, _, _⟩ := (HI.out.rowAt 0 rfl).shape
        obtain ⟨ido, eo, so', fo', hdo, _, hpo, _⟩ := mk_both HP7.out (by omega) p2 0
        have HDO := As.mk hdo
        have HP7' := As.mk hpo
        clear ha hdcell hdo hpo HP7
        go_wp2_with fail
        refine (HI.out.callAt 2 rfl HDO.out).mono ?_
        rintro e w5 ⟨B, ⟨rfl, rfl⟩, hI⟩
        have HI5 : As (In w w5 (Hp.seps [Hp.row 26 2 encId (.slice mA made.length mc) made, isRef q r slots free, isIds p2 7 so' fo', isIds p r slots free])) := ⟨hI⟩
        clear hI HI HDO
        have hdb5 : db < w5.heap.size := Nat.lt_of_lt_of_le hdb HI5.out.bl.size
        have a0 : w5.cell? ⟨db, doff + i * 5, none⟩ = some (.bool ad) := (HI5.out.bl.cell (p := ⟨db, doff + i * 5, none⟩) hdb).trans (HC.out 0 (by omega))
        have a1 : w5.cell? ⟨db, doff + i * 5 + 1, none⟩ = some (.bool am) := (HI5.out.bl.cell (p := ⟨db, doff + i * 5 + 1, none⟩) hdb).trans (HC.out 1 (by omega))
        have a2 : w5.cell? ⟨db, doff + i * 5 + 2, none⟩ = some (.int .i64 ai) := (HI5.out.bl.cell (p := ⟨db, doff + i * 5 + 2, none⟩) hdb).trans (HC.out 2 (by omega))
        have a3 : w5.cell? ⟨db, doff + i * 5 + 3, none⟩ = some (.int .i64 ag) := (HI5.out.bl.cell (p := ⟨db, doff + i * 5 + 3, none⟩) hdb).trans (HC.out 3 (by omega))
        have a4 : w5.cell? ⟨db, doff + i * 5 + 4, none⟩ = some (.int .i64 aa) := (HI5.out.bl.cell (p := ⟨db, doff + i * 5 + 4, none⟩) hdb).trans (HC.out 4 (by omega))
        have HI6 : As (In w (w5.alloc (.cells #[.int .i64 ai, .int .i64 ag] 26)) (Hp.seps [Hp.blk w5.heap.size #[.int .i64 ai, .int .i64 ag] 26, Hp.row 26 2 encId (.slice mA made.length mc) made, isRef q r slots free, isIds p2 7 so' fo', isIds p r slots free])) := ⟨HI5.out.allocL _ _⟩
        go_upto_region 13 with fail
        obtain ⟨W, hW⟩ : ∃ W : World, W = w5.alloc (.cells #[.int .i64 ai, .int .i64 ag] 26) := ⟨_, rfl⟩
        have hdbW : db < W.heap.size := by rw [hW]; simp; omega
        have hWc : ∀ j v, w5.cell? ⟨db, j, none⟩ = some v → W.cell? ⟨db, j, none⟩ = some v := fun j v h => by
          rw [hW]
          exact (((Below.refl w5.heap.size w5).alloc (Nat.le_refl _) _).cell (p := ⟨db, j, none⟩) hdb5).trans h
        replace a0 := hWc _ _ a0
        replace a1 := hWc _ _ a1
        replace a2 := hWc _ _ a2
        replace a3 := hWc _ _ a3
        replace a4 := hWc _ _ a4
        obtain ⟨R, hR⟩ : ∃ R, R = w5.heap.size := ⟨_, rfl⟩
        rw [← hR, ← hW] at HI6
        rw [← hR, ← hW]
        clear hWc hR hW HI5 hdb5
        go_cut [65] (fun t wc => t = .bool (am && (decide (0 ≤ aa) && decide (aa < (made.length : Int)))) ∧ wc = W)
        case first =>
          cases am with
          | false => go_wp2; go_meet; exact ⟨rfl, rfl⟩
          | true =>
            by_cases h0 : 0 ≤ aa
            · by_cases h1 : aa < (made.length : Int)
              · have e0 : decide (0 ≤ aa) = true := decide_eq_true h0
                have e1 : decide (aa < (made.length : Int)) = true := decide_eq_true h1
                go_wp2
                go_meet
                exact ⟨by rw [e0, e1]; rfl, rfl⟩
              · have e0 : decide (0 ≤ aa) = true := decide_eq_true h0
                have e1 : decide (aa < (made.length : Int)) = false := decide_eq_false h1
                go_wp2
                go_meet
                exact ⟨by rw [e0, e1]; rfl, rfl⟩
            · have e0 : decide (0 ≤ aa) = false := decide_eq_false h0
              go_wp2
              go_meet
              exact ⟨by rw [e0]; rfl, rfl⟩
        case rest =>
          obtain ⟨rfl, rfl⟩ := hcut
          go_upto_if 65 with fail
          go_cut [] (fun wc => ∃ y1 y2 : Int, As (In w wc (Hp.seps [Hp.blk R #[.int .i64 y1, .int .i64 y2] 26, Hp.row 26 2 encId (.slice mA made.length mc) made, isRef q r slots free, isIds p2 7 so' fo', isIds p r slots free])))
          case first =>
            by_cases hM : am = true ∧ 0 ≤ aa ∧ aa < made.length
            · obtain ⟨rfl, hM0, hM1⟩ := hM
              have ec : (true && (decide (0 ≤ aa) && decide (aa < (made.length : Int)))) = true := by rw [decide_eq_true hM0, decide_eq_true hM1]; rfl
              rw [ec]
              obtain ⟨y, hy⟩ : ∃ y, made[aa.toNat]? = some y := ⟨_, List.getElem?_eq_getElem (by omega)⟩
              obtain ⟨gm, rfl, hgm, hmc⟩ := (HI6.out.rowAt 1 rfl).cell encId_len aa.toNat _ hy
              have m0 := (hmc 0 (by omega)).1
              have m1 := (hmc 1 (by omega)).1
              obtain ⟨y1, y2⟩ := y
              simp only [encId, List.getElem?_cons_zero, List.getElem?_cons_succ, Nat.add_zero] at m0 m1
              have r0 : wc.cell? ⟨R, 0, none⟩ = some (.int .i64 ai) := (cell_of_blk (HI6.out.blkAt 0 rfl) 0).trans rfl
              have r1 : wc.cell? ⟨R, 1, none⟩ = some (.int .i64 ag) := (cell_of_blk (HI6.out.blkAt 0 rfl) 1).trans rfl
              have z0 := frozen_of_blk (HI6.out.blkAt 0 rfl) 0
              have z1 := frozen_of_blk (HI6.out.blkAt 0 rfl) 1
              clear hmc hy
              go_wp2
              go_meet
              exact ⟨y1, y2, ⟨(HI6.out.setBlkAt 0 rfl 0 (.int .i64 y1)).setBlkAt 0 rfl 1 (.int .i64 y2)⟩⟩
            · have ec : (am && (decide (0 ≤ aa) && decide (aa < (made.length : Int)))) = false := by
                cases am with
                | false => rfl
                | true =>
                  by_cases h0 : 0 ≤ aa
                  · rw [decide_eq_true h0, decide_eq_false (fun h => hM ⟨rfl, h0, h⟩)]; rfl
                  · rw [decide_eq_false h0]; rfl
              rw [ec]
              go_wp2
              go_meet
              exact ⟨ai, ag, HI6⟩
          case rest =>
            clear HI6 a0 a1 a2 a3 a4 hdbW
            obtain ⟨y1, y2, HI6⟩ := hcut
            have hdb5 : db < wc.heap.size := Nat.lt_of_lt_of_le hdb HI6.out.bl.size
            have a0 : wc.cell? ⟨db, doff + i * 5, none⟩ = some (.bool ad) := (HI6.out.bl.cell (p := ⟨db, doff + i * 5, none⟩) hdb).trans (HC.out 0 (by omega))
            go_upto_if 78 with fail
            obtain ⟨V, hV⟩ : ∃ V : World, V = wc := ⟨_, rfl⟩
            rw [← hV] at HI6 a0 hdb5
            rw [← hV]
            clear hV
            go_cut [9] (fun mv wc => ∃ (slots' : List (Int × Bool)) (free' : List Int) (made' : List (Int × Int)), made'.length ≤ i + 1 ∧ As (PInv r (i + 1) slots' free') ∧ As (In w wc (Hp.seps [Hp.blk R #[.int .i64 y1, .int .i64 y2] 26, Hp.row 26 2 encId mv made', isRef q r slots' free', isIds p2 7 so' fo', isIds p r slots' free'])))
            case first =>
              cases ad with
              | true =>
                obtain ⟨err, slots', free', hd1, hd2, hp⟩ := dr_both HP.out (by omega) p q y1 y2
                have HD1 := As.mk hd1
                have HD2 := As.mk hd2
                have HP' := As.mk hp
                clear hd1 hd2 hp HP a0 HC
                have r0 : V.cell? ⟨R, 0, none⟩ = some (.int .i64 y1) := (cell_of_blk (HI6.out.blkAt 0 rfl) 0).trans rfl
                have r1 : V.cell? ⟨R, 1, none⟩ = some (.int .i64 y2) := (cell_of_blk (HI6.out.blkAt 0 rfl) 1).trans rfl
                go_upto_region 16 with fail
                go_cut [86] (fun t wc => t = .bool false ∧ As (In w wc (Hp.seps [Hp.blk R #[.int .i64 y1, .int .i64 y2] 26, Hp.row 26 2 encId (.slice mA made.length mc) made, isRef q r slots' free', isIds p2 7 so' fo', isIds p r slots' free'])))
                case first =>
                  go_region_with (first | (go_at_call 9; refine (num_does _ _).mono ?_; rintro e w9 ⟨rfl, rfl⟩) | (go_at_call 10; refine ((HI6.out.below (by repeat (first | exact Below.refl _ _ | refine bl_drewN ?_ _ | refine Below.drew ?_ | refine bl_alloc ?_ _ | refine bl_set ?_ (by first | (simp; done) | omega | (simp; omega)) _))).callAt 4 rfl HD1.out).mono ?_; rintro e w7 ⟨B, ⟨rfl, rfl⟩, hI⟩; have r0 := (cell_of_blk (hI.blkAt 0 rfl) 0).trans rfl; have r1 := (cell_of_blk (hI.blkAt 0 rfl) 1).trans rfl; have HI7 := As.mk hI; clear hI) | (go_at_call 13; refine ((HI7.out.below (by repeat (first | exact Below.refl _ _ | refine bl_drewN ?_ _ | refine Below.drew ?_ | refine bl_alloc ?_ _ | refine bl_set ?_ (by first | (simp; done) | omega | (simp; omega)) _))).callAt 2 rfl HD2.out).mono ?_; rintro e w8 ⟨B, ⟨rfl, rfl⟩, hI⟩; have HI8 := As.mk hI; clear hI))
                  all_goals
                    go_wp2_with fail
                    go_meet
                    exact ⟨by simp, ⟨HI8.out.below (by repeat (first | exact Below.refl _ _ | refine bl_drewN ?_ _ | refine Below.drew ?_ | refine bl_alloc ?_ _ | refine bl_set ?_ (by first | (simp; done) | omega | (simp; omega)) _))⟩⟩
                case rest =>
                  obtain ⟨rfl, HI7⟩ := hcut
                  go_wp2_with fail
                  go_meet
                  exact ⟨slots', free', made, by omega, HP', HI7⟩
              | false =>
                obtain ⟨id, err, slots', free', hd1, hd2, hp, he⟩ := mk_both HP.out (by omega) p q
                have HD1 := As.mk hd1
                have HD2 := As.mk hd2
                have HP' := As.mk hp
                obtain ⟨id1, id2⟩ := id
                clear hd1 hd2 hp HP a0 HC
                go_wp2_with fail
                refine (HI6.out.callAt 4 rfl HD1.out).mono ?_
                rintro e w7 ⟨B, ⟨rfl, rfl⟩, hI⟩
                have HI7 : As (In w (w7.alloc (.cells #[.int .i64 id1, .int .i64 id2] 26)) (Hp.seps [Hp.blk w7.heap.size #[.int .i64 id1, .int .i64 id2] 26, Hp.blk R #[.int .i64 y1, .int .i64 y2] 26, Hp.row 26 2 encId (.slice mA made.length mc) made, isRef q r slots free, isIds p2 7 so' fo', isIds p r slots' free'])) := ⟨hI.allocL _ _⟩
                clear hI HI6
                go_wp2_with fail
                refine (HI7.out.callAt 3 rfl HD2.out).mono ?_
                rintro e w8 ⟨B, ⟨rfl, rfl⟩, hI⟩
                have HI8 : As (In w w8 (Hp.seps [Hp.blk w7.heap.size #[.int .i64 id1, .int .i64 id2] 26, Hp.blk R #[.int .i64 y1, .int .i64 y2] 26, Hp.row 26 2 encId (.slice mA made.length mc) made, isRef q r slots' free', isIds p2 7 so' fo', isIds p r slots' free'])) := ⟨hI⟩
                have r0 : w8.cell? ⟨w7.heap.size, 0, none⟩ = some (.int .i64 id1) := (cell_of_blk (HI8.out.blkAt 0 rfl) 0).trans rfl
                have r1 : w8.cell? ⟨w7.heap.size, 1, none⟩ = some (.int .i64 id2) := (cell_of_blk (HI8.out.blkAt 0 rfl) 1).trans rfl
                have hlt8 : w7.heap.size < w8.heap.size := lt_of_blk (HI8.out.blkAt 0 rfl)
                clear hI HI7
                have e3 : (id1 == id1 && id2 == id2) = true := by simp
                rcases he with rfl | rfl
                · go_wp2_with (first | (go_at_call 9; refine (num_does _ _).mono ?_; rintro e w9 ⟨rfl, rfl⟩) | (at_builtin; refine rw_append rfl (.tmp 108) (.tmp 110) 37 26 2 encId (.agg #[.int .i64 0, .int .i64 0]) 16 rfl Try.underlying37 Try.info26 rfl (by decide) (.slice mA made.length mc) made (id1, id2) rfl _ rfl ?c0 ?c5 encId_len ?c1 ?c2 ?c3 ?c4))
                  case c0 => exact blk_new (by simp)
                  case c5 => exact ((HI8.out.rowAt 2 rfl).alloc _).alloc _
                  case c1 => exact one_id _
                  case c2 => simp only [maxLen]; omega
                  case c3 => omega
                  case c4 =>
                    intro v1 w9 hA
                    have HI9 := As.mk (In.appendAt 2 hA HI8.out rfl (by repeat (first | exact Below.refl _ _ | refine bl_drewN ?_ _ | refine Below.drew ?_ | refine bl_alloc ?_ _ | refine bl_set ?_ (by first | (simp; done) | omega | (simp; omega)) _)))
                    clear hA HI8
                    go_wp2_with fail
                    go_meet
                    exact ⟨slots', free', made ++ [(id1, id2)], by simp; omega, HP', ⟨HI9.out.tail⟩⟩
                · go_wp2_with (go_at_call 9; refine (num_does _ _).mono ?_; rintro e w9 ⟨rfl, rfl⟩)
                  go_meet
                  exact ⟨slots', free', made, by omega, HP', ⟨(HI8.out.below (by repeat (first | exact Below.refl _ _ | refine bl_drewN ?_ _ | refine Below.drew ?_ | refine bl_alloc ?_ _ | refine bl_set ?_ (by first | (simp; done) | omega | (simp; omega)) _))).tail⟩⟩
            case rest =>
              clear HI6 a0 hdb5 HP
              obtain ⟨slots', free', made', hml', HP', HI7⟩ := hcut
              have hsl := HP'.out.slenm
              have hsl2 : slots'.length ≤ 1000000 := by omega
              clear HC
              obtain ⟨V, hV⟩ : ∃ V : World, V = wc := ⟨_, rfl⟩
              rw [← hV] at HI7
              rw [← hV]
              clear hV
              have r0 : V.cell? ⟨R, 0, none⟩ = some (.int .i64 y1) := (cell_of_blk (HI7.out.blkAt 0 rfl) 0).trans rfl
              have r1 : V.cell? ⟨R, 1, none⟩ = some (.int .i64 y2) := (cell_of_blk (HI7.out.blkAt 0 rfl) 1).trans rfl
              go_upto_region 24 with fail
              go_cut [126] (fun t wc => t = .bool false ∧ As (In w wc (Hp.seps [Hp.row 26 2 encId u9 made', isRef q r slots' free', isIds p2 7 so' fo', isIds p r slots' free'])))
              case first =>
                go_region_with (first | (go_at_call 11; refine ((HI7.out.below (by repeat (first | exact Below.refl _ _ | refine bl_drewN ?_ _ | refine Below.drew ?_ | refine bl_alloc ?_ _ | refine bl_set ?_ (by first | (simp; done) | omega | (simp; omega)) _))).callAt 4 rfl (has_does p y1 y2 r slots' free')).mono ?_; rintro e w7 ⟨B, ⟨rfl, rfl⟩, hI⟩; have r0 := (cell_of_blk (hI.blkAt 0 rfl) 0).trans rfl; have r1 := (cell_of_blk (hI.blkAt 0 rfl) 1).trans rfl; have HJ1 := As.mk hI; clear hI) | (go_at_call 15; refine ((HJ1.out.below (by repeat (first | exact Below.refl _ _ | refine bl_drewN ?_ _ | refine Below.drew ?_ | refine bl_alloc ?_ _ | refine bl_set ?_ (by first | (simp; done) | omega | (simp; omega)) _))).callAt 2 rfl (rhas_does q y1 y2 r slots' free')).mono ?_; rintro e w8 ⟨B, ⟨rfl, rfl⟩, hI⟩; have HJ2 := As.mk hI; clear hI) | (go_at_call 17; refine ((HJ2.out.below (by repeat (first | exact Below.refl _ _ | refine bl_drewN ?_ _ | refine Below.drew ?_ | refine bl_alloc ?_ _ | refine bl_set ?_ (by first | (simp; done) | omega | (simp; omega)) _))).callAt 4 rfl (all_does p r slots' free' hsl2)).mono ?_; rintro e w9 ⟨B, ⟨v1, rfl, rfl⟩, hI⟩; have HJ3 := As.mk (hI.flat 4 rfl); clear hI) | (go_at_call 18; refine ((HJ3.out.below (by repeat (first | exact Below.refl _ _ | refine bl_drewN ?_ _ | refine Below.drew ?_ | refine bl_alloc ?_ _ | refine bl_set ?_ (by first | (simp; done) | omega | (simp; omega)) _))).callAt 3 rfl (rall_does q r slots' free' hsl2)).mono ?_; rintro e w10 ⟨B, ⟨v2, rfl, rfl⟩, hI⟩; have HJ4 := As.mk (hI.flat 3 rfl); clear hI) | (go_at_call 16; refine ((HJ4.out.below (by repeat (first | exact Below.refl _ _ | refine bl_drewN ?_ _ | refine Below.drew ?_ | refine bl_alloc ?_ _ | refine bl_set ?_ (by first | (simp; done) | omega | (simp; omega)) _))).beside (same_does _ _ (allTo slots' slots'.length) _ (((HJ4.out.below (by repeat (first | exact Below.refl _ _ | refine bl_drewN ?_ _ | refine Below.drew ?_ | refine bl_alloc ?_ _ | refine bl_set ?_ (by first | (simp; done) | omega | (simp; omega)) _))).rowAt 1 rfl).rd encId_len) (((HJ4.out.below (by repeat (first | exact Below.refl _ _ | refine bl_drewN ?_ _ | refine Below.drew ?_ | refine bl_alloc ?_ _ | refine bl_set ?_ (by first | (simp; done) | omega | (simp; omega)) _))).rowAt 0 rfl).rd encId_len))).mono ?_; rintro e w11 ⟨rfl, hI⟩; have HJ5 := As.mk hI; clear hI))
                all_goals
                  go_wp2_with fail
                  go_meet
                  exact ⟨by simp, ⟨(HJ5.out.below (by repeat (first | exact Below.refl _ _ | refine bl_drewN ?_ _ | refine Below.drew ?_ | refine bl_alloc ?_ _ | refine bl_set ?_ (by first | (simp; done) | omega | (simp; omega)) _))).tail.tail.tail⟩⟩
              case rest =>
                obtain ⟨rfl, HI8⟩ := hcut
                go_wp2_with fail
                exact ⟨⟨i + 1, slots', free', so', fo', made', by omega, by go_num, hml', HP', HP7', HI8⟩, by simp [intOf]; omega⟩
      · obtain rfl : i = l.length := by omega
        go_wp2_with fail
        go_ret
        exact ⟨rfl, HI.out.bl⟩
  · have HG := As.mk hg
    clear hg
    go_wp2_with fail
    all_goals first | (exfalso; have := HG.out; omega) | (go_ret; exact ⟨rfl, HI.out.bl⟩)
end Go.Proofs.Ythlfkkmhjmjenaa
