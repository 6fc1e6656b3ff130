/- IdsOnce answers true for every room and all drops; no conditions. -/
import Derived.Test.YthlfkkmhjmjenaaOncePure
import Derived.Test.YthlfkkmhjmjenaaOpen
import Derived.Laws.Bits128
import Derived.Deep.RegionWith
import Derived.Laws.StructEq
namespace Go.Proofs.Ythlfkkmhjmjenaa
open Go.RowKit
theorem and1023 (n : Int) : bits .and .i64 n 1023 = n % 1024 := by
  have h127 : (BitVec.ofInt 64 1023).toNat = 2 ^ 10 - 1 := by decide
  have key : (BitVec.ofInt 64 n &&& BitVec.ofInt 64 1023).toNat = (n % ((2 ^ 64 : Nat) : Int)).toNat % 2 ^ 10 := by
    rw [BitVec.toNat_and, BitVec.toNat_ofInt, h127, Nat.and_two_pow_sub_one_eq_mod]
  show IntKind.i64.wrap ((BitVec.ofInt 64 n &&& BitVec.ofInt 64 1023).toNat : Nat) = n % 1024
  rw [key, IntKind.wrap_i64]
  omega
def encBool (x : Bool) : List Value := [.bool x]
theorem encBool_len (x : Bool) : (encBool x).length = 1 := rfl
theorem one_bool (x : Bool) : ∀ u ∈ encBool x, u.oneCell' = true := by
  intro u hu
  simp only [encBool, List.mem_singleton] at hu
  subst hu
  rfl
theorem Try.info4 : (Try.prog.info? 4).map (fun i => (i.zero, i.size, i.bytes)) = some (some (.bool false), 1, 1) := by kernel_rfl
theorem eq26 (d : Nat) (w : World) (x0 y0 x1 y1 : Int) :
    (Op.equalIn (d + 2) 26 (.agg #[.int .i64 x0, .int .i64 x1]) (.agg #[.int .i64 y0, .int .i64 y1])).run Try.prog w = .ok (x0 == y0 && (x1 == y1)) w := by
  refine seq_of Try.underlying26 (by kernel_rfl) ?_
  refine seq_cons (by rfl) (by go_simp; rfl) (by go_simp; rfl) (by go_simp) ?_
  exact seq_last (by rfl) (by go_simp; rfl) (by go_simp; rfl) (by go_simp)
attribute [local go_sem high] eq26
/-- All that the law keeps. -/
def Kept (p : Nat) (room : Int) (slots : List (Int × Bool)) (free : List Int) (mv tv : Value) (made : List (Int × Int)) (there : List Bool) : Hp :=
  (isIds p room slots free).sep ((Hp.row 26 2 encId mv made).sep (Hp.row 4 1 encBool tv there))

theorem set_same {α : Type} {xs : List α} {i : Nat} {x : α} (h : xs[i]? = some x) : xs.set i x = xs := by
  apply List.ext_getElem?
  intro j
  by_cases hj : i = j
  · subst hj; rw [List.getElem?_set_self (List.getElem?_eq_some_iff.1 h).1, h]
  · rw [List.getElem?_set_ne hj]
theorem make_ok {room : Int} {m : Nat} {slots : List (Int × Bool)} {free : List Int} {made : List (Int × Int)} {there : List Bool} {n : Int} (h : Inv room m slots free made there n) (hr : room ≤ 50) (hm : m ≤ 100) (hn : n < room) (p : Nat) :
    ∃ id slots' free', Does Try.prog 8 #[.pointer (some ⟨p, 0, none⟩)] (isIds p room slots free) (fun e B => e = .returned (.tuple #[.agg #[.int .i64 id.1, .int .i64 id.2], .int .i64 0]) ∧ B = isIds p room slots' free') ∧ id ∉ made ∧ free'.length ≤ m ∧ Inv room (m + 1) slots' free' (made ++ [id]) (there ++ [true]) (n + 1) := by
  have hsl := h.slen
  rcases List.eq_nil_or_concat free with rfl | ⟨f0, i, rfl⟩
  · have hlt : (slots.length : Int) < room := by
      by_cases h1 : (slots.length : Int) < room
      · exact h1
      · exact ((h.full h1).2 hn).elim
    obtain ⟨_, h2, h3⟩ := h.next hlt
    exact ⟨_, _, _, make_more p room slots (by omega) (by omega), h2, Nat.zero_le _, h3⟩
  · rw [List.concat_eq_append] at h ⊢
    obtain ⟨h0, _, g, hg, hgm, hg1, h2, h3⟩ := h.pop
    have e : wrap64 (g + 1) = g + 1 := by unfold wrap64; omega
    refine ⟨(i, g + 1), _, _, ?_, h2, by have := h.flen; simp at this; omega, h3⟩
    have := make_pop p room slots f0 i (g, false) h0 hg
    simpa only [e] using this
theorem make_no {room : Int} {m : Nat} {slots : List (Int × Bool)} {free : List Int} {made : List (Int × Int)} {there : List Bool} {n : Int} (h : Inv room m slots free made there n) (hn : ¬ n < room) (p : Nat) :
    Does Try.prog 8 #[.pointer (some ⟨p, 0, none⟩)] (isIds p room slots free) (fun e B => e = .returned (.tuple #[.agg #[.int .i64 0, .int .i64 0], .int .i64 10]) ∧ B = isIds p room slots free) := by
  have hc := h.count
  have hs := h.slen
  obtain rfl : free = [] := List.eq_nil_of_length_eq_zero (by omega)
  simp only [List.length_nil] at hc
  obtain rfl : room = (slots.length : Int) := by omega
  exact make_full p slots

set_option maxRecDepth 100000 in
set_option maxHeartbeats 64000000 in
theorem once_walk (room : Int) (dv : Value) (drops : List Int) (w : World) (hd : Rd w 1 encInt dv drops) : Calls Try.prog 5 #[.int .i64 room, dv] w fun e w' => e = .returned (.bool true) ∧ Below w.heap.size w w' := by
  obtain ⟨dA, dc, rfl, hdc, hdn⟩ := hd.shape
  have HD := As.mk hd
  clear hd
  go_enter Try.func5, Try.ntmps5
  go_wp2_with fail
  refine (alive_does w).mono ?_
  rintro e w1 ⟨rfl, hb⟩
  have HI : As (In w w1 Hp.emp) := ⟨In.start hb⟩
  clear hb
  by_cases hg : 1 ≤ room ∧ room ≤ 50 ∧ drops.length ≤ 100
  · obtain ⟨g1, g2, g3⟩ := hg
    have d1 : decide (room < 1) = false := decide_eq_false (by omega)
    have d2 : decide (50 < room) = false := decide_eq_false (by omega)
    have d3 : decide (100 < (drops.length : Int)) = false := decide_eq_false (by omega)
    have d4 : decide (100 < drops.length) = false := decide_eq_false (by omega)
    go_wp2_with fail
    refine (HI.out.call0 (new_does room)).mono ?_
    rintro e w2 ⟨B, ⟨p, rfl, rfl⟩, hI⟩
    rw [show rm room = room by unfold rm; split <;> (try split) <;> omega] at hI
    have HI2 : As (In w w2 (Kept p room [] [] (.slice none 0 0) (.slice none 0 0) [] [])) := ⟨((hI.head.row_nil 4 1 encBool).row_nil 26 2 encId).rot⟩
    clear hI HI
    have HV0 := As.mk (Inv.start room (by omega))
    go_wp2_with fail
    go_loopw [7, 8, 9, 10] (fun mv tv nv iv wr => ∃ (i : Nat) (slots : List (Int × Bool)) (free : List Int) (made : List (Int × Int)) (there : List Bool) (n : Int), i ≤ drops.length ∧ iv = .int .i64 i ∧ nv = .int .i64 n ∧ As (Inv room i slots free made there n) ∧ As (In w wr (Kept p room slots free mv tv made there))) (fun _ _ _ iv _ => drops.length - (intOf iv).toNat)
    case atStart => exact ⟨0, [], [], [], [], 0, by omega, rfl, rfl, HV0, HI2⟩
    case round =>
      clear HI2 HV0
      obtain ⟨i, slots, free, made, there, n, hi, rfl, rfl, HV, HI⟩ := hrel
      by_cases hlt : i < drops.length
      · obtain ⟨db, doff, rfl, hdb, hdc⟩ := HD.out.cells _ _ _ rfl i drops[i] (List.getElem?_eq_getElem hlt)
        have hdc0 := hdc 0 (by omega)
        simp only [encInt, List.getElem?_cons_zero, Nat.mul_one, Nat.add_zero] at hdc0
        clear hdc
        generalize drops[i] = d at hdc0
        have HDC := As.mk hdc0
        clear hdc0
        by_cases hn : n < room
        · have dn : decide (n < room) = true := decide_eq_true hn
          obtain ⟨id, slots', free', hdoes, hid, hfr, hinv⟩ := make_ok HV.out g2 (by omega) hn p
          have HM := As.mk hdoes
          have HID := As.mk hid
          have HV2 := As.mk hinv
          have HFR := As.mk hfr
          clear hdoes hid hinv hn hfr
          go_wp2_with fail
          refine (HI.out.call HM.out).mono ?_
          rintro e w3 ⟨B, ⟨rfl, rfl⟩, hI⟩
          have HI3 := As.mk hI
          clear hI HI HM
          obtain ⟨id1, id2⟩ := id
          obtain ⟨mA, mc, rfl, _, hml⟩ := HI3.out.swap.row_at.shape
          go_wp2_with (go_at_call 9; refine (num_does _ _).mono ?_; rintro e w4 ⟨rfl, rfl⟩)
          obtain ⟨W, hW⟩ : ∃ W : World, W = w3.alloc (.cells #[.int .i64 id1, .int .i64 id2] 26) := ⟨_, rfl⟩
          rw [← hW]
          have hRb : W.heap[w3.heap.size]? = some (.cells #[.int .i64 id1, .int .i64 id2] 26 (0, 0)) := by rw [hW]; exact blk_alloc_new w3 _
          have HI4 : As (In w W (Kept p room slots' free' (.slice mA made.length mc) u8 made there)) := ⟨by rw [hW]; exact HI3.out.below ((Below.refl _ _).alloc (Nat.le_refl _) _)⟩
          have HRb := As.mk hRb
          clear hW hRb HI3
          generalize w3.heap.size = R at HRb
          go_loopw [13] (fun kv wr2 => ∃ j : Nat, j ≤ made.length ∧ kv = .int .i64 j ∧ ∃ n, wr2 = W.drewN n) (fun kv _ => made.length - (intOf kv).toNat)
          case atStart => exact ⟨0, Nat.zero_le _, rfl, 0, rfl⟩
          case round =>
            obtain ⟨j, hj, rfl, nn, rfl⟩ := hrel
            by_cases hjl : j < made.length
            · obtain ⟨gm, rfl, _, hmc⟩ := HI4.out.swap.row_at.cell encId_len j made[j] (List.getElem?_eq_getElem hjl)
              have m0 := (hmc 0 (by omega)).1
              have m1 := (hmc 1 (by omega)).1
              simp only [encId, List.getElem?_cons_zero, List.getElem?_cons_succ, Nat.add_zero] at m0 m1
              have r0 : W.cell? ⟨R, 0, none⟩ = some (.int .i64 id1) := (cell_of_blk HRb.out 0).trans rfl
              have r1 : W.cell? ⟨R, 1, none⟩ = some (.int .i64 id2) := (cell_of_blk HRb.out 1).trans rfl
              have hne : made[j] ≠ (id1, id2) := fun h => HID.out (h ▸ List.getElem_mem _)
              clear hmc
              generalize made[j] = x at m0 m1 hne
              obtain ⟨x1, x2⟩ := x
              have hne2 : (x1 == id1 && x2 == id2) = false := by
                rw [Bool.and_eq_false_iff, beq_eq_false_iff_ne, beq_eq_false_iff_ne]
                by_cases h1 : x1 = id1
                · exact .inr (fun h2 => hne (by rw [h1, h2]))
                · exact .inl h1
              clear hne
              go_wp2
              go_quiet (fail)
              go_wp2
              exact ⟨⟨j + 1, by omega, by go_num, _, rfl⟩, by simp [intOf]; omega⟩
            · obtain rfl : j = made.length := by omega
              have r0 : W.cell? ⟨R, 0, none⟩ = some (.int .i64 id1) := (cell_of_blk HRb.out 0).trans rfl
              have r1 : W.cell? ⟨R, 1, none⟩ = some (.int .i64 id2) := (cell_of_blk HRb.out 1).trans rfl
              have hml2 := HV.out.lenm
              have hml3 : there.length ≤ 100 := by have := HV.out.len; have := HV.out.lenm; omega
              have hn0 : 0 ≤ n ∧ n < 50 := ⟨by have := HV.out.taken; omega, by have := of_decide_eq_true dn; omega⟩
              obtain ⟨hn0, hn1⟩ := hn0
              have HFREE : As (free'.length ≤ i) := ⟨HFR.out⟩
              have HV1 := HV
              clear HV
              go_wp2_with (at_builtin; refine rw_append rfl (.tmp 69) (.tmp 71) 37 26 2 encId (.agg #[.int .i64 0, .int .i64 0]) 16 rfl Try.underlying37 Try.info26 rfl (by decide) (.slice mA made.length mc) made (id1, id2) rfl _ rfl ?c0 ?c5 encId_len ?c1 ?c2 ?c3 ?c4)
              case c0 => exact blk_new rfl
              case c5 => exact (HI4.out.swap.row_at.drewN _).alloc _
              case c1 => exact one_id _
              case c2 => simp only [maxLen]; omega
              case c3 => omega
              case c4 =>
                intro v1 w5 hA
                have HI5 := As.mk (In.appended hA HI4.out.swap (by repeat (first | exact Below.refl _ _ | refine bl_drewN ?_ _ | refine Below.drew ?_ | refine bl_alloc ?_ _ | refine bl_set ?_ (by first | (simp; done) | omega | (simp; omega)) _)))
                clear hA HI4 HRb r0 r1
                go_wp2_with (at_builtin; refine rw_append rfl (.tmp 73) (.tmp 74) 47 4 1 encBool (.bool false) 1 rfl Try.underlying47 Try.info4 rfl (by decide) u8 there true rfl _ rfl ?d0 ?d5 encBool_len ?d1 ?d2 ?d3 ?d4)
                case d0 => exact blk_new rfl
                case d5 => exact HI5.out.rot.row_at.alloc _
                case d1 => exact one_bool _
                case d2 => simp only [maxLen]; omega
                case d3 => omega
                case d4 =>
                  intro v2 w6 hA
                  have HI6 : As (In w w6 (Kept p room slots' free' v1 v2 (made ++ [(id1, id2)]) (there ++ [true]))) := ⟨(In.appended hA HI5.out.rot (by repeat (first | exact Below.refl _ _ | refine bl_drewN ?_ _ | refine Below.drew ?_ | refine bl_alloc ?_ _ | refine bl_set ?_ (by first | (simp; done) | omega | (simp; omega)) _))).rot.tcomm⟩
                  clear hA HI5
                  clear hml hml2 hml3
                  generalize made ++ [(id1, id2)] = MD at HI6 HV2
                  generalize there ++ [true] = TH at HI6 HV2
                  obtain ⟨N, hN⟩ : ∃ N, n + 1 = N := ⟨_, rfl⟩
                  rw [hN] at HV2
                  clear HV1 HID
                  generalize slots' = slots0 at HI6 HV2
                  generalize free' = free0 at HI6 HV2 HFREE
                  have hd3 : w6.cell? ⟨db, doff + i, none⟩ = some (.int .i64 d) := (HI6.out.bl.cell (p := ⟨db, doff + i, none⟩) hdb).trans HDC.out
                  have hdb6 : db < w6.heap.size := Nat.lt_of_lt_of_le hdb HI6.out.bl.size
                  obtain ⟨mA2, mc2, rfl, _, hml5⟩ := HI6.out.swap.row_at.shape
                  obtain ⟨tA2, tc2, rfl, _, htl5⟩ := HI6.out.rot.row_at.shape
                  obtain ⟨b, hb⟩ : ∃ b, bits .and .i64 d 1023 = b := ⟨_, rfl⟩
                  have hb0 : 0 ≤ b := by rw [← hb, and1023]; omega
                  obtain ⟨kk, hkk⟩ : ∃ kk : Nat, b % ((MD.length : Int) + 1) = (kk : Int) := ⟨(b % ((MD.length : Int) + 1)).toNat, (Int.toNat_of_nonneg (Int.emod_nonneg _ (by omega))).symm⟩
                  have hkl : kk ≤ MD.length := by have := Int.emod_lt_of_pos b (show 0 < (MD.length : Int) + 1 by omega); omega
                  have hMl : MD.length ≤ 101 := by have := HV2.out.lenm; omega
                  have hTl : As (MD.length = TH.length) := ⟨HV2.out.len⟩
                  by_cases hkM : kk < MD.length
                  · have hkT : kk < TH.length := by have := hTl.out; omega
                    obtain ⟨gm, rfl, hgm, hmc⟩ := HI6.out.swap.row_at.cell encId_len kk MD[kk] (List.getElem?_eq_getElem hkM)
                    obtain ⟨gt, rfl, hgt, htc⟩ := HI6.out.rot.row_at.cell encBool_len kk TH[kk] (List.getElem?_eq_getElem hkT)
                    have m0 := (hmc 0 (by omega)).1
                    have m1 := (hmc 1 (by omega)).1
                    simp only [encId, List.getElem?_cons_zero, List.getElem?_cons_succ, Nat.add_zero] at m0 m1
                    clear hmc htc
                    have HIDK := As.mk (List.getElem?_eq_getElem hkM)
                    have HTK := As.mk (List.getElem?_eq_getElem hkT)
                    generalize MD[kk] = idk at m0 m1 HIDK
                    generalize TH[kk] = tk at HTK
                    obtain ⟨x1, x2⟩ := idk
                    have HHas := As.mk (HV2.out.has HIDK.out HTK.out)
                    have hfl : free0.length ≤ 101 := by have := HV2.out.flen; omega
                    have HFL : As (free0.length ≤ i) := HFREE
                    cases tk with
                    | true =>
                      go_wp2_with (go_at_call 9; refine (num_does _ _).mono ?_; rintro e w4 ⟨rfl, rfl⟩)
                      refine ((HI6.out.below (by repeat (first | exact Below.refl _ _ | refine bl_drewN ?_ _ | refine Below.drew ?_ | refine bl_alloc ?_ _ | refine bl_set ?_ (by first | (simp; done) | omega | (simp; omega)) _))).call (drop_ok p x1 x2 room slots0 free0 HHas.out (by omega))).mono ?_
                      rintro e w7 ⟨B, ⟨rfl, rfl⟩, hI⟩
                      have HI7 := As.mk hI
                      have HV3 := As.mk (HV2.out.drop (by have := HFL.out; omega) HIDK.out HTK.out)
                      clear hI HI6 hd3 m0 m1
                      obtain ⟨t0, z0⟩ := HI7.out.rot.row_at.at_ encBool_len kk true HTK.out 0 (by omega)
                      simp only [encBool, List.getElem?_cons_zero, Nat.mul_one, Nat.add_zero] at t0 z0
                      have hN1 : 1 ≤ N ∧ N ≤ 101 := by
                        have h1 := HV2.out.taken
                        have h2 := HV2.out.count
                        have h3 := HV2.out.slenm
                        have h4 := (HV3.out).taken
                        omega
                      obtain ⟨hN1, hN2⟩ := hN1
                      go_wp2_with fail
                      go_quiet ((go_at_call 9; exact Calls.quiet_of_same ((num_does _ _).mono fun e w' h => ⟨h.1, h.2.symm⟩)))
                      go_wp2_with fail
                      have HI8 : As (In w ((w7.drewN nq).setCell ⟨gt, kk, none⟩ (.bool false)) (Kept p room (slots0.set x1.toNat (x2, false)) (free0 ++ [x1]) (.slice (some ⟨gm, 0, none⟩) MD.length mc2) (.slice (some ⟨gt, 0, none⟩) TH.length tc2) MD (TH.set kk false))) := ⟨by
                        have h := ((HI7.out.below (bl_drewN (Below.refl _ _) nq)).rot.row_set encBool_len kk 0 true false (.bool false) HTK.out (by omega) rfl).rot.rot
                        rw [Nat.mul_one, Nat.add_zero] at h
                        exact h⟩
                      clear HI7 t0 z0 HV2
                      generalize slots0.set x1.toNat (x2, false) = slots8 at HI8 HV3
                      generalize free0 ++ [x1] = free8 at HI8 HV3
                      have hT8 : As ((TH.set kk false).length = TH.length) := ⟨List.length_set⟩
                      generalize TH.set kk false = TH8 at HI8 HV3 hT8
                      obtain ⟨W8, hW8⟩ : ∃ W8, W8 = (w7.drewN nq).setCell ⟨gt, kk, none⟩ (.bool false) := ⟨_, rfl⟩
                      rw [← hW8] at HI8 ⊢
                      clear hW8 HTK HHas HIDK
                      try clear hkM3
                      try clear hkM4
                      try clear hkl
                      try clear hkM
                      try clear hkT
                      try clear hkk
                      try clear hb
                      try clear hb0
                      try clear dn
                      try clear d1
                      try clear d2
                      try clear d3
                      try clear d4
                      try clear hdb6
                      try clear hdb
                      try clear hdc
                      try clear hfl
                      try clear HFL
                      try clear HFREE
                      try clear HK2
                      try clear hN1
                      try clear hN2
                      try clear hgm
                      try clear hgt
                      go_loopw [16] (fun kv wr2 => ∃ j : Nat, j ≤ MD.length ∧ kv = .int .i64 j ∧ As (In w wr2 (Kept p room slots8 free8 (.slice (some ⟨gm, 0, none⟩) MD.length mc2) (.slice (some ⟨gt, 0, none⟩) TH.length tc2) MD TH8))) (fun kv _ => MD.length - (intOf kv).toNat)
                      case atStart => exact ⟨0, by omega, rfl, ⟨HI8.out.below (by repeat (first | exact Below.refl _ _ | refine bl_drewN ?_ _ | refine Below.drew ?_ | refine bl_alloc ?_ _ | refine bl_set ?_ (by first | (simp; done) | omega | (simp; omega)) _))⟩⟩
                      case round =>
                        clear HI8
                        obtain ⟨j, hj, rfl, HJ⟩ := hrel
                        by_cases hjl : j < MD.length
                        · have hjT : j < TH8.length := by have := hT8.out; have := hTl.out; omega
                          have hjT2 : j < TH.length := by have := hTl.out; omega
                          obtain ⟨y, hy⟩ : ∃ y, MD[j]? = some y := ⟨_, List.getElem?_eq_getElem hjl⟩
                          obtain ⟨t, ht⟩ : ∃ t, TH8[j]? = some t := ⟨_, List.getElem?_eq_getElem hjT⟩
                          obtain ⟨y1, y2⟩ := y
                          have HH := As.mk (HV3.out.has hy ht)
                          have HT := As.mk ht
                          obtain ⟨gm2, em, _, hmc⟩ := HJ.out.swap.row_at.cell encId_len j _ hy
                          obtain ⟨gt2, et, _, htc⟩ := HJ.out.rot.row_at.cell encBool_len j _ ht
                          cases em
                          cases et
                          have m0 := (hmc 0 (by omega)).1
                          have m1 := (hmc 1 (by omega)).1
                          have t0 := (htc 0 (by omega)).1
                          simp only [encId, encBool, List.getElem?_cons_zero, List.getElem?_cons_succ, Nat.add_zero, Nat.mul_one] at m0 m1 t0
                          clear hmc htc
                          have h8 : (t != t) = false := by simp
                          clear hy ht
                          go_wp2
                          go_region_with ((go_at_call 11; refine ((HJ.out.below (by repeat (first | exact Below.refl _ _ | refine bl_drewN ?_ _ | refine Below.drew ?_ | refine bl_alloc ?_ _ | refine bl_set ?_ (by first | (simp; done) | omega | (simp; omega)) _))).call (has_does p y1 y2 room slots8 free8)).mono ?_; rw [HH.out]; rintro e w9 ⟨B, ⟨rfl, rfl⟩, hI⟩; have t9 := (hI.rot.row_at.at_ encBool_len j _ HT.out 0 (by omega)).1; simp only [encBool, List.getElem?_cons_zero, Nat.add_zero, Nat.mul_one] at t9; have HI9 := As.mk hI; clear hI))
                          all_goals
                            go_wp2
                            exact ⟨⟨j + 1, by omega, by go_num, ⟨HI9.out.below (by repeat (first | exact Below.refl _ _ | refine bl_drewN ?_ _ | refine Below.drew ?_ | refine bl_alloc ?_ _ | refine bl_set ?_ (by first | (simp; done) | omega | (simp; omega)) _))⟩⟩, by simp [intOf]; omega⟩
                        · obtain rfl : j = MD.length := by omega
                          go_wp2_with fail
                          exact ⟨⟨i + 1, slots8, free8, MD, TH8, _, by omega, by go_num, rfl, HV3, ⟨by have := HJ.out; exact this⟩⟩, by simp [intOf]; omega⟩
                    | false =>
                      go_wp2_with (go_at_call 9; refine (num_does _ _).mono ?_; rintro e w4 ⟨rfl, rfl⟩)
                      refine ((HI6.out.below (by repeat (first | exact Below.refl _ _ | refine bl_drewN ?_ _ | refine Below.drew ?_ | refine bl_alloc ?_ _ | refine bl_set ?_ (by first | (simp; done) | omega | (simp; omega)) _))).call (drop_stale p x1 x2 room slots0 free0 HHas.out)).mono ?_
                      rintro e w7 ⟨B, ⟨rfl, rfl⟩, hI⟩
                      have HI7 := As.mk hI
                      have HV3 := HV2
                      clear hI HI6 hd3 m0 m1
                      obtain ⟨t0, z0⟩ := HI7.out.rot.row_at.at_ encBool_len kk false HTK.out 0 (by omega)
                      simp only [encBool, List.getElem?_cons_zero, Nat.mul_one, Nat.add_zero] at t0 z0
                      go_wp2_with fail
                      go_quiet ((go_at_call 9; exact Calls.quiet_of_same ((num_does _ _).mono fun e w' h => ⟨h.1, h.2.symm⟩)))
                      go_wp2_with fail
                      have HI8 : As (In w ((w7.drewN nq).setCell ⟨gt, kk, none⟩ (.bool false)) (Kept p room slots0 free0 (.slice (some ⟨gm, 0, none⟩) MD.length mc2) (.slice (some ⟨gt, 0, none⟩) TH.length tc2) MD TH)) := ⟨by
                        have h := ((HI7.out.below (bl_drewN (Below.refl _ _) nq)).rot.row_set encBool_len kk 0 false false (.bool false) HTK.out (by omega) rfl).rot.rot
                        rw [Nat.mul_one, Nat.add_zero, set_same HTK.out] at h
                        exact h⟩
                      clear HI7 t0 z0
                      obtain ⟨W8, hW8⟩ : ∃ W8, W8 = (w7.drewN nq).setCell ⟨gt, kk, none⟩ (.bool false) := ⟨_, rfl⟩
                      rw [← hW8] at HI8 ⊢
                      clear hW8 HTK HHas HIDK HV2
                      have hT8 : As (TH.length = TH.length) := ⟨rfl⟩
                      generalize slots0 = slots8 at HI8 HV3
                      generalize free0 = free8 at HI8 HV3
                      obtain ⟨TH8, hTH⟩ : ∃ TH8, TH8 = TH := ⟨_, rfl⟩
                      have hT8 : As (TH8.length = TH.length) := ⟨by rw [hTH]⟩
                      rw [← hTH] at HI8 HV3
                      have HTH := As.mk hTH
                      clear hTH
                      rw [show (Kept p room slots8 free8 (.slice (some ⟨gm, 0, none⟩) MD.length mc2) (.slice (some ⟨gt, 0, none⟩) TH8.length tc2) MD TH8) = (Kept p room slots8 free8 (.slice (some ⟨gm, 0, none⟩) MD.length mc2) (.slice (some ⟨gt, 0, none⟩) TH.length tc2) MD TH8) by rw [hT8.out]] at HI8
                      try clear hkM3
                      try clear hkM4
                      try clear hkl
                      try clear hkM
                      try clear hkT
                      try clear hkk
                      try clear hb
                      try clear hb0
                      try clear dn
                      try clear d1
                      try clear d2
                      try clear d3
                      try clear d4
                      try clear hdb6
                      try clear hdb
                      try clear hdc
                      try clear hfl
                      try clear HFL
                      try clear HFREE
                      try clear HK2
                      try clear hN1
                      try clear hN2
                      try clear hgm
                      try clear hgt
                      go_loopw [16] (fun kv wr2 => ∃ j : Nat, j ≤ MD.length ∧ kv = .int .i64 j ∧ As (In w wr2 (Kept p room slots8 free8 (.slice (some ⟨gm, 0, none⟩) MD.length mc2) (.slice (some ⟨gt, 0, none⟩) TH.length tc2) MD TH8))) (fun kv _ => MD.length - (intOf kv).toNat)
                      case atStart => exact ⟨0, by omega, rfl, ⟨HI8.out.below (by repeat (first | exact Below.refl _ _ | refine bl_drewN ?_ _ | refine Below.drew ?_ | refine bl_alloc ?_ _ | refine bl_set ?_ (by first | (simp; done) | omega | (simp; omega)) _))⟩⟩
                      case round =>
                        clear HI8
                        obtain ⟨j, hj, rfl, HJ⟩ := hrel
                        by_cases hjl : j < MD.length
                        · have hjT : j < TH8.length := by have := hT8.out; have := hTl.out; omega
                          have hjT2 : j < TH.length := by have := hTl.out; omega
                          obtain ⟨y, hy⟩ : ∃ y, MD[j]? = some y := ⟨_, List.getElem?_eq_getElem hjl⟩
                          obtain ⟨t, ht⟩ : ∃ t, TH8[j]? = some t := ⟨_, List.getElem?_eq_getElem hjT⟩
                          obtain ⟨y1, y2⟩ := y
                          have HH := As.mk (HV3.out.has hy ht)
                          have HT := As.mk ht
                          obtain ⟨gm2, em, _, hmc⟩ := HJ.out.swap.row_at.cell encId_len j _ hy
                          obtain ⟨gt2, et, _, htc⟩ := HJ.out.rot.row_at.cell encBool_len j _ ht
                          cases em
                          cases et
                          have m0 := (hmc 0 (by omega)).1
                          have m1 := (hmc 1 (by omega)).1
                          have t0 := (htc 0 (by omega)).1
                          simp only [encId, encBool, List.getElem?_cons_zero, List.getElem?_cons_succ, Nat.add_zero, Nat.mul_one] at m0 m1 t0
                          clear hmc htc
                          have h8 : (t != t) = false := by simp
                          clear hy ht
                          go_wp2
                          go_region_with ((go_at_call 11; refine ((HJ.out.below (by repeat (first | exact Below.refl _ _ | refine bl_drewN ?_ _ | refine Below.drew ?_ | refine bl_alloc ?_ _ | refine bl_set ?_ (by first | (simp; done) | omega | (simp; omega)) _))).call (has_does p y1 y2 room slots8 free8)).mono ?_; rw [HH.out]; rintro e w9 ⟨B, ⟨rfl, rfl⟩, hI⟩; have t9 := (hI.rot.row_at.at_ encBool_len j _ HT.out 0 (by omega)).1; simp only [encBool, List.getElem?_cons_zero, Nat.add_zero, Nat.mul_one] at t9; have HI9 := As.mk hI; clear hI))
                          all_goals
                            go_wp2
                            exact ⟨⟨j + 1, by omega, by go_num, ⟨HI9.out.below (by repeat (first | exact Below.refl _ _ | refine bl_drewN ?_ _ | refine Below.drew ?_ | refine bl_alloc ?_ _ | refine bl_set ?_ (by first | (simp; done) | omega | (simp; omega)) _))⟩⟩, by simp [intOf]; omega⟩
                        · obtain rfl : j = MD.length := by omega
                          go_wp2_with fail
                          exact ⟨⟨i + 1, slots8, free8, MD, TH8, _, by omega, by go_num, rfl, HV3, ⟨by have := HJ.out; exact this⟩⟩, by simp [intOf]; omega⟩
                  · have hkM2 : kk = MD.length := by omega
                    have HK2 := As.mk hkM2
                    have hkM3 : decide ((kk : Int) < (MD.length : Int)) = false := decide_eq_false (by omega)
                    have hkM4 : decide (kk < MD.length) = false := decide_eq_false (by omega)
                    clear hkM hkM2
                    go_wp2_with (go_at_call 9; refine (num_does _ _).mono ?_; rintro e w4 ⟨rfl, rfl⟩)
                    have HI8 : As (In w w6 (Kept p room slots0 free0 (.slice mA2 MD.length mc2) (.slice tA2 TH.length tc2) MD TH)) := HI6
                    have HV3 := HV2
                    clear HI6 hd3 HV2
                    generalize slots0 = slots8 at HI8 HV3
                    generalize free0 = free8 at HI8 HV3
                    obtain ⟨TH8, hTH⟩ : ∃ TH8, TH8 = TH := ⟨_, rfl⟩
                    have hT8 : As (TH8.length = TH.length) := ⟨by rw [hTH]⟩
                    rw [← hTH] at HI8 HV3
                    have HTH := As.mk hTH
                    clear hTH
                    rw [show (Kept p room slots8 free8 (.slice mA2 MD.length mc2) (.slice tA2 TH8.length tc2) MD TH8) = (Kept p room slots8 free8 (.slice mA2 MD.length mc2) (.slice tA2 TH.length tc2) MD TH8) by rw [hT8.out]] at HI8
                    try clear hkM3
                    try clear hkM4
                    try clear hkl
                    try clear hkM
                    try clear hkT
                    try clear hkk
                    try clear hb
                    try clear hb0
                    try clear dn
                    try clear d1
                    try clear d2
                    try clear d3
                    try clear d4
                    try clear hdb6
                    try clear hdb
                    try clear hdc
                    try clear hfl
                    try clear HFL
                    try clear HFREE
                    try clear HK2
                    try clear hN1
                    try clear hN2
                    try clear hgm
                    try clear hgt
                    go_loopw [16] (fun kv wr2 => ∃ j : Nat, j ≤ MD.length ∧ kv = .int .i64 j ∧ As (In w wr2 (Kept p room slots8 free8 (.slice mA2 MD.length mc2) (.slice tA2 TH.length tc2) MD TH8))) (fun kv _ => MD.length - (intOf kv).toNat)
                    case atStart => exact ⟨0, by omega, rfl, ⟨HI8.out.below (by repeat (first | exact Below.refl _ _ | refine bl_drewN ?_ _ | refine Below.drew ?_ | refine bl_alloc ?_ _ | refine bl_set ?_ (by first | (simp; done) | omega | (simp; omega)) _))⟩⟩
                    case round =>
                      clear HI8
                      obtain ⟨j, hj, rfl, HJ⟩ := hrel
                      by_cases hjl : j < MD.length
                      · have hjT : j < TH8.length := by have := hT8.out; have := hTl.out; omega
                        have hjT2 : j < TH.length := by have := hTl.out; omega
                        obtain ⟨y, hy⟩ : ∃ y, MD[j]? = some y := ⟨_, List.getElem?_eq_getElem hjl⟩
                        obtain ⟨t, ht⟩ : ∃ t, TH8[j]? = some t := ⟨_, List.getElem?_eq_getElem hjT⟩
                        obtain ⟨y1, y2⟩ := y
                        have HH := As.mk (HV3.out.has hy ht)
                        have HT := As.mk ht
                        obtain ⟨gm2, em, _, hmc⟩ := HJ.out.swap.row_at.cell encId_len j _ hy
                        obtain ⟨gt2, et, _, htc⟩ := HJ.out.rot.row_at.cell encBool_len j _ ht
                        cases em
                        cases et
                        have m0 := (hmc 0 (by omega)).1
                        have m1 := (hmc 1 (by omega)).1
                        have t0 := (htc 0 (by omega)).1
                        simp only [encId, encBool, List.getElem?_cons_zero, List.getElem?_cons_succ, Nat.add_zero, Nat.mul_one] at m0 m1 t0
                        clear hmc htc
                        have h8 : (t != t) = false := by simp
                        clear hy ht
                        go_wp2
                        go_region_with ((go_at_call 11; refine ((HJ.out.below (by repeat (first | exact Below.refl _ _ | refine bl_drewN ?_ _ | refine Below.drew ?_ | refine bl_alloc ?_ _ | refine bl_set ?_ (by first | (simp; done) | omega | (simp; omega)) _))).call (has_does p y1 y2 room slots8 free8)).mono ?_; rw [HH.out]; rintro e w9 ⟨B, ⟨rfl, rfl⟩, hI⟩; have t9 := (hI.rot.row_at.at_ encBool_len j _ HT.out 0 (by omega)).1; simp only [encBool, List.getElem?_cons_zero, Nat.add_zero, Nat.mul_one] at t9; have HI9 := As.mk hI; clear hI))
                        all_goals
                          go_wp2
                          exact ⟨⟨j + 1, by omega, by go_num, ⟨HI9.out.below (by repeat (first | exact Below.refl _ _ | refine bl_drewN ?_ _ | refine Below.drew ?_ | refine bl_alloc ?_ _ | refine bl_set ?_ (by first | (simp; done) | omega | (simp; omega)) _))⟩⟩, by simp [intOf]; omega⟩
                      · obtain rfl : j = MD.length := by omega
                        go_wp2_with fail
                        exact ⟨⟨i + 1, slots8, free8, MD, TH8, _, by omega, by go_num, rfl, HV3, ⟨by have := HJ.out; exact this⟩⟩, by simp [intOf]; omega⟩
        · have dn : decide (n < room) = false := decide_eq_false hn
          have HM := As.mk (make_no HV.out hn p)
          have HV2 := As.mk HV.out.more
          have HFREE : As (free.length ≤ i) := ⟨HV.out.flen⟩
          clear hn HV
          go_wp2_with fail
          refine (HI.out.call HM.out).mono ?_
          rintro e w6 ⟨B, ⟨rfl, rfl⟩, hI⟩
          have HI6 : As (In w w6 (Kept p room slots free u7 u8 made there)) := ⟨hI⟩
          clear hI HI HM
          generalize made = MD at HI6 HV2
          generalize there = TH at HI6 HV2
          obtain ⟨N, hN⟩ : ∃ N, N = n := ⟨_, rfl⟩
          subst hN
          generalize slots = slots0 at HI6 HV2
          generalize free = free0 at HI6 HV2 HFREE
          have hd3 : w6.cell? ⟨db, doff + i, none⟩ = some (.int .i64 d) := (HI6.out.bl.cell (p := ⟨db, doff + i, none⟩) hdb).trans HDC.out
          have hdb6 : db < w6.heap.size := Nat.lt_of_lt_of_le hdb HI6.out.bl.size
          obtain ⟨mA2, mc2, rfl, _, hml5⟩ := HI6.out.swap.row_at.shape
          obtain ⟨tA2, tc2, rfl, _, htl5⟩ := HI6.out.rot.row_at.shape
          obtain ⟨b, hb⟩ : ∃ b, bits .and .i64 d 1023 = b := ⟨_, rfl⟩
          have hb0 : 0 ≤ b := by rw [← hb, and1023]; omega
          obtain ⟨kk, hkk⟩ : ∃ kk : Nat, b % ((MD.length : Int) + 1) = (kk : Int) := ⟨(b % ((MD.length : Int) + 1)).toNat, (Int.toNat_of_nonneg (Int.emod_nonneg _ (by omega))).symm⟩
          have hkl : kk ≤ MD.length := by have := Int.emod_lt_of_pos b (show 0 < (MD.length : Int) + 1 by omega); omega
          have hMl : MD.length ≤ 101 := by have := HV2.out.lenm; omega
          have hTl : As (MD.length = TH.length) := ⟨HV2.out.len⟩
          by_cases hkM : kk < MD.length
          · have hkT : kk < TH.length := by have := hTl.out; omega
            obtain ⟨gm, rfl, hgm, hmc⟩ := HI6.out.swap.row_at.cell encId_len kk MD[kk] (List.getElem?_eq_getElem hkM)
            obtain ⟨gt, rfl, hgt, htc⟩ := HI6.out.rot.row_at.cell encBool_len kk TH[kk] (List.getElem?_eq_getElem hkT)
            have m0 := (hmc 0 (by omega)).1
            have m1 := (hmc 1 (by omega)).1
            simp only [encId, List.getElem?_cons_zero, List.getElem?_cons_succ, Nat.add_zero] at m0 m1
            clear hmc htc
            have HIDK := As.mk (List.getElem?_eq_getElem hkM)
            have HTK := As.mk (List.getElem?_eq_getElem hkT)
            generalize MD[kk] = idk at m0 m1 HIDK
            generalize TH[kk] = tk at HTK
            obtain ⟨x1, x2⟩ := idk
            have HHas := As.mk (HV2.out.has HIDK.out HTK.out)
            have hfl : free0.length ≤ 101 := by have := HV2.out.flen; omega
            have HFL : As (free0.length ≤ i) := HFREE
            cases tk with
            | true =>
              go_wp2_with (go_at_call 9; refine (num_does _ _).mono ?_; rintro e w4 ⟨rfl, rfl⟩)
              refine ((HI6.out.below (by repeat (first | exact Below.refl _ _ | refine bl_drewN ?_ _ | refine Below.drew ?_ | refine bl_alloc ?_ _ | refine bl_set ?_ (by first | (simp; done) | omega | (simp; omega)) _))).call (drop_ok p x1 x2 room slots0 free0 HHas.out (by omega))).mono ?_
              rintro e w7 ⟨B, ⟨rfl, rfl⟩, hI⟩
              have HI7 := As.mk hI
              have HV3 := As.mk (HV2.out.drop (by have := HFL.out; omega) HIDK.out HTK.out)
              clear hI HI6 hd3 m0 m1
              obtain ⟨t0, z0⟩ := HI7.out.rot.row_at.at_ encBool_len kk true HTK.out 0 (by omega)
              simp only [encBool, List.getElem?_cons_zero, Nat.mul_one, Nat.add_zero] at t0 z0
              have hN1 : 1 ≤ N ∧ N ≤ 101 := by
                have h1 := HV2.out.taken
                have h2 := HV2.out.count
                have h3 := HV2.out.slenm
                have h4 := (HV3.out).taken
                omega
              obtain ⟨hN1, hN2⟩ := hN1
              go_wp2_with fail
              go_quiet ((go_at_call 9; exact Calls.quiet_of_same ((num_does _ _).mono fun e w' h => ⟨h.1, h.2.symm⟩)))
              go_wp2_with fail
              have HI8 : As (In w ((w7.drewN nq).setCell ⟨gt, kk, none⟩ (.bool false)) (Kept p room (slots0.set x1.toNat (x2, false)) (free0 ++ [x1]) (.slice (some ⟨gm, 0, none⟩) MD.length mc2) (.slice (some ⟨gt, 0, none⟩) TH.length tc2) MD (TH.set kk false))) := ⟨by
                have h := ((HI7.out.below (bl_drewN (Below.refl _ _) nq)).rot.row_set encBool_len kk 0 true false (.bool false) HTK.out (by omega) rfl).rot.rot
                rw [Nat.mul_one, Nat.add_zero] at h
                exact h⟩
              clear HI7 t0 z0 HV2
              generalize slots0.set x1.toNat (x2, false) = slots8 at HI8 HV3
              generalize free0 ++ [x1] = free8 at HI8 HV3
              have hT8 : As ((TH.set kk false).length = TH.length) := ⟨List.length_set⟩
              generalize TH.set kk false = TH8 at HI8 HV3 hT8
              obtain ⟨W8, hW8⟩ : ∃ W8, W8 = (w7.drewN nq).setCell ⟨gt, kk, none⟩ (.bool false) := ⟨_, rfl⟩
              rw [← hW8] at HI8 ⊢
              clear hW8 HTK HHas HIDK
              try clear hkM3
              try clear hkM4
              try clear hkl
              try clear hkM
              try clear hkT
              try clear hkk
              try clear hb
              try clear hb0
              try clear dn
              try clear d1
              try clear d2
              try clear d3
              try clear d4
              try clear hdb6
              try clear hdb
              try clear hdc
              try clear hfl
              try clear HFL
              try clear HFREE
              try clear HK2
              try clear hN1
              try clear hN2
              try clear hgm
              try clear hgt
              go_loopw [16] (fun kv wr2 => ∃ j : Nat, j ≤ MD.length ∧ kv = .int .i64 j ∧ As (In w wr2 (Kept p room slots8 free8 (.slice (some ⟨gm, 0, none⟩) MD.length mc2) (.slice (some ⟨gt, 0, none⟩) TH.length tc2) MD TH8))) (fun kv _ => MD.length - (intOf kv).toNat)
              case atStart => exact ⟨0, by omega, rfl, ⟨HI8.out.below (by repeat (first | exact Below.refl _ _ | refine bl_drewN ?_ _ | refine Below.drew ?_ | refine bl_alloc ?_ _ | refine bl_set ?_ (by first | (simp; done) | omega | (simp; omega)) _))⟩⟩
              case round =>
                clear HI8
                obtain ⟨j, hj, rfl, HJ⟩ := hrel
                by_cases hjl : j < MD.length
                · have hjT : j < TH8.length := by have := hT8.out; have := hTl.out; omega
                  have hjT2 : j < TH.length := by have := hTl.out; omega
                  obtain ⟨y, hy⟩ : ∃ y, MD[j]? = some y := ⟨_, List.getElem?_eq_getElem hjl⟩
                  obtain ⟨t, ht⟩ : ∃ t, TH8[j]? = some t := ⟨_, List.getElem?_eq_getElem hjT⟩
                  obtain ⟨y1, y2⟩ := y
                  have HH := As.mk (HV3.out.has hy ht)
                  have HT := As.mk ht
                  obtain ⟨gm2, em, _, hmc⟩ := HJ.out.swap.row_at.cell encId_len j _ hy
                  obtain ⟨gt2, et, _, htc⟩ := HJ.out.rot.row_at.cell encBool_len j _ ht
                  cases em
                  cases et
                  have m0 := (hmc 0 (by omega)).1
                  have m1 := (hmc 1 (by omega)).1
                  have t0 := (htc 0 (by omega)).1
                  simp only [encId, encBool, List.getElem?_cons_zero, List.getElem?_cons_succ, Nat.add_zero, Nat.mul_one] at m0 m1 t0
                  clear hmc htc
                  have h8 : (t != t) = false := by simp
                  clear hy ht
                  go_wp2
                  go_region_with ((go_at_call 11; refine ((HJ.out.below (by repeat (first | exact Below.refl _ _ | refine bl_drewN ?_ _ | refine Below.drew ?_ | refine bl_alloc ?_ _ | refine bl_set ?_ (by first | (simp; done) | omega | (simp; omega)) _))).call (has_does p y1 y2 room slots8 free8)).mono ?_; rw [HH.out]; rintro e w9 ⟨B, ⟨rfl, rfl⟩, hI⟩; have t9 := (hI.rot.row_at.at_ encBool_len j _ HT.out 0 (by omega)).1; simp only [encBool, List.getElem?_cons_zero, Nat.add_zero, Nat.mul_one] at t9; have HI9 := As.mk hI; clear hI))
                  all_goals
                    go_wp2
                    exact ⟨⟨j + 1, by omega, by go_num, ⟨HI9.out.below (by repeat (first | exact Below.refl _ _ | refine bl_drewN ?_ _ | refine Below.drew ?_ | refine bl_alloc ?_ _ | refine bl_set ?_ (by first | (simp; done) | omega | (simp; omega)) _))⟩⟩, by simp [intOf]; omega⟩
                · obtain rfl : j = MD.length := by omega
                  go_wp2_with fail
                  exact ⟨⟨i + 1, slots8, free8, MD, TH8, _, by omega, by go_num, rfl, HV3, ⟨by have := HJ.out; exact this⟩⟩, by simp [intOf]; omega⟩
            | false =>
              go_wp2_with (go_at_call 9; refine (num_does _ _).mono ?_; rintro e w4 ⟨rfl, rfl⟩)
              refine ((HI6.out.below (by repeat (first | exact Below.refl _ _ | refine bl_drewN ?_ _ | refine Below.drew ?_ | refine bl_alloc ?_ _ | refine bl_set ?_ (by first | (simp; done) | omega | (simp; omega)) _))).call (drop_stale p x1 x2 room slots0 free0 HHas.out)).mono ?_
              rintro e w7 ⟨B, ⟨rfl, rfl⟩, hI⟩
              have HI7 := As.mk hI
              have HV3 := HV2
              clear hI HI6 hd3 m0 m1
              obtain ⟨t0, z0⟩ := HI7.out.rot.row_at.at_ encBool_len kk false HTK.out 0 (by omega)
              simp only [encBool, List.getElem?_cons_zero, Nat.mul_one, Nat.add_zero] at t0 z0
              go_wp2_with fail
              go_quiet ((go_at_call 9; exact Calls.quiet_of_same ((num_does _ _).mono fun e w' h => ⟨h.1, h.2.symm⟩)))
              go_wp2_with fail
              have HI8 : As (In w ((w7.drewN nq).setCell ⟨gt, kk, none⟩ (.bool false)) (Kept p room slots0 free0 (.slice (some ⟨gm, 0, none⟩) MD.length mc2) (.slice (some ⟨gt, 0, none⟩) TH.length tc2) MD TH)) := ⟨by
                have h := ((HI7.out.below (bl_drewN (Below.refl _ _) nq)).rot.row_set encBool_len kk 0 false false (.bool false) HTK.out (by omega) rfl).rot.rot
                rw [Nat.mul_one, Nat.add_zero, set_same HTK.out] at h
                exact h⟩
              clear HI7 t0 z0
              obtain ⟨W8, hW8⟩ : ∃ W8, W8 = (w7.drewN nq).setCell ⟨gt, kk, none⟩ (.bool false) := ⟨_, rfl⟩
              rw [← hW8] at HI8 ⊢
              clear hW8 HTK HHas HIDK HV2
              have hT8 : As (TH.length = TH.length) := ⟨rfl⟩
              generalize slots0 = slots8 at HI8 HV3
              generalize free0 = free8 at HI8 HV3
              obtain ⟨TH8, hTH⟩ : ∃ TH8, TH8 = TH := ⟨_, rfl⟩
              have hT8 : As (TH8.length = TH.length) := ⟨by rw [hTH]⟩
              rw [← hTH] at HI8 HV3
              have HTH := As.mk hTH
              clear hTH
              rw [show (Kept p room slots8 free8 (.slice (some ⟨gm, 0, none⟩) MD.length mc2) (.slice (some ⟨gt, 0, none⟩) TH8.length tc2) MD TH8) = (Kept p room slots8 free8 (.slice (some ⟨gm, 0, none⟩) MD.length mc2) (.slice (some ⟨gt, 0, none⟩) TH.length tc2) MD TH8) by rw [hT8.out]] at HI8
              try clear hkM3
              try clear hkM4
              try clear hkl
              try clear hkM
              try clear hkT
              try clear hkk
              try clear hb
              try clear hb0
              try clear dn
              try clear d1
              try clear d2
              try clear d3
              try clear d4
              try clear hdb6
              try clear hdb
              try clear hdc
              try clear hfl
              try clear HFL
              try clear HFREE
              try clear HK2
              try clear hN1
              try clear hN2
              try clear hgm
              try clear hgt
              go_loopw [16] (fun kv wr2 => ∃ j : Nat, j ≤ MD.length ∧ kv = .int .i64 j ∧ As (In w wr2 (Kept p room slots8 free8 (.slice (some ⟨gm, 0, none⟩) MD.length mc2) (.slice (some ⟨gt, 0, none⟩) TH.length tc2) MD TH8))) (fun kv _ => MD.length - (intOf kv).toNat)
              case atStart => exact ⟨0, by omega, rfl, ⟨HI8.out.below (by repeat (first | exact Below.refl _ _ | refine bl_drewN ?_ _ | refine Below.drew ?_ | refine bl_alloc ?_ _ | refine bl_set ?_ (by first | (simp; done) | omega | (simp; omega)) _))⟩⟩
              case round =>
                clear HI8
                obtain ⟨j, hj, rfl, HJ⟩ := hrel
                by_cases hjl : j < MD.length
                · have hjT : j < TH8.length := by have := hT8.out; have := hTl.out; omega
                  have hjT2 : j < TH.length := by have := hTl.out; omega
                  obtain ⟨y, hy⟩ : ∃ y, MD[j]? = some y := ⟨_, List.getElem?_eq_getElem hjl⟩
                  obtain ⟨t, ht⟩ : ∃ t, TH8[j]? = some t := ⟨_, List.getElem?_eq_getElem hjT⟩
                  obtain ⟨y1, y2⟩ := y
                  have HH := As.mk (HV3.out.has hy ht)
                  have HT := As.mk ht
                  obtain ⟨gm2, em, _, hmc⟩ := HJ.out.swap.row_at.cell encId_len j _ hy
                  obtain ⟨gt2, et, _, htc⟩ := HJ.out.rot.row_at.cell encBool_len j _ ht
                  cases em
                  cases et
                  have m0 := (hmc 0 (by omega)).1
                  have m1 := (hmc 1 (by omega)).1
                  have t0 := (htc 0 (by omega)).1
                  simp only [encId, encBool, List.getElem?_cons_zero, List.getElem?_cons_succ, Nat.add_zero, Nat.mul_one] at m0 m1 t0
                  clear hmc htc
                  have h8 : (t != t) = false := by simp
                  clear hy ht
                  go_wp2
                  go_region_with ((go_at_call 11; refine ((HJ.out.below (by repeat (first | exact Below.refl _ _ | refine bl_drewN ?_ _ | refine Below.drew ?_ | refine bl_alloc ?_ _ | refine bl_set ?_ (by first | (simp; done) | omega | (simp; omega)) _))).call (has_does p y1 y2 room slots8 free8)).mono ?_; rw [HH.out]; rintro e w9 ⟨B, ⟨rfl, rfl⟩, hI⟩; have t9 := (hI.rot.row_at.at_ encBool_len j _ HT.out 0 (by omega)).1; simp only [encBool, List.getElem?_cons_zero, Nat.add_zero, Nat.mul_one] at t9; have HI9 := As.mk hI; clear hI))
                  all_goals
                    go_wp2
                    exact ⟨⟨j + 1, by omega, by go_num, ⟨HI9.out.below (by repeat (first | exact Below.refl _ _ | refine bl_drewN ?_ _ | refine Below.drew ?_ | refine bl_alloc ?_ _ | refine bl_set ?_ (by first | (simp; done) | omega | (simp; omega)) _))⟩⟩, by simp [intOf]; omega⟩
                · obtain rfl : j = MD.length := by omega
                  go_wp2_with fail
                  exact ⟨⟨i + 1, slots8, free8, MD, TH8, _, by omega, by go_num, rfl, HV3, ⟨by have := HJ.out; exact this⟩⟩, by simp [intOf]; omega⟩
          · have hkM2 : kk = MD.length := by omega
            have HK2 := As.mk hkM2
            have hkM3 : decide ((kk : Int) < (MD.length : Int)) = false := decide_eq_false (by omega)
            have hkM4 : decide (kk < MD.length) = false := decide_eq_false (by omega)
            clear hkM hkM2
            go_wp2_with (go_at_call 9; refine (num_does _ _).mono ?_; rintro e w4 ⟨rfl, rfl⟩)
            have HI8 : As (In w w6 (Kept p room slots0 free0 (.slice mA2 MD.length mc2) (.slice tA2 TH.length tc2) MD TH)) := HI6
            have HV3 := HV2
            clear HI6 hd3 HV2
            generalize slots0 = slots8 at HI8 HV3
            generalize free0 = free8 at HI8 HV3
            obtain ⟨TH8, hTH⟩ : ∃ TH8, TH8 = TH := ⟨_, rfl⟩
            have hT8 : As (TH8.length = TH.length) := ⟨by rw [hTH]⟩
            rw [← hTH] at HI8 HV3
            have HTH := As.mk hTH
            clear hTH
            rw [show (Kept p room slots8 free8 (.slice mA2 MD.length mc2) (.slice tA2 TH8.length tc2) MD TH8) = (Kept p room slots8 free8 (.slice mA2 MD.length mc2) (.slice tA2 TH.length tc2) MD TH8) by rw [hT8.out]] at HI8
            try clear hkM3
            try clear hkM4
            try clear hkl
            try clear hkM
            try clear hkT
            try clear hkk
            try clear hb
            try clear hb0
            try clear dn
            try clear d1
            try clear d2
            try clear d3
            try clear d4
            try clear hdb6
            try clear hdb
            try clear hdc
            try clear hfl
            try clear HFL
            try clear HFREE
            try clear HK2
            try clear hN1
            try clear hN2
            try clear hgm
            try clear hgt
            go_loopw [16] (fun kv wr2 => ∃ j : Nat, j ≤ MD.length ∧ kv = .int .i64 j ∧ As (In w wr2 (Kept p room slots8 free8 (.slice mA2 MD.length mc2) (.slice tA2 TH.length tc2) MD TH8))) (fun kv _ => MD.length - (intOf kv).toNat)
            case atStart => exact ⟨0, by omega, rfl, ⟨HI8.out.below (by repeat (first | exact Below.refl _ _ | refine bl_drewN ?_ _ | refine Below.drew ?_ | refine bl_alloc ?_ _ | refine bl_set ?_ (by first | (simp; done) | omega | (simp; omega)) _))⟩⟩
            case round =>
              clear HI8
              obtain ⟨j, hj, rfl, HJ⟩ := hrel
              by_cases hjl : j < MD.length
              · have hjT : j < TH8.length := by have := hT8.out; have := hTl.out; omega
                have hjT2 : j < TH.length := by have := hTl.out; omega
                obtain ⟨y, hy⟩ : ∃ y, MD[j]? = some y := ⟨_, List.getElem?_eq_getElem hjl⟩
                obtain ⟨t, ht⟩ : ∃ t, TH8[j]? = some t := ⟨_, List.getElem?_eq_getElem hjT⟩
                obtain ⟨y1, y2⟩ := y
                have HH := As.mk (HV3.out.has hy ht)
                have HT := As.mk ht
                obtain ⟨gm2, em, _, hmc⟩ := HJ.out.swap.row_at.cell encId_len j _ hy
                obtain ⟨gt2, et, _, htc⟩ := HJ.out.rot.row_at.cell encBool_len j _ ht
                cases em
                cases et
                have m0 := (hmc 0 (by omega)).1
                have m1 := (hmc 1 (by omega)).1
                have t0 := (htc 0 (by omega)).1
                simp only [encId, encBool, List.getElem?_cons_zero, List.getElem?_cons_succ, Nat.add_zero, Nat.mul_one] at m0 m1 t0
                clear hmc htc
                have h8 : (t != t) = false := by simp
                clear hy ht
                go_wp2
                go_region_with ((go_at_call 11; refine ((HJ.out.below (by repeat (first | exact Below.refl _ _ | refine bl_drewN ?_ _ | refine Below.drew ?_ | refine bl_alloc ?_ _ | refine bl_set ?_ (by first | (simp; done) | omega | (simp; omega)) _))).call (has_does p y1 y2 room slots8 free8)).mono ?_; rw [HH.out]; rintro e w9 ⟨B, ⟨rfl, rfl⟩, hI⟩; have t9 := (hI.rot.row_at.at_ encBool_len j _ HT.out 0 (by omega)).1; simp only [encBool, List.getElem?_cons_zero, Nat.add_zero, Nat.mul_one] at t9; have HI9 := As.mk hI; clear hI))
                all_goals
                  go_wp2
                  exact ⟨⟨j + 1, by omega, by go_num, ⟨HI9.out.below (by repeat (first | exact Below.refl _ _ | refine bl_drewN ?_ _ | refine Below.drew ?_ | refine bl_alloc ?_ _ | refine bl_set ?_ (by first | (simp; done) | omega | (simp; omega)) _))⟩⟩, by simp [intOf]; omega⟩
              · obtain rfl : j = MD.length := by omega
                go_wp2_with fail
                exact ⟨⟨i + 1, slots8, free8, MD, TH8, _, by omega, by go_num, rfl, HV3, ⟨by have := HJ.out; exact this⟩⟩, by simp [intOf]; omega⟩
      · obtain rfl : i = drops.length := by omega
        go_wp2_with fail
        have hsl := HV.out.slenm
        refine (HI.out.call (all_does p room slots free (by omega))).mono ?_
        rintro e w3 ⟨B, ⟨v, rfl, rfl⟩, hI⟩
        have HI3 := As.mk hI.bl
        have hr := (hI.map (fun _ _ => Hp.assoc)).row_at
        clear hI
        obtain ⟨vA, vc, rfl, _, _⟩ := hr.shape
        have e1 := HV.out.all
        clear hr
        have d5 : (((allTo slots slots.length).length : Int) == n) = true := beq_iff_eq.2 e1
        clear e1
        go_wp2
        go_ret
        exact ⟨by simp, HI3.out⟩
  · have HG := As.mk hg
    clear hg
    go_wp2_with fail
    all_goals first | (exfalso; have := HG.out; omega) | (go_ret; exact ⟨rfl, HI.out.bl⟩)
end Go.Proofs.Ythlfkkmhjmjenaa
