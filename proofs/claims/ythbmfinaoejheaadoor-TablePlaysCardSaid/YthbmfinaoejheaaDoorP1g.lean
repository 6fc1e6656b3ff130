/- TablePlays: the walk. -/
import Derived.Test.YthbmfinaoejheaaDoorR6
import Derived.Deep.RegionHeld3
set_option linter.unusedVariables false
namespace Go.Proofs.YthbmfinaoejheaaDoor
open Go.RowKit
structure TAct where
  way : Int
  row : Int
  comp : Int
  val : Int
  id : Int × Int
  cv : Value
  cells : List (Int × Int)
def encAct (a : TAct) : List Value := [.int .i64 a.way, .int .i64 a.row, .int .i64 a.comp, .int .i64 a.val, .int .i64 a.id.1, .int .i64 a.id.2, a.cv]
theorem encAct_len (a : TAct) : (encAct a).length = 7 := rfl
def GoodA (w : World) (a : TAct) : Prop := Rd w 2 encId a.cv a.cells ∧ okId a.id
theorem bits3 : bitsN 3 = [0, 1] := by decide +kernel
theorem rnew_does (w : World) (m : Nat) : Calls Tryd.prog 14 #[.int .u16 (m : Nat)] w fun e w' => ∃ p, e = .returned (.pointer (some ⟨p, 0, none⟩)) ∧ At (fun _ => False) w w' (Hp.seps [isRt p m []]) := by
  have hS := ((At.start0 (Below.refl w.heap.size w)).nilRow 70 18 encRow).alloc #[.int .u16 (m : Nat), .slice none 0 0] 67
  go_enter Tryd.func14, Tryd.ntmps14
  go_wp2
  go_ret
  exact ⟨_, rfl, rt_close hS⟩
def Inv (i : Nat) (R : List TRow) : Prop := R.length ≤ i ∧ (idsOf R).Nodup ∧ ∀ x ∈ idsOf R, okId x
def Oth (i : Nat) (R : List TRow) : Prop := R.length = i ∧ ∀ x ∈ idsOf R, x.1 < (i : Int)
theorem inv_new {i : Nat} {R : List TRow} {cs : List Int} {id : Int × Int} {l : List (Int × Int)} (h : Inv i R) (hx : ixF (idsOf R) id = none) (hk : okId id) : Inv (i + 1) (addR cs R id l) := by
  have e1 : idsOf (addR cs R id l) = idsOf R ++ [id] := by rw [addR_eq]; simp [idsOf]
  have hn : id ∉ idsOf R := fun hm => by
    unfold ixF at hx
    rw [List.findIdx?_eq_none_iff] at hx
    have := hx id hm
    simp at this
  refine ⟨by rw [addR_len]; have := h.1; omega, ?_, ?_⟩
  · rw [e1, List.nodup_append]
    exact ⟨h.2.1, by simp, fun a ha b hb => by rw [List.mem_singleton] at hb; subst hb; rintro rfl; exact hn ha⟩
  · rw [e1]
    intro x hx
    rw [List.mem_append, List.mem_singleton] at hx
    rcases hx with hx | rfl
    · exact h.2.2 x hx
    · exact hk
theorem inv_mono {i : Nat} {R : List TRow} (h : Inv i R) : Inv (i + 1) R := ⟨Nat.le_succ_of_le h.1, h.2⟩
theorem inv_set {i : Nat} {R : List TRow} {cs : List Int} {row c v : Int} (h : Inv i R) : Inv (i + 1) (setR cs R row c v) := by
  unfold setR
  split
  · refine ⟨by rw [List.length_modify]; have := h.1; omega, ?_⟩
    rw [idsOf_set]
    exact h.2
  · exact inv_mono h
theorem inv_swp {i q : Nat} {R : List TRow} (h : Inv i R) (hq : q < R.length) : Inv (i + 1) (swp R q) := by
  refine ⟨by rw [swp_len hq]; have := h.1; omega, ?_, ?_⟩
  · rw [idsOf_swp]; exact swp_nodup (by rw [idsOf_len]; exact hq) h.2.1
  · intro x hx
    rw [idsOf_swp] at hx
    obtain ⟨j, hj⟩ := List.mem_iff_getElem?.1 hx
    rw [swp_get (by rw [idsOf_len]; exact hq)] at hj
    split at hj
    · split at hj
      · exact h.2.2 x (List.mem_of_getElem? hj)
      · exact h.2.2 x (List.mem_of_getElem? hj)
    · cases hj
theorem oth_new {i : Nat} {R : List TRow} {cs : List Int} (h : Oth i R) : Oth (i + 1) (addR cs R ((i : Int), 0) []) ∧ ixF (idsOf R) ((i : Int), 0) = none := by
  have e1 : idsOf (addR cs R ((i : Int), 0) []) = idsOf R ++ [((i : Int), 0)] := by rw [addR_eq]; simp [idsOf]
  refine ⟨⟨by rw [addR_len, h.1], ?_⟩, ixF_none fun hm => ?_⟩
  · rw [e1]
    intro x hx
    rw [List.mem_append, List.mem_singleton] at hx
    rcases hx with hx | rfl
    · have := h.2 x hx; omega
    · simp only; omega
  · have := h.2 _ hm
    simp only at this
    omega
theorem rd_nil (w : World) : Rd w 2 encId (.slice none 0 0) ([] : List (Int × Int)) := ⟨⟨none, 0, rfl, Nat.le_refl _, by simp⟩, fun A n c _ i x hx => by simp at hx⟩
set_option maxRecDepth 100000 in
set_option maxHeartbeats 25600000 in
theorem plays_walk (m : Nat) (hm : m < 65536) (lv : Value) (l : List TAct) (w : World) (hT : GTab w) (hd : Rd w 7 encAct lv l) (hg : ∀ a ∈ l, GoodA w a) : Calls Tryd.prog 5 #[.int .u16 (m : Nat), lv] w fun e w' => e = .returned (.bool true) ∧ Below w.heap.size w w' := by
  obtain ⟨A, cp, rfl, hcp, hcm⟩ := hd.shape
  have HD := As.mk hd
  have HGd := As.mk hg
  have HA := As.mk (alive_does w hT)
  have HT := As.mk hT
  clear hd hT hg
  by_cases h80 : 80 < l.length
  · have t0 : decide (80 < l.length) = true := decide_eq_true h80
    have t1 : decide ((80 : Int) < (l.length : Int)) = true := decide_eq_true (by omega)
    clear h80
    go_enter Tryd.func5, Tryd.ntmps5
    go_wp2_with fail
    refine HA.out.mono ?_
    rintro e w1 ⟨rfl, hb⟩
    have HB := As.mk hb
    clear hb
    go_wp2_with fail
    go_ret
    exact ⟨rfl, HB.out⟩
  · have t0 : decide (80 < l.length) = false := decide_eq_false h80
    have t1 : decide ((80 : Int) < (l.length : Int)) = false := decide_eq_false (by omega)
    have H80 := As.mk h80
    obtain ⟨cs, hcs⟩ : ∃ cs, cs = bitsN m := ⟨_, rfl⟩
    have HCs := As.mk hcs
    have HNd : As (cs.Nodup) := ⟨by rw [hcs]; exact bitsN_nodup m⟩
    clear h80 hcs
    go_enter Tryd.func5, Tryd.ntmps5
    go_wp2_with fail
    refine HA.out.mono ?_
    rintro e w1 ⟨rfl, hb⟩
    have HB := As.mk hb
    clear hb
    go_wp2_with fail
    refine (new_does w1 (HT.out.below HB.out) m hm).mono ?_
    rintro e w2 ⟨p, rfl, hS⟩
    have hS : At (fun _ => False) w w2 (Hp.seps [isTb p cs []]) := by rw [HCs.out]; exact (At.start0 HB.out).also hS
    go_wp2_with fail
    refine (new_does w2 (HT.out.below hS.bl) 3 (by omega)).mono ?_
    rintro e w3 ⟨p2, rfl, hS2⟩
    rw [bits3] at hS2
    have hS3 := hS.also hS2
    clear hS hS2
    go_wp2_with fail
    refine (rnew_does w3 m).mono ?_
    rintro e w4 ⟨q, rfl, hS4⟩
    have hS5 : At (fun _ => False) w w4 (Hp.seps [isTb p cs [], isTb p2 [0, 1] [], isRt q m []]) := (hS3.also hS4).sel [2, 1, 0]
    clear hS3 hS4
    go_wp2_with fail
    go_loopg [9] l.length (fun g0 iv wr => ∃ (i : Nat) (R S : List TRow), i + g0 = l.length ∧ iv = .int .i64 i ∧ As (Inv i R) ∧ As (Oth i S) ∧ At (fun _ => False) w wr (Hp.seps [isTb p cs R, isTb p2 [0, 1] S, isRt q m R]))
    case atStart => exact ⟨0, [], [], by omega, rfl, ⟨⟨Nat.le_refl _, by simp [idsOf], by simp [idsOf]⟩⟩, ⟨⟨rfl, by simp [idsOf]⟩⟩, hS5⟩
    case round =>
      clear hS5
      obtain ⟨i, R, S, hi, rfl, HI, HO, hS⟩ := hrel
      have HK := As.mk hi
      by_cases hlt : i < l.length
      · obtain ⟨a, ha⟩ : ∃ a, l[i]? = some a := ⟨_, List.getElem?_eq_getElem hlt⟩
        obtain ⟨bk, off, rfl, hbk, hcell⟩ := (HD.out.below hS.bl).cells _ _ _ rfl i a ha
        have HGa := As.mk (HGd.out a (List.mem_of_getElem? ha))
        have c0 := hcell 0 (by omega)
        have c1 := hcell 1 (by omega)
        have c2 := hcell 2 (by omega)
        have c3 := hcell 3 (by omega)
        have c4 := hcell 4 (by omega)
        have c5 := hcell 5 (by omega)
        have c6 := hcell 6 (by omega)
        obtain ⟨way, row, comp, val, ⟨a1, a2⟩, cv, cells⟩ := a
        simp only [encAct, List.getElem?_cons_zero, List.getElem?_cons_succ, Nat.add_zero] at c0 c1 c2 c3 c4 c5 c6
        obtain ⟨Dv, dn, hdv, _, _⟩ := HGa.out.1.shape
        simp only at hdv
        subst hdv
        have HLt := As.mk hlt
        have hm0 : (i : Int) < (l.length : Int) := by omega
        have hS1 := hS.alloc #[.int .i64 way, .int .i64 row, .int .i64 comp, .int .i64 val, .int .i64 a1, .int .i64 a2, .slice Dv cells.length dn] 48
        obtain ⟨g, hgq⟩ : ∃ g, g = wr.heap.size := ⟨_, rfl⟩
        obtain ⟨W, hW⟩ : ∃ W, W = wr.alloc (.cells #[.int .i64 way, .int .i64 row, .int .i64 comp, .int .i64 val, .int .i64 a1, .int .i64 a2, .slice Dv cells.length dn] 48) := ⟨_, rfl⟩
        rw [← hW, ← hgq] at hS1
        have HW := As.mk hW
        have HQ := As.mk hgq
        clear hi hlt hcell ha hW hgq
        by_cases h30 : 30 < cells.length
        · have t3 : decide (30 < cells.length) = true := decide_eq_true h30
          have t4 : decide ((30 : Int) < (cells.length : Int)) = true := decide_eq_true (by omega)
          clear h30
          go_wp2_with fail
          rw [← HW.out, ← HQ.out]
          have g0 := (hS1.cellAt 0 rfl 0).trans rfl
          have g1 := (hS1.cellAt 0 rfl 1).trans rfl
          have g2 := (hS1.cellAt 0 rfl 2).trans rfl
          have g3 := (hS1.cellAt 0 rfl 3).trans rfl
          have g4 := (hS1.cellAt 0 rfl 4).trans rfl
          have g5 := (hS1.cellAt 0 rfl 5).trans rfl
          have g6 := (hS1.cellAt 0 rfl 6).trans rfl
          have HB1 := As.mk hS1.bl
          clear HW HQ c0 c1 c2 c3 c4 c5 c6 hS hS1
          go_wp2_with fail
          go_ret
          exact ⟨rfl, HB1.out⟩
        · have t3 : decide (30 < cells.length) = false := decide_eq_false h30
          have t4 : decide ((30 : Int) < (cells.length : Int)) = false := decide_eq_false (by omega)
          clear h30
          have HOn := As.mk (oth_new (cs := [0, 1]) HO.out)
          go_wp2_with fail
          rw [← HW.out, ← HQ.out]
          have g0 := (hS1.cellAt 0 rfl 0).trans rfl
          have g1 := (hS1.cellAt 0 rfl 1).trans rfl
          have g2 := (hS1.cellAt 0 rfl 2).trans rfl
          have g3 := (hS1.cellAt 0 rfl 3).trans rfl
          have g4 := (hS1.cellAt 0 rfl 4).trans rfl
          have g5 := (hS1.cellAt 0 rfl 5).trans rfl
          have g6 := (hS1.cellAt 0 rfl 6).trans rfl
          clear HW HQ c0 c1 c2 c3 c4 c5 c6 hS
          go_wp2_with fail
          refine (add_new p2 [0, 1] (by decide) S ((i : Int), 0) (.slice none 0 0) [] ⟨⟨by simp only; omega, by have h1 := HLt.out; have h2 := H80.out; simp only; omega⟩, by simp only; omega, by simp only; omega⟩ HOn.out.2 (by rw [HO.out.1]; have h1 := HLt.out; have h2 := H80.out; omega) (fun w' L' _ => rd_nil w') (hS1.sel [2, 1, 1, 0])).mono ?_
          rintro e w5 ⟨rfl, hS2⟩
          obtain ⟨S2, hS2e⟩ : ∃ S2, S2 = addR [0, 1] S ((i : Int), 0) [] := ⟨_, rfl⟩
          rw [← hS2e] at hS2
          have HO2 : As (Oth (i + 1) S2) := ⟨by rw [hS2e]; exact HOn.out.1⟩
          have hS3 : At (fun _ => False) w w5 (Hp.seps [Hp.blk g #[.int .i64 way, .int .i64 row, .int .i64 comp, .int .i64 val, .int .i64 a1, .int .i64 a2, .slice Dv cells.length dn] 48, isTb p cs R, isTb p2 [0, 1] S2, isRt q m R]) := hS2.sel [3, 1, 0, 0]
          clear hS1 hS2 hS2e g0 g1 g2 g3 g4 g5 g6
          have g0 := (hS3.cellAt 0 rfl 0).trans rfl
          have g1 := (hS3.cellAt 0 rfl 1).trans rfl
          have g2 := (hS3.cellAt 0 rfl 2).trans rfl
          have g3 := (hS3.cellAt 0 rfl 3).trans rfl
          have g4 := (hS3.cellAt 0 rfl 4).trans rfl
          have g5 := (hS3.cellAt 0 rfl 5).trans rfl
          have g6 := (hS3.cellAt 0 rfl 6).trans rfl
          go_upto_region 14 with fail
          go_cut [52] (fun t wc => t = .int .i64 way ∧ wc = w5)
          case first =>
            go_wp2_with fail
            go_meet
            exact ⟨rfl, rfl⟩
          case rest =>
            obtain ⟨rfl, rfl⟩ := hcut
            apply_assumption
            go_cut [] (fun wc => ∃ R2, As (Inv (i + 1) R2) ∧ At (fun _ => False) w wc (Hp.seps [Hp.blk g #[.int .i64 way, .int .i64 row, .int .i64 comp, .int .i64 val, .int .i64 a1, .int .i64 a2, .slice Dv cells.length dn] 48, isTb p cs R2, isTb p2 [0, 1] S2, isRt q m R2]))
            case first =>
              by_cases k0 : way = 0
              · subst k0
                have HL0 : As (R.length ≤ 100000) := ⟨by have h1 := HI.out.1; have h2 := HLt.out; have h3 := H80.out; omega⟩
                cases hx : ixF (idsOf R) (a1, a2) with
                | none =>
                  have HX := As.mk hx
                  have HI2 := As.mk (inv_new (cs := cs) (l := cells) HI.out hx HGa.out.2)
                  clear hx
                  have HS3 := As.mk hS3
                  clear hS3
                  go_wp2_with fail
                  clear g0 g1 g2 g3 g4 g5 g6
                  have y4 : (_ : World).cell? ⟨g, 4, none⟩ = some (.int .i64 a1) := (HS3.out.cellAt 0 rfl 4).trans rfl
                  have y5 : (_ : World).cell? ⟨g, 5, none⟩ = some (.int .i64 a2) := (HS3.out.cellAt 0 rfl 5).trans rfl
                  have y6 : (_ : World).cell? ⟨g, 6, none⟩ = some (.slice Dv cells.length dn) := (HS3.out.cellAt 0 rfl 6).trans rfl
                  go_region_held3 (fun V => V.cell? ⟨g, 4, none⟩ = some (.int .i64 a1) ∧ V.cell? ⟨g, 5, none⟩ = some (.int .i64 a2) ∧ V.cell? ⟨g, 6, none⟩ = some (.slice Dv cells.length dn)) (first | with_reducible exact ⟨y4, y5, y6⟩ | exact ⟨y4, y5, y6⟩) (first | (go_at_call 8; refine (add_new p cs HNd.out R (a1, a2) (.slice Dv cells.length dn) cells HGa.out.2 HX.out HL0.out (fun w' L' h => HGa.out.1.below h.bl) (HS3.out.drew.sel [1, 0, 0, 0])).mono ?_; rintro e w7 ⟨rfl, hz⟩; clear y4 y5 y6; have y4 : w7.cell? ⟨g, 4, none⟩ = some (.int .i64 a1) := (hz.cellAt 1 rfl 4).trans rfl; have y5 : w7.cell? ⟨g, 5, none⟩ = some (.int .i64 a2) := (hz.cellAt 1 rfl 5).trans rfl; have y6 : w7.cell? ⟨g, 6, none⟩ = some (.slice Dv cells.length dn) := (hz.cellAt 1 rfl 6).trans rfl; have HS4 := As.mk hz; clear hz) | (go_at_call 15; refine (radd_new q m hm R (a1, a2) (.slice Dv cells.length dn) cells HX.out HL0.out (fun w' L' h => HGa.out.1.below h.bl) (HS4.out.sel [3, 0, 0, 0])).mono ?_; rintro e w8 ⟨rfl, hz⟩; clear y4 y5 y6; rw [← HCs.out] at hz; have y4 : w8.cell? ⟨g, 4, none⟩ = some (.int .i64 a1) := (hz.cellAt 2 rfl 4).trans rfl; have y5 : w8.cell? ⟨g, 5, none⟩ = some (.int .i64 a2) := (hz.cellAt 2 rfl 5).trans rfl; have y6 : w8.cell? ⟨g, 6, none⟩ = some (.slice Dv cells.length dn) := (hz.cellAt 2 rfl 6).trans rfl; have HS5 := As.mk hz; clear hz))
                  clear y4 y5 y6
                  obtain ⟨R2, hR2⟩ : ∃ R2, R2 = addR cs R (a1, a2) cells := ⟨_, rfl⟩
                  rw [← hR2] at HS5 HI2
                  clear hR2
                  have HA0 : As (At (fun _ => False) w _ (Hp.seps [Hp.blk g #[.int .i64 0, .int .i64 row, .int .i64 comp, .int .i64 val, .int .i64 a1, .int .i64 a2, .slice Dv cells.length dn] 48, isTb p cs R2, isTb p2 [0, 1] S2, isRt q m R2])) := ⟨HS5.out.sel [2, 1, 1, 0]⟩
                  clear HS3 HS4 HS5
                  go_wp2_with fail
                  go_meet
                  exact ⟨R2, HI2, HA0.out⟩
                | some ix =>
                  have HX : As (∃ j, ixF (idsOf R) (a1, a2) = some j) := ⟨⟨ix, hx⟩⟩
                  have HI2 := As.mk (inv_mono HI.out)
                  clear hx
                  have HS3 := As.mk hS3
                  clear hS3
                  go_wp2_with fail
                  clear g0 g1 g2 g3 g4 g5 g6
                  have y4 : (_ : World).cell? ⟨g, 4, none⟩ = some (.int .i64 a1) := (HS3.out.cellAt 0 rfl 4).trans rfl
                  have y5 : (_ : World).cell? ⟨g, 5, none⟩ = some (.int .i64 a2) := (HS3.out.cellAt 0 rfl 5).trans rfl
                  have y6 : (_ : World).cell? ⟨g, 6, none⟩ = some (.slice Dv cells.length dn) := (HS3.out.cellAt 0 rfl 6).trans rfl
                  go_region_held3 (fun V => V.cell? ⟨g, 4, none⟩ = some (.int .i64 a1) ∧ V.cell? ⟨g, 5, none⟩ = some (.int .i64 a2) ∧ V.cell? ⟨g, 6, none⟩ = some (.slice Dv cells.length dn)) (first | with_reducible exact ⟨y4, y5, y6⟩ | exact ⟨y4, y5, y6⟩) (first | (go_at_call 8; refine (add_old p cs R (a1, a2) (.slice Dv cells.length dn) HGa.out.2 HX.out (HS3.out.drew.sel [1, 0, 0, 0])).mono ?_; rintro e w7 ⟨rfl, hz⟩; clear y4 y5 y6; have y4 : w7.cell? ⟨g, 4, none⟩ = some (.int .i64 a1) := (hz.cellAt 1 rfl 4).trans rfl; have y5 : w7.cell? ⟨g, 5, none⟩ = some (.int .i64 a2) := (hz.cellAt 1 rfl 5).trans rfl; have y6 : w7.cell? ⟨g, 6, none⟩ = some (.slice Dv cells.length dn) := (hz.cellAt 1 rfl 6).trans rfl; have HS4 := As.mk hz; clear hz) | (go_at_call 15; refine (radd_old q m R (a1, a2) (.slice Dv cells.length dn) HX.out (HS4.out.sel [3, 0, 0, 0])).mono ?_; rintro e w8 ⟨rfl, hz⟩; clear y4 y5 y6; have y4 : w8.cell? ⟨g, 4, none⟩ = some (.int .i64 a1) := (hz.cellAt 2 rfl 4).trans rfl; have y5 : w8.cell? ⟨g, 5, none⟩ = some (.int .i64 a2) := (hz.cellAt 2 rfl 5).trans rfl; have y6 : w8.cell? ⟨g, 6, none⟩ = some (.slice Dv cells.length dn) := (hz.cellAt 2 rfl 6).trans rfl; have HS5 := As.mk hz; clear hz))
                  clear y4 y5 y6
                  have HA0 : As (At (fun _ => False) w _ (Hp.seps [Hp.blk g #[.int .i64 0, .int .i64 row, .int .i64 comp, .int .i64 val, .int .i64 a1, .int .i64 a2, .slice Dv cells.length dn] 48, isTb p cs R, isTb p2 [0, 1] S2, isRt q m R])) := ⟨HS5.out.sel [2, 1, 1, 0]⟩
                  clear HS3 HS4 HS5
                  go_wp2_with fail
                  go_meet
                  exact ⟨R, HI2, HA0.out⟩
              · have u0 : (way == 0) = false := by simpa using k0
                clear k0
                by_cases k1 : way = 1
                · subst k1
                  go_wp2_with fail
                  have HS3 := As.mk hS3
                  clear hS3
                  by_cases hrr : row < 0 ∨ (R.length : Int) ≤ row
                  · have HRR := As.mk hrr
                    clear hrr
                    have HI2 := As.mk (inv_mono HI.out)
                    refine (HS3.out.callAt 1 rfl (rem_none p cs R row HRR.out)).mono ?_
                    rintro e w7 ⟨B, ⟨rfl, rfl⟩, hz⟩
                    clear g0 g1 g2 g3 g4 g5 g6
                    have g1 : w7.cell? ⟨g, 1, none⟩ = some (.int .i64 row) := (hz.cellAt 0 rfl 1).trans rfl
                    have HS4 := As.mk hz
                    clear hz
                    go_wp2_with fail
                    refine (HS4.out.callAt 3 rfl (rrem_none q m R row HRR.out)).mono ?_
                    rintro e w8 ⟨B, ⟨rfl, rfl⟩, hz⟩
                    have HS5 := As.mk hz
                    clear hz g1
                    go_wp2_with fail
                    refine (HS5.out.beside (sameC_does (.slice none 0 0) (.slice none 0 0) [] w8 (rd_nil w8) (rd_nil w8))).mono ?_
                    rintro e w9 ⟨rfl, hz⟩
                    have HA0 : As (At (fun _ => False) w w9 (Hp.seps [Hp.blk g #[.int .i64 1, .int .i64 row, .int .i64 comp, .int .i64 val, .int .i64 a1, .int .i64 a2, .slice Dv cells.length dn] 48, isTb p cs R, isTb p2 [0, 1] S2, isRt q m R])) := ⟨hz⟩
                    clear hz HS3 HS4 HS5
                    go_wp2_with fail
                    go_meet
                    exact ⟨R, HI2, HA0.out⟩
                  · obtain ⟨nn, rfl⟩ : ∃ nn : Nat, row = (nn : Int) := ⟨row.toNat, by omega⟩
                    have hnl : nn < R.length := by omega
                    obtain ⟨rr, hrr2⟩ : ∃ rr, R[nn]? = some rr := ⟨_, List.getElem?_eq_getElem hnl⟩
                    have HI2 := As.mk (inv_swp HI.out hnl)
                    have HR1 := As.mk (rem_some p cs (by rw [HCs.out]; exact Nat.le_trans (bitsN_len m) (by omega)) R nn rr hrr2 HI.out.2.1 HI.out.2.2 (by have h1 := HI.out.1; have h2 := HLt.out; have h3 := H80.out; omega))
                    have HR2 := As.mk (rrem_some q m hm R nn rr hrr2 (by have h1 := HI.out.1; have h2 := HLt.out; have h3 := H80.out; omega))
                    clear hrr hnl hrr2
                    refine (HS3.out.callAt 1 rfl HR1.out).mono ?_
                    rintro e w7 ⟨B, ⟨v7, rfl, rfl⟩, hz⟩
                    have hz : At (fun _ => False) w w7 (Hp.seps [Hp.row 31 2 encId v7 (cellsOf cs rr), isTb p cs (swp R nn), Hp.blk g #[.int .i64 1, .int .i64 (nn : Nat), .int .i64 comp, .int .i64 val, .int .i64 a1, .int .i64 a2, .slice Dv cells.length dn] 48, isTb p2 [0, 1] S2, isRt q m R]) := hz.flats 1 (l' := [Hp.row 31 2 encId v7 (cellsOf cs rr), isTb p cs (swp R nn)]) rfl
                    clear g0 g1 g2 g3 g4 g5 g6
                    have g1 : w7.cell? ⟨g, 1, none⟩ = some (.int .i64 (nn : Nat)) := (hz.cellAt 2 rfl 1).trans rfl
                    have HS4 := As.mk hz
                    clear hz
                    go_wp2_with fail
                    refine (HS4.out.callAt 4 rfl HR2.out).mono ?_
                    rintro e w8 ⟨B, ⟨v8, rfl, rfl⟩, hz⟩
                    rw [← HCs.out] at hz
                    have hz : At (fun _ => False) w w8 (Hp.seps [Hp.row 31 2 encId v8 (cellsOf cs rr), isRt q m (swp R nn), Hp.row 31 2 encId v7 (cellsOf cs rr), isTb p cs (swp R nn), Hp.blk g #[.int .i64 1, .int .i64 (nn : Nat), .int .i64 comp, .int .i64 val, .int .i64 a1, .int .i64 a2, .slice Dv cells.length dn] 48, isTb p2 [0, 1] S2]) := hz.flats 4 (l' := [Hp.row 31 2 encId v8 (cellsOf cs rr), isRt q m (swp R nn)]) rfl
                    have HS5 := As.mk hz
                    clear hz g1
                    go_wp2_with fail
                    refine (HS5.out.beside (sameC_does v7 v8 (cellsOf cs rr) w8 ((HS5.out.rowAt 2 rfl).rd encId_len) ((HS5.out.rowAt 0 rfl).rd encId_len))).mono ?_
                    rintro e w9 ⟨rfl, hz⟩
                    obtain ⟨R2, hR2⟩ : ∃ R2, R2 = swp R nn := ⟨_, rfl⟩
                    rw [← hR2] at hz HI2
                    have HA0 : As (At (fun _ => False) w w9 (Hp.seps [Hp.blk g #[.int .i64 1, .int .i64 (nn : Nat), .int .i64 comp, .int .i64 val, .int .i64 a1, .int .i64 a2, .slice Dv cells.length dn] 48, isTb p cs R2, isTb p2 [0, 1] S2, isRt q m R2])) := ⟨hz.sel [4, 3, 3, 1]⟩
                    clear hz HS3 HS4 HS5 HR1 HR2 hR2
                    go_wp2_with fail
                    go_meet
                    exact ⟨R2, HI2, HA0.out⟩
                · have u1 : (way == 1) = false := by simpa using k1
                  clear k1
                  by_cases k2 : way = 2
                  · subst k2
                    have HI2 := As.mk (inv_set (cs := cs) (row := row) (c := comp) (v := val) HI.out)
                    have HS3 := As.mk hS3
                    clear hS3
                    go_wp2_with fail
                    clear g0 g1 g2 g3 g4 g5 g6
                    have y1 : (_ : World).cell? ⟨g, 1, none⟩ = some (.int .i64 row) := (HS3.out.cellAt 0 rfl 1).trans rfl
                    have y2 : (_ : World).cell? ⟨g, 2, none⟩ = some (.int .i64 comp) := (HS3.out.cellAt 0 rfl 2).trans rfl
                    have y3 : (_ : World).cell? ⟨g, 3, none⟩ = some (.int .i64 val) := (HS3.out.cellAt 0 rfl 3).trans rfl
                    go_region_held3 (fun V => V.cell? ⟨g, 1, none⟩ = some (.int .i64 row) ∧ V.cell? ⟨g, 2, none⟩ = some (.int .i64 comp) ∧ V.cell? ⟨g, 3, none⟩ = some (.int .i64 val)) (first | with_reducible exact ⟨y1, y2, y3⟩ | exact ⟨y1, y2, y3⟩) (first | (go_at_call 18; refine (HS3.out.drew.callAt 1 rfl (set_does p cs HNd.out R row comp val)).mono ?_; rintro e w7 ⟨B, ⟨rfl, rfl⟩, hz⟩; clear y1 y2 y3; have y1 : w7.cell? ⟨g, 1, none⟩ = some (.int .i64 row) := (hz.cellAt 0 rfl 1).trans rfl; have y2 : w7.cell? ⟨g, 2, none⟩ = some (.int .i64 comp) := (hz.cellAt 0 rfl 2).trans rfl; have y3 : w7.cell? ⟨g, 3, none⟩ = some (.int .i64 val) := (hz.cellAt 0 rfl 3).trans rfl; have HS4 := As.mk hz; clear hz) | (go_at_call 19; refine (HS4.out.callAt 3 rfl (rset_does q m hm R row comp val)).mono ?_; rintro e w8 ⟨B, ⟨rfl, rfl⟩, hz⟩; clear y1 y2 y3; rw [← HCs.out] at hz ⊢; have y1 : w8.cell? ⟨g, 1, none⟩ = some (.int .i64 row) := (hz.cellAt 0 rfl 1).trans rfl; have y2 : w8.cell? ⟨g, 2, none⟩ = some (.int .i64 comp) := (hz.cellAt 0 rfl 2).trans rfl; have y3 : w8.cell? ⟨g, 3, none⟩ = some (.int .i64 val) := (hz.cellAt 0 rfl 3).trans rfl; have HS5 := As.mk hz; clear hz))
                    clear y1 y2 y3
                    obtain ⟨R2, hR2⟩ : ∃ R2, R2 = setR cs R row comp val := ⟨_, rfl⟩
                    rw [← hR2] at HI2
                    have HA0 : As (At (fun _ => False) w _ (Hp.seps [Hp.blk g #[.int .i64 2, .int .i64 row, .int .i64 comp, .int .i64 val, .int .i64 a1, .int .i64 a2, .slice Dv cells.length dn] 48, isTb p cs R2, isTb p2 [0, 1] S2, isRt q m R2])) := ⟨by rw [hR2]; exact HS5.out⟩
                    clear HS3 HS4 HS5 hR2
                    go_wp2_with fail
                    go_meet
                    exact ⟨R2, HI2, HA0.out⟩
                  · have u2 : (way == 2) = false := by simpa using k2
                    clear k2
                    by_cases k3 : way = 3
                    · subst k3
                      have HI2 := As.mk (inv_mono HI.out)
                      go_wp2_with fail
                      refine (hS3.callAt 1 rfl (get_does p cs R row comp)).mono ?_
                      rintro e w7 ⟨B, ⟨rfl, rfl⟩, hz⟩
                      clear hS3 g0 g1 g2 g3 g4 g5 g6
                      have g1 := (hz.cellAt 0 rfl 1).trans rfl
                      have g2 := (hz.cellAt 0 rfl 2).trans rfl
                      go_wp2_with fail
                      refine (hz.callAt 3 rfl (rget_does q m hm R row comp)).mono ?_
                      rintro e w8 ⟨B, ⟨rfl, rfl⟩, hy⟩
                      rw [← HCs.out]
                      clear g1 g2 hz
                      have HA0 : As (At (fun _ => False) w _ (Hp.seps [Hp.blk g #[.int .i64 3, .int .i64 row, .int .i64 comp, .int .i64 val, .int .i64 a1, .int .i64 a2, .slice Dv cells.length dn] 48, isTb p cs R, isTb p2 [0, 1] S2, isRt q m R])) := ⟨hy⟩
                      clear hy
                      go_wp2_with fail
                      go_meet
                      exact ⟨R, HI2, HA0.out⟩
                    · have u3 : (way == 3) = false := by simpa using k3
                      clear k3
                      have HI2 := As.mk (inv_mono HI.out)
                      have HA0 := As.mk hS3
                      clear hS3
                      go_wp2_with fail
                      go_meet
                      exact ⟨R, HI2, HA0.out⟩
            case rest =>
              clear hS3 g0 g1 g2 g3 g4 g5 g6
              obtain ⟨R2, HI2, hz⟩ := hcut
              have HA0 := As.mk hz
              clear hz
              go_upto_region 31 with fail
              have HL1 : As (R2.length ≤ 1000000) := ⟨by have h1 := HI2.out.1; have h2 := HLt.out; have h3 := H80.out; omega⟩
              have HL2 : As (R2.length ≤ 100000) := ⟨by have h1 := HI2.out.1; have h2 := HLt.out; have h3 := H80.out; omega⟩
              have y2 : (_ : World).cell? ⟨g, 2, none⟩ = some (.int .i64 comp) := (HA0.out.cellAt 0 rfl 2).trans rfl
              have y4 : (_ : World).cell? ⟨g, 4, none⟩ = some (.int .i64 a1) := (HA0.out.cellAt 0 rfl 4).trans rfl
              have y5 : (_ : World).cell? ⟨g, 5, none⟩ = some (.int .i64 a2) := (HA0.out.cellAt 0 rfl 5).trans rfl
              go_region_held3 (fun V => V.cell? ⟨g, 2, none⟩ = some (.int .i64 comp) ∧ V.cell? ⟨g, 4, none⟩ = some (.int .i64 a1) ∧ V.cell? ⟨g, 5, none⟩ = some (.int .i64 a2)) (first | with_reducible exact ⟨y2, y4, y5⟩ | exact ⟨y2, y4, y5⟩) (first | (go_at_call 12; refine (HA0.out.drew.callAt 1 rfl (ids_does p cs R2 HL1.out)).mono ?_; rintro e w12 ⟨B, ⟨v12, rfl, rfl⟩, hz⟩; have hz : At (fun _ => False) w w12 (Hp.seps [Hp.row 29 2 encId v12 (idsOf R2), isTb p cs R2, Hp.blk g #[.int .i64 way, .int .i64 row, .int .i64 comp, .int .i64 val, .int .i64 a1, .int .i64 a2, .slice Dv cells.length dn] 48, isTb p2 [0, 1] S2, isRt q m R2]) := hz.flats 1 (l' := [Hp.row 29 2 encId v12 (idsOf R2), isTb p cs R2]) rfl; clear y2 y4 y5; have y2 : w12.cell? ⟨g, 2, none⟩ = some (.int .i64 comp) := (hz.cellAt 2 rfl 2).trans rfl; have y4 : w12.cell? ⟨g, 4, none⟩ = some (.int .i64 a1) := (hz.cellAt 2 rfl 4).trans rfl; have y5 : w12.cell? ⟨g, 5, none⟩ = some (.int .i64 a2) := (hz.cellAt 2 rfl 5).trans rfl; have HA1 := As.mk hz; clear hz) | (go_at_call 22; refine (HA1.out.callAt 4 rfl (rids_does q m R2 HL2.out)).mono ?_; rintro e w22 ⟨B, ⟨v22, rfl, rfl⟩, hz⟩; have hz : At (fun _ => False) w w22 (Hp.seps [Hp.row 29 2 encId v22 (idsOf R2), isRt q m R2, Hp.row 29 2 encId v12 (idsOf R2), isTb p cs R2, Hp.blk g #[.int .i64 way, .int .i64 row, .int .i64 comp, .int .i64 val, .int .i64 a1, .int .i64 a2, .slice Dv cells.length dn] 48, isTb p2 [0, 1] S2]) := hz.flats 4 (l' := [Hp.row 29 2 encId v22 (idsOf R2), isRt q m R2]) rfl; clear y2 y4 y5; have y2 : w22.cell? ⟨g, 2, none⟩ = some (.int .i64 comp) := (hz.cellAt 4 rfl 2).trans rfl; have y4 : w22.cell? ⟨g, 4, none⟩ = some (.int .i64 a1) := (hz.cellAt 4 rfl 4).trans rfl; have y5 : w22.cell? ⟨g, 5, none⟩ = some (.int .i64 a2) := (hz.cellAt 4 rfl 5).trans rfl; have HRD2 := As.mk (And.intro ((hz.rowAt 2 rfl).rd encId_len) ((hz.rowAt 0 rfl).rd encId_len)); have HA2 := As.mk hz; clear hz) | (go_at_call 21; refine (HA2.out.beside (sameI_does v12 v22 (idsOf R2) w22 HRD2.out.1 HRD2.out.2)).mono ?_; rintro e w21 ⟨rfl, hz⟩; clear y2 y4 y5; have y2 : w21.cell? ⟨g, 2, none⟩ = some (.int .i64 comp) := (hz.cellAt 4 rfl 2).trans rfl; have y4 : w21.cell? ⟨g, 4, none⟩ = some (.int .i64 a1) := (hz.cellAt 4 rfl 4).trans rfl; have y5 : w21.cell? ⟨g, 5, none⟩ = some (.int .i64 a2) := (hz.cellAt 4 rfl 5).trans rfl; have HA3 := As.mk hz; clear hz) | (go_at_call 10; refine (HA3.out.callAt 3 rfl (col_does p cs R2 comp HL1.out)).mono ?_; rintro e w10 ⟨B, ⟨v10, rfl, rfl⟩, hz⟩; have hz : At (fun _ => False) w w10 (Hp.seps [Hp.row 3 1 encI v10 (colC cs R2 comp), isTb p cs R2, Hp.row 29 2 encId v22 (idsOf R2), isRt q m R2, Hp.row 29 2 encId v12 (idsOf R2), Hp.blk g #[.int .i64 way, .int .i64 row, .int .i64 comp, .int .i64 val, .int .i64 a1, .int .i64 a2, .slice Dv cells.length dn] 48, isTb p2 [0, 1] S2]) := hz.flats 3 (l' := [Hp.row 3 1 encI v10 (colC cs R2 comp), isTb p cs R2]) rfl; clear y2 y4 y5; have y2 : w10.cell? ⟨g, 2, none⟩ = some (.int .i64 comp) := (hz.cellAt 5 rfl 2).trans rfl; have y4 : w10.cell? ⟨g, 4, none⟩ = some (.int .i64 a1) := (hz.cellAt 5 rfl 4).trans rfl; have y5 : w10.cell? ⟨g, 5, none⟩ = some (.int .i64 a2) := (hz.cellAt 5 rfl 5).trans rfl; have HA4 := As.mk hz; clear hz) | (go_at_call 24; refine (HA4.out.callAt 3 rfl (rcol_does q m hm R2 comp HL2.out)).mono ?_; rintro e w24 ⟨B, ⟨v24, rfl, rfl⟩, hz⟩; rw [← HCs.out] at hz; have hz : At (fun _ => False) w w24 (Hp.seps [Hp.row 3 1 encI v24 (colC cs R2 comp), isRt q m R2, Hp.row 3 1 encI v10 (colC cs R2 comp), isTb p cs R2, Hp.row 29 2 encId v22 (idsOf R2), Hp.row 29 2 encId v12 (idsOf R2), Hp.blk g #[.int .i64 way, .int .i64 row, .int .i64 comp, .int .i64 val, .int .i64 a1, .int .i64 a2, .slice Dv cells.length dn] 48, isTb p2 [0, 1] S2]) := hz.flats 3 (l' := [Hp.row 3 1 encI v24 (colC cs R2 comp), isRt q m R2]) rfl; clear y2 y4 y5; have y2 : w24.cell? ⟨g, 2, none⟩ = some (.int .i64 comp) := (hz.cellAt 6 rfl 2).trans rfl; have y4 : w24.cell? ⟨g, 4, none⟩ = some (.int .i64 a1) := (hz.cellAt 6 rfl 4).trans rfl; have y5 : w24.cell? ⟨g, 5, none⟩ = some (.int .i64 a2) := (hz.cellAt 6 rfl 5).trans rfl; have HRD5 := As.mk (And.intro ((hz.rowAt 2 rfl).rd encI_len) ((hz.rowAt 0 rfl).rd encI_len)); have HA5 := As.mk hz; clear hz) | (go_at_call 23; refine (HA5.out.beside (sameN_does v10 v24 (colC cs R2 comp) w24 HRD5.out.1 HRD5.out.2)).mono ?_; rintro e w23 ⟨rfl, hz⟩; clear y2 y4 y5; have y2 : w23.cell? ⟨g, 2, none⟩ = some (.int .i64 comp) := (hz.cellAt 6 rfl 2).trans rfl; have y4 : w23.cell? ⟨g, 4, none⟩ = some (.int .i64 a1) := (hz.cellAt 6 rfl 4).trans rfl; have y5 : w23.cell? ⟨g, 5, none⟩ = some (.int .i64 a2) := (hz.cellAt 6 rfl 5).trans rfl; have HA6 := As.mk hz; clear hz) | (go_at_call 13; refine (HA6.out.callAt 3 rfl (row_does p cs R2 (a1, a2) HGa.out.2)).mono ?_; rintro e w13 ⟨B, ⟨rfl, rfl⟩, hz⟩; have hz : At (fun _ => False) w w13 (Hp.seps [Hp.row 3 1 encI v24 (colC cs R2 comp), isRt q m R2, Hp.row 3 1 encI v10 (colC cs R2 comp), isTb p cs R2, Hp.row 29 2 encId v22 (idsOf R2), Hp.row 29 2 encId v12 (idsOf R2), Hp.blk g #[.int .i64 way, .int .i64 row, .int .i64 comp, .int .i64 val, .int .i64 a1, .int .i64 a2, .slice Dv cells.length dn] 48, isTb p2 [0, 1] S2]) := hz; clear y2 y4 y5; have y2 : w13.cell? ⟨g, 2, none⟩ = some (.int .i64 comp) := (hz.cellAt 6 rfl 2).trans rfl; have y4 : w13.cell? ⟨g, 4, none⟩ = some (.int .i64 a1) := (hz.cellAt 6 rfl 4).trans rfl; have y5 : w13.cell? ⟨g, 5, none⟩ = some (.int .i64 a2) := (hz.cellAt 6 rfl 5).trans rfl; have HA7 := As.mk hz; clear hz) | (go_at_call 25; refine (HA7.out.callAt 1 rfl (rrow_does q m R2 (a1, a2))).mono ?_; rintro e w25 ⟨B, ⟨rfl, rfl⟩, hz⟩; have hz : At (fun _ => False) w w25 (Hp.seps [Hp.row 3 1 encI v24 (colC cs R2 comp), isRt q m R2, Hp.row 3 1 encI v10 (colC cs R2 comp), isTb p cs R2, Hp.row 29 2 encId v22 (idsOf R2), Hp.row 29 2 encId v12 (idsOf R2), Hp.blk g #[.int .i64 way, .int .i64 row, .int .i64 comp, .int .i64 val, .int .i64 a1, .int .i64 a2, .slice Dv cells.length dn] 48, isTb p2 [0, 1] S2]) := hz; clear y2 y4 y5; have y2 : w25.cell? ⟨g, 2, none⟩ = some (.int .i64 comp) := (hz.cellAt 6 rfl 2).trans rfl; have y4 : w25.cell? ⟨g, 4, none⟩ = some (.int .i64 a1) := (hz.cellAt 6 rfl 4).trans rfl; have y5 : w25.cell? ⟨g, 5, none⟩ = some (.int .i64 a2) := (hz.cellAt 6 rfl 5).trans rfl; have HA8 := As.mk hz; clear hz))
              clear y2 y4 y5 HA0 HA1 HA2 HA3 HA4 HA5 HA6 HA7 HRD2 HRD5 HL1 HL2
              go_wp2_with fail
              have hz : At (fun _ => False) w _ (Hp.seps [isTb p cs R2, isTb p2 [0, 1] S2, isRt q m R2]) := HA8.out.sel [3, 6, 1]
              go_roundg (gk - 1)
              case measure => have h1 := HK.out; have h2 := HLt.out; omega
              case rel => exact ⟨i + 1, _, S2, by have h1 := HK.out; have h2 := HLt.out; omega, by go_num, HI2, HO2, hz⟩
      · obtain rfl : i = l.length := by omega
        have HB1 := As.mk hS.bl
        clear hS hi hlt
        go_wp2_with fail
        go_ret
        exact ⟨rfl, HB1.out⟩
end Go.Proofs.YthbmfinaoejheaaDoor
