/- SchemaKeys answers true for all keys; no conditions. Printed by genJ.py. -/
import Derived.Test.YtmonnibleolhhaaI
set_option linter.unusedVariables false
namespace Go.Proofs.Ytmonnibleolhhaa
open Go.RowKit
attribute [local go_sem high] eq24
theorem nms_at (t : Bool) (l : List KeyM) (i : Nat) (x : KeyM) (hx : l[i]? = some x) (ht : x.f2 = t) : (nms t l)[(nms t (l.take i)).length]? = some x.f0 := by
  obtain ⟨hi, he⟩ := List.getElem?_eq_some_iff.1 hx
  have e : l = l.take i ++ x :: l.drop (i + 1) := by
    rw [← he, ← List.drop_eq_getElem_cons hi, List.take_append_drop]
  have e2 : nms t l = nms t (l.take i) ++ x.f0 :: nms t (l.drop (i + 1)) := by
    conv => lhs; rw [e]
    unfold nms
    rw [List.filter_append, List.map_append, List.filter_cons, if_pos (by simp [ht]), List.map_cons]
  rw [e2, List.getElem?_append_right (Nat.le_refl _), Nat.sub_self]
  rfl
theorem nms_sum : ∀ l : List KeyM, (nms false l).length + (nms true l).length = l.length
  | [] => rfl
  | k :: l => by
    have ih := nms_sum l
    unfold nms at *
    rw [List.filter_cons, List.filter_cons]
    obtain ⟨s, kd, sh⟩ := k
    cases sh <;> simp at * <;> omega
set_option maxRecDepth 100000 in
set_option maxHeartbeats 25600000 in
theorem keys_walk (lv : Value) (l : List KeyM) (nmv : ByteArray) (at_ : Int) (w : World) (hd : Rd w 3 encKey lv l ∧ ∀ x ∈ l, x.f0.size ≤ 9223372036854775807) : Calls Try.prog 5 #[lv, .string nmv, .int .i64 at_] w fun e w' => e = .returned (.bool true) ∧ Below w.heap.size w w' := by
  obtain ⟨hd, hsz⟩ := hd
  obtain ⟨dA, dc, rfl, hdc, hdn⟩ := hd.shape
  have HD := As.mk hd
  have HSz := As.mk hsz
  clear hd hsz
  by_cases hg : l.length ≤ 120 ∧ nmv.size ≤ 60
  · obtain ⟨g1, g2⟩ := hg
    have t1 : decide (120 < (l.length : Int)) = false := decide_eq_false (by omega)
    have t1' : decide (120 < l.length) = false := decide_eq_false (by omega)
    have t2 : decide (60 < (nmv.size : Int)) = false := decide_eq_false (by omega)
    have t2' : decide (60 < nmv.size) = false := decide_eq_false (by omega)
    obtain ⟨C, hC⟩ : ∃ C, newE l = C := ⟨_, rfl⟩
    obtain ⟨ri, rk, hrk⟩ := checkkeys_f l (by omega) 9223372036854775807 HSz.out (Nat.le_refl _)
    rw [hC] at hrk
    have HRk := As.mk hrk
    have HCe := As.mk hC
    clear hC hrk
    go_enter Try.func5, Try.ntmps5
    go_wp2_with fail
    refine (alive_does w).mono ?_
    rintro e w1 ⟨rfl, hb⟩
    have hS1 := (At.start0 hb).nilRow 24 3 encKey
    clear hb
    go_wp2_with (at_builtin; refine rw_appendL rfl (.const (.slice none 0 0)) (.tmp 37) 25 24 3 encKey (.agg #[.string ⟨#[]⟩, .int .i64 0, .bool false]) 32 rfl Try.underlying25 Try.info24 rfl (by decide) (.slice none 0 0) (.slice dA l.length dc) ([] : List KeyM) l rfl rfl (HD.out.below hS1.bl) (hS1.rowAt 0 rfl) encKey_len one_key ?c1 ?c2 ?c3)
    case c1 => simp only [maxLen, List.length_nil]; omega
    case c2 => simp only [List.length_nil]; omega
    case c3 =>
      intro v1 w2 hA
      have hS2 := At.appendLAt 0 hA hS1 rfl (Below.refl _ _)
      rw [List.nil_append] at hS2
      obtain ⟨A1, n1, c1, rfl⟩ := hA.row.slice
      clear hA hS1
      have HR := As.mk (new_does (.slice A1 n1 c1) l w2 ((hS2.rowAt 0 rfl).rd encKey_len) (fun x hx => by have := HSz.out x hx; omega))
      rw [HCe.out] at HR
      go_wp2_with fail
      refine HR.out.mono ?_
      rintro e w3 ⟨u, B, rfl, hI, hU⟩
      have hV := hS2.also hU
      clear hS2 hU HR
      have HKC := As.mk (fun (W : World) (hb : Below w.heap.size w W) => PSchemaKeys.puppeteerref1_CheckKeys.calls rk dA dc l ri C W (C_of_rd (HD.out.below hb)) hdc HRk.out)
      obtain ⟨hC0, p, rfl, rfl⟩ | ⟨hCn, rfl, rfl⟩ := hI
      · rw [HCe.out] at hC0
        subst hC0
        have hV : At (fun _ => False) w w3 (Hp.seps [isSc p l, Hp.row 24 3 encKey (.slice A1 n1 c1) l]) := hV
        have hV := hV.sel [0]
        have HFi := As.mk (find_does p l nmv (by omega))
        have HFk := As.mk (fun (W : World) (hb : Below w.heap.size w W) => PSchemaKeys.puppeteerref1_FindKey.calls (l.length + 1) dA dc l nmv (fk l nmv) W (C_of_rd (HD.out.below hb)) hdc (findkey_f l nmv (by omega) _ (Nat.le_refl _)))
        have HOwn := As.mk (own_does p l (by omega))
        have HSha := As.mk (shared_does p l (by omega))
        obtain ⟨q1, hq1⟩ : ∃ q, (nms false l).length = q := ⟨_, rfl⟩
        obtain ⟨q2, hq2⟩ : ∃ q, (nms true l).length = q := ⟨_, rfl⟩
        have hsum := nms_sum l
        rw [hq1, hq2] at hsum
        have HQ := As.mk (And.intro hq1 hq2)
        have t3 : ((q1 : Int) + (q2 : Int) != (l.length : Int)) = false := by simp; omega
        have t4 : (q1 + q2 != l.length) = false := by simp; omega
        have hq1b : q1 ≤ 200 := by omega
        have hq2b : q2 ≤ 200 := by omega
        clear hq1 hq2 hsum
        obtain ⟨KV, hKV⟩ : ∃ v, fk l nmv = v := ⟨_, rfl⟩
        rw [hKV] at HFk
        by_cases hat : 0 ≤ at_ ∧ at_ < l.length
        · obtain ⟨ha1, ha2⟩ := hat
          obtain ⟨ati, rfl⟩ : ∃ k : Nat, at_ = k := ⟨at_.toNat, by omega⟩
          obtain ⟨x, hx⟩ : ∃ x, l[ati]? = some x := ⟨_, List.getElem?_eq_getElem (by omega)⟩
          have HX := As.mk hx
          clear hx ha1
          cases hf : atF l nmv with
          | some y =>
            have hf1 : fnd l nmv = (((y : Nat) : Int), true) := by unfold fnd; rw [hf]
            have hf2 : KV = ((y : Nat) : Int) := by rw [← hKV]; unfold fk; rw [hf]
            rw [hf1] at HFi
            subst hf2
            clear hf hf1 hKV
            go_wp2_with fail
            refine (hV.beside ((HKC.out _ hV.bl).mono fun e w' h => ⟨h.1, h.2.below⟩)).mono ?_
            rintro e w4 ⟨rfl, hV1⟩
            clear hV
            go_wp2_with fail
            refine (num_does _ _).mono ?_
            rintro e w' ⟨rfl, rfl⟩
            go_wp2_with fail
            refine (hV1.callAt 0 rfl HFi.out).mono ?_
            rintro e w5 ⟨B, ⟨rfl, rfl⟩, hV2⟩
            clear hV1
            go_wp2_with fail
            refine (hV2.beside ((HFk.out _ hV2.bl).mono fun e w' h => ⟨h.1, h.2.below⟩)).mono ?_
            rintro e w6 ⟨rfl, hV3⟩
            clear hV2
            have hV3 : At (fun _ => False) w w6 (Hp.seps [isSc p l]) := hV3
            have HKy := As.mk (key_in p l ati x HX.out)
            go_wp2_with fail
            refine (hV3.callAt 0 rfl HKy.out).mono ?_
            rintro e w7 ⟨B, ⟨rfl, rfl⟩, hV4⟩
            clear hV3
            obtain ⟨bk, off, rfl, hbk, hcell⟩ := (HD.out.below hV4.bl).cells _ _ _ rfl ati x HX.out
            have c0 := hcell 0 (by omega)
            have c1 := hcell 1 (by omega)
            have c2 := hcell 2 (by omega)
            obtain ⟨s, kd, sh⟩ := x
            simp only [encKey, List.getElem?_cons_zero, List.getElem?_cons_succ, Nat.add_zero] at c0 c1 c2
            have hV5 := hV4.alloc #[.string s, .int .i64 kd, .bool sh] 24
            clear hcell hV4
            have t5 : decide ((ati : Int) < (l.length : Int)) = true := decide_eq_true (by omega)
            have t6 : decide (ati < l.length) = true := decide_eq_true (by omega)
            have hal : (ati : Int) < (l.length : Int) := by omega
            go_wp2_with fail
            go_quiet (fail)
            have hV6 := (hV5.drewN nq).sel [1]
            clear hV5
            go_wp2_with fail
            refine (hV6.callAt 0 rfl HOwn.out).mono ?_
            rintro e w8 ⟨B, ⟨v, rfl, rfl⟩, hV7⟩
            have hV8 := hV7.flats (l' := [_, _]) 0 rfl
            obtain ⟨A4, n4, c4, rfl⟩ := (hV8.rowAt 0 rfl).slice
            obtain rfl : q1 = n4 := (((hV8.rowAt 0 rfl).rd encSt_len).len.1.trans HQ.out.1).symm
            clear hV6 hV7
            go_wp2_with fail
            refine (hV8.callAt 1 rfl HSha.out).mono ?_
            rintro e w9 ⟨B, ⟨v, rfl, rfl⟩, hV9⟩
            have hV10 := hV9.flats (l' := [_, _]) 1 rfl
            obtain ⟨A5, n5, c5, rfl⟩ := (hV10.rowAt 0 rfl).slice
            obtain rfl : q2 = n5 := (((hV10.rowAt 0 rfl).rd encSt_len).len.1.trans HQ.out.2).symm
            clear hV8 hV9
            have hV11 : At (fun _ => False) w w9 (Hp.seps [Hp.row 9 1 encSt (.slice A5 q2 c5) (nms true l), isSc p l, Hp.row 9 1 encSt (.slice A4 q1 c4) (nms false l)]) := hV10
            clear hV10
            go_wp2_with fail
            go_loopg [19, 20, 21] l.length (fun g0 av bv iv wr => ∃ i : Nat, i + g0 = l.length ∧ iv = .int .i64 i ∧ av = .int .i64 ((nms false (l.take i)).length : Nat) ∧ bv = .int .i64 ((nms true (l.take i)).length : Nat) ∧ At (fun _ => False) w wr (Hp.seps [Hp.row 9 1 encSt (.slice A5 q2 c5) (nms true l), isSc p l, Hp.row 9 1 encSt (.slice A4 q1 c4) (nms false l)]))
            case atStart => exact ⟨0, by omega, rfl, rfl, rfl, hV11⟩
            case round =>
              clear hV11
              obtain ⟨i, hi, rfl, rfl, rfl, hV⟩ := hrel
              by_cases hlt : i < l.length
              · have HI := As.mk hi
                obtain ⟨xi, hx⟩ : ∃ x, l[i]? = some x := ⟨_, List.getElem?_eq_getElem hlt⟩
                obtain ⟨bj, offj, hAj, hbj, hcellj⟩ := (HD.out.below hV.bl).cells _ _ _ rfl i xi hx
                first | subst hAj | (injection hAj with hAj; injection hAj with hA1 hA2; subst hA1; subst hA2)
                have d0 := hcellj 0 (by omega)
                have d1 := hcellj 1 (by omega)
                have d2 := hcellj 2 (by omega)
                have HNf := As.mk (nms_snoc false (l.take i) xi)
                have HNt := As.mk (nms_snoc true (l.take i) xi)
                rw [← take_snoc hx] at HNf HNt
                have hatf := nms_at false l i xi hx
                have hatt := nms_at true l i xi hx
                have hb1 := nms_len false (l.take i)
                have hb2 := nms_len true (l.take i)
                rw [List.length_take] at hb1 hb2
                obtain ⟨s', kd', sh'⟩ := xi
                simp only [encKey, List.getElem?_cons_zero, List.getElem?_cons_succ, Nat.add_zero] at d0 d1 d2
                simp only at HNf HNt hatf hatt
                have HLf : As ((nms false (l.take (i + 1))).length = (nms false (l.take i)).length + (if sh' = false then 1 else 0)) := ⟨by rw [HNf.out]; cases sh' <;> simp⟩
                have HLt : As ((nms true (l.take (i + 1))).length = (nms true (l.take i)).length + (if sh' = true then 1 else 0)) := ⟨by rw [HNt.out]; cases sh' <;> simp⟩
                generalize (nms false (l.take i)).length = af at *
                generalize (nms true (l.take i)).length = bt at *
                have hab : af ≤ 1000 := by omega
                have hbb : bt ≤ 1000 := by omega
                clear hi hcellj hx hb1 hb2
                cases sh' with
                | true =>
                  have hc := hatt rfl
                  have hcl := (List.getElem?_eq_some_iff.1 hc).1
                  rw [HQ.out.2] at hcl
                  obtain ⟨gs, hgs, hgl, hgc⟩ := (hV.rowAt 0 rfl).cell encSt_len bt _ hc
                  subst hgs
                  have e0 := (hgc 0 (by omega)).1
                  simp only [encSt, List.getElem?_cons_zero, Nat.add_zero, Nat.mul_one] at e0
                  have u1 : decide ((q2 : Int) ≤ (bt : Int)) = false := decide_eq_false (by omega)
                  have u2 : decide (q2 ≤ bt) = false := decide_eq_false (by omega)
                  have u3 : (bt : Int) < (q2 : Int) := by omega
                  have HA2 : As ((nms false (l.take (i + 1))).length = af) := ⟨by have := HLf.out; simpa using this⟩
                  have HB2 : As ((nms true (l.take (i + 1))).length = bt + 1) := ⟨by have := HLt.out; simpa using this⟩
                  clear hatf hatt hc hcl hgc HNf HNt HLf HLt
                  go_wp2_with fail
                  go_quiet (fail)
                  go_wp2_with fail
                  go_quiet (fail)
                  go_wp2_with fail
                  go_roundg (gk - 1)
                  case measure => have := HI.out; omega
                  case rel => exact ⟨i + 1, by have := HI.out; omega, by go_num, by rw [HA2.out], by rw [HB2.out]; go_num, hV.drewN _⟩
                | false =>
                  have hc := hatf rfl
                  have hcl := (List.getElem?_eq_some_iff.1 hc).1
                  rw [HQ.out.1] at hcl
                  obtain ⟨gs, hgs, hgl, hgc⟩ := (hV.rowAt 2 rfl).cell encSt_len af _ hc
                  subst hgs
                  have e0 := (hgc 0 (by omega)).1
                  simp only [encSt, List.getElem?_cons_zero, Nat.add_zero, Nat.mul_one] at e0
                  have u1 : decide ((q1 : Int) ≤ (af : Int)) = false := decide_eq_false (by omega)
                  have u2 : decide (q1 ≤ af) = false := decide_eq_false (by omega)
                  have u3 : (af : Int) < (q1 : Int) := by omega
                  have HA2 : As ((nms false (l.take (i + 1))).length = af + 1) := ⟨by have := HLf.out; simpa using this⟩
                  have HB2 : As ((nms true (l.take (i + 1))).length = bt) := ⟨by have := HLt.out; simpa using this⟩
                  clear hatf hatt hc hcl hgc HNf HNt HLf HLt
                  go_wp2_with fail
                  go_quiet (fail)
                  go_wp2_with fail
                  go_quiet (fail)
                  go_wp2_with fail
                  go_roundg (gk - 1)
                  case measure => have := HI.out; omega
                  case rel => exact ⟨i + 1, by have := HI.out; omega, by go_num, by rw [HA2.out]; go_num, by rw [HB2.out], hV.drewN _⟩
              · obtain rfl : i = l.length := by omega
                go_wp2_with fail
                go_ret
                exact ⟨rfl, hV.bl⟩

          | none =>
            have hf1 : fnd l nmv = (0, false) := by unfold fnd; rw [hf]
            have hf2 : KV = -1 := by rw [← hKV]; unfold fk; rw [hf]
            rw [hf1] at HFi
            subst hf2
            clear hf hf1 hKV
            go_wp2_with fail
            refine (hV.beside ((HKC.out _ hV.bl).mono fun e w' h => ⟨h.1, h.2.below⟩)).mono ?_
            rintro e w4 ⟨rfl, hV1⟩
            clear hV
            go_wp2_with fail
            refine (num_does _ _).mono ?_
            rintro e w' ⟨rfl, rfl⟩
            go_wp2_with fail
            refine (hV1.callAt 0 rfl HFi.out).mono ?_
            rintro e w5 ⟨B, ⟨rfl, rfl⟩, hV2⟩
            clear hV1
            go_wp2_with fail
            refine (hV2.beside ((HFk.out _ hV2.bl).mono fun e w' h => ⟨h.1, h.2.below⟩)).mono ?_
            rintro e w6 ⟨rfl, hV3⟩
            clear hV2
            have hV3 : At (fun _ => False) w w6 (Hp.seps [isSc p l]) := hV3
            have HKy := As.mk (key_in p l ati x HX.out)
            go_wp2_with fail
            refine (hV3.callAt 0 rfl HKy.out).mono ?_
            rintro e w7 ⟨B, ⟨rfl, rfl⟩, hV4⟩
            clear hV3
            obtain ⟨bk, off, rfl, hbk, hcell⟩ := (HD.out.below hV4.bl).cells _ _ _ rfl ati x HX.out
            have c0 := hcell 0 (by omega)
            have c1 := hcell 1 (by omega)
            have c2 := hcell 2 (by omega)
            obtain ⟨s, kd, sh⟩ := x
            simp only [encKey, List.getElem?_cons_zero, List.getElem?_cons_succ, Nat.add_zero] at c0 c1 c2
            have hV5 := hV4.alloc #[.string s, .int .i64 kd, .bool sh] 24
            clear hcell hV4
            have t5 : decide ((ati : Int) < (l.length : Int)) = true := decide_eq_true (by omega)
            have t6 : decide (ati < l.length) = true := decide_eq_true (by omega)
            have hal : (ati : Int) < (l.length : Int) := by omega
            go_wp2_with fail
            go_quiet (fail)
            have hV6 := (hV5.drewN nq).sel [1]
            clear hV5
            go_wp2_with fail
            refine (hV6.callAt 0 rfl HOwn.out).mono ?_
            rintro e w8 ⟨B, ⟨v, rfl, rfl⟩, hV7⟩
            have hV8 := hV7.flats (l' := [_, _]) 0 rfl
            obtain ⟨A4, n4, c4, rfl⟩ := (hV8.rowAt 0 rfl).slice
            obtain rfl : q1 = n4 := (((hV8.rowAt 0 rfl).rd encSt_len).len.1.trans HQ.out.1).symm
            clear hV6 hV7
            go_wp2_with fail
            refine (hV8.callAt 1 rfl HSha.out).mono ?_
            rintro e w9 ⟨B, ⟨v, rfl, rfl⟩, hV9⟩
            have hV10 := hV9.flats (l' := [_, _]) 1 rfl
            obtain ⟨A5, n5, c5, rfl⟩ := (hV10.rowAt 0 rfl).slice
            obtain rfl : q2 = n5 := (((hV10.rowAt 0 rfl).rd encSt_len).len.1.trans HQ.out.2).symm
            clear hV8 hV9
            have hV11 : At (fun _ => False) w w9 (Hp.seps [Hp.row 9 1 encSt (.slice A5 q2 c5) (nms true l), isSc p l, Hp.row 9 1 encSt (.slice A4 q1 c4) (nms false l)]) := hV10
            clear hV10
            go_wp2_with fail
            go_loopg [19, 20, 21] l.length (fun g0 av bv iv wr => ∃ i : Nat, i + g0 = l.length ∧ iv = .int .i64 i ∧ av = .int .i64 ((nms false (l.take i)).length : Nat) ∧ bv = .int .i64 ((nms true (l.take i)).length : Nat) ∧ At (fun _ => False) w wr (Hp.seps [Hp.row 9 1 encSt (.slice A5 q2 c5) (nms true l), isSc p l, Hp.row 9 1 encSt (.slice A4 q1 c4) (nms false l)]))
            case atStart => exact ⟨0, by omega, rfl, rfl, rfl, hV11⟩
            case round =>
              clear hV11
              obtain ⟨i, hi, rfl, rfl, rfl, hV⟩ := hrel
              by_cases hlt : i < l.length
              · have HI := As.mk hi
                obtain ⟨xi, hx⟩ : ∃ x, l[i]? = some x := ⟨_, List.getElem?_eq_getElem hlt⟩
                obtain ⟨bj, offj, hAj, hbj, hcellj⟩ := (HD.out.below hV.bl).cells _ _ _ rfl i xi hx
                first | subst hAj | (injection hAj with hAj; injection hAj with hA1 hA2; subst hA1; subst hA2)
                have d0 := hcellj 0 (by omega)
                have d1 := hcellj 1 (by omega)
                have d2 := hcellj 2 (by omega)
                have HNf := As.mk (nms_snoc false (l.take i) xi)
                have HNt := As.mk (nms_snoc true (l.take i) xi)
                rw [← take_snoc hx] at HNf HNt
                have hatf := nms_at false l i xi hx
                have hatt := nms_at true l i xi hx
                have hb1 := nms_len false (l.take i)
                have hb2 := nms_len true (l.take i)
                rw [List.length_take] at hb1 hb2
                obtain ⟨s', kd', sh'⟩ := xi
                simp only [encKey, List.getElem?_cons_zero, List.getElem?_cons_succ, Nat.add_zero] at d0 d1 d2
                simp only at HNf HNt hatf hatt
                have HLf : As ((nms false (l.take (i + 1))).length = (nms false (l.take i)).length + (if sh' = false then 1 else 0)) := ⟨by rw [HNf.out]; cases sh' <;> simp⟩
                have HLt : As ((nms true (l.take (i + 1))).length = (nms true (l.take i)).length + (if sh' = true then 1 else 0)) := ⟨by rw [HNt.out]; cases sh' <;> simp⟩
                generalize (nms false (l.take i)).length = af at *
                generalize (nms true (l.take i)).length = bt at *
                have hab : af ≤ 1000 := by omega
                have hbb : bt ≤ 1000 := by omega
                clear hi hcellj hx hb1 hb2
                cases sh' with
                | true =>
                  have hc := hatt rfl
                  have hcl := (List.getElem?_eq_some_iff.1 hc).1
                  rw [HQ.out.2] at hcl
                  obtain ⟨gs, hgs, hgl, hgc⟩ := (hV.rowAt 0 rfl).cell encSt_len bt _ hc
                  subst hgs
                  have e0 := (hgc 0 (by omega)).1
                  simp only [encSt, List.getElem?_cons_zero, Nat.add_zero, Nat.mul_one] at e0
                  have u1 : decide ((q2 : Int) ≤ (bt : Int)) = false := decide_eq_false (by omega)
                  have u2 : decide (q2 ≤ bt) = false := decide_eq_false (by omega)
                  have u3 : (bt : Int) < (q2 : Int) := by omega
                  have HA2 : As ((nms false (l.take (i + 1))).length = af) := ⟨by have := HLf.out; simpa using this⟩
                  have HB2 : As ((nms true (l.take (i + 1))).length = bt + 1) := ⟨by have := HLt.out; simpa using this⟩
                  clear hatf hatt hc hcl hgc HNf HNt HLf HLt
                  go_wp2_with fail
                  go_quiet (fail)
                  go_wp2_with fail
                  go_quiet (fail)
                  go_wp2_with fail
                  go_roundg (gk - 1)
                  case measure => have := HI.out; omega
                  case rel => exact ⟨i + 1, by have := HI.out; omega, by go_num, by rw [HA2.out], by rw [HB2.out]; go_num, hV.drewN _⟩
                | false =>
                  have hc := hatf rfl
                  have hcl := (List.getElem?_eq_some_iff.1 hc).1
                  rw [HQ.out.1] at hcl
                  obtain ⟨gs, hgs, hgl, hgc⟩ := (hV.rowAt 2 rfl).cell encSt_len af _ hc
                  subst hgs
                  have e0 := (hgc 0 (by omega)).1
                  simp only [encSt, List.getElem?_cons_zero, Nat.add_zero, Nat.mul_one] at e0
                  have u1 : decide ((q1 : Int) ≤ (af : Int)) = false := decide_eq_false (by omega)
                  have u2 : decide (q1 ≤ af) = false := decide_eq_false (by omega)
                  have u3 : (af : Int) < (q1 : Int) := by omega
                  have HA2 : As ((nms false (l.take (i + 1))).length = af + 1) := ⟨by have := HLf.out; simpa using this⟩
                  have HB2 : As ((nms true (l.take (i + 1))).length = bt) := ⟨by have := HLt.out; simpa using this⟩
                  clear hatf hatt hc hcl hgc HNf HNt HLf HLt
                  go_wp2_with fail
                  go_quiet (fail)
                  go_wp2_with fail
                  go_quiet (fail)
                  go_wp2_with fail
                  go_roundg (gk - 1)
                  case measure => have := HI.out; omega
                  case rel => exact ⟨i + 1, by have := HI.out; omega, by go_num, by rw [HA2.out]; go_num, by rw [HB2.out], hV.drewN _⟩
              · obtain rfl : i = l.length := by omega
                go_wp2_with fail
                go_ret
                exact ⟨rfl, hV.bl⟩

        · have HX := As.mk hat
          clear hat
          cases hf : atF l nmv with
          | some y =>
            have hf1 : fnd l nmv = (((y : Nat) : Int), true) := by unfold fnd; rw [hf]
            have hf2 : KV = ((y : Nat) : Int) := by rw [← hKV]; unfold fk; rw [hf]
            rw [hf1] at HFi
            subst hf2
            clear hf hf1 hKV
            go_wp2_with fail
            refine (hV.beside ((HKC.out _ hV.bl).mono fun e w' h => ⟨h.1, h.2.below⟩)).mono ?_
            rintro e w4 ⟨rfl, hV1⟩
            clear hV
            go_wp2_with fail
            refine (num_does _ _).mono ?_
            rintro e w' ⟨rfl, rfl⟩
            go_wp2_with fail
            refine (hV1.callAt 0 rfl HFi.out).mono ?_
            rintro e w5 ⟨B, ⟨rfl, rfl⟩, hV2⟩
            clear hV1
            go_wp2_with fail
            refine (hV2.beside ((HFk.out _ hV2.bl).mono fun e w' h => ⟨h.1, h.2.below⟩)).mono ?_
            rintro e w6 ⟨rfl, hV3⟩
            clear hV2
            have hV3 : At (fun _ => False) w w6 (Hp.seps [isSc p l]) := hV3
            have HKy := As.mk (key_out p l at_ HX.out)
            go_wp2_with fail
            refine (hV3.callAt 0 rfl HKy.out).mono ?_
            rintro e w7 ⟨B, ⟨rfl, rfl⟩, hV4⟩
            clear hV3
            have hV5 := hV4.alloc #[.string ⟨#[]⟩, .int .i64 0, .bool false] 24
            clear hV4
            go_wp2_with fail
            by_cases hneg : at_ < 0
            · have t5 : decide (0 ≤ at_) = false := decide_eq_false (by omega)
              go_quiet (fail)
              have hV6 := (hV5.drewN nq).sel [1]
              clear hV5
              go_wp2_with fail
              refine (hV6.callAt 0 rfl HOwn.out).mono ?_
              rintro e w8 ⟨B, ⟨v, rfl, rfl⟩, hV7⟩
              have hV8 := hV7.flats (l' := [_, _]) 0 rfl
              obtain ⟨A4, n4, c4, rfl⟩ := (hV8.rowAt 0 rfl).slice
              obtain rfl : q1 = n4 := (((hV8.rowAt 0 rfl).rd encSt_len).len.1.trans HQ.out.1).symm
              clear hV6 hV7
              go_wp2_with fail
              refine (hV8.callAt 1 rfl HSha.out).mono ?_
              rintro e w9 ⟨B, ⟨v, rfl, rfl⟩, hV9⟩
              have hV10 := hV9.flats (l' := [_, _]) 1 rfl
              obtain ⟨A5, n5, c5, rfl⟩ := (hV10.rowAt 0 rfl).slice
              obtain rfl : q2 = n5 := (((hV10.rowAt 0 rfl).rd encSt_len).len.1.trans HQ.out.2).symm
              clear hV8 hV9
              have hV11 : At (fun _ => False) w w9 (Hp.seps [Hp.row 9 1 encSt (.slice A5 q2 c5) (nms true l), isSc p l, Hp.row 9 1 encSt (.slice A4 q1 c4) (nms false l)]) := hV10
              clear hV10
              go_wp2_with fail
              go_loopg [19, 20, 21] l.length (fun g0 av bv iv wr => ∃ i : Nat, i + g0 = l.length ∧ iv = .int .i64 i ∧ av = .int .i64 ((nms false (l.take i)).length : Nat) ∧ bv = .int .i64 ((nms true (l.take i)).length : Nat) ∧ At (fun _ => False) w wr (Hp.seps [Hp.row 9 1 encSt (.slice A5 q2 c5) (nms true l), isSc p l, Hp.row 9 1 encSt (.slice A4 q1 c4) (nms false l)]))
              case atStart => exact ⟨0, by omega, rfl, rfl, rfl, hV11⟩
              case round =>
                clear hV11
                obtain ⟨i, hi, rfl, rfl, rfl, hV⟩ := hrel
                by_cases hlt : i < l.length
                · have HI := As.mk hi
                  obtain ⟨xi, hx⟩ : ∃ x, l[i]? = some x := ⟨_, List.getElem?_eq_getElem hlt⟩
                  obtain ⟨bj, offj, hAj, hbj, hcellj⟩ := (HD.out.below hV.bl).cells _ _ _ rfl i xi hx
                  first | subst hAj | (injection hAj with hAj; injection hAj with hA1 hA2; subst hA1; subst hA2)
                  have d0 := hcellj 0 (by omega)
                  have d1 := hcellj 1 (by omega)
                  have d2 := hcellj 2 (by omega)
                  have HNf := As.mk (nms_snoc false (l.take i) xi)
                  have HNt := As.mk (nms_snoc true (l.take i) xi)
                  rw [← take_snoc hx] at HNf HNt
                  have hatf := nms_at false l i xi hx
                  have hatt := nms_at true l i xi hx
                  have hb1 := nms_len false (l.take i)
                  have hb2 := nms_len true (l.take i)
                  rw [List.length_take] at hb1 hb2
                  obtain ⟨s', kd', sh'⟩ := xi
                  simp only [encKey, List.getElem?_cons_zero, List.getElem?_cons_succ, Nat.add_zero] at d0 d1 d2
                  simp only at HNf HNt hatf hatt
                  have HLf : As ((nms false (l.take (i + 1))).length = (nms false (l.take i)).length + (if sh' = false then 1 else 0)) := ⟨by rw [HNf.out]; cases sh' <;> simp⟩
                  have HLt : As ((nms true (l.take (i + 1))).length = (nms true (l.take i)).length + (if sh' = true then 1 else 0)) := ⟨by rw [HNt.out]; cases sh' <;> simp⟩
                  generalize (nms false (l.take i)).length = af at *
                  generalize (nms true (l.take i)).length = bt at *
                  have hab : af ≤ 1000 := by omega
                  have hbb : bt ≤ 1000 := by omega
                  clear hi hcellj hx hb1 hb2
                  cases sh' with
                  | true =>
                    have hc := hatt rfl
                    have hcl := (List.getElem?_eq_some_iff.1 hc).1
                    rw [HQ.out.2] at hcl
                    obtain ⟨gs, hgs, hgl, hgc⟩ := (hV.rowAt 0 rfl).cell encSt_len bt _ hc
                    subst hgs
                    have e0 := (hgc 0 (by omega)).1
                    simp only [encSt, List.getElem?_cons_zero, Nat.add_zero, Nat.mul_one] at e0
                    have u1 : decide ((q2 : Int) ≤ (bt : Int)) = false := decide_eq_false (by omega)
                    have u2 : decide (q2 ≤ bt) = false := decide_eq_false (by omega)
                    have u3 : (bt : Int) < (q2 : Int) := by omega
                    have HA2 : As ((nms false (l.take (i + 1))).length = af) := ⟨by have := HLf.out; simpa using this⟩
                    have HB2 : As ((nms true (l.take (i + 1))).length = bt + 1) := ⟨by have := HLt.out; simpa using this⟩
                    clear hatf hatt hc hcl hgc HNf HNt HLf HLt
                    go_wp2_with fail
                    go_quiet (fail)
                    go_wp2_with fail
                    go_quiet (fail)
                    go_wp2_with fail
                    go_roundg (gk - 1)
                    case measure => have := HI.out; omega
                    case rel => exact ⟨i + 1, by have := HI.out; omega, by go_num, by rw [HA2.out], by rw [HB2.out]; go_num, hV.drewN _⟩
                  | false =>
                    have hc := hatf rfl
                    have hcl := (List.getElem?_eq_some_iff.1 hc).1
                    rw [HQ.out.1] at hcl
                    obtain ⟨gs, hgs, hgl, hgc⟩ := (hV.rowAt 2 rfl).cell encSt_len af _ hc
                    subst hgs
                    have e0 := (hgc 0 (by omega)).1
                    simp only [encSt, List.getElem?_cons_zero, Nat.add_zero, Nat.mul_one] at e0
                    have u1 : decide ((q1 : Int) ≤ (af : Int)) = false := decide_eq_false (by omega)
                    have u2 : decide (q1 ≤ af) = false := decide_eq_false (by omega)
                    have u3 : (af : Int) < (q1 : Int) := by omega
                    have HA2 : As ((nms false (l.take (i + 1))).length = af + 1) := ⟨by have := HLf.out; simpa using this⟩
                    have HB2 : As ((nms true (l.take (i + 1))).length = bt) := ⟨by have := HLt.out; simpa using this⟩
                    clear hatf hatt hc hcl hgc HNf HNt HLf HLt
                    go_wp2_with fail
                    go_quiet (fail)
                    go_wp2_with fail
                    go_quiet (fail)
                    go_wp2_with fail
                    go_roundg (gk - 1)
                    case measure => have := HI.out; omega
                    case rel => exact ⟨i + 1, by have := HI.out; omega, by go_num, by rw [HA2.out]; go_num, by rw [HB2.out], hV.drewN _⟩
                · obtain rfl : i = l.length := by omega
                  go_wp2_with fail
                  go_ret
                  exact ⟨rfl, hV.bl⟩

            · have t5 : decide (0 ≤ at_) = true := decide_eq_true (by omega)
              have t6 : decide (at_ < (l.length : Int)) = false := decide_eq_false (by have := HX.out; omega)
              go_quiet (fail)
              have hV6 := (hV5.drewN nq).sel [1]
              clear hV5
              go_wp2_with fail
              refine (hV6.callAt 0 rfl HOwn.out).mono ?_
              rintro e w8 ⟨B, ⟨v, rfl, rfl⟩, hV7⟩
              have hV8 := hV7.flats (l' := [_, _]) 0 rfl
              obtain ⟨A4, n4, c4, rfl⟩ := (hV8.rowAt 0 rfl).slice
              obtain rfl : q1 = n4 := (((hV8.rowAt 0 rfl).rd encSt_len).len.1.trans HQ.out.1).symm
              clear hV6 hV7
              go_wp2_with fail
              refine (hV8.callAt 1 rfl HSha.out).mono ?_
              rintro e w9 ⟨B, ⟨v, rfl, rfl⟩, hV9⟩
              have hV10 := hV9.flats (l' := [_, _]) 1 rfl
              obtain ⟨A5, n5, c5, rfl⟩ := (hV10.rowAt 0 rfl).slice
              obtain rfl : q2 = n5 := (((hV10.rowAt 0 rfl).rd encSt_len).len.1.trans HQ.out.2).symm
              clear hV8 hV9
              have hV11 : At (fun _ => False) w w9 (Hp.seps [Hp.row 9 1 encSt (.slice A5 q2 c5) (nms true l), isSc p l, Hp.row 9 1 encSt (.slice A4 q1 c4) (nms false l)]) := hV10
              clear hV10
              go_wp2_with fail
              go_loopg [19, 20, 21] l.length (fun g0 av bv iv wr => ∃ i : Nat, i + g0 = l.length ∧ iv = .int .i64 i ∧ av = .int .i64 ((nms false (l.take i)).length : Nat) ∧ bv = .int .i64 ((nms true (l.take i)).length : Nat) ∧ At (fun _ => False) w wr (Hp.seps [Hp.row 9 1 encSt (.slice A5 q2 c5) (nms true l), isSc p l, Hp.row 9 1 encSt (.slice A4 q1 c4) (nms false l)]))
              case atStart => exact ⟨0, by omega, rfl, rfl, rfl, hV11⟩
              case round =>
                clear hV11
                obtain ⟨i, hi, rfl, rfl, rfl, hV⟩ := hrel
                by_cases hlt : i < l.length
                · have HI := As.mk hi
                  obtain ⟨xi, hx⟩ : ∃ x, l[i]? = some x := ⟨_, List.getElem?_eq_getElem hlt⟩
                  obtain ⟨bj, offj, hAj, hbj, hcellj⟩ := (HD.out.below hV.bl).cells _ _ _ rfl i xi hx
                  first | subst hAj | (injection hAj with hAj; injection hAj with hA1 hA2; subst hA1; subst hA2)
                  have d0 := hcellj 0 (by omega)
                  have d1 := hcellj 1 (by omega)
                  have d2 := hcellj 2 (by omega)
                  have HNf := As.mk (nms_snoc false (l.take i) xi)
                  have HNt := As.mk (nms_snoc true (l.take i) xi)
                  rw [← take_snoc hx] at HNf HNt
                  have hatf := nms_at false l i xi hx
                  have hatt := nms_at true l i xi hx
                  have hb1 := nms_len false (l.take i)
                  have hb2 := nms_len true (l.take i)
                  rw [List.length_take] at hb1 hb2
                  obtain ⟨s', kd', sh'⟩ := xi
                  simp only [encKey, List.getElem?_cons_zero, List.getElem?_cons_succ, Nat.add_zero] at d0 d1 d2
                  simp only at HNf HNt hatf hatt
                  have HLf : As ((nms false (l.take (i + 1))).length = (nms false (l.take i)).length + (if sh' = false then 1 else 0)) := ⟨by rw [HNf.out]; cases sh' <;> simp⟩
                  have HLt : As ((nms true (l.take (i + 1))).length = (nms true (l.take i)).length + (if sh' = true then 1 else 0)) := ⟨by rw [HNt.out]; cases sh' <;> simp⟩
                  generalize (nms false (l.take i)).length = af at *
                  generalize (nms true (l.take i)).length = bt at *
                  have hab : af ≤ 1000 := by omega
                  have hbb : bt ≤ 1000 := by omega
                  clear hi hcellj hx hb1 hb2
                  cases sh' with
                  | true =>
                    have hc := hatt rfl
                    have hcl := (List.getElem?_eq_some_iff.1 hc).1
                    rw [HQ.out.2] at hcl
                    obtain ⟨gs, hgs, hgl, hgc⟩ := (hV.rowAt 0 rfl).cell encSt_len bt _ hc
                    subst hgs
                    have e0 := (hgc 0 (by omega)).1
                    simp only [encSt, List.getElem?_cons_zero, Nat.add_zero, Nat.mul_one] at e0
                    have u1 : decide ((q2 : Int) ≤ (bt : Int)) = false := decide_eq_false (by omega)
                    have u2 : decide (q2 ≤ bt) = false := decide_eq_false (by omega)
                    have u3 : (bt : Int) < (q2 : Int) := by omega
                    have HA2 : As ((nms false (l.take (i + 1))).length = af) := ⟨by have := HLf.out; simpa using this⟩
                    have HB2 : As ((nms true (l.take (i + 1))).length = bt + 1) := ⟨by have := HLt.out; simpa using this⟩
                    clear hatf hatt hc hcl hgc HNf HNt HLf HLt
                    go_wp2_with fail
                    go_quiet (fail)
                    go_wp2_with fail
                    go_quiet (fail)
                    go_wp2_with fail
                    go_roundg (gk - 1)
                    case measure => have := HI.out; omega
                    case rel => exact ⟨i + 1, by have := HI.out; omega, by go_num, by rw [HA2.out], by rw [HB2.out]; go_num, hV.drewN _⟩
                  | false =>
                    have hc := hatf rfl
                    have hcl := (List.getElem?_eq_some_iff.1 hc).1
                    rw [HQ.out.1] at hcl
                    obtain ⟨gs, hgs, hgl, hgc⟩ := (hV.rowAt 2 rfl).cell encSt_len af _ hc
                    subst hgs
                    have e0 := (hgc 0 (by omega)).1
                    simp only [encSt, List.getElem?_cons_zero, Nat.add_zero, Nat.mul_one] at e0
                    have u1 : decide ((q1 : Int) ≤ (af : Int)) = false := decide_eq_false (by omega)
                    have u2 : decide (q1 ≤ af) = false := decide_eq_false (by omega)
                    have u3 : (af : Int) < (q1 : Int) := by omega
                    have HA2 : As ((nms false (l.take (i + 1))).length = af + 1) := ⟨by have := HLf.out; simpa using this⟩
                    have HB2 : As ((nms true (l.take (i + 1))).length = bt) := ⟨by have := HLt.out; simpa using this⟩
                    clear hatf hatt hc hcl hgc HNf HNt HLf HLt
                    go_wp2_with fail
                    go_quiet (fail)
                    go_wp2_with fail
                    go_quiet (fail)
                    go_wp2_with fail
                    go_roundg (gk - 1)
                    case measure => have := HI.out; omega
                    case rel => exact ⟨i + 1, by have := HI.out; omega, by go_num, by rw [HA2.out]; go_num, by rw [HB2.out], hV.drewN _⟩
                · obtain rfl : i = l.length := by omega
                  go_wp2_with fail
                  go_ret
                  exact ⟨rfl, hV.bl⟩

          | none =>
            have hf1 : fnd l nmv = (0, false) := by unfold fnd; rw [hf]
            have hf2 : KV = -1 := by rw [← hKV]; unfold fk; rw [hf]
            rw [hf1] at HFi
            subst hf2
            clear hf hf1 hKV
            go_wp2_with fail
            refine (hV.beside ((HKC.out _ hV.bl).mono fun e w' h => ⟨h.1, h.2.below⟩)).mono ?_
            rintro e w4 ⟨rfl, hV1⟩
            clear hV
            go_wp2_with fail
            refine (num_does _ _).mono ?_
            rintro e w' ⟨rfl, rfl⟩
            go_wp2_with fail
            refine (hV1.callAt 0 rfl HFi.out).mono ?_
            rintro e w5 ⟨B, ⟨rfl, rfl⟩, hV2⟩
            clear hV1
            go_wp2_with fail
            refine (hV2.beside ((HFk.out _ hV2.bl).mono fun e w' h => ⟨h.1, h.2.below⟩)).mono ?_
            rintro e w6 ⟨rfl, hV3⟩
            clear hV2
            have hV3 : At (fun _ => False) w w6 (Hp.seps [isSc p l]) := hV3
            have HKy := As.mk (key_out p l at_ HX.out)
            go_wp2_with fail
            refine (hV3.callAt 0 rfl HKy.out).mono ?_
            rintro e w7 ⟨B, ⟨rfl, rfl⟩, hV4⟩
            clear hV3
            have hV5 := hV4.alloc #[.string ⟨#[]⟩, .int .i64 0, .bool false] 24
            clear hV4
            go_wp2_with fail
            by_cases hneg : at_ < 0
            · have t5 : decide (0 ≤ at_) = false := decide_eq_false (by omega)
              go_quiet (fail)
              have hV6 := (hV5.drewN nq).sel [1]
              clear hV5
              go_wp2_with fail
              refine (hV6.callAt 0 rfl HOwn.out).mono ?_
              rintro e w8 ⟨B, ⟨v, rfl, rfl⟩, hV7⟩
              have hV8 := hV7.flats (l' := [_, _]) 0 rfl
              obtain ⟨A4, n4, c4, rfl⟩ := (hV8.rowAt 0 rfl).slice
              obtain rfl : q1 = n4 := (((hV8.rowAt 0 rfl).rd encSt_len).len.1.trans HQ.out.1).symm
              clear hV6 hV7
              go_wp2_with fail
              refine (hV8.callAt 1 rfl HSha.out).mono ?_
              rintro e w9 ⟨B, ⟨v, rfl, rfl⟩, hV9⟩
              have hV10 := hV9.flats (l' := [_, _]) 1 rfl
              obtain ⟨A5, n5, c5, rfl⟩ := (hV10.rowAt 0 rfl).slice
              obtain rfl : q2 = n5 := (((hV10.rowAt 0 rfl).rd encSt_len).len.1.trans HQ.out.2).symm
              clear hV8 hV9
              have hV11 : At (fun _ => False) w w9 (Hp.seps [Hp.row 9 1 encSt (.slice A5 q2 c5) (nms true l), isSc p l, Hp.row 9 1 encSt (.slice A4 q1 c4) (nms false l)]) := hV10
              clear hV10
              go_wp2_with fail
              go_loopg [19, 20, 21] l.length (fun g0 av bv iv wr => ∃ i : Nat, i + g0 = l.length ∧ iv = .int .i64 i ∧ av = .int .i64 ((nms false (l.take i)).length : Nat) ∧ bv = .int .i64 ((nms true (l.take i)).length : Nat) ∧ At (fun _ => False) w wr (Hp.seps [Hp.row 9 1 encSt (.slice A5 q2 c5) (nms true l), isSc p l, Hp.row 9 1 encSt (.slice A4 q1 c4) (nms false l)]))
              case atStart => exact ⟨0, by omega, rfl, rfl, rfl, hV11⟩
              case round =>
                clear hV11
                obtain ⟨i, hi, rfl, rfl, rfl, hV⟩ := hrel
                by_cases hlt : i < l.length
                · have HI := As.mk hi
                  obtain ⟨xi, hx⟩ : ∃ x, l[i]? = some x := ⟨_, List.getElem?_eq_getElem hlt⟩
                  obtain ⟨bj, offj, hAj, hbj, hcellj⟩ := (HD.out.below hV.bl).cells _ _ _ rfl i xi hx
                  first | subst hAj | (injection hAj with hAj; injection hAj with hA1 hA2; subst hA1; subst hA2)
                  have d0 := hcellj 0 (by omega)
                  have d1 := hcellj 1 (by omega)
                  have d2 := hcellj 2 (by omega)
                  have HNf := As.mk (nms_snoc false (l.take i) xi)
                  have HNt := As.mk (nms_snoc true (l.take i) xi)
                  rw [← take_snoc hx] at HNf HNt
                  have hatf := nms_at false l i xi hx
                  have hatt := nms_at true l i xi hx
                  have hb1 := nms_len false (l.take i)
                  have hb2 := nms_len true (l.take i)
                  rw [List.length_take] at hb1 hb2
                  obtain ⟨s', kd', sh'⟩ := xi
                  simp only [encKey, List.getElem?_cons_zero, List.getElem?_cons_succ, Nat.add_zero] at d0 d1 d2
                  simp only at HNf HNt hatf hatt
                  have HLf : As ((nms false (l.take (i + 1))).length = (nms false (l.take i)).length + (if sh' = false then 1 else 0)) := ⟨by rw [HNf.out]; cases sh' <;> simp⟩
                  have HLt : As ((nms true (l.take (i + 1))).length = (nms true (l.take i)).length + (if sh' = true then 1 else 0)) := ⟨by rw [HNt.out]; cases sh' <;> simp⟩
                  generalize (nms false (l.take i)).length = af at *
                  generalize (nms true (l.take i)).length = bt at *
                  have hab : af ≤ 1000 := by omega
                  have hbb : bt ≤ 1000 := by omega
                  clear hi hcellj hx hb1 hb2
                  cases sh' with
                  | true =>
                    have hc := hatt rfl
                    have hcl := (List.getElem?_eq_some_iff.1 hc).1
                    rw [HQ.out.2] at hcl
                    obtain ⟨gs, hgs, hgl, hgc⟩ := (hV.rowAt 0 rfl).cell encSt_len bt _ hc
                    subst hgs
                    have e0 := (hgc 0 (by omega)).1
                    simp only [encSt, List.getElem?_cons_zero, Nat.add_zero, Nat.mul_one] at e0
                    have u1 : decide ((q2 : Int) ≤ (bt : Int)) = false := decide_eq_false (by omega)
                    have u2 : decide (q2 ≤ bt) = false := decide_eq_false (by omega)
                    have u3 : (bt : Int) < (q2 : Int) := by omega
                    have HA2 : As ((nms false (l.take (i + 1))).length = af) := ⟨by have := HLf.out; simpa using this⟩
                    have HB2 : As ((nms true (l.take (i + 1))).length = bt + 1) := ⟨by have := HLt.out; simpa using this⟩
                    clear hatf hatt hc hcl hgc HNf HNt HLf HLt
                    go_wp2_with fail
                    go_quiet (fail)
                    go_wp2_with fail
                    go_quiet (fail)
                    go_wp2_with fail
                    go_roundg (gk - 1)
                    case measure => have := HI.out; omega
                    case rel => exact ⟨i + 1, by have := HI.out; omega, by go_num, by rw [HA2.out], by rw [HB2.out]; go_num, hV.drewN _⟩
                  | false =>
                    have hc := hatf rfl
                    have hcl := (List.getElem?_eq_some_iff.1 hc).1
                    rw [HQ.out.1] at hcl
                    obtain ⟨gs, hgs, hgl, hgc⟩ := (hV.rowAt 2 rfl).cell encSt_len af _ hc
                    subst hgs
                    have e0 := (hgc 0 (by omega)).1
                    simp only [encSt, List.getElem?_cons_zero, Nat.add_zero, Nat.mul_one] at e0
                    have u1 : decide ((q1 : Int) ≤ (af : Int)) = false := decide_eq_false (by omega)
                    have u2 : decide (q1 ≤ af) = false := decide_eq_false (by omega)
                    have u3 : (af : Int) < (q1 : Int) := by omega
                    have HA2 : As ((nms false (l.take (i + 1))).length = af + 1) := ⟨by have := HLf.out; simpa using this⟩
                    have HB2 : As ((nms true (l.take (i + 1))).length = bt) := ⟨by have := HLt.out; simpa using this⟩
                    clear hatf hatt hc hcl hgc HNf HNt HLf HLt
                    go_wp2_with fail
                    go_quiet (fail)
                    go_wp2_with fail
                    go_quiet (fail)
                    go_wp2_with fail
                    go_roundg (gk - 1)
                    case measure => have := HI.out; omega
                    case rel => exact ⟨i + 1, by have := HI.out; omega, by go_num, by rw [HA2.out]; go_num, by rw [HB2.out], hV.drewN _⟩
                · obtain rfl : i = l.length := by omega
                  go_wp2_with fail
                  go_ret
                  exact ⟨rfl, hV.bl⟩

            · have t5 : decide (0 ≤ at_) = true := decide_eq_true (by omega)
              have t6 : decide (at_ < (l.length : Int)) = false := decide_eq_false (by have := HX.out; omega)
              go_quiet (fail)
              have hV6 := (hV5.drewN nq).sel [1]
              clear hV5
              go_wp2_with fail
              refine (hV6.callAt 0 rfl HOwn.out).mono ?_
              rintro e w8 ⟨B, ⟨v, rfl, rfl⟩, hV7⟩
              have hV8 := hV7.flats (l' := [_, _]) 0 rfl
              obtain ⟨A4, n4, c4, rfl⟩ := (hV8.rowAt 0 rfl).slice
              obtain rfl : q1 = n4 := (((hV8.rowAt 0 rfl).rd encSt_len).len.1.trans HQ.out.1).symm
              clear hV6 hV7
              go_wp2_with fail
              refine (hV8.callAt 1 rfl HSha.out).mono ?_
              rintro e w9 ⟨B, ⟨v, rfl, rfl⟩, hV9⟩
              have hV10 := hV9.flats (l' := [_, _]) 1 rfl
              obtain ⟨A5, n5, c5, rfl⟩ := (hV10.rowAt 0 rfl).slice
              obtain rfl : q2 = n5 := (((hV10.rowAt 0 rfl).rd encSt_len).len.1.trans HQ.out.2).symm
              clear hV8 hV9
              have hV11 : At (fun _ => False) w w9 (Hp.seps [Hp.row 9 1 encSt (.slice A5 q2 c5) (nms true l), isSc p l, Hp.row 9 1 encSt (.slice A4 q1 c4) (nms false l)]) := hV10
              clear hV10
              go_wp2_with fail
              go_loopg [19, 20, 21] l.length (fun g0 av bv iv wr => ∃ i : Nat, i + g0 = l.length ∧ iv = .int .i64 i ∧ av = .int .i64 ((nms false (l.take i)).length : Nat) ∧ bv = .int .i64 ((nms true (l.take i)).length : Nat) ∧ At (fun _ => False) w wr (Hp.seps [Hp.row 9 1 encSt (.slice A5 q2 c5) (nms true l), isSc p l, Hp.row 9 1 encSt (.slice A4 q1 c4) (nms false l)]))
              case atStart => exact ⟨0, by omega, rfl, rfl, rfl, hV11⟩
              case round =>
                clear hV11
                obtain ⟨i, hi, rfl, rfl, rfl, hV⟩ := hrel
                by_cases hlt : i < l.length
                · have HI := As.mk hi
                  obtain ⟨xi, hx⟩ : ∃ x, l[i]? = some x := ⟨_, List.getElem?_eq_getElem hlt⟩
                  obtain ⟨bj, offj, hAj, hbj, hcellj⟩ := (HD.out.below hV.bl).cells _ _ _ rfl i xi hx
                  first | subst hAj | (injection hAj with hAj; injection hAj with hA1 hA2; subst hA1; subst hA2)
                  have d0 := hcellj 0 (by omega)
                  have d1 := hcellj 1 (by omega)
                  have d2 := hcellj 2 (by omega)
                  have HNf := As.mk (nms_snoc false (l.take i) xi)
                  have HNt := As.mk (nms_snoc true (l.take i) xi)
                  rw [← take_snoc hx] at HNf HNt
                  have hatf := nms_at false l i xi hx
                  have hatt := nms_at true l i xi hx
                  have hb1 := nms_len false (l.take i)
                  have hb2 := nms_len true (l.take i)
                  rw [List.length_take] at hb1 hb2
                  obtain ⟨s', kd', sh'⟩ := xi
                  simp only [encKey, List.getElem?_cons_zero, List.getElem?_cons_succ, Nat.add_zero] at d0 d1 d2
                  simp only at HNf HNt hatf hatt
                  have HLf : As ((nms false (l.take (i + 1))).length = (nms false (l.take i)).length + (if sh' = false then 1 else 0)) := ⟨by rw [HNf.out]; cases sh' <;> simp⟩
                  have HLt : As ((nms true (l.take (i + 1))).length = (nms true (l.take i)).length + (if sh' = true then 1 else 0)) := ⟨by rw [HNt.out]; cases sh' <;> simp⟩
                  generalize (nms false (l.take i)).length = af at *
                  generalize (nms true (l.take i)).length = bt at *
                  have hab : af ≤ 1000 := by omega
                  have hbb : bt ≤ 1000 := by omega
                  clear hi hcellj hx hb1 hb2
                  cases sh' with
                  | true =>
                    have hc := hatt rfl
                    have hcl := (List.getElem?_eq_some_iff.1 hc).1
                    rw [HQ.out.2] at hcl
                    obtain ⟨gs, hgs, hgl, hgc⟩ := (hV.rowAt 0 rfl).cell encSt_len bt _ hc
                    subst hgs
                    have e0 := (hgc 0 (by omega)).1
                    simp only [encSt, List.getElem?_cons_zero, Nat.add_zero, Nat.mul_one] at e0
                    have u1 : decide ((q2 : Int) ≤ (bt : Int)) = false := decide_eq_false (by omega)
                    have u2 : decide (q2 ≤ bt) = false := decide_eq_false (by omega)
                    have u3 : (bt : Int) < (q2 : Int) := by omega
                    have HA2 : As ((nms false (l.take (i + 1))).length = af) := ⟨by have := HLf.out; simpa using this⟩
                    have HB2 : As ((nms true (l.take (i + 1))).length = bt + 1) := ⟨by have := HLt.out; simpa using this⟩
                    clear hatf hatt hc hcl hgc HNf HNt HLf HLt
                    go_wp2_with fail
                    go_quiet (fail)
                    go_wp2_with fail
                    go_quiet (fail)
                    go_wp2_with fail
                    go_roundg (gk - 1)
                    case measure => have := HI.out; omega
                    case rel => exact ⟨i + 1, by have := HI.out; omega, by go_num, by rw [HA2.out], by rw [HB2.out]; go_num, hV.drewN _⟩
                  | false =>
                    have hc := hatf rfl
                    have hcl := (List.getElem?_eq_some_iff.1 hc).1
                    rw [HQ.out.1] at hcl
                    obtain ⟨gs, hgs, hgl, hgc⟩ := (hV.rowAt 2 rfl).cell encSt_len af _ hc
                    subst hgs
                    have e0 := (hgc 0 (by omega)).1
                    simp only [encSt, List.getElem?_cons_zero, Nat.add_zero, Nat.mul_one] at e0
                    have u1 : decide ((q1 : Int) ≤ (af : Int)) = false := decide_eq_false (by omega)
                    have u2 : decide (q1 ≤ af) = false := decide_eq_false (by omega)
                    have u3 : (af : Int) < (q1 : Int) := by omega
                    have HA2 : As ((nms false (l.take (i + 1))).length = af + 1) := ⟨by have := HLf.out; simpa using this⟩
                    have HB2 : As ((nms true (l.take (i + 1))).length = bt) := ⟨by have := HLt.out; simpa using this⟩
                    clear hatf hatt hc hcl hgc HNf HNt HLf HLt
                    go_wp2_with fail
                    go_quiet (fail)
                    go_wp2_with fail
                    go_quiet (fail)
                    go_wp2_with fail
                    go_roundg (gk - 1)
                    case measure => have := HI.out; omega
                    case rel => exact ⟨i + 1, by have := HI.out; omega, by go_num, by rw [HA2.out]; go_num, by rw [HB2.out], hV.drewN _⟩
                · obtain rfl : i = l.length := by omega
                  go_wp2_with fail
                  go_ret
                  exact ⟨rfl, hV.bl⟩

      · rw [HCe.out] at hCn
        have t3 : (C != 0) = true := by simpa using hCn
        have t4 : (C == 0) = false := beq_eq_false_iff_ne.2 hCn
        clear hCn
        go_wp2_with fail
        refine (hV.beside ((HKC.out _ hV.bl).mono fun e w' h => ⟨h.1, h.2.below⟩)).mono ?_
        rintro e w4 ⟨rfl, hV1⟩
        clear hV
        go_wp2_with fail
        refine (num_does _ _).mono ?_
        rintro e w' ⟨rfl, rfl⟩
        go_wp2_with fail
        go_ret
        exact ⟨rfl, hV1.bl⟩
  · have HG := As.mk hg
    clear hg
    go_enter Try.func5, Try.ntmps5
    go_wp2_with fail
    refine (alive_does w).mono ?_
    rintro e w1 ⟨rfl, hb⟩
    have hS1 := At.start0 hb
    clear hb
    go_wp2_with fail
    all_goals first | (exfalso; have := HG.out; omega) | (go_ret; exact ⟨rfl, hS1.bl⟩)
end Go.Proofs.Ytmonnibleolhhaa
