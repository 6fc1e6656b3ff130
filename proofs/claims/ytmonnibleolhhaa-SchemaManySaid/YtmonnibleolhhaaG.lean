/- SchemaMany answers true for every number; no conditions. -/
import Derived.Test.YtmonnibleolhhaaF
set_option linter.unusedVariables false
namespace Go.Proofs.Ytmonnibleolhhaa
open Go.RowKit
set_option maxRecDepth 100000 in
set_option maxHeartbeats 12800000 in
theorem many_walk (n : Int) (w : World) : Calls Try.prog 4 #[.int .i64 n] w fun e w' => e = .returned (.bool true) ∧ Below w.heap.size w w' := by
  by_cases hg : 0 ≤ n ∧ n ≤ 110
  · obtain ⟨g1, g2⟩ := hg
    obtain ⟨N, rfl⟩ : ∃ N : Nat, n = N := ⟨n.toNat, by omega⟩
    have t1 : decide ((N : Int) < 0) = false := decide_eq_false (by omega)
    have t2 : decide (110 < (N : Int)) = false := decide_eq_false (by omega)
    have t2' : decide (110 < N) = false := decide_eq_false (by omega)
    have HE := As.mk (newE_keys N (by omega))
    go_enter Try.func4, Try.ntmps4
    go_wp2_with fail
    refine (alive_does w).mono ?_
    rintro e w1 ⟨rfl, hb⟩
    have hS1 := (At.start0 hb).nilRow 24 3 encKey
    clear hb
    go_wp2_with fail
    go_loopg [4, 5] N (fun g0 lv iv wr => ∃ i : Nat, i + g0 = N ∧ iv = .int .i64 i ∧ At (fun _ => False) w wr (Hp.seps [Hp.row 24 3 encKey lv (keysN i)]))
    case atStart => exact ⟨0, by omega, rfl, hS1⟩
    case round =>
      clear hS1
      obtain ⟨i, hi, rfl, hS⟩ := hrel
      obtain ⟨D, n0, cc, rfl⟩ := (hS.rowAt 0 rfl).slice
      by_cases hlt : i < N
      · have HI := As.mk hi
        have HC := As.mk (fun w => dec_does 2 i w (by omega) (by omega))
        have hsz := decF_size 2 i
        have HKs := As.mk (keysN_succ i)
        have HKl := As.mk (keysN_len i)
        obtain ⟨r, hr⟩ : ∃ r, i % 2 = r := ⟨_, rfl⟩
        obtain ⟨bb, hbb⟩ : ∃ bb, ((r : Int) == 1) = bb := ⟨_, rfl⟩
        have HKi : As (keyI i = ⟨(⟨#[107]⟩ : ByteArray) ++ decF 2 i, 0, bb⟩) := ⟨by
          unfold keyI nm
          rw [hr, ← hbb]
          congr 1
          rw [Bool.eq_iff_iff, beq_iff_eq, beq_iff_eq]
          omega⟩
        have hr2 : r < 2 := by omega
        have r1 : ((i : Int)).tmod 2 = (r : Int) := by rw [Int.tmod_eq_emod_of_nonneg (by omega)]; omega
        have r2 : ((i : Int)) % 2 = (r : Int) := by omega
        generalize decF 2 i = T at *
        have e107 : (⟨#[107]⟩ : ByteArray).size = 1 := rfl
        have hsum : (⟨#[107]⟩ : ByteArray).size + T.size ≤ 9223372036854775807 := by omega
        clear hi hr e107
        go_wp2_with fail
        refine (HC.out _).mono ?_
        rintro e w' ⟨rfl, rfl⟩
        go_wp2_with (at_builtin; refine rw_append rfl (.tmp 28) (.tmp 36) 25 24 3 encKey (.agg #[.string ⟨#[]⟩, .int .i64 0, .bool false]) 32 rfl Try.underlying25 Try.info24 rfl (by decide) (.slice D n0 cc) (keysN i) ⟨(⟨#[107]⟩ : ByteArray) ++ T, 0, bb⟩ rfl _ rfl (by first | exact blk_new (by simp) | exact blk_new_drew (by simp)) ((hS.below (by repeat (first | exact Below.refl _ _ | refine bl_drewN ?_ _ | refine Below.drew ?_ | refine bl_alloc ?_ _ | refine bl_set ?_ (by first | (simp; done) | omega | (simp; omega)) _))).rowAt 0 rfl) encKey_len (one_key _) ?c1 ?c2 ?c3)
        case c1 => simp only [maxLen]; have := HKl.out; omega
        case c2 => have := HKl.out; omega
        case c3 =>
          intro v1 w2 hA
          have hT := At.appendAt 0 hA hS rfl (by repeat (first | exact Below.refl _ _ | refine bl_drewN ?_ _ | refine Below.drew ?_ | refine bl_alloc ?_ _ | refine bl_set ?_ (by first | (simp; done) | omega | (simp; omega)) _))
          rw [← HKi.out, ← HKs.out] at hT
          clear hA hS
          go_wp2_with fail
          go_roundg (gk - 1)
          case measure => have := HI.out; omega
          case rel => exact ⟨i + 1, by have := HI.out; omega, by go_num, hT⟩
      · obtain rfl : i = N := by omega
        clear hi
        have HR := As.mk (new_does (.slice D n0 cc) (keysN i) wr ((hS.rowAt 0 rfl).rd encKey_len) (keys_size i))
        by_cases h100 : 100 < i
        · have HE2 : As (newE (keysN i) = 9) := ⟨by rw [HE.out, if_pos h100]⟩
          rw [HE2.out] at HR
          have t3 : decide (100 < (i : Int)) = true := decide_eq_true (by omega)
          have t3' : decide (100 < i) = true := decide_eq_true h100
          clear h100
          go_wp2_with fail
          refine HR.out.mono ?_
          rintro e w2 ⟨u, B, rfl, hI, hU⟩
          obtain rfl : u = .pointer none := by
            rcases hI with ⟨h, _⟩ | ⟨_, h, _⟩
            · rw [HE2.out] at h; omega
            · exact h
          have HV := As.mk (hS.also hU).bl
          clear hS hU hI HR
          go_wp2_with fail
          refine (num_does _ _).mono ?_
          rintro e w' ⟨rfl, rfl⟩
          go_wp2_with fail
          go_ret
          exact ⟨rfl, HV.out⟩
        · have HE2 : As (newE (keysN i) = 0) := ⟨by rw [HE.out, if_neg h100]⟩
          rw [HE2.out] at HR
          have t3 : decide (100 < (i : Int)) = false := decide_eq_false (by omega)
          have t3' : decide (100 < i) = false := decide_eq_false h100
          obtain ⟨q1, hq1⟩ : ∃ q, (i + 1) / 2 = q := ⟨_, rfl⟩
          obtain ⟨q2, hq2⟩ : ∃ q, i / 2 = q := ⟨_, rfl⟩
          have HQ := As.mk (And.intro ((nms_keys i).1.trans hq1) ((nms_keys i).2.trans hq2))
          have hq1b : q1 ≤ 1000 := by omega
          have hq2b : q2 ≤ 1000 := by omega
          have r1 : ((i : Int) + 1).tdiv 2 = (q1 : Int) := by rw [Int.tdiv_eq_ediv_of_nonneg (by omega)]; omega
          have r2 : ((i : Int) + 1) / 2 = (q1 : Int) := by omega
          have r3 : ((i : Int)).tdiv 2 = (q2 : Int) := by rw [Int.tdiv_eq_ediv_of_nonneg (by omega)]; omega
          have r4 : ((i : Int)) / 2 = (q2 : Int) := by omega
          have HLen := As.mk (keysN_len i)
          have HOwn := As.mk (fun p => own_does p (keysN i) (by rw [keysN_len]; omega))
          have HSha := As.mk (fun p => shared_does p (keysN i) (by rw [keysN_len]; omega))
          clear h100 hq1 hq2
          go_wp2_with fail
          refine HR.out.mono ?_
          rintro e w2 ⟨u, B, rfl, hI, hU⟩
          obtain ⟨p, rfl, rfl⟩ : ∃ p, u = .pointer (some ⟨p, 0, none⟩) ∧ B = [isSc p (keysN i)] := by
            rcases hI with ⟨_, h⟩ | ⟨h, _⟩
            · exact h
            · exact absurd HE2.out h
          have hV := hS.also hU
          have hV : At (fun _ => False) w w2 (Hp.seps [isSc p (keysN i), Hp.row 24 3 encKey (.slice D n0 cc) (keysN i)]) := hV
          clear hS hU hI HR
          go_wp2_with fail
          refine (num_does _ _).mono ?_
          rintro e w' ⟨rfl, rfl⟩
          go_wp2_with fail
          refine (hV.callAt 0 rfl (HOwn.out p)).mono ?_
          rintro e w3 ⟨B, ⟨v, rfl, rfl⟩, hV1⟩
          have hV2 := hV1.flats (l' := [_, _]) 0 rfl
          obtain ⟨A4, n4, c4, rfl⟩ := (hV2.rowAt 0 rfl).slice
          obtain rfl : q1 = n4 := (((hV2.rowAt 0 rfl).rd encSt_len).len.1.trans HQ.out.1).symm
          clear hV hV1
          go_wp2_with fail
          refine (hV2.callAt 1 rfl (HSha.out p)).mono ?_
          rintro e w4 ⟨B, ⟨v, rfl, rfl⟩, hV3⟩
          have hV4 := hV3.flats (l' := [_, _]) 1 rfl
          obtain ⟨A5, n5, c5, rfl⟩ := (hV4.rowAt 0 rfl).slice
          obtain rfl : q2 = n5 := (((hV4.rowAt 0 rfl).rd encSt_len).len.1.trans HQ.out.2).symm
          have hV5 := hV4.sel [1, 2]
          clear hV2 hV3 hV4
          go_wp2_with fail
          go_loopg [8] i (fun g0 jv wr => ∃ j : Nat, j + g0 = i ∧ jv = .int .i64 j ∧ At (fun _ => False) w wr (Hp.seps [isSc p (keysN i), Hp.row 24 3 encKey (.slice D n0 cc) (keysN i)]))
          case atStart => exact ⟨0, by omega, rfl, hV5⟩
          case round =>
            clear hV5
            obtain ⟨j, hj, rfl, hV⟩ := hrel
            obtain rfl : i = n0 := (((hV.rowAt 1 rfl).rd encKey_len).len.1.trans HLen.out).symm
            by_cases hlt : j < i
            · have HJ := As.mk hj
              obtain ⟨g, rfl, hgl, hcell⟩ := (hV.rowAt 1 rfl).cell encKey_len j _ (keysN_get i j hlt)
              have c0 := (hcell 0 (by omega)).1
              simp only [encKey, List.getElem?_cons_zero, Nat.add_zero] at c0
              have HF := As.mk (find_does p (keysN i) (keyI j).f0 (by show (nm j).size ≤ _; have := nm_size j; omega))
              have HFk : As (fnd (keysN i) (keyI j).f0 = (((j : Nat) : Int), true)) := ⟨fnd_keys i j (by omega) hlt⟩
              rw [HFk.out] at HF
              generalize (keyI j).f0 = s at *
              have t5 : ((j : Int) != (j : Int)) = false := by simp
              clear hj hcell
              go_wp2_with fail
              refine (hV.callAt 0 rfl HF.out).mono ?_
              rintro e w5 ⟨B, ⟨rfl, rfl⟩, hV6⟩
              clear hV
              go_wp2_with fail
              go_roundg (gk - 1)
              case measure => have := HJ.out; omega
              case rel => exact ⟨j + 1, by have := HJ.out; omega, by go_num, hV6⟩
            · obtain rfl : j = i := by omega
              go_wp2_with fail
              go_ret
              exact ⟨rfl, hV.bl⟩
  · have HG := As.mk hg
    clear hg
    go_enter Try.func4, Try.ntmps4
    go_wp2_with fail
    refine (alive_does w).mono ?_
    rintro e w1 ⟨rfl, hb⟩
    have hS1 := At.start0 hb
    clear hb
    go_wp2_with fail
    all_goals first | (exfalso; have := HG.out; omega) | (go_ret; exact ⟨rfl, hS1.bl⟩)
end Go.Proofs.Ytmonnibleolhhaa
