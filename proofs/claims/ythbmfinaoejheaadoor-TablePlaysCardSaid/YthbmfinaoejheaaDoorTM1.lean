/- TableMoves: the walk, the sizes as they should be. -/
import Derived.Test.YthbmfinaoejheaaDoorTM0
set_option linter.unusedVariables false
namespace Go.Proofs.YthbmfinaoejheaaDoor
open Go.RowKit
theorem cellsM_take (x : Int) (k : Nat) (hk : k < 16) : (cellsM x).take k ++ [((k : Int), xr x k)] = (cellsM x).take (k + 1) := take_snoc (by simp [cellsM, hk])
theorem cellsM_len (x : Int) : (cellsM x).length = 16 := by simp [cellsM]
theorem bit_val (m k : Nat) (hm : m < 65536) (h : k < 16) : bits .and .u16 ((m : Int) / 2 ^ k) 1 = if (k : Int) ∈ bitsN m then 1 else 0 := by
  have e1 : (m : Int) / 2 ^ k = ((m / 2 ^ k : Nat) : Int) := by simp
  have hlt : m / 2 ^ k < 65536 := Nat.lt_of_le_of_lt (Nat.div_le_self _ _) hm
  have e2 : bits .and .u16 ((m / 2 ^ k : Nat) : Int) 1 = (((m / 2 ^ k) &&& 1 : Nat) : Int) := u16_and_nat (m / 2 ^ k) 1 hlt (by omega)
  have e3 : ((k : Int) ∈ bitsN m) ↔ m / 2 ^ k % 2 = 1 := by
    rw [mem_bitsN, Int.toNat_natCast, Nat.testBit_eq_decide_div_mod_eq, decide_eq_true_eq]
    constructor
    · exact fun h => h.2.2
    · exact fun h2 => ⟨by omega, by omega, h2⟩
  rw [e1, e2, Nat.and_one_is_mod]
  by_cases h1 : (k : Int) ∈ bitsN m
  · rw [if_pos h1]
    have := e3.1 h1
    omega
  · rw [if_neg h1]
    have : ¬ (m / 2 ^ k % 2 = 1) := fun h => h1 (e3.2 h)
    omega
set_option maxRecDepth 100000 in
set_option maxHeartbeats 25600000 in
theorem moves_good (m : Nat) (hm : m < 65536) (n : Int) (N q : Nat) (v : Value) (xs : List Int) (w : World) (hT : GTab w) (hd : Rd w 1 encI v xs) (hN : n = (N : Int)) (h1 : 1 ≤ N) (h30 : N ≤ 30) (hq : q < N) (hlen : N ≤ xs.length) : Calls Tryd.prog 4 #[.int .u16 (m : Nat), .int .i64 n, .int .i64 (q : Nat), v] w fun e w' => e = .returned (.bool true) ∧ Below w.heap.size w w' := by
  obtain ⟨A, cp, rfl, hcp, hcm⟩ := hd.shape
  have HD := As.mk hd
  have HA := As.mk (alive_does w hT)
  have HT := As.mk hT
  have HN := As.mk hN
  obtain ⟨cs, hcs⟩ : ∃ cs, cs = bitsN m := ⟨_, rfl⟩
  have HCs := As.mk hcs
  have HC16 : As (∀ c ∈ cs, 0 ≤ c ∧ c < 16) := ⟨fun c hc => by rw [hcs] at hc; have := (mem_bitsN m c).1 hc; exact ⟨this.1, this.2.1⟩⟩
  have t0 : decide (n < 1) = false := decide_eq_false (by omega)
  have t1 : decide (30 < n) = false := decide_eq_false (by omega)
  have t2 : decide ((q : Int) < 0) = false := decide_eq_false (by omega)
  have t3 : decide (n ≤ (q : Int)) = false := decide_eq_false (by omega)
  have t4 : decide ((xs.length : Int) < n) = false := decide_eq_false (by omega)
  have HQ : As (1 ≤ N ∧ N ≤ 30 ∧ q < N ∧ N ≤ xs.length) := ⟨h1, h30, hq, hlen⟩
  have hn1 : 1 ≤ n := by omega
  have hn30 : n ≤ 30 := by omega
  clear hd hT hN hcs h1 h30 hq hlen
  go_enter Tryd.func4, Tryd.ntmps4
  go_wp2_with fail
  refine HA.out.mono ?_
  rintro e w1 ⟨rfl, hb⟩
  have HB := As.mk hb
  clear hb
  go_wp2_with fail
  refine (new_does w1 (HT.out.below HB.out) m hm).mono ?_
  rintro e w2 ⟨p, rfl, hS⟩
  have hS : At (fun _ => False) w w2 (Hp.seps [isTb p cs []]) := by rw [HCs.out]; exact (At.start0 HB.out).also hS
  go_wp2_with fail
  go_loopg [11] N (fun g0 iv wr => ∃ (i : Nat) (R : List TRow), i + g0 = N ∧ iv = .int .i64 i ∧ As (Mv cs xs i R) ∧ At (fun _ => False) w wr (Hp.seps [isTb p cs R]))
  case atStart => exact ⟨0, [], by omega, rfl, ⟨mv_nil cs xs⟩, hS⟩
  case round =>
    clear hS
    obtain ⟨i, R, hi, rfl, HMv, hS⟩ := hrel
    obtain ⟨G, hG⟩ : ∃ G, G = gk := ⟨_, rfl⟩
    have HGk := As.mk hG
    rw [← hG] at hi
    clear hG
    have HI := As.mk hi
    by_cases hlt : i < N
    · have t5 : decide ((i : Int) < n) = true := decide_eq_true (by have := HN.out; omega)
      obtain ⟨x, hx⟩ : ∃ x, xs[i]? = some x := ⟨_, List.getElem?_eq_getElem (by have := HQ.out; omega)⟩
      have HX := As.mk hx
      have HLt := As.mk hlt
      clear hi hlt hx
      go_wp2_with fail
      go_loopg [12, 13] 16 (fun g1 sv kv wr => ∃ k : Nat, k + g1 = 16 ∧ kv = .int .i64 k ∧ At (fun _ => False) w wr (Hp.seps [Hp.row 31 2 encId sv ((cellsM x).take k), isTb p cs R]))
      case atStart => exact ⟨0, by omega, rfl, hS.nilRow 31 2 encId⟩
      case round =>
        clear hS
        obtain ⟨k, hk, rfl, hS⟩ := hrel
        have HK := As.mk hk
        by_cases hk16 : k < 16
        · have t6 : decide ((k : Int) < 16) = true := decide_eq_true (by omega)
          have t6' : decide (k < 16) = true := decide_eq_true hk16
          obtain ⟨bk, off, rfl, hbk, hcell⟩ := (HD.out.below hS.bl).cells _ _ _ rfl i x HX.out
          have c0 := hcell 0 (by omega)
          simp only [encI, Nat.mul_one, List.getElem?_cons_zero, Nat.add_zero] at c0
          obtain ⟨Ao, no, co, rfl⟩ := (hS.rowAt 0 rfl).slice
          have HTk := As.mk (cellsM_take x k hk16)
          have HLc : As (((cellsM x).take k).length ≤ 16) := ⟨by simp [cellsM]; omega⟩
          have mi : (i : Int) < (xs.length : Int) := by have := HQ.out; have := HLt.out; omega
          have HK6 := As.mk hk16
          clear hcell hk hk16
          go_wp2_with (at_builtin; refine rw_append rfl (.tmp 59) (.tmp 68) 23 31 2 encId (.agg #[.int .i64 0, .int .i64 0]) 16 rfl Tryd.underlying23 Tryd.infoC rfl (by decide) (.slice Ao no co) ((cellsM x).take k) ((k : Int), xr x k) rfl _ rfl (by first | exact blk_new (by simp) | exact blk_new_drew (by simp)) ((hS.below (by repeat (first | exact Below.refl _ _ | refine bl_drewN ?_ _ | refine Below.drew ?_ | refine bl_alloc ?_ _ | refine bl_set ?_ (by first | (simp; done) | omega | (simp; omega)) _))).rowAt 0 rfl) encId_len (one_id _) ?c1 ?c2 ?c3)
          case c1 => have := HLc.out; simp only [maxLen]; omega
          case c2 => have := HLc.out; omega
          case c3 =>
            intro v1 w3 hA
            have hS3 := At.appendAt 0 hA hS rfl (by repeat (first | exact Below.refl _ _ | refine bl_drewN ?_ _ | refine Below.drew ?_ | refine bl_alloc ?_ _ | refine bl_set ?_ (by first | (simp; done) | omega | (simp; omega)) _))
            rw [HTk.out] at hS3
            clear hA hS c0
            go_wp2_with fail
            go_roundg (gk - 1)
            case measure => have h1 := HK.out; have h2 := HK6.out; omega
            case rel => exact ⟨k + 1, by have h1 := HK.out; have h2 := HK6.out; omega, by rw [IntWalk.wrap64_in _ (by have h2 := HK6.out; omega)]; rfl, hS3⟩
        · have t6 : decide ((k : Int) < 16) = false := decide_eq_false (by omega)
          have t6' : decide (k < 16) = false := decide_eq_false hk16
          have hk2 : (cellsM x).take k = cellsM x := List.take_of_length_le (by rw [cellsM_len]; omega)
          rw [hk2] at hS
          clear hk HK hk16 hk2
          go_wp2_with fail
          refine (add_new p cs (by rw [HCs.out]; exact bitsN_nodup m) R ((i : Int), 1) _ (cellsM x) ⟨⟨by simp only; omega, by have := HQ.out; have := HLt.out; simp only; omega⟩, by simp only; omega, by simp only; omega⟩ (mv_new HMv.out) (by rw [HMv.out.1]; have := HQ.out; have := HLt.out; omega) own_rd (hS.sel [1, 0])).mono ?_
          rintro e w3 ⟨rfl, hS1⟩
          have HM2 := As.mk (mv_step HC16.out HMv.out HX.out)
          have hS2 := hS1.head.toL
          rw [HMv.out.1]
          clear hS hS1
          go_wp2_with fail
          go_roundg (G - 1)
          case measure => have h1 := HI.out; have h2 := HLt.out; have h3 := HGk.out; omega
          case rel => exact ⟨i + 1, _, by have h1 := HI.out; have h2 := HLt.out; omega, by rw [IntWalk.wrap64_in _ (by have h1 := HLt.out; have h2 := HQ.out; omega)]; rfl, HM2, hS2⟩
    · obtain rfl : i = N := by omega
      have t5 : decide ((i : Int) < n) = false := decide_eq_false (by have := HN.out; omega)
      obtain ⟨r, hr⟩ : ∃ r, R[q]? = some r := ⟨_, List.getElem?_eq_getElem (by rw [HMv.out.1]; exact HQ.out.2.2.1)⟩
      have HRem := As.mk (rem_some p cs (by rw [HCs.out]; exact Nat.le_trans (bitsN_len m) (by omega)) R q r hr (mv_nodup HMv.out) (mv_ok HMv.out (by have := HQ.out; omega)) (by rw [HMv.out.1]; have := HQ.out; omega))
      clear hi hlt HI hr
      go_wp2_with fail
      refine (hS.callAt 0 rfl HRem.out).mono ?_
      rintro e w3 ⟨B, ⟨v3, rfl, rfl⟩, hS1⟩
      have hS2 : At (fun _ => False) w w3 (Hp.seps [isTb p cs (swp R q)]) := (hS1.flats 0 (l' := [Hp.row 31 2 encId v3 (cellsOf cs r), isTb p cs (swp R q)]) rfl).sel [1]
      have HSl : As ((swp R q).length = i - 1) := ⟨by rw [swp_len (by rw [HMv.out.1]; exact HQ.out.2.2.1), HMv.out.1]⟩
      have HIds := As.mk (ids_does p cs (swp R q) (by rw [HSl.out]; have := HQ.out; omega))
      clear hS hS1 HRem
      go_wp2_with fail
      refine (hS2.callAt 0 rfl HIds.out).mono ?_
      rintro e w4 ⟨B, ⟨v4, rfl, rfl⟩, hS3⟩
      have hS4 := hS3.flats 0 (l' := [Hp.row 29 2 encId v4 (idsOf (swp R q)), isTb p cs (swp R q)]) rfl
      obtain ⟨A5, c5, rfl, _, _⟩ := (hS4.rowAt 0 rfl).shape
      have hS5 : At (fun _ => False) w w4 (Hp.seps [isTb p cs (swp R q)]) := hS4.sel [1]
      rw [idsOf_len, HSl.out]
      have t7 : ((((i - 1 : Nat) : Int)) != n - 1) = false := by have h1 := HN.out; have h2 := HQ.out; simp; omega
      have t8 : ((((i - 1 : Nat) : Int)) == n - 1) = true := by have h1 := HN.out; have h2 := HQ.out; simp; omega
      clear hS2 hS3 hS4 HIds
      obtain ⟨M, hM⟩ : ∃ M, M = i - 1 := ⟨_, rfl⟩
      have HM := As.mk hM
      rw [← hM] at t7 t8 ⊢
      clear hM
      go_wp2_with fail
      go_loopg [16] M (fun g0 av wr => ∃ a : Nat, a + g0 = M ∧ av = .int .i64 a ∧ At (fun _ => False) w wr (Hp.seps [isTb p cs (swp R q)]))
      case atStart => exact ⟨0, by omega, rfl, hS5⟩
      case round =>
        clear hS5 t7 t8
        obtain ⟨a, ha, rfl, hS⟩ := hrel
        obtain ⟨G, hG⟩ : ∃ G, G = gk := ⟨_, rfl⟩
        have HGk := As.mk hG
        rw [← hG] at ha
        clear hG
        have HA2 := As.mk ha
        by_cases hlt : a < M
        · have t7 : decide ((a : Int) < n - 1) = true := decide_eq_true (by have h1 := HN.out; have h2 := HM.out; have h3 := HQ.out; omega)
          have HLt := As.mk hlt
          have HRow := As.mk (swp_rowI HMv.out HQ.out.2.2.1 a (by have h2 := HM.out; omega))
          have HVal := As.mk (fun c => swp_val HMv.out HQ.out.2.2.1 a (by have h2 := HM.out; omega) c)
          have HFl : As (frm i q a < i) := ⟨by have h2 := HM.out; unfold frm; split <;> omega⟩
          have HFq : As ((a = q → frm i q a = i - 1) ∧ (a ≠ q → frm i q a = a)) := ⟨by unfold frm; exact ⟨fun h => if_pos h, fun h => if_neg h⟩⟩
          obtain ⟨F, hF⟩ : ∃ F, F = frm i q a := ⟨_, rfl⟩
          rw [← hF] at HRow HVal HFl HFq
          clear ha hlt hF
          go_upto_if 102 with fail
          go_cut [17] (fun fv wc => fv = .int .i64 (F : Nat) ∧ wc = wr)
          case first =>
            by_cases haq : a = q
            · have e1 : n - 1 = (F : Int) := by have h1 := HN.out; have h2 := HFq.out.1 haq; have h3 := HQ.out; omega
              have t8 : ((a : Int) == (q : Int)) = true := by simp; omega
              clear haq
              go_wp2_with fail
              go_meet
              exact ⟨rfl, rfl⟩
            · have HFa := As.mk (HFq.out.2 haq)
              have t8 : ((a : Int) == (q : Int)) = false := by simp; omega
              clear haq
              go_wp2_with fail
              go_meet
              exact ⟨by rw [HFa.out], rfl⟩
          case rest =>
            obtain ⟨rfl, rfl⟩ := hcut
            have HRD := As.mk (row_does p cs (swp R q) ((F : Int), 1) ⟨⟨by simp only; omega, by have h1 := HFl.out; have h2 := HQ.out; simp only; omega⟩, by simp only; omega, by simp only; omega⟩)
            rw [HRow.out] at HRD
            clear HRow
            go_wp2_with fail
            refine (hS.callAt 0 rfl HRD.out).mono ?_
            rintro e w5 ⟨B, ⟨rfl, rfl⟩, hS1⟩
            clear hS HRD
            go_wp2_with fail
            go_loopg [18] 16 (fun g1 kv wr => ∃ k : Nat, k + g1 = 16 ∧ kv = .int .i64 k ∧ At (fun _ => False) w wr (Hp.seps [isTb p cs (swp R q)]))
            case atStart => exact ⟨0, by omega, rfl, hS1⟩
            case round =>
              clear hS1
              obtain ⟨k, hk, rfl, hS⟩ := hrel
              have HK := As.mk hk
              by_cases hk16 : k < 16
              · have t8 : decide ((k : Int) < 16) = true := decide_eq_true (by omega)
                have t8' : decide (k < 16) = true := decide_eq_true hk16
                have HK6 := As.mk hk16
                have e2 : (k : Int) % 18446744073709551616 = (k : Int) := by omega
                have hB := bit_val m k hm hk16
                have hmin : min k 16 = k := Nat.min_eq_left (by omega)
                rw [← HCs.out] at hB
                obtain ⟨x, hx, hh, hv⟩ := HVal.out k
                have HGet := As.mk (get_does p cs (swp R q) a k)
                rw [hh] at HGet
                clear hk hk16 hh
                go_wp2_with fail
                refine (hS.callAt 0 rfl HGet.out).mono ?_
                rintro e w6 ⟨B, ⟨rfl, rfl⟩, hS2⟩
                obtain ⟨bk, off, rfl, hbk, hcell⟩ := (HD.out.below hS2.bl).cells _ _ _ rfl F x hx
                have c0 := hcell 0 (by omega)
                simp only [encI, Nat.mul_one, List.getElem?_cons_zero, Nat.add_zero] at c0
                have mF : (F : Int) < (xs.length : Int) := by have h1 := HFl.out; have h2 := HQ.out; omega
                have HS2 := As.mk hS2
                clear hcell hx HGet hS hS2
                by_cases hc : (k : Int) ∈ cs
                · rw [hv hc]
                  rw [if_pos hc] at hB
                  rw [decide_eq_true hc]
                  unfold xr
                  clear hv hc
                  go_wp2_with fail
                  go_roundg (gk - 1)
                  case measure => have h1 := HK.out; have h2 := HK6.out; omega
                  case rel => exact ⟨k + 1, by have h1 := HK.out; have h2 := HK6.out; omega, rfl, HS2.out⟩
                · rw [if_neg hc] at hB
                  rw [decide_eq_false hc]
                  clear hv hc
                  go_wp2_with fail
                  go_roundg (gk - 1)
                  case measure => have h1 := HK.out; have h2 := HK6.out; omega
                  case rel => exact ⟨k + 1, by have h1 := HK.out; have h2 := HK6.out; omega, rfl, HS2.out⟩
              · have t8 : decide ((k : Int) < 16) = false := decide_eq_false (by omega)
                have t8' : decide (k < 16) = false := decide_eq_false hk16
                clear hk HK hk16
                go_wp2_with fail
                go_roundg (G - 1)
                case measure => have h1 := HA2.out; have h2 := HLt.out; have h3 := HGk.out; omega
                case rel => exact ⟨a + 1, by have h1 := HA2.out; have h2 := HLt.out; omega, by rw [IntWalk.wrap64_in _ (by have h1 := HLt.out; have h2 := HM.out; have h3 := HQ.out; omega)]; rfl, hS⟩
        · have t7 : decide ((a : Int) < n - 1) = false := decide_eq_false (by have h1 := HN.out; have h2 := HM.out; have h3 := HQ.out; omega)
          have HRD := As.mk (row_does p cs (swp R q) ((q : Int), 1) ⟨⟨by simp only; omega, by have h2 := HQ.out; simp only; omega⟩, by simp only; omega, by simp only; omega⟩)
          rw [swp_gone HMv.out HQ.out.2.2.1] at HRD
          clear ha hlt HA2
          go_wp2_with fail
          refine (hS.callAt 0 rfl HRD.out).mono ?_
          rintro e w5 ⟨B, ⟨rfl, rfl⟩, hS1⟩
          have HB5 := As.mk hS1.bl
          clear hS hS1 HRD
          go_wp2_with fail
          go_ret
          exact ⟨rfl, HB5.out⟩
end Go.Proofs.YthbmfinaoejheaaDoor
