/- TableCells: the walk. -/
import Derived.Test.YthbmfinaoejheaaDoorTl
set_option linter.unusedVariables false
namespace Go.Proofs.YthbmfinaoejheaaDoor
open Go.RowKit
theorem and15 (k : Nat) (h : k < 16) : bits .and .i64 (k : Int) 15 = (k : Int) := by
  have : ∀ k : Fin 16, bits .and .i64 (k.val : Int) 15 = (k.val : Int) := by decide +kernel
  exact this ⟨k, h⟩
theorem bit_has (m k : Nat) (hm : m < 65536) (h : k < 16) : (bits .and .u16 ((m : Int) / 2 ^ k) 1 == 1) = decide ((k : Int) ∈ bitsN m) := by
  have e1 : (m : Int) / 2 ^ k = ((m / 2 ^ k : Nat) : Int) := by simp
  have hlt : m / 2 ^ k < 65536 := Nat.lt_of_le_of_lt (Nat.div_le_self _ _) hm
  have e2 : bits .and .u16 ((m / 2 ^ k : Nat) : Int) 1 = (((m / 2 ^ k) &&& 1 : Nat) : Int) := u16_and_nat (m / 2 ^ k) 1 hlt (by omega)
  have e3 : ((k : Int) ∈ bitsN m) ↔ m / 2 ^ k % 2 = 1 := by
    rw [mem_bitsN, Int.toNat_natCast, Nat.testBit_eq_decide_div_mod_eq, decide_eq_true_eq]
    constructor
    · exact fun h => h.2.2
    · exact fun h2 => ⟨by omega, by omega, h2⟩
  rw [e1, e2, Nat.and_one_is_mod]
  rw [Bool.eq_iff_iff, beq_iff_eq, decide_eq_true_eq, e3]
  omega
theorem not_bit (m : Nat) (c : Int) (h : c < 0 ∨ 16 ≤ c) : decide (c ∈ bitsN m) = false := by
  rw [decide_eq_false_iff_not, mem_bitsN]
  omega
set_option maxRecDepth 100000 in
set_option maxHeartbeats 12800000 in
theorem cells_walk (m : Nat) (hm : m < 65536) (v : Value) (cells : List (Int × Int)) (w : World) (hT : GTab w) (hd : Rd w 2 encId v cells) : Calls Tryd.prog 3 #[.int .u16 (m : Nat), v] w fun e w' => e = .returned (.bool true) ∧ Below w.heap.size w w' := by
  obtain ⟨A, cp, rfl, hcp, hcm⟩ := hd.shape
  have HD := As.mk hd
  have HA := As.mk (alive_does w hT)
  have HT := As.mk hT
  clear hd hT
  by_cases h40 : 40 < cells.length
  · have t0 : decide (40 < cells.length) = true := decide_eq_true h40
    have t1 : decide ((40 : Int) < (cells.length : Int)) = true := decide_eq_true (by omega)
    clear h40
    go_enter Tryd.func3, Tryd.ntmps3
    go_wp2_with fail
    refine HA.out.mono ?_
    rintro e w1 ⟨rfl, hb⟩
    have HB := As.mk hb
    clear hb
    go_wp2_with fail
    go_ret
    exact ⟨rfl, HB.out⟩
  · have t0 : decide (40 < cells.length) = false := decide_eq_false h40
    have t1 : decide ((40 : Int) < (cells.length : Int)) = false := decide_eq_false (by omega)
    obtain ⟨cs, hcs⟩ : ∃ cs, cs = bitsN m := ⟨_, rfl⟩
    have HCs := As.mk hcs
    clear h40 hcs
    go_enter Tryd.func3, Tryd.ntmps3
    go_wp2_with fail
    refine HA.out.mono ?_
    rintro e w1 ⟨rfl, hb⟩
    have HB := As.mk hb
    clear hb
    go_wp2_with fail
    refine (new_does w1 (HT.out.below HB.out) m hm).mono ?_
    rintro e w2 ⟨p, rfl, hS⟩
    have hS : At (fun _ => False) w w2 (Hp.seps [isTb p cs []]) := by rw [HCs.out]; exact (At.start0 HB.out).also hS
    go_wp2_with fail
    refine (add_new p cs (by rw [HCs.out]; exact bitsN_nodup m) [] (0, 1) _ cells (by unfold okId okI; decide) rfl (by simp) (fun w' L' h => HD.out.below h.bl) hS).mono ?_
    rintro e w3 ⟨rfl, hS1⟩
    obtain ⟨R1, hR1⟩ : ∃ R1, R1 = addR cs [] (0, 1) cells := ⟨_, rfl⟩
    rw [← hR1] at hS1
    have HR1 := As.mk hR1
    clear hS hR1
    go_wp2_with fail
    go_loopg [7] 18 (fun g0 cv wr => ∃ c : Int, -1 ≤ c ∧ c + g0 = 17 ∧ cv = .int .i64 c ∧ At (fun _ => False) w wr (Hp.seps [isTb p cs R1]))
    case atStart => exact ⟨-1, by omega, by omega, rfl, hS1⟩
    case round =>
      clear hS1
      obtain ⟨c, hc1, hc2, rfl, hS⟩ := hrel
      obtain ⟨G, hG⟩ : ∃ G, G = gk := ⟨_, rfl⟩
      have HGk := As.mk hG
      rw [← hG] at hc2
      clear hG
      have HC2 := As.mk hc2
      have HC1 := As.mk hc1
      by_cases h16 : c ≤ 16
      · have t2 : decide (c ≤ 16) = true := decide_eq_true h16
        have H16 := As.mk h16
        clear hc2 h16 hc1
        go_wp2_with fail
        go_loopg [8, 9] cells.length (fun g1 wv iv wr => ∃ k : Nat, k + g1 = cells.length ∧ iv = .int .i64 k ∧ wv = .int .i64 (lastV (cells.take k) c 0) ∧ At (fun _ => False) w wr (Hp.seps [isTb p cs R1]))
        case atStart => exact ⟨0, by omega, rfl, rfl, hS⟩
        case round =>
          clear hS
          obtain ⟨k, hk, rfl, rfl, hS⟩ := hrel
          have HK := As.mk hk
          by_cases hlt : k < cells.length
          · obtain ⟨x, hx⟩ : ∃ x, cells[k]? = some x := ⟨_, List.getElem?_eq_getElem hlt⟩
            obtain ⟨bk, off, rfl, hbk, hcell⟩ := (HD.out.below hS.bl).cells _ _ _ rfl k x hx
            have c0 := hcell 0 (by omega)
            have c1 := hcell 1 (by omega)
            simp only [encId, List.getElem?_cons_zero, List.getElem?_cons_succ, Nat.add_zero] at c0 c1
            have HL := As.mk (lastV_snoc (cells.take k) x c 0)
            rw [take_snoc hx] at HL
            clear hk hcell hx
            by_cases he : x.1 = c
            · rw [if_pos he] at HL
              subst he
              go_wp2_with fail
              go_roundg (gk - 1)
              case measure => have := HK.out; omega
              case rel => exact ⟨k + 1, by have := HK.out; omega, by go_num, by rw [HL.out], hS⟩
            · rw [if_neg he] at HL
              have t3 : (x.1 == c) = false := by simpa using he
              clear he
              go_wp2_with fail
              go_roundg (gk - 1)
              case measure => have := HK.out; omega
              case rel => exact ⟨k + 1, by have := HK.out; omega, by go_num, by rw [HL.out], hS⟩
          · obtain rfl : k = cells.length := by omega
            rw [List.take_length]
            clear hk HK
            go_upto_region 15 with fail
            go_cut [10] (fun t wc => t = .bool (decide (c ∈ cs)) ∧ wc = wr)
            case first =>
              have HCM := As.mk (not_bit m c)
              rcases Int.lt_or_le c 0 with hneg | hpos
              · have t4 : decide (0 ≤ c) = false := decide_eq_false (by omega)
                have HCF := As.mk (HCM.out (.inl hneg))
                clear hneg
                go_wp2_with fail
                go_meet
                exact ⟨by rw [HCs.out, HCF.out], rfl⟩
              · rcases Int.lt_or_le c 16 with h16 | h16
                · obtain ⟨kc, rfl⟩ : ∃ kc : Nat, c = (kc : Int) := ⟨c.toNat, by omega⟩
                  have e1 := and15 kc (by omega)
                  have e2 : (kc : Int) % 18446744073709551616 = (kc : Int) := by omega
                  have t4 : decide ((kc : Int) < 16) = true := decide_eq_true h16
                  have HB2 := As.mk (bit_has m kc hm (by omega))
                  go_wp2_with fail
                  go_meet
                  exact ⟨by rw [HCs.out, ← HB2.out], rfl⟩
                · have t4 : decide (c < 16) = false := decide_eq_false (by omega)
                  have t5 : decide (0 ≤ c) = true := decide_eq_true hpos
                  have HCF := As.mk (HCM.out (.inr h16))
                  clear h16 hpos
                  go_wp2_with fail
                  go_meet
                  exact ⟨by rw [HCs.out, HCF.out], rfl⟩
            case rest =>
              obtain ⟨rfl, rfl⟩ := hcut
              go_wp2_with fail
              refine (hS.callAt 0 rfl (get_does p cs R1 0 c)).mono ?_
              rintro e w4 ⟨B, ⟨rfl, rfl⟩, hS4⟩
              clear hS
              by_cases hc : c ∈ cs
              · obtain ⟨h1, h2, h3⟩ := cells_val cs (0, 1) cells c hc
                rw [← HR1.out] at h1 h2 h3
                rw [h1, h2, decide_eq_true hc]
                have H3 := As.mk h3
                have hm1 : R1.length ≤ 1000000 := by rw [HR1.out, addR_len]; simp
                have HCD := As.mk (col_does p cs R1 c hm1)
                clear h1 h2 h3 hc hm1
                go_wp2_with fail
                refine (hS4.callAt 0 rfl HCD.out).mono ?_
                rintro e w5 ⟨B, ⟨v5, rfl, rfl⟩, hS5⟩
                have hS6 := hS5.flats 0 (l' := [Hp.row 3 1 encI v5 (colC cs R1 c), isTb p cs R1]) rfl
                obtain ⟨A5, c5, rfl, _, _⟩ := (hS6.rowAt 0 rfl).shape
                rw [H3.out]
                have hS7 : At (fun _ => False) w w5 (Hp.seps [isTb p cs R1]) := hS6.sel [1]
                clear hS4 hS5 hS6 HCD
                go_wp2_with fail
                go_roundg (G - 1)
                case measure => have h1 := HC2.out; have h2 := HGk.out; have h3 := H16.out; omega
                case rel => exact ⟨c + 1, by have := HC1.out; omega, by have := HC2.out; have := H16.out; omega, by have h1 := HC1.out; have h2 := H16.out; rw [IntWalk.wrap64_in _ (by omega)], hS7⟩
              · obtain ⟨h1, h2, h3⟩ := cells_none cs R1 c hc
                rw [h1, h2, decide_eq_false hc]
                have H3 := As.mk h3
                have hm1 : R1.length ≤ 1000000 := by rw [HR1.out, addR_len]; simp
                have HCD := As.mk (col_does p cs R1 c hm1)
                clear h1 h2 h3 hc hm1
                go_wp2_with fail
                refine (hS4.callAt 0 rfl HCD.out).mono ?_
                rintro e w5 ⟨B, ⟨v5, rfl, rfl⟩, hS5⟩
                have hS6 := hS5.flats 0 (l' := [Hp.row 3 1 encI v5 (colC cs R1 c), isTb p cs R1]) rfl
                obtain ⟨A5, c5, rfl, _, _⟩ := (hS6.rowAt 0 rfl).shape
                rw [H3.out]
                have hS7 : At (fun _ => False) w w5 (Hp.seps [isTb p cs R1]) := hS6.sel [1]
                clear hS4 hS5 hS6 HCD
                go_wp2_with fail
                go_roundg (G - 1)
                case measure => have h1 := HC2.out; have h2 := HGk.out; have h3 := H16.out; omega
                case rel => exact ⟨c + 1, by have := HC1.out; omega, by have := HC2.out; have := H16.out; omega, by have h1 := HC1.out; have h2 := H16.out; rw [IntWalk.wrap64_in _ (by omega)], hS7⟩
      · have t2 : decide (c ≤ 16) = false := decide_eq_false h16
        clear h16 hc2 hc1
        have HB2 := As.mk hS.bl
        clear hS
        go_wp2_with fail
        go_ret
        exact ⟨rfl, HB2.out⟩
end Go.Proofs.YthbmfinaoejheaaDoor
