/- EcsLimits: the walk of the law. No condition but the laid table. -/
import Derived.Test.YtkebkmbfglodlaaDoorEl0
set_option linter.unusedVariables false
set_option linter.unusedSimpArgs false
set_option maxRecDepth 100000
namespace Go.Proofs.YtkebkmbfglodlaaDoor
open Go.RowKit
def ints (l : List Nat) : List Int := l.map fun m : Nat => (m : Int)
/-- What the law keeps of its store. -/
def Kl (room tables i nn : Nat) (sl : List (Int × Bool)) (fr : List Int) (D : List TD) (M : Int × Int → Option Nat) (made : List (Int × Int)) : Prop :=
  WF sl D M i ∧ I.Inv (room : Nat) i sl fr made (List.replicate nn true) (nn : Nat) ∧ total D = nn ∧ D.length ≤ tables ∧ made.length = nn
set_option maxHeartbeats 51200000 in
theorem limits_walk (room0 tables0 : Int) (vv : Value) (xs : List Int) (w : World) (hT : GTab w) (h0 : (Lit.int .i64 room0).wf = true) (h1 : (Lit.int .i64 tables0).wf = true) (hd0 : Rd w 1 encH vv xs ∧ ∀ x ∈ xs, 0 ≤ x ∧ x < 65536) :
    Calls Tryd.prog 6 #[.int .i64 room0, .int .i64 tables0, vv] w fun e w' => e = .returned (.bool true) ∧ Below w.heap.size w w' := by
  obtain ⟨hd, hx⟩ := hd0
  obtain ⟨A, c, rfl, hc, hnm⟩ := hd.shape
  have HT := As.mk hT
  have HD := As.mk hd
  have HX := As.mk hx
  have HA := As.mk (alive_does w hT)
  have hxb : (xs.length : Int) ≤ 9223372036854775807 := by omega
  clear h0 h1 hd hT hx
  by_cases hg : (1 ≤ room0 ∧ room0 ≤ 20) ∧ (1 ≤ tables0 ∧ tables0 ≤ 10) ∧ xs.length ≤ 40
  · obtain ⟨⟨g1, g2⟩, ⟨g3, g4⟩, g5⟩ := hg
    obtain ⟨room, rfl⟩ : ∃ n : Nat, room0 = (n : Int) := ⟨room0.toNat, by omega⟩
    obtain ⟨tables, rfl⟩ : ∃ k : Nat, tables0 = (k : Int) := ⟨tables0.toNat, by omega⟩
    have t1 : decide ((room : Int) < 1) = false := decide_eq_false (by omega)
    have t2 : decide ((20 : Int) < (room : Int)) = false := decide_eq_false (by omega)
    have t3 : decide ((tables : Int) < 1) = false := decide_eq_false (by omega)
    have t4 : decide ((10 : Int) < (tables : Int)) = false := decide_eq_false (by omega)
    have t5 : decide ((40 : Int) < (xs.length : Int)) = false := decide_eq_false (by omega)
    have t5' : decide (40 < xs.length) = false := decide_eq_false (by omega)
    have HN := As.mk (⟨by omega, by omega, by omega, by omega, by omega⟩ : 1 ≤ room ∧ room ≤ 20 ∧ 1 ≤ tables ∧ tables ≤ 10 ∧ xs.length ≤ 40)
    have HE := As.mk (⟨mostF_nat (t := tables) (by omega) (by omega), rm_nat (t := room) (by omega) (by omega)⟩ : _ ∧ _)
    clear g1 g2 g3 g4 g5
    go_enter Tryd.func6, Tryd.ntmps6
    go_wp2_with fail
    refine HA.out.mono ?_
    rintro e w1 ⟨rfl, hb⟩
    have HC := As.mk (snew_does (At.start0 hb) room tables)
    rw [HE.out.1, HE.out.2] at HC
    clear hb HA
    go_wp2_with fail
    refine HC.out.mono ?_
    rintro e w2 ⟨q, pi, bt, bm, rfl, hS⟩
    have hS1 := (hS.nilRow 35 1 encH).stIn
    clear HC hS
    go_wp2_with fail
    clear t1 t2 t3 t4 t5 t5'
    go_loopg [9, 10, 11] xs.length (fun g0 kv nv iv wr => ∃ (i nn nm : Nat) (sl : List (Int × Bool)) (fr : List Int) (D : List TD) (M : Int × Int → Option Nat) (made : List (Int × Int)), i + g0 = xs.length ∧ nv = .int .i64 (nn : Nat) ∧ iv = .int .i64 (i : Nat) ∧ As (Kl room tables i nn sl fr D M made) ∧ At (fun _ => False) w wr (Hp.seps (stL q pi bt bm (tables : Nat) (room : Nat) nm sl fr D M [Hp.row 35 1 encH kv (ints (masksOf D))])))
    case atStart => exact ⟨0, 0, 0, [], [], [], noM, [], by omega, rfl, rfl, ⟨wf0, I.Inv.start (room : Nat) (by omega), rfl, by simp, rfl⟩, hS1⟩
    case round =>
      clear hS1
      obtain ⟨i, nn, nm, sl, fr, D, M, made, hi, rfl, rfl, HK, hS⟩ := hrel
      by_cases hlt : i < xs.length
      · obtain ⟨x, hx⟩ : ∃ x, xs[i]? = some x := ⟨_, List.getElem?_eq_getElem hlt⟩
        have hxw := HX.out x (List.mem_of_getElem? hx)
        obtain ⟨mk, rfl⟩ : ∃ mk : Nat, x = (mk : Int) := ⟨x.toNat, by omega⟩
        have hmk : mk < 65536 := by omega
        have hin : (i : Int) < (xs.length : Int) := by omega
        have s1 : IntKind.i64.wrap ((i : Int) + 1) = ((i + 1 : Nat) : Int) := by rw [IntKind.wrap_i64]; omega
        have HV := As.mk (⟨hx, hi, hmk⟩ : _ ∧ _ ∧ _)
        have hS1 := (hS.nilRow 33 2 encId).stIn
        clear hS hx hxw hi hmk
        go_wp2_with fail
        go_loopg [12, 14] 16 (fun g0 cv jv wr => ∃ (j : Nat) (cells : List (Int × Int)), j + g0 = 16 ∧ jv = .int .i64 (j : Nat) ∧ As (maskC cells = some (mk % 2 ^ j) ∧ cells.length ≤ j) ∧ At (fun _ => False) w wr (Hp.seps (stL q pi bt bm (tables : Nat) (room : Nat) nm sl fr D M [Hp.row 33 2 encId cv cells, Hp.row 35 1 encH u9 (ints (masksOf D))])))
        case atStart => exact ⟨0, [], rfl, rfl, ⟨by rw [Nat.pow_zero, Nat.mod_one]; rfl, Nat.le_refl _⟩, hS1⟩
        case round =>
          clear hS1
          obtain ⟨j, cells, hj, rfl, HCl, hS⟩ := hrel
          by_cases hj16 : j < 16
          · obtain ⟨b, off, rfl, hb, hcell⟩ := (HD.out.below hS.bl).cells A xs.length c rfl i _ HV.out.1
            have v0 := hcell 0 (by decide)
            simp only [encH, List.getElem?_cons_zero, Nat.add_zero, Nat.mul_one] at v0
            have e2 : (j : Int) % 18446744073709551616 = (j : Int) := by omega
            have HB2 := As.mk (bit_is mk j HV.out.2.2 hj16)
            have s2 : IntKind.i64.wrap ((j : Int) + 1) = ((j + 1 : Nat) : Int) := by rw [IntKind.wrap_i64]; omega
            have HJ := As.mk hj
            obtain ⟨Dc, nc, cc2, rfl⟩ := (hS.rowAt 5 rfl).slice
            have HS := As.mk hS
            clear hcell hb hj hS
            cases htb : mk.testBit j with
            | true =>
              have d0 := HB2.out
              rw [htb] at d0
              have HTb := As.mk htb
              have HCn : As (maskC (cells ++ [((j : Int), (0 : Int))]) = some (mk % 2 ^ (j + 1)) ∧ (cells ++ [((j : Int), (0 : Int))]).length ≤ j + 1) := ⟨maskC_step 0 hj16 HCl.out.1 htb, by rw [List.length_append]; have := HCl.out.2; simp; omega⟩
              clear htb
              go_wp2_with (at_builtin; refine rw_append rfl (.tmp 66) (.tmp 69) 34 33 2 encId (.agg #[.int .i64 0, .int .i64 0]) 16 rfl Tryd.underlying34 Tryd.infoC rfl (by decide) (.slice Dc nc cc2) cells ((j : Int), (0 : Int)) rfl _ rfl (by first | exact blk_new (by simp) | exact blk_new_drew (by simp)) ((HS.out.below (by repeat (first | exact Below.refl _ _ | refine bl_drewN ?_ _ | refine Below.drew ?_ | refine bl_alloc ?_ _ | refine bl_set ?_ (by first | (simp; done) | omega | (simp; omega)) _))).rowAt 5 rfl) encId_len (one_id _) ?c1 ?c2 ?c3)
              case c1 => have := HCl.out.2; simp only [maxLen]; omega
              case c2 => have := HCl.out.2; omega
              case c3 =>
                intro v1 w3 hA
                have hS3 := At.appendAt 5 hA HS.out rfl (by repeat (first | exact Below.refl _ _ | refine bl_drewN ?_ _ | refine Below.drew ?_ | refine bl_alloc ?_ _ | refine bl_set ?_ (by first | (simp; done) | omega | (simp; omega)) _))
                clear hA HS d0 v0
                go_wp2_with fail
                go_roundg (16 - (j + 1))
                case measure => have := HJ.out; omega
                case rel => exact ⟨j + 1, cells ++ [((j : Int), (0 : Int))], by have := HJ.out; omega, rfl, HCn, hS3⟩
            | false =>
              have d0 := HB2.out
              rw [htb] at d0
              have HCn : As (maskC cells = some (mk % 2 ^ (j + 1)) ∧ cells.length ≤ j + 1) := ⟨by rw [mod_skip htb]; exact HCl.out.1, by have := HCl.out.2; omega⟩
              clear htb
              go_wp2_with fail
              go_roundg (16 - (j + 1))
              case measure => have := HJ.out; omega
              case rel => exact ⟨j + 1, cells, by have := HJ.out; omega, rfl, HCn, HS.out⟩
          · obtain rfl : j = 16 := by omega
            have HCm : As (maskC cells = some mk ∧ cells.length ≤ 16) := ⟨by have h := HCl.out.1; rw [Nat.mod_eq_of_lt (by have := HV.out.2.2; omega)] at h; exact h, HCl.out.2⟩
            obtain ⟨Dk, nk, ck, rfl⟩ := (hS.rowAt 6 rfl).slice
            have hkl : nk = D.length := by rw [((hS.rowAt 6 rfl).rd encH_len).len.1]; simp [ints, masksOf]
            have HKL := As.mk hkl
            have HS := As.mk hS
            clear hj HCl hS hkl
            go_wp2_with fail
            go_loopg [13, 15] nk (fun g0 bv jv wr => ∃ j : Nat, j + g0 = nk ∧ jv = .int .i64 (j : Nat) ∧ bv = .bool (decide ((mk : Int) ∈ (ints (masksOf D)).take j)) ∧ At (fun _ => False) w wr (Hp.seps (stL q pi bt bm (tables : Nat) (room : Nat) nm sl fr D M [Hp.row 33 2 encId u12 cells, Hp.row 35 1 encH (.slice Dk nk ck) (ints (masksOf D))])))
            case atStart => exact ⟨0, Nat.zero_add _, rfl, by simp, HS.out⟩
            case round =>
              clear HS
              obtain ⟨j, hj, rfl, rfl, hS⟩ := hrel
              by_cases hjk : j < nk
              · have hlen : (ints (masksOf D)).length = D.length := by simp [ints, masksOf]
                obtain ⟨y, hy⟩ : ∃ y, (ints (masksOf D))[j]? = some y := ⟨_, List.getElem?_eq_getElem (by rw [hlen, ← HKL.out]; exact hjk)⟩
                obtain ⟨gk', rfl, _, hck⟩ := (hS.rowAt 6 rfl).cell encH_len j _ hy
                have k0 := (hck 0 (by decide)).1
                simp only [encH, Nat.mul_one, Nat.add_zero, List.getElem?_cons_zero] at k0
                obtain ⟨b, off, rfl, hb, hcell⟩ := (HD.out.below hS.bl).cells A xs.length c rfl i _ HV.out.1
                have v0 := hcell 0 (by decide)
                simp only [encH, List.getElem?_cons_zero, Nat.add_zero, Nat.mul_one] at v0
                have hjn : (j : Int) < (nk : Int) := by omega
                have s2 : IntKind.i64.wrap ((j : Int) + 1) = ((j + 1 : Nat) : Int) := by rw [IntKind.wrap_i64]; have h1 := HKL.out; have h2 := HK.out.2.2.2.1; have h3 := HN.out; omega
                have hT1 : (ints (masksOf D)).take (j + 1) = (ints (masksOf D)).take j ++ [y] := by rw [List.take_add_one, hy]; rfl
                have HJ := As.mk (⟨hj, hT1⟩ : _ ∧ _)
                have HS := As.mk hS
                clear hcell hb hck hy hlen hj hS hT1
                by_cases hin1 : (mk : Int) ∈ (ints (masksOf D)).take j
                · have d1 : decide ((mk : Int) ∈ (ints (masksOf D)).take j) = true := decide_eq_true hin1
                  have HD1 : As (decide ((mk : Int) ∈ (ints (masksOf D)).take (j + 1)) = true) := ⟨decide_eq_true (by rw [HJ.out.2]; exact List.mem_append_left _ hin1)⟩
                  rw [d1]
                  clear hin1 d1
                  go_upto_region 20 with fail
                  go_quiet (fail)
                  go_wp2_with fail
                  go_roundg (nk - (j + 1))
                  case measure => have := HJ.out.1; omega
                  case rel => exact ⟨j + 1, by have := HJ.out.1; omega, rfl, by rw [HD1.out], HS.out.drewN _⟩
                · have d1 : decide ((mk : Int) ∈ (ints (masksOf D)).take j) = false := decide_eq_false hin1
                  rw [d1]
                  by_cases hym : y = (mk : Int)
                  · subst hym
                    have HD1 : As (decide ((mk : Int) ∈ (ints (masksOf D)).take (j + 1)) = true) := ⟨decide_eq_true (by rw [HJ.out.2]; simp)⟩
                    clear hin1 d1
                    go_upto_region 20 with fail
                    go_quiet (fail)
                    go_wp2_with fail
                    go_roundg (nk - (j + 1))
                    case measure => have := HJ.out.1; omega
                    case rel => exact ⟨j + 1, by have := HJ.out.1; omega, rfl, by rw [HD1.out], HS.out.drewN _⟩
                  · have HD1 : As (decide ((mk : Int) ∈ (ints (masksOf D)).take (j + 1)) = false) := ⟨decide_eq_false (by rw [HJ.out.2, List.mem_append]; rintro (h | h); exact hin1 h; simp at h; exact hym h.symm)⟩
                    have d2 : (y == (mk : Int)) = false := by rw [beq_eq_false_iff_ne]; exact hym
                    clear hin1 d1 hym
                    go_upto_region 20 with fail
                    go_quiet (fail)
                    go_wp2_with fail
                    go_roundg (nk - (j + 1))
                    case measure => have := HJ.out.1; omega
                    case rel => exact ⟨j + 1, by have := HJ.out.1; omega, rfl, by rw [HD1.out], HS.out.drewN _⟩
              · obtain rfl : j = nk := by omega
                have hIn : decide ((mk : Int) ∈ (ints (masksOf D)).take j) = decide (mk ∈ masksOf D) := by
                  rw [List.take_of_length_le (by simp [ints, masksOf]; have := HKL.out; omega), Bool.eq_iff_iff, decide_eq_true_eq, decide_eq_true_eq]
                  unfold ints
                  rw [List.mem_map]
                  constructor
                  · rintro ⟨m, hm, e⟩
                    have : m = mk := by omega
                    subst this
                    exact hm
                  · exact fun h => ⟨mk, h, rfl⟩
                rw [hIn]
                obtain ⟨inb, hinb⟩ : ∃ b, decide (mk ∈ masksOf D) = b := ⟨_, rfl⟩
                have HIb := As.mk hinb
                rw [hinb]
                have hkl := HKL.out
                have HKL2 := As.mk hkl
                have HSp := As.mk (spawn_does (cells := cells) (¬ nn < room) (fun id sl' fr' => nn < room ∧ I.Inv (room : Nat) (i + 1) sl' fr' (made ++ [id]) (List.replicate (nn + 1) true) ((nn : Nat) + 1)) HT.out HK.out.1 (by have := HN.out; omega) (by
                  by_cases hr : nn < room
                  · refine .inl ?_
                    have h2 := HN.out
                    obtain ⟨id, sl', fr', h, _, _, h3⟩ := mk_ok HK.out.2.1 (by omega) (by omega) (by omega) pi
                    exact ⟨id, sl', fr', h, hr, by rw [List.replicate_succ']; exact h3⟩
                  · exact .inr ⟨hr, I.make_no HK.out.2.1 (by omega) pi⟩) u12 (by have := HCm.out.2; omega) (fun w' L' h => (h.rowAt L'.length (by rw [List.getElem?_append_right (Nat.le_refl _), Nat.sub_self]; rfl)).rd encId_len) hS)
                clear hS hIn hj hinb hkl hjk
                go_wp2_with fail
                refine HSp.out.mono ?_
                rintro e w3 (⟨e0, hz, rfl, hS⟩ | ⟨m, id, sl', fr', D', hm, hfu, hmk, hOk, hP, rfl, hS⟩)
                · have hz2 : e0 = 10 ∧ (fullB (tables : Nat) D mk = true ∨ ¬ nn < room) := by
                    rcases hz with ⟨hz, _⟩ | ⟨m, hz, h10, h⟩
                    · rw [HCm.out.1] at hz; cases hz
                    · rw [HCm.out.1] at hz
                      injection hz with hz
                      subst hz
                      exact ⟨h10, h⟩
                  obtain ⟨rfl, hor⟩ := hz2
                  have HK2 : As (Kl room tables (i + 1) nn sl fr D M made) := ⟨HK.out.1.more, HK.out.2.1.more, HK.out.2.2⟩
                  have HKn2 : As (D.length = j) := ⟨HKL2.out.symm⟩
                  clear hz HSp
                  have hS := hS
                  by_cases hr : nn < room
                  · have hfull : fullB (tables : Nat) D mk = true := by rcases hor with h | h; exact h; exact absurd hr h
                    have hnin : inb = false := by
                      rw [← HIb.out, decide_eq_false_iff_not]
                      unfold fullB at hfull
                      rw [Bool.and_eq_true, Option.isNone_iff_eq_none] at hfull
                      exact tf_none.1 hfull.1
                    have hge : ¬ j < tables := by
                      unfold fullB at hfull
                      rw [Bool.and_eq_true, decide_eq_true_eq] at hfull
                      have := HKL2.out
                      omega
                    subst hnin
                    have d1 : decide ((nn : Int) < (room : Int)) = true := decide_eq_true (by omega)
                    have d3 : decide ((j : Int) < (tables : Int)) = false := decide_eq_false (by omega)
                    have d3' : decide (j < tables) = false := decide_eq_false hge
                    have d1' : decide (nn < room) = true := decide_eq_true hr
                    clear hor hr hfull hge
                    have HSA := As.mk hS
                    clear hS
                    go_wp2_with fail
                    refine (num_does 10 _).mono ?_
                    rintro e w4 ⟨rfl, rfl⟩
                    go_wp2_with fail
                    refine (num_does 10 _).mono ?_
                    rintro e w5 ⟨rfl, rfl⟩
                    go_wp2_with fail
                    refine (num_does 10 _).mono ?_
                    rintro e w6 ⟨rfl, rfl⟩
                    have hS := HSA.out.below (w1 := w3.alloc (.cells #[.int .i64 0, .int .i64 0] 31)) (by repeat (first | exact Below.refl _ _ | refine bl_drewN ?_ _ | refine Below.drew ?_ | refine bl_alloc ?_ _ | refine bl_set ?_ (by first | (simp; done) | omega | (simp; omega)) _))
                    clear HSA d1 d3 d1' d3'
                    have HQ := As.mk (query_does sorts12 (by decide) (by have h1 := HK2.out.2.2.2.1; have h2 := HN.out; omega) HK2.out.1 (by have h2 := HN.out; omega) 0 0 (by decide) (by decide) hS)
                    clear hS
                    go_wp2_with fail
                    refine HQ.out.mono ?_
                    rintro e w7 ⟨qv, qs, rfl, hqs, hS⟩
                    clear HQ
                    obtain ⟨Dq, nq, cq, rfl⟩ := (hS.rowAt 0 rfl).slice
                    have hnq : nn = nq := by rw [((hS.rowAt 0 rfl).rd encId_len).len.1, query_total HK2.out.1.nd hqs.out]; exact HK2.out.2.2.1.symm
                    subst hnq
                    have HMs := As.mk (masks_does sorts12 (by decide) 1 3 q bt _ (.pointer (some ⟨pi, 0, none⟩)) (.int .i64 (tables : Nat)) (.map (some bm)) _ (by have h1 := HK2.out.2.2.2.1; have h2 := HN.out; omega) hS rfl rfl)
                    clear hS
                    go_wp2_with fail
                    refine HMs.out.mono ?_
                    rintro e w8 ⟨mv, ms, rfl, hms, hS⟩
                    clear HMs
                    obtain ⟨Dq2, nq2, cq2, rfl⟩ := (hS.rowAt 0 rfl).slice
                    have hnq2 : j = nq2 := by rw [((hS.rowAt 0 rfl).rd encH_len).len.1, keys_len HK2.out.1.nd hms.out]; exact HKn2.out.symm
                    subst hnq2
                    clear hqs hms
                    go_wp2_with fail
                    go_roundg (xs.length - (i + 1))
                    case measure => have := HV.out.2.1; omega
                    case rel => exact ⟨i + 1, nn, nm, sl, fr, D, M, made, by have := HV.out.2.1; omega, rfl, rfl, HK2, ((hS.dropAt 0 (by simp)).dropAt 0 (by simp)).dropAt 5 (by simp [stL])⟩
                  · have d1 : decide ((nn : Int) < (room : Int)) = false := decide_eq_false (by omega)
                    have d1' : decide (nn < room) = false := decide_eq_false hr
                    clear hor hr
                    have HSA := As.mk hS
                    clear hS
                    go_wp2_with fail
                    refine (num_does 10 _).mono ?_
                    rintro e w4 ⟨rfl, rfl⟩
                    go_wp2_with fail
                    refine (num_does 10 _).mono ?_
                    rintro e w5 ⟨rfl, rfl⟩
                    go_wp2_with fail
                    refine (num_does 10 _).mono ?_
                    rintro e w6 ⟨rfl, rfl⟩
                    have hS := HSA.out.below (w1 := w3.alloc (.cells #[.int .i64 0, .int .i64 0] 31)) (by repeat (first | exact Below.refl _ _ | refine bl_drewN ?_ _ | refine Below.drew ?_ | refine bl_alloc ?_ _ | refine bl_set ?_ (by first | (simp; done) | omega | (simp; omega)) _))
                    clear HSA d1 d1'
                    have HQ := As.mk (query_does sorts12 (by decide) (by have h1 := HK2.out.2.2.2.1; have h2 := HN.out; omega) HK2.out.1 (by have h2 := HN.out; omega) 0 0 (by decide) (by decide) hS)
                    clear hS
                    go_wp2_with fail
                    refine HQ.out.mono ?_
                    rintro e w7 ⟨qv, qs, rfl, hqs, hS⟩
                    clear HQ
                    obtain ⟨Dq, nq, cq, rfl⟩ := (hS.rowAt 0 rfl).slice
                    have hnq : nn = nq := by rw [((hS.rowAt 0 rfl).rd encId_len).len.1, query_total HK2.out.1.nd hqs.out]; exact HK2.out.2.2.1.symm
                    subst hnq
                    have HMs := As.mk (masks_does sorts12 (by decide) 1 3 q bt _ (.pointer (some ⟨pi, 0, none⟩)) (.int .i64 (tables : Nat)) (.map (some bm)) _ (by have h1 := HK2.out.2.2.2.1; have h2 := HN.out; omega) hS rfl rfl)
                    clear hS
                    go_wp2_with fail
                    refine HMs.out.mono ?_
                    rintro e w8 ⟨mv, ms, rfl, hms, hS⟩
                    clear HMs
                    obtain ⟨Dq2, nq2, cq2, rfl⟩ := (hS.rowAt 0 rfl).slice
                    have hnq2 : j = nq2 := by rw [((hS.rowAt 0 rfl).rd encH_len).len.1, keys_len HK2.out.1.nd hms.out]; exact HKn2.out.symm
                    subst hnq2
                    clear hqs hms
                    go_wp2_with fail
                    go_roundg (xs.length - (i + 1))
                    case measure => have := HV.out.2.1; omega
                    case rel => exact ⟨i + 1, nn, nm, sl, fr, D, M, made, by have := HV.out.2.1; omega, rfl, rfl, HK2, ((hS.dropAt 0 (by simp)).dropAt 0 (by simp)).dropAt 5 (by simp [stL])⟩
                · rw [HCm.out.1] at hm
                  injection hm with hm
                  subst hm
                  obtain ⟨hr, hInv⟩ := hOk
                  have hmp := masks_put hP
                  have hlen' : D'.length = (masksOf D').length := by simp [masksOf]
                  have hlen0 : D.length = (masksOf D).length := by simp [masksOf]
                  have hWF2 := HK.out.1.spawnL hmk (by exact HV.out.2.2) hP
                  have htot := total_put hP
                  have d1 : decide ((nn : Int) < (room : Int)) = true := decide_eq_true (by omega)
                  have d1' : decide (nn < room) = true := decide_eq_true hr
                  have s3 : IntKind.i64.wrap ((nn : Int) + 1) = ((nn + 1 : Nat) : Int) := by rw [IntKind.wrap_i64]; have := HN.out; omega
                  obtain ⟨a1, a2⟩ := id
                  cases inb with
                  | true =>
                    have hin : mk ∈ masksOf D := of_decide_eq_true HIb.out
                    rw [if_pos hin] at hmp
                    have HK2 : As (Kl room tables (i + 1) (nn + 1) sl' fr' D' (fput M (a1, a2) (some mk)) (made ++ [(a1, a2)])) := ⟨hWF2, by have h := hInv; simpa using h, by rw [htot, HK.out.2.2.1], by rw [hlen', hmp, ← hlen0]; exact HK.out.2.2.2.1, by rw [List.length_append, HK.out.2.2.2.2]; rfl⟩
                    have HKn2 : As (D'.length = j) := ⟨by rw [hlen', hmp, ← hlen0]; exact HKL2.out.symm⟩
                    rw [← hmp] at hS
                    have HSA := As.mk (hS.alloc #[.int .i64 a1, .int .i64 a2] 31)
                    clear hS HSp hmp hlen' hlen0 hWF2 htot hin hInv hr hfu hmk hP
                    go_wp2_with fail
                    refine (num_does 0 _).mono ?_
                    rintro e w4 ⟨rfl, rfl⟩
                    go_wp2_with fail
                    refine (num_does 0 _).mono ?_
                    rintro e w5 ⟨rfl, rfl⟩
                    have hS := HSA.out.dropAt 0 (by simp)
                    clear HSA d1 d1'
                    have HQ := As.mk (query_does sorts12 (by decide) (by have h1 := HK2.out.2.2.2.1; have h2 := HN.out; omega) HK2.out.1 (by have h2 := HN.out; omega) 0 0 (by decide) (by decide) hS)
                    clear hS
                    go_wp2_with fail
                    refine HQ.out.mono ?_
                    rintro e w7 ⟨qv, qs, rfl, hqs, hS⟩
                    clear HQ
                    obtain ⟨Dq, nq, cq, rfl⟩ := (hS.rowAt 0 rfl).slice
                    have hnq : (nn + 1) = nq := by rw [((hS.rowAt 0 rfl).rd encId_len).len.1, query_total HK2.out.1.nd hqs.out]; exact HK2.out.2.2.1.symm
                    subst hnq
                    have HMs := As.mk (masks_does sorts12 (by decide) 1 3 q bt _ (.pointer (some ⟨pi, 0, none⟩)) (.int .i64 (tables : Nat)) (.map (some bm)) _ (by have h1 := HK2.out.2.2.2.1; have h2 := HN.out; omega) hS rfl rfl)
                    clear hS
                    go_wp2_with fail
                    refine HMs.out.mono ?_
                    rintro e w8 ⟨mv, ms, rfl, hms, hS⟩
                    clear HMs
                    obtain ⟨Dq2, nq2, cq2, rfl⟩ := (hS.rowAt 0 rfl).slice
                    have hnq2 : j = nq2 := by rw [((hS.rowAt 0 rfl).rd encH_len).len.1, keys_len HK2.out.1.nd hms.out]; exact HKn2.out.symm
                    subst hnq2
                    clear hqs hms
                    go_wp2_with fail
                    go_roundg (xs.length - (i + 1))
                    case measure => have := HV.out.2.1; omega
                    case rel => exact ⟨i + 1, nn + 1, nm + 1, sl', fr', D', fput M (a1, a2) (some mk), made ++ [(a1, a2)], by have := HV.out.2.1; omega, rfl, rfl, HK2, ((hS.dropAt 0 (by simp)).dropAt 0 (by simp)).dropAt 5 (by simp [stL])⟩
                  | false =>
                    have hnin : mk ∉ masksOf D := of_decide_eq_false HIb.out
                    rw [if_neg hnin] at hmp
                    have hlt3 : j < tables := by
                      have h := hfu
                      unfold fullB at h
                      rw [tf_none.2 hnin] at h
                      simp at h
                      have := HKL2.out
                      omega
                    have hints : ints (masksOf D') = ints (masksOf D) ++ [(mk : Int)] := by rw [hmp]; simp [ints]
                    have HK2 : As (Kl room tables (i + 1) (nn + 1) sl' fr' D' (fput M (a1, a2) (some mk)) (made ++ [(a1, a2)])) := ⟨hWF2, by have h := hInv; simpa using h, by rw [htot, HK.out.2.2.1], by rw [hlen', hmp, List.length_append, ← hlen0, ← HKL2.out]; simp; omega, by rw [List.length_append, HK.out.2.2.2.2]; rfl⟩
                    have HKn2 : As (D'.length = j + 1) := ⟨by rw [hlen', hmp, List.length_append, ← hlen0, ← HKL2.out]; rfl⟩
                    have HIn := As.mk (⟨hints, by simp [ints]; rw [← hlen0, ← HKL2.out]; have := HN.out; omega⟩ : ints (masksOf D') = ints (masksOf D) ++ [(mk : Int)] ∧ (ints (masksOf D)).length ≤ 40)
                    have d3 : decide ((j : Int) < (tables : Int)) = true := decide_eq_true (by omega)
                    have d3' : decide (j < tables) = true := decide_eq_true hlt3
                    have hbw := HD.out.below hS.bl
                    obtain ⟨b, off, rfl, hb, hcell⟩ := hbw.cells A xs.length c rfl i _ HV.out.1
                    have v0 := hcell 0 (by decide)
                    simp only [encH, List.getElem?_cons_zero, Nat.add_zero, Nat.mul_one] at v0
                    have hblt : b < w3.heap.size := Nat.lt_of_lt_of_le hb (by first | exact hS.bl.size | exact Nat.le_refl _)
                    have HSA := As.mk (hS.alloc #[.int .i64 a1, .int .i64 a2] 31)
                    clear hS HSp hmp hlen' hlen0 hWF2 htot hnin hInv hr hfu hmk hP hints hlt3 hcell hb hbw
                    go_wp2_with fail
                    refine (num_does 0 _).mono ?_
                    rintro e w4 ⟨rfl, rfl⟩
                    go_wp2_with fail
                    refine (num_does 0 _).mono ?_
                    rintro e w5 ⟨rfl, rfl⟩
                    clear d1 d1' d3 d3'
                    go_wp2_with (at_builtin; refine rw_append rfl (.tmp 127) (.tmp 132) 28 35 1 encH (.int .u16 0) 2 rfl Tryd.underlying28 Tryd.infoU rfl (by decide) (.slice Dk j ck) (ints (masksOf D)) (mk : Int) rfl _ rfl (by first | exact blk_new (by simp) | exact blk_new_drew (by simp)) ((HSA.out.below (by repeat (first | exact Below.refl _ _ | refine bl_drewN ?_ _ | refine Below.drew ?_ | refine bl_alloc ?_ _ | refine bl_set ?_ (by first | (simp; done) | omega | (simp; omega)) _))).rowAt 7 rfl) encH_len (one_h _) ?c1 ?c2 ?c3)
                    case c1 => have := HIn.out.2; simp only [maxLen]; omega
                    case c2 => have := HIn.out.2; omega
                    case c3 =>
                      intro kv2 w6 hA
                      have hS3 := At.appendAt 7 hA HSA.out rfl (by repeat (first | exact Below.refl _ _ | refine bl_drewN ?_ _ | refine Below.drew ?_ | refine bl_alloc ?_ _ | refine bl_set ?_ (by first | (simp; done) | omega | (simp; omega)) _))
                      rw [← HIn.out.1] at hS3
                      obtain ⟨Dk2, nk2, ck2, rfl⟩ := hA.row.slice
                      have hS := hS3.dropAt 0 (by simp [stL])
                      have hnk2 : nk2 = j + 1 := by have h := ((hS.rowAt 6 rfl).rd encH_len).len.1; rw [h]; have h2 := HKn2.out; simp [ints, masksOf]; exact h2
                      subst hnk2
                      clear hA HSA hS3 v0 hblt
                      have HQ := As.mk (query_does sorts12 (by decide) (by have h1 := HK2.out.2.2.2.1; have h2 := HN.out; omega) HK2.out.1 (by have h2 := HN.out; omega) 0 0 (by decide) (by decide) hS)
                      clear hS
                      go_wp2_with fail
                      refine HQ.out.mono ?_
                      rintro e w7 ⟨qv, qs, rfl, hqs, hS⟩
                      clear HQ
                      obtain ⟨Dq, nq, cq, rfl⟩ := (hS.rowAt 0 rfl).slice
                      have hnq : (nn + 1) = nq := by rw [((hS.rowAt 0 rfl).rd encId_len).len.1, query_total HK2.out.1.nd hqs.out]; exact HK2.out.2.2.1.symm
                      subst hnq
                      have HMs := As.mk (masks_does sorts12 (by decide) 1 3 q bt _ (.pointer (some ⟨pi, 0, none⟩)) (.int .i64 (tables : Nat)) (.map (some bm)) _ (by have h1 := HK2.out.2.2.2.1; have h2 := HN.out; omega) hS rfl rfl)
                      clear hS
                      go_wp2_with fail
                      refine HMs.out.mono ?_
                      rintro e w8 ⟨mv, ms, rfl, hms, hS⟩
                      clear HMs
                      obtain ⟨Dq2, nq2, cq2, rfl⟩ := (hS.rowAt 0 rfl).slice
                      have hnq2 : (j + 1) = nq2 := by rw [((hS.rowAt 0 rfl).rd encH_len).len.1, keys_len HK2.out.1.nd hms.out]; exact HKn2.out.symm
                      subst hnq2
                      clear hqs hms
                      go_wp2_with fail
                      go_roundg (xs.length - (i + 1))
                      case measure => have := HV.out.2.1; omega
                      case rel => exact ⟨i + 1, nn + 1, nm + 1, sl', fr', D', fput M (a1, a2) (some mk), made ++ [(a1, a2)], by have := HV.out.2.1; omega, rfl, rfl, HK2, ((hS.dropAt 0 (by simp)).dropAt 0 (by simp)).dropAt 5 (by simp [stL])⟩
      · have HBl := As.mk hS.bl
        have hii : ¬ (i : Int) < (xs.length : Int) := by omega
        clear hS hi hlt
        go_wp2_with fail
        refine bodyPost_ret (v := .bool true) (by simp [results, Tryd.results6, go_sem]) rfl ⟨rfl, HBl.out⟩
  · by_cases c1 : room0 < 1
    · have t1 : decide (room0 < 1) = true := decide_eq_true c1
      clear hg c1
      go_enter Tryd.func6, Tryd.ntmps6
      go_wp2_with fail
      refine HA.out.mono ?_
      rintro e w1 ⟨rfl, hb⟩
      go_wp2_with fail
      refine bodyPost_ret (v := .bool true) (by simp [results, Tryd.results6, go_sem]) rfl ⟨rfl, ?_⟩
      first | exact hb | exact bl_drew hb | exact bl_drewN hb _
    · have t1 : decide (room0 < 1) = false := decide_eq_false c1
      by_cases c2 : 20 < room0
      · have t2 : decide (20 < room0) = true := decide_eq_true c2
        clear hg c1 c2
        go_enter Tryd.func6, Tryd.ntmps6
        go_wp2_with fail
        refine HA.out.mono ?_
        rintro e w1 ⟨rfl, hb⟩
        go_wp2_with fail
        refine bodyPost_ret (v := .bool true) (by simp [results, Tryd.results6, go_sem]) rfl ⟨rfl, ?_⟩
        first | exact hb | exact bl_drew hb | exact bl_drewN hb _
      · have t2 : decide (20 < room0) = false := decide_eq_false c2
        by_cases c3 : tables0 < 1
        · have t3 : decide (tables0 < 1) = true := decide_eq_true c3
          clear hg c1 c2 c3
          go_enter Tryd.func6, Tryd.ntmps6
          go_wp2_with fail
          refine HA.out.mono ?_
          rintro e w1 ⟨rfl, hb⟩
          go_wp2_with fail
          refine bodyPost_ret (v := .bool true) (by simp [results, Tryd.results6, go_sem]) rfl ⟨rfl, ?_⟩
          first | exact hb | exact bl_drew hb | exact bl_drewN hb _
        · have t3 : decide (tables0 < 1) = false := decide_eq_false c3
          by_cases c4 : 10 < tables0
          · have t4 : decide (10 < tables0) = true := decide_eq_true c4
            clear hg c1 c2 c3 c4
            go_enter Tryd.func6, Tryd.ntmps6
            go_wp2_with fail
            refine HA.out.mono ?_
            rintro e w1 ⟨rfl, hb⟩
            go_wp2_with fail
            refine bodyPost_ret (v := .bool true) (by simp [results, Tryd.results6, go_sem]) rfl ⟨rfl, ?_⟩
            first | exact hb | exact bl_drew hb | exact bl_drewN hb _
          · have t4 : decide (10 < tables0) = false := decide_eq_false c4
            have t5 : decide ((40 : Int) < (xs.length : Int)) = true := decide_eq_true (by
              apply Classical.byContradiction
              intro h
              exact hg ⟨⟨by omega, by omega⟩, ⟨by omega, by omega⟩, by omega⟩)
            have t5' : decide (40 < xs.length) = true := decide_eq_true (by have := of_decide_eq_true t5; omega)
            clear hg c1 c2 c3 c4
            go_enter Tryd.func6, Tryd.ntmps6
            go_wp2_with fail
            refine HA.out.mono ?_
            rintro e w1 ⟨rfl, hb⟩
            go_wp2_with fail
            refine bodyPost_ret (v := .bool true) (by simp [results, Tryd.results6, go_sem]) rfl ⟨rfl, ?_⟩
            first | exact hb | exact bl_drew hb | exact bl_drewN hb _
end Go.Proofs.YtkebkmbfglodlaaDoor
