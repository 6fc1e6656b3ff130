/- EcsRows: the walk of the law. No condition but the laid table. -/
import Derived.Test.YtkebkmbfglodlaaDoorEr2
set_option linter.unusedVariables false
set_option linter.unusedSimpArgs false
set_option maxRecDepth 100000
namespace Go.Proofs.YtkebkmbfglodlaaDoor
open Go.RowKit
theorem eqId (d : Nat) (w : World) (x0 y0 x1 y1 : Int) :
    (Op.equalIn (d + 2) 31 (.agg #[.int .i64 x0, .int .i64 x1]) (.agg #[.int .i64 y0, .int .i64 y1])).run Tryd.prog w = .ok (x0 == y0 && (x1 == y1)) w := by
  refine seq_of Tryd.underlying31 (by kernel_rfl) ?_
  refine seq_cons (by rfl) (by go_simp; rfl) (by go_simp; rfl) (by go_simp) ?_
  exact seq_last (by rfl) (by go_simp; rfl) (by go_simp; rfl) (by go_simp)
attribute [local go_sem high] eqId
/-- What the law keeps of its store. -/
def Kp (q pi bt bm nm k : Nat) (sl : List (Int × Bool)) (fr : List Int) (D : List TD) (M : Int × Int → Option Nat) (made : List (Int × Int)) (xs : List Int) : Prop :=
  WF sl D M k ∧ I.Inv (I.rm 100) k sl fr made (List.replicate k true) (k : Nat) ∧ One D made xs ∧ made.length = k
theorem WF.spawn {pi : Nat} {room : Int} {sl sl' : List (Int × Bool)} {fr fr' : List Int} {D D' : List TD} {M : Int × Int → Option Nat} {n m : Nat} {id : Int × Int} {cells : List (Int × Int)} (h : WF sl D M n) (hk : MkOk pi room sl fr id sl' fr') (hm : m < 65536) (hP : PutD D m id cells D') : WF sl' D' (fput M id (some m)) (n + 1) := by
  have hM : M id = none := by
    have := h.alive id
    rw [hk.new] at this
    simpa using this
  refine (h.wt.put hm hk.ok hM hP).wf fun id' => ?_
  rw [hk.alive id']
  unfold fput
  by_cases e : id' = id
  · rw [if_pos e]; simp [e]
  · rw [if_neg e, h.alive id']; simp [e]
set_option maxHeartbeats 51200000 in
theorem rows_walk (n0 at0 : Int) (vv : Value) (xs : List Int) (w : World) (hT : GTab w) (h0 : (Lit.int .i64 n0).wf = true) (h1 : (Lit.int .i64 at0).wf = true) (hd : Rd w 1 encI vv xs) :
    Calls Tryd.prog 7 #[.int .i64 n0, .int .i64 at0, vv] w fun e w' => e = .returned (.bool true) ∧ Below w.heap.size w w' := by
  obtain ⟨A, c, rfl, hc, hnm⟩ := hd.shape
  have HT := As.mk hT
  have HD := As.mk hd
  have HA := As.mk (alive_does w hT)
  have hxb : (xs.length : Int) ≤ 9223372036854775807 := by omega
  clear h0 h1 hd hT
  by_cases hg : (1 ≤ n0 ∧ n0 ≤ 30) ∧ (0 ≤ at0 ∧ at0 < n0) ∧ n0 ≤ xs.length
  · obtain ⟨⟨g1, g2⟩, ⟨g3, g4⟩, g5⟩ := hg
    obtain ⟨n, rfl⟩ : ∃ n : Nat, n0 = (n : Int) := ⟨n0.toNat, by omega⟩
    obtain ⟨at1, rfl⟩ : ∃ k : Nat, at0 = (k : Int) := ⟨at0.toNat, by omega⟩
    have t1 : decide ((n : Int) < 1) = false := decide_eq_false (by omega)
    have t2 : decide ((30 : Int) < (n : Int)) = false := decide_eq_false (by omega)
    have t3 : decide ((at1 : Int) < 0) = false := decide_eq_false (by omega)
    have t4 : decide ((n : Int) ≤ (at1 : Int)) = false := decide_eq_false (by omega)
    have t4' : decide (n ≤ at1) = false := decide_eq_false (by omega)
    have t5 : decide ((xs.length : Int) < (n : Int)) = false := decide_eq_false (by omega)
    have t5' : decide (xs.length < n) = false := decide_eq_false (by omega)
    have HN := As.mk (⟨by omega, by omega, by omega, by omega⟩ : 1 ≤ n ∧ n ≤ 30 ∧ at1 < n ∧ n ≤ xs.length)
    clear g1 g2 g3 g4 g5
    go_enter Tryd.func7, Tryd.ntmps7
    go_wp2_with fail
    refine HA.out.mono ?_
    rintro e w1 ⟨rfl, hb⟩
    have HB := As.mk hb
    have HC := As.mk (snew_does (At.start0 hb) 100 10)
    clear hb HA
    go_wp2_with fail
    refine HC.out.mono ?_
    rintro e w2 ⟨q, pi, bt, bm, rfl, hS⟩
    have hS1 := (hS.nilRow 31 2 encId).stIn
    clear HC hS
    go_wp2_with fail
    clear t1 t2 t3 t4 t4' t5 t5'
    go_loopg [9, 10] n (fun g0 mv iv wr => ∃ (k nm : Nat) (sl : List (Int × Bool)) (fr : List Int) (D : List TD) (M : Int × Int → Option Nat) (made : List (Int × Int)), k + g0 = n ∧ iv = .int .i64 (k : Nat) ∧ As (Kp q pi bt bm nm k sl fr D M made xs) ∧ At (fun _ => False) w wr (Hp.seps (stL q pi bt bm (mostF 10) (I.rm 100) nm sl fr D M [Hp.row 31 2 encId mv made])))
    case atStart => exact ⟨0, 0, [], [], [], noM, [], by omega, rfl, ⟨wf0, I.Inv.start (I.rm 100) (by decide), .inl ⟨rfl, rfl⟩, rfl⟩, hS1⟩
    case round =>
      clear hS1
      obtain ⟨k, nm, sl, fr, D, M, made, hk, rfl, HK, hS⟩ := hrel
      by_cases hlt : k < n
      · obtain ⟨v, hv⟩ : ∃ v, xs[k]? = some v := ⟨_, List.getElem?_eq_getElem (by have := HN.out; omega)⟩
        obtain ⟨b, off, rfl, hb, hcell⟩ := (HD.out.below hS.bl).cells A xs.length c rfl k v hv
        have f0 := hcell 0 (by decide)
        simp only [encI, List.getElem?_cons_zero, Nat.add_zero, Nat.mul_one] at f0
        have hkx : (k : Int) < (xs.length : Int) := by have := HN.out; omega
        have hS1 := ((hS.alloc #[.int .i64 0, .int .i64 v] 33).rowOfBlk1 2 encId ((0 : Int), v) rfl).stIn
        have HI : As (∃ id sl' fr', MkOk pi (I.rm 100) sl fr id sl' fr' ∧ I.Inv (I.rm 100) (k + 1) sl' fr' (made ++ [id]) (List.replicate (k + 1) true) ((k : Nat) + 1)) := ⟨by
          have e100 : I.rm 100 = 100 := by decide
          have hkn := HN.out
          obtain ⟨id, sl', fr', h, _, _, h2⟩ := mk_ok HK.out.2.1 (by decide) (by omega) (by rw [e100]; omega) pi
          exact ⟨id, sl', fr', h, by rw [List.replicate_succ']; exact h2⟩⟩
        have HSp := As.mk (spawn_does (cells := [((0 : Int), v)]) False (fun id sl' fr' => I.Inv (I.rm 100) (k + 1) sl' fr' (made ++ [id]) (List.replicate (k + 1) true) ((k : Nat) + 1)) HT.out HK.out.1 (by have := HN.out; omega) (.inl HI.out) (.slice (some ⟨wr.heap.size, 0, none⟩) 1 1) (by simp) (fun w' L' h => (h.rowAt L'.length (by rw [List.getElem?_append_right (Nat.le_refl _), Nat.sub_self]; rfl)).rd encId_len) hS1)
        have s1 : IntKind.i64.wrap ((k : Int) + 1) = ((k + 1 : Nat) : Int) := by rw [IntKind.wrap_i64]; omega
        have HV := As.mk (⟨hv, hk⟩ : _ ∧ _)
        clear hS hS1 hcell hb hv hk HI
        go_wp2_with fail
        refine HSp.out.mono ?_
        rintro e w3 (⟨e0, hz, rfl, hS⟩ | ⟨m, id, sl', fr', D', hm, hfu, hmk, hInv, hP, rfl, hS⟩)
        · exfalso
          have hone : maskC [((0 : Int), v)] = some 1 := maskC_one 0 v (by decide)
          rcases hz with ⟨hz, _⟩ | ⟨m, hz, _, hz2 | hz2⟩
          · rw [hone] at hz; cases hz
          · unfold fullB at hz2
            have h10 : mostF 10 = 10 := by decide
            have := HK.out.2.2.1.len
            rw [h10, Bool.and_eq_true, decide_eq_true_eq] at hz2
            omega
          · exact hz2
        · have hone : maskC [((0 : Int), v)] = some 1 := maskC_one 0 v (by decide)
          rw [hone] at hm
          injection hm with hm
          subst hm
          have HKn : As (Kp q pi bt bm (nm + 1) (k + 1) sl' fr' D' (fput M id (some 1)) (made ++ [id]) xs) := ⟨HK.out.1.spawn hmk (by decide) hP, by have := hInv; simpa using this, HK.out.2.2.1.spawn (by rw [HK.out.2.2.2]; exact HV.out.1) hP, by rw [List.length_append, HK.out.2.2.2]; rfl⟩
          have HMl : As (made.length ≤ 30) := ⟨by rw [HK.out.2.2.2]; have := HN.out; omega⟩
          clear HSp hfu hmk hInv hP hone
          obtain ⟨a1, a2⟩ := id
          obtain ⟨Dm, n2, c2, rfl⟩ := (hS.rowAt 6 rfl).slice
          have HS2 := As.mk ((hS.alloc #[.int .i64 a1, .int .i64 a2] 31))
          clear hS
          go_wp2_with fail
          refine (num_does 0 _).mono ?_
          rintro e w4 ⟨rfl, rfl⟩
          go_wp2_with (at_builtin; refine rw_append rfl (.tmp 67) (.tmp 69) 26 31 2 encId (.agg #[.int .i64 0, .int .i64 0]) 16 rfl Tryd.underlying26 Tryd.infoD rfl (by decide) (.slice Dm n2 c2) made (a1, a2) rfl _ rfl (by first | exact blk_new (by simp) | exact blk_new_drew (by simp)) ((HS2.out.below (by repeat (first | exact Below.refl _ _ | refine bl_drewN ?_ _ | refine Below.drew ?_ | refine bl_alloc ?_ _ | refine bl_set ?_ (by first | (simp; done) | omega | (simp; omega)) _))).rowAt 7 rfl) encId_len (one_id _) ?c1 ?c2 ?c3)
          case c1 => have := HMl.out; simp only [maxLen]; omega
          case c2 => have := HMl.out; omega
          case c3 =>
            intro v1 w5 hA
            have hS3 := At.appendAt 7 hA HS2.out rfl (by repeat (first | exact Below.refl _ _ | refine bl_drewN ?_ _ | refine Below.drew ?_ | refine bl_alloc ?_ _ | refine bl_set ?_ (by first | (simp; done) | omega | (simp; omega)) _))
            clear hA HS2
            go_wp2_with fail
            go_roundg (n - (k + 1))
            case measure => have := HV.out.2; omega
            case rel => exact ⟨k + 1, nm + 1, sl', fr', D', _, made ++ [(a1, a2)], by have := HV.out.2; omega, rfl, HKn, (hS3.dropAt 6 (by simp [stL])).dropAt 0 (by simp [stL])⟩
      · obtain rfl : k = n := by omega
        obtain ⟨id, hid⟩ : ∃ id, made[at1]? = some id := ⟨_, List.getElem?_eq_getElem (by have := HK.out.2.2.2; have := HN.out; omega)⟩
        obtain ⟨p, R, hD, hids, hval⟩ : ∃ p R, D = [(1, p, R)] ∧ idsOf R = made ∧ ∀ (j : Nat) (x : TRow) (v : Int), R[j]? = some x → xs[j]? = some v → x.2 0 = v := by
          rcases HK.out.2.2.1 with ⟨h, _⟩ | h
          · rw [h] at hid; simp at hid
          · exact h
        obtain ⟨f, hR⟩ : ∃ f, R[at1]? = some (id, f) := by
          rw [← hids] at hid
          unfold idsOf at hid
          rw [List.getElem?_map] at hid
          cases hx : R[at1]? with
          | none => rw [hx] at hid; cases hid
          | some x => rw [hx] at hid; obtain ⟨a, f⟩ := x; simp at hid; subst hid; exact ⟨f, rfl⟩
        have hi : D[0]? = some (1, p, R) := by rw [hD]; rfl
        have hWF := HK.out.1
        have hM : M id = some 1 := hWF.back 0 1 p R hi id (List.mem_map.2 ⟨_, List.mem_of_getElem? hR, rfl⟩)
        have hh : hasI sl id = true := by rw [← hWF.alive id, hM]; rfl
        have hfu : fullB (mostF 10) D (1 ||| 2 ^ 1) = false := by
          have h10 : mostF 10 = 10 := by decide
          unfold fullB
          rw [h10, hD]
          simp
        have HP := As.mk (put_move HT.out hWF (by have := HN.out; omega) hS id (hWF.ok id 1 hM) 1 1 5 (by decide) (by decide) hh hM (by decide) hfu 0 p at1 R f hi hR)
        have HF := As.mk (fun (D' : List TD) hP => rows_facts (D' := D') hWF hD hids hval hR hP)
        obtain ⟨b1, b2⟩ := id
        obtain ⟨Dm, n2, c2, rfl⟩ := (hS.rowAt 5 rfl).slice
        obtain rfl : n2 = k := by rw [((hS.rowAt 5 rfl).rd encId_len).len.1]; exact HK.out.2.2.2
        obtain ⟨g, rfl, _, hcell⟩ := (hS.rowAt 5 rfl).cell encId_len at1 _ hid
        have f0 := (hcell 0 (by decide)).1
        have f1 := (hcell 1 (by decide)).1
        simp only [encId, List.getElem?_cons_zero, List.getElem?_cons_succ, Nat.add_zero] at f0 f1
        have hat : (at1 : Int) < (n2 : Int) := by have := HN.out; omega
        have HID := As.mk hid
        have HSP := As.mk (⟨hD, hids, hh⟩ : _ ∧ _ ∧ _)
        simp only at HP HF
        clear hS hcell hid hD hids hval hR hi hWF hM hh hfu hk
        go_wp2_with fail
        refine HP.out.mono ?_
        rintro e w3 ⟨rfl, D', hP, hS⟩
        obtain ⟨hW2, hDl, hQ, hE⟩ := HF.out D' hP
        have HQu := As.mk (query_does sorts12 (by decide) (by rw [hDl]; decide) hW2 (by have := HN.out; omega) 1 0 (by decide) (by decide) hS)
        have HW2 := As.mk hW2
        have HE := As.mk hE
        have HQ := As.mk hQ
        clear HP HF hS hP hW2 hDl hQ hE f0 f1
        go_wp2_with fail
        refine HQu.out.mono ?_
        rintro e w4 ⟨lv, ss, rfl, hss, hS⟩
        rw [HQ.out ss hss.out] at hS
        have hS := hS.stIn
        clear HQu HQ hss
        have hatl : at1 < made.length := (List.getElem?_eq_some_iff.1 HID.out).1
        have hml : made.length = n2 := HK.out.2.2.2
        have hsl : (swp made at1).length = n2 - 1 := by rw [swp_len hatl, hml]
        obtain ⟨n1, hn1⟩ : ∃ n1, n1 = n2 - 1 := ⟨_, rfl⟩
        have hn2 := HN.out.1
        have hLl : (swp made at1 ++ [(b1, b2)]).length = n2 := by rw [List.length_append, hsl]; simp; omega
        obtain ⟨Dl, n3, c3, rfl⟩ := (hS.rowAt 5 rfl).slice
        obtain rfl : n3 = n2 := by rw [((hS.rowAt 5 rfl).rd encId_len).len.1]; exact hLl
        have hLn : (swp made at1 ++ [(b1, b2)])[n1]? = some (b1, b2) := by rw [List.getElem?_append_right (by omega), hsl, hn1, Nat.sub_self]; rfl
        obtain ⟨g2, rfl, _, hc2⟩ := (hS.rowAt 5 rfl).cell encId_len n1 _ hLn
        obtain ⟨g', e', _, hc1⟩ := (hS.rowAt 6 rfl).cell encId_len at1 _ HID.out
        injection e' with e'
        injection e' with e' _
        subst e'
        have f0 := (hc1 0 (by decide)).1
        have f1 := (hc1 1 (by decide)).1
        have l0 := (hc2 0 (by decide)).1
        have l1 := (hc2 1 (by decide)).1
        simp only [encId, List.getElem?_cons_zero, List.getElem?_cons_succ, Nat.add_zero] at f0 f1 l0 l1
        have s1 : IntKind.i64.wrap ((n3 : Int) - 1) = (n1 : Int) := by rw [IntKind.wrap_i64]; have := HN.out; omega
        have hn1n : (n1 : Int) < (n3 : Int) := by omega
        have HS := As.mk hS
        have HLe := As.mk (⟨hml, hn1, hsl⟩ : _ ∧ _ ∧ _)
        clear hS hc1 hc2 hLn hLl hsl hml hatl hn1
        go_upto_region 15 with fail
        go_quiet (first | (go_at_call 11; refine Calls.quiet_of_same (num_does _ _)))
        have hS := HS.out.drewN nq
        clear f0 f1 l0 l1 HS
        go_wp2_with fail
        go_loopg [15] n1 (fun g0 iv wr => ∃ k : Nat, k + g0 = n1 ∧ iv = .int .i64 (k : Nat) ∧ At (fun _ => False) w wr (Hp.seps (stL q pi bt bm (mostF 10) (I.rm 100) (nm + 1) sl fr D' (fput M (b1, b2) (some (1 ||| 2 ^ 1))) [Hp.row 31 2 encId (.slice (some ⟨g2, 0, none⟩) n3 c3) (swp made at1 ++ [(b1, b2)]), Hp.row 31 2 encId (.slice (some ⟨g, 0, none⟩) n3 c2) made])))
        case atStart => exact ⟨0, Nat.zero_add _, rfl, hS⟩
        case round =>
          clear hS
          obtain ⟨k, hk, rfl, hS⟩ := hrel
          by_cases hlt : k < n1
          · obtain ⟨a, ha⟩ : ∃ a, made[k]? = some a := ⟨_, List.getElem?_eq_getElem (by have := HLe.out; omega)⟩
            obtain ⟨z, hz⟩ : ∃ z, made[n1]? = some z := ⟨_, List.getElem?_eq_getElem (by have := HLe.out; have := HN.out; omega)⟩
            have hL : (swp made at1 ++ [(b1, b2)])[k]? = some (if k = at1 then z else a) := by
              have h1 := HLe.out
              have h2 := HN.out
              rw [List.getElem?_append_left (by omega), swp_get (by omega), if_pos (by omega)]
              split
              · rw [show made.length - 1 = n1 by omega]; exact hz
              · exact ha
            obtain ⟨y, hy⟩ : ∃ y, (if k = at1 then z else a) = y := ⟨_, rfl⟩
            rw [hy] at hL
            obtain ⟨g', e', _, hc1⟩ := (hS.rowAt 6 rfl).cell encId_len k _ ha
            injection e' with e'; injection e' with e' _; subst e'
            obtain ⟨g', e', _, hc3⟩ := (hS.rowAt 6 rfl).cell encId_len n1 _ hz
            injection e' with e'; injection e' with e' _; subst e'
            obtain ⟨g', e', _, hc2⟩ := (hS.rowAt 5 rfl).cell encId_len k _ hL
            injection e' with e'; injection e' with e' _; subst e'
            obtain ⟨a1, a2⟩ := a
            obtain ⟨z1, z2⟩ := z
            obtain ⟨y1, y2⟩ := y
            have f0 := (hc1 0 (by decide)).1
            have f1 := (hc1 1 (by decide)).1
            have z0 := (hc3 0 (by decide)).1
            have zz1 := (hc3 1 (by decide)).1
            have l0 := (hc2 0 (by decide)).1
            have l1 := (hc2 1 (by decide)).1
            simp only [encId, List.getElem?_cons_zero, List.getElem?_cons_succ, Nat.add_zero] at f0 f1 l0 l1 z0 zz1
            have glt := hS.row_lt 6 rfl
            have g2lt := hS.row_lt 5 rfl
            have hkn : (k : Int) < (n3 : Int) := by omega
            have hk1 : (k : Int) < (n1 : Int) := by omega
            have s2 : IntKind.i64.wrap ((k : Int) + 1) = ((k + 1 : Nat) : Int) := by rw [IntKind.wrap_i64]; have := HN.out; omega
            have HS := As.mk hS
            have HKk := As.mk hk
            clear hS hc1 hc2 hc3 ha hz hL hk
            by_cases hka : k = at1
            · subst hka
              rw [if_pos rfl] at hy
              injection hy with hy1 hy2
              subst hy1; subst hy2
              go_wp2_with fail
              clear z0 zz1 f0 f1 glt
              have hZ := HS.out.alloc #[.int .i64 z1, .int .i64 z2] 31
              have q0 := (hZ.cellAt 0 rfl 0).trans rfl
              have q1 := (hZ.cellAt 0 rfl 1).trans rfl
              have bZ : Below wr.heap.size wr (wr.alloc (.cells #[.int .i64 z1, .int .i64 z2] 31)) := (by repeat (first | exact Below.refl _ _ | refine bl_drewN ?_ _ | refine Below.drew ?_ | refine bl_alloc ?_ _ | refine bl_set ?_ (by first | (simp; done) | omega | (simp; omega)) _))
              have l0 := (bZ.cell (p := ⟨g2, k * 2, none⟩) g2lt).trans l0
              have l1 := (bZ.cell (p := ⟨g2, k * 2 + 1, none⟩) g2lt).trans l1
              have HZ := As.mk hZ
              clear hZ bZ
              go_quiet (fail)
              have hS := HZ.out.drewN nq
              clear HZ HS l0 l1 q0 q1
              go_wp2_with fail
              go_roundg (n1 - (k + 1))
              case measure => have := HKk.out; omega
              case rel => exact ⟨k + 1, by have := HKk.out; omega, rfl, hS.dropAt 0 (by simp [stL])⟩
            · rw [if_neg hka] at hy
              injection hy with hy1 hy2
              subst hy1; subst hy2
              have d0 : ((k : Int) == (at1 : Int)) = false := by rw [beq_eq_false_iff_ne]; omega
              go_wp2_with fail
              clear z0 zz1 f0 f1 glt d0
              have hZ := HS.out.alloc #[.int .i64 a1, .int .i64 a2] 31
              have q0 := (hZ.cellAt 0 rfl 0).trans rfl
              have q1 := (hZ.cellAt 0 rfl 1).trans rfl
              have bZ : Below wr.heap.size wr (wr.alloc (.cells #[.int .i64 a1, .int .i64 a2] 31)) := (by repeat (first | exact Below.refl _ _ | refine bl_drewN ?_ _ | refine Below.drew ?_ | refine bl_alloc ?_ _ | refine bl_set ?_ (by first | (simp; done) | omega | (simp; omega)) _))
              have l0 := (bZ.cell (p := ⟨g2, k * 2, none⟩) g2lt).trans l0
              have l1 := (bZ.cell (p := ⟨g2, k * 2 + 1, none⟩) g2lt).trans l1
              have HZ := As.mk hZ
              clear hZ bZ
              go_quiet (fail)
              have hS := HZ.out.drewN nq
              clear HZ HS l0 l1 q0 q1
              go_wp2_with fail
              go_roundg (n1 - (k + 1))
              case measure => have := HKk.out; omega
              case rel => exact ⟨k + 1, by have := HKk.out; omega, rfl, hS.dropAt 0 (by simp [stL])⟩
          · obtain rfl : k = n1 := by omega
            have HSn := As.mk hS
            clear hS hk
            have hk2 : ¬ k < k := by omega
            go_wp2_with fail
            go_loopg [17] n3 (fun g0 iv wr => ∃ k : Nat, k + g0 = n3 ∧ iv = .int .i64 (k : Nat) ∧ At (fun _ => False) w wr (Hp.seps (stL q pi bt bm (mostF 10) (I.rm 100) (nm + 1) sl fr D' (fput M (b1, b2) (some (1 ||| 2 ^ 1))) [Hp.row 31 2 encId (.slice (some ⟨g2, 0, none⟩) n3 c3) (swp made at1 ++ [(b1, b2)]), Hp.row 31 2 encId (.slice (some ⟨g, 0, none⟩) n3 c2) made])))
            case atStart => exact ⟨0, Nat.zero_add _, rfl, HSn.out⟩
            case round =>
              clear HSn
              obtain ⟨j, hj, rfl, hS⟩ := hrel
              by_cases hlt2 : j < n3
              · obtain ⟨a, ha⟩ : ∃ a, made[j]? = some a := ⟨_, List.getElem?_eq_getElem (by have := HLe.out; omega)⟩
                obtain ⟨v, hv⟩ : ∃ v, xs[j]? = some v := ⟨_, List.getElem?_eq_getElem (by have := HN.out; omega)⟩
                obtain ⟨b, off, rfl, hb, hcell⟩ := (HD.out.below hS.bl).cells A xs.length c rfl j v hv
                have v0 := hcell 0 (by decide)
                simp only [encI, List.getElem?_cons_zero, Nat.add_zero, Nat.mul_one] at v0
                obtain ⟨g', e', _, hc1⟩ := (hS.rowAt 6 rfl).cell encId_len j _ ha
                injection e' with e'; injection e' with e' _; subst e'
                obtain ⟨m, f', hEn, hm, ht, hf0⟩ := HE.out j a v ha hv
                obtain ⟨i, p', k', R', hi, hk'⟩ := hEn.at_
                have hMm := Ent.mask HW2.out.wt hEn
                have HG := As.mk (fun V h => get_yes (F0 := fun _ => False) (w0 := w) (w := V) (r := [Hp.row 31 2 encId (.slice (some ⟨g2, 0, none⟩) n3 c3) (swp made at1 ++ [(b1, b2)]), Hp.row 31 2 encId (.slice (some ⟨g, 0, none⟩) n3 c2) made]) (q := q) (pi := pi) (bt := bt) (bm := bm) (most := mostF 10) (room := I.rm 100) (nm := nm + 1) (sl := sl) (fr := fr) (D := D') (M := fput M (b1, b2) (some (1 ||| 2 ^ 1))) h HW2.out.nd a (HW2.out.ok a m hMm) 0 m (by decide) hm (by rw [← HW2.out.alive a, hMm]; rfl) hMm ht i p' k' R' f' hi hk' (HW2.out.rnd i m p' R' hi))
                have hf0' : f' ((0 : Nat) : Int) = v := hf0
                rw [hf0'] at HG
                obtain ⟨a1, a2⟩ := a
                have f0 := (hc1 0 (by decide)).1
                have f1 := (hc1 1 (by decide)).1
                simp only [encId, List.getElem?_cons_zero, List.getElem?_cons_succ, Nat.add_zero] at f0 f1
                have HG1 := As.mk (HG.out _ hS)
                have hjn : (j : Int) < (n3 : Int) := by omega
                have hjx : (j : Int) < (xs.length : Int) := by have := HN.out; omega
                have s2 : IntKind.i64.wrap ((j : Int) + 1) = ((j + 1 : Nat) : Int) := by rw [IntKind.wrap_i64]; have := HN.out; omega
                have HV0 := As.mk (⟨hv, hj⟩ : _ ∧ _)
                simp only at HG1
                clear hS hc1 ha hv hcell hb hEn hm ht hf0 hf0' hi hk' hMm HG hj v0
                go_wp2_with fail
                refine HG1.out.mono ?_
                rintro e w5 ⟨rfl, hS⟩
                obtain ⟨b', off', e', hb, hcell⟩ := (HD.out.below hS.bl).cells _ _ _ rfl j v HV0.out.1
                injection e' with e'; injection e' with e1' e2' _; subst e1'; subst e2'
                have v0 := hcell 0 (by decide)
                simp only [encI, List.getElem?_cons_zero, Nat.add_zero, Nat.mul_one] at v0
                have HS5 := As.mk hS
                clear hcell hb hS HG1 f0 f1
                go_wp2_with fail
                refine (num_does 0 _).mono ?_
                rintro e w6 ⟨rfl, rfl⟩
                go_wp2_with fail
                go_roundg (n3 - (j + 1))
                case measure => have := HV0.out.2; omega
                case rel => exact ⟨j + 1, by have := HV0.out.2; omega, rfl, HS5.out⟩
              · obtain rfl : j = n3 := by omega
                have HBl := As.mk hS.bl
                clear hS hj
                go_wp2_with fail
                refine bodyPost_ret (v := .bool true) (by simp [results, Tryd.results7, go_sem]) rfl ⟨rfl, HBl.out⟩
  · by_cases c1 : n0 < 1
    · have t1 : decide (n0 < 1) = true := decide_eq_true c1
      clear hg c1
      go_enter Tryd.func7, Tryd.ntmps7
      go_wp2_with fail
      refine HA.out.mono ?_
      rintro e w1 ⟨rfl, hb⟩
      go_wp2_with fail
      refine bodyPost_ret (v := .bool true) (by simp [results, Tryd.results7, go_sem]) rfl ⟨rfl, ?_⟩
      first | exact hb | exact bl_drew hb | exact bl_drewN hb _
    · have t1 : decide (n0 < 1) = false := decide_eq_false c1
      by_cases c2 : 30 < n0
      · have t2 : decide (30 < n0) = true := decide_eq_true c2
        clear hg c1 c2
        go_enter Tryd.func7, Tryd.ntmps7
        go_wp2_with fail
        refine HA.out.mono ?_
        rintro e w1 ⟨rfl, hb⟩
        go_wp2_with fail
        refine bodyPost_ret (v := .bool true) (by simp [results, Tryd.results7, go_sem]) rfl ⟨rfl, ?_⟩
        first | exact hb | exact bl_drew hb | exact bl_drewN hb _
      · have t2 : decide (30 < n0) = false := decide_eq_false c2
        by_cases c3 : at0 < 0
        · have t3 : decide (at0 < 0) = true := decide_eq_true c3
          clear hg c1 c2 c3
          go_enter Tryd.func7, Tryd.ntmps7
          go_wp2_with fail
          refine HA.out.mono ?_
          rintro e w1 ⟨rfl, hb⟩
          go_wp2_with fail
          refine bodyPost_ret (v := .bool true) (by simp [results, Tryd.results7, go_sem]) rfl ⟨rfl, ?_⟩
          first | exact hb | exact bl_drew hb | exact bl_drewN hb _
        · have t3 : decide (at0 < 0) = false := decide_eq_false c3
          by_cases c4 : n0 ≤ at0
          · have t4 : decide (n0 ≤ at0) = true := decide_eq_true c4
            clear hg c1 c2 c3 c4
            go_enter Tryd.func7, Tryd.ntmps7
            go_wp2_with fail
            refine HA.out.mono ?_
            rintro e w1 ⟨rfl, hb⟩
            go_wp2_with fail
            refine bodyPost_ret (v := .bool true) (by simp [results, Tryd.results7, go_sem]) rfl ⟨rfl, ?_⟩
            first | exact hb | exact bl_drew hb | exact bl_drewN hb _
          · have t4 : decide (n0 ≤ at0) = false := decide_eq_false c4
            have t5 : decide ((xs.length : Int) < n0) = true := decide_eq_true (by
              apply Classical.byContradiction
              intro h
              exact hg ⟨⟨by omega, by omega⟩, ⟨by omega, by omega⟩, by omega⟩)
            clear hg c1 c2 c3 c4
            go_enter Tryd.func7, Tryd.ntmps7
            go_wp2_with fail
            refine HA.out.mono ?_
            rintro e w1 ⟨rfl, hb⟩
            go_wp2_with fail
            refine bodyPost_ret (v := .bool true) (by simp [results, Tryd.results7, go_sem]) rfl ⟨rfl, ?_⟩
            first | exact hb | exact bl_drew hb | exact bl_drewN hb _
end Go.Proofs.YtkebkmbfglodlaaDoor
