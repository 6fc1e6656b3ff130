/- A store: Spawn. No condition but bounded sizes. -/
import Derived.Test.YtkebkmbfglodlaaDoorEs9
set_option linter.unusedVariables false
set_option linter.unusedSimpArgs false
set_option maxRecDepth 100000
namespace Go.Proofs.YtkebkmbfglodlaaDoor
open Go.RowKit
def addC (acc : Option Nat) (c : Int × Int) : Option Nat := match acc with | none => none | some m => if 0 ≤ c.1 ∧ c.1 < 16 ∧ m.testBit c.1.toNat = false then some (m ||| 2 ^ c.1.toNat) else none
def maskC (cells : List (Int × Int)) : Option Nat := cells.foldl addC (some 0)
theorem addC_none : ∀ (l : List (Int × Int)), l.foldl addC none = none
  | [] => rfl
  | x :: l => by rw [List.foldl_cons]; exact addC_none l
theorem maskC_take {cells : List (Int × Int)} {k : Nat} {c : Int × Int} (h : cells[k]? = some c) : maskC (cells.take (k + 1)) = addC (maskC (cells.take k)) c := by
  unfold maskC
  rw [List.take_add_one, h, Option.toList_some, List.foldl_append]
  rfl
theorem maskC_bad {cells : List (Int × Int)} {k : Nat} (h : maskC (cells.take k) = none) : maskC cells = none := by
  unfold maskC at *
  rw [← List.take_append_drop k cells, List.foldl_append, h, addC_none]
theorem addC_lt {m m' : Nat} {c : Int × Int} (hm : m < 65536) (h : addC (some m) c = some m') : m' < 65536 := by
  unfold addC at h
  simp only at h
  split at h
  · rename_i hc
    injection h with h
    rw [← h]
    refine Nat.or_lt_two_pow (n := 16) hm ?_
    exact Nat.pow_lt_pow_right (by decide) (by omega)
  · cases h
section
variable {w0 w : World} {q pi bt bm : Nat} {most room : Int} {nm : Nat} {sl : List (Int × Bool)} {fr : List Int} {D : List TD} {M : Int × Int → Option Nat} {r : List Hp}
def st5 (q pi bt bm : Nat) (most room : Int) (nm : Nat) (sl : List (Int × Bool)) (fr : List Int) (D : List TD) (M : Int × Int → Option Nat) : List Hp := [Hp.blk q #[.pointer (some ⟨pi, 0, none⟩), .int .i64 most, .map (some bt), .map (some bm)] 70, I.isIds pi room sl fr, Hp.mp Tryd.prog 35 bt D.length encM evP (tf D), Hp.mp Tryd.prog 31 bm nm encK encM M, Hp.many tbH D]
structure MkOk (pi : Nat) (room : Int) (sl : List (Int × Bool)) (fr : List Int) (id : Int × Int) (sl' : List (Int × Bool)) (fr' : List Int) : Prop where
  does : Does Tryd.prog 28 #[.pointer (some ⟨pi, 0, none⟩)] (I.isIds pi room sl fr) (fun e B => e = .returned (.tuple #[.agg #[.int .i64 id.1, .int .i64 id.2], .int .i64 0]) ∧ B = I.isIds pi room sl' fr')
  ok : okId id
  new : hasI sl id = false
  alive : ∀ id', hasI sl' id' = (decide (id' = id) || hasI sl id')
def MkNo (pi : Nat) (room : Int) (sl : List (Int × Bool)) (fr : List Int) : Prop := Does Tryd.prog 28 #[.pointer (some ⟨pi, 0, none⟩)] (I.isIds pi room sl fr) (fun e B => e = .returned (.tuple #[.agg #[.int .i64 0, .int .i64 0], .int .i64 10]) ∧ B = I.isIds pi room sl fr)
def SpawnR (no : Prop) (Ok : Int × Int → List (Int × Bool) → List Int → Prop) (w0 : World) (q pi bt bm : Nat) (most room : Int) (nm : Nat) (sl : List (Int × Bool)) (fr : List Int) (D : List TD) (M : Int × Int → Option Nat) (r : List Hp) (cells : List (Int × Int)) (e : Ending) (w' : World) : Prop :=
  (∃ e0 : Int, ((maskC cells = none ∧ e0 = 1) ∨ ∃ m, maskC cells = some m ∧ e0 = 10 ∧ (fullB most D m = true ∨ no)) ∧ e = .returned (.tuple #[.agg #[.int .i64 0, .int .i64 0], .int .i64 e0]) ∧ At (fun _ => False) w0 w' (Hp.seps (stL q pi bt bm most room nm sl fr D M r))) ∨
  (∃ (m : Nat) (id : Int × Int) (sl' : List (Int × Bool)) (fr' : List Int) (D' : List TD), maskC cells = some m ∧ fullB most D m = false ∧ MkOk pi room sl fr id sl' fr' ∧ Ok id sl' fr' ∧ PutD D m id cells D' ∧ e = .returned (.tuple #[.agg #[.int .i64 id.1, .int .i64 id.2], .int .i64 0]) ∧ At (fun _ => False) w0 w' (Hp.seps (stL q pi bt bm most room (nm + 1) sl' fr' D' (fput M id (some m)) r)))
set_option maxHeartbeats 25600000 in
theorem spawn_does {n : Nat} (no : Prop) (Ok : Int × Int → List (Int × Bool) → List Int → Prop) (hT : GTab w0) (hWF : WF sl D M n) (hn : n ≤ 100000) (hMk : (∃ id sl' fr', MkOk pi room sl fr id sl' fr' ∧ Ok id sl' fr') ∨ (no ∧ MkNo pi room sl fr)) (cv : Value) (cells : List (Int × Int)) (hl : cells.length ≤ 1000) (hRd : ∀ w' L', At (fun _ => False) w0 w' (Hp.seps (L' ++ r)) → Rd w' 2 encId cv cells)
    (hS : At (fun _ => False) w0 w (Hp.seps (stL q pi bt bm most room nm sl fr D M r))) :
    Calls Tryd.prog 10 #[.pointer (some ⟨q, 0, none⟩), cv] w fun e w' => SpawnR no Ok w0 q pi bt bm most room nm sl fr D M r cells e w' := by
  obtain ⟨Ac, cc, rfl, hcc, hcm⟩ := (hRd w (st5 q pi bt bm most room nm sl fr D M) hS).shape
  have HT := As.mk hT
  have HW := As.mk hWF
  have HMk := As.mk hMk
  have HRd := As.mk hRd
  have hS1 := (hS.alloc #[.int .i64 0, .int .i64 0] 31).stIn
  obtain ⟨x, hxx⟩ : ∃ x, x = w.heap.size := ⟨_, rfl⟩
  obtain ⟨W, hW⟩ : ∃ W, W = w.alloc (.cells #[.int .i64 0, .int .i64 0] 31) := ⟨_, rfl⟩
  rw [← hW, ← hxx] at hS1
  have HX := As.mk (⟨hW.symm, hxx.symm⟩ : _ ∧ _)
  clear hS hT hWF hMk hRd hW hxx
  go_enter Tryd.func10, Tryd.ntmps10
  go_upto_region 1 with fail
  rw [HX.out.1, HX.out.2]
  go_wp2_with fail
  go_loopg [6, 15] cells.length (fun g0 mv iv wr => ∃ (k m : Nat), k + g0 = cells.length ∧ mv = .int .u16 (m : Nat) ∧ iv = .int .i64 (k : Nat) ∧ As (maskC (cells.take k) = some m ∧ m < 65536) ∧ At (fun _ => False) w0 wr (Hp.seps (stL q pi bt bm most room nm sl fr D M (Hp.blk x #[.int .i64 0, .int .i64 0] 31 :: r))))
  case atStart => exact ⟨0, 0, by omega, rfl, rfl, ⟨rfl, by decide⟩, hS1⟩
  case round =>
    clear hS1
    obtain ⟨k, m, hk, rfl, rfl, HM, hS⟩ := hrel
    by_cases hlt : k < cells.length
    · obtain ⟨c, hc⟩ : ∃ c, cells[k]? = some c := ⟨_, List.getElem?_eq_getElem hlt⟩
      obtain ⟨b, off, rfl, hb, hcell⟩ := (HRd.out wr (st5 q pi bt bm most room nm sl fr D M ++ [Hp.blk x #[.int .i64 0, .int .i64 0] 31]) hS).cells _ _ _ rfl k c hc
      have f0 := hcell 0 (by decide)
      have f1 := hcell 1 (by decide)
      obtain ⟨c1, c2⟩ := c
      simp only [encId, List.getElem?_cons_zero, List.getElem?_cons_succ, Nat.add_zero] at f0 f1
      have hkn : (k : Int) < (cells.length : Int) := by omega
      have HK := As.mk (⟨hk, hc⟩ : _ ∧ _)
      have s1 : IntKind.i64.wrap ((k : Int) + 1) = ((k + 1 : Nat) : Int) := by rw [IntKind.wrap_i64]; omega
      clear hk hc hcell
      have p0 := (hS.cellAt 5 rfl 0).trans rfl
      have p1 := (hS.cellAt 5 rfl 1).trans rfl
      have pf0 := hS.frozenAt 5 rfl 0
      have pf1 := hS.frozenAt 5 rfl 1
      have plt := hS.ltAt 5 rfl
      have HS := As.mk hS
      clear hS
      by_cases hok : 0 ≤ c1 ∧ c1 < 16
      · obtain ⟨k1, rfl⟩ : ∃ k1 : Nat, c1 = (k1 : Int) := ⟨c1.toNat, by omega⟩
        have hk1 : k1 < 16 := by omega
        have HB := As.mk (fun V => bit_yes k1 hk1 V)
        obtain ⟨pw, hpw⟩ : ∃ pw, pw = 2 ^ k1 := ⟨_, rfl⟩
        obtain ⟨an, han⟩ : ∃ an, an = m &&& 2 ^ k1 := ⟨_, rfl⟩
        have a0 : bits .and .u16 (m : Int) (pw : Int) = (an : Int) := by rw [hpw, and_ne m k1 HM.out.2 hk1, han]
        have hpl : pw < 65536 := by rw [hpw]; exact Nat.lt_of_lt_of_le (Nat.pow_lt_pow_right (by decide) hk1) (by decide)
        obtain ⟨on, hon⟩ : ∃ on, on = m ||| pw := ⟨_, rfl⟩
        have o0 : bits .or .u16 (m : Int) (pw : Int) = (on : Int) := by rw [u16_or_nat m pw HM.out.2 hpl, hon]
        rw [← hpw] at HB
        by_cases ht : m.testBit k1 = true
        · have a1' : ((an : Int) == 0) = false := by
            rw [beq_eq_false_iff_ne, han]
            intro h
            have := (testBit_and m k1).1 (by omega)
            rw [ht] at this
            cases this
          have HE : As (maskC cells = none) := ⟨maskC_bad (k := k + 1) (by rw [maskC_take HK.out.2, HM.out.1]; unfold addC; simp [ht])⟩
          clear hok hk1 hpw han hpl hon ht
          go_wp2_with fail
          refine (HB.out _).mono ?_
          rintro e w' ⟨rfl, rfl⟩
          go_wp2_with fail
          have hF := ((HS.out.setBlkAt 5 rfl 0 (.int .i64 0)).setBlkAt 5 rfl 1 (.int .i64 0)).alloc #[.int .i64 (k1 : Nat), .int .i64 c2] 33
          have e0 := (hF.cellAt 6 rfl 0).trans rfl
          have e1 := (hF.cellAt 6 rfl 1).trans rfl
          refine bodyPost_ret (v := .tuple #[.agg #[.int .i64 0, .int .i64 0], .int .i64 1]) (by simp [results, Tryd.results10, go_sem, e0, e1]) rfl (.inl ⟨1, .inl ⟨HE.out, rfl⟩, rfl, ?_⟩)
          exact (hF.dropAt 6 (by simp [stL])).dropAt 0 (by simp [stL])
        · have ht : m.testBit k1 = false := by simpa using ht
          have a1' : ((an : Int) == 0) = true := by
            rw [beq_iff_eq, han, (testBit_and m k1).2 ht]; rfl
          have HE : As (maskC (cells.take (k + 1)) = some on ∧ on < 65536) := ⟨by rw [maskC_take HK.out.2, HM.out.1]; unfold addC; simp [ht, hon, hpw]; omega, by rw [hon]; exact Nat.or_lt_two_pow (n := 16) HM.out.2 hpl⟩
          clear hok hk1 hpw han hpl hon ht p0 p1 pf0 pf1 plt
          go_wp2_with fail
          refine (HB.out _).mono ?_
          rintro e w' ⟨rfl, rfl⟩
          go_wp2_with fail
          go_roundg (cells.length - (k + 1))
          case measure => have := HK.out.1; omega
          case rel => exact ⟨k + 1, on, by have := HK.out.1; omega, rfl, rfl, HE, HS.out.below (by repeat (first | exact Below.refl _ _ | refine bl_drewN ?_ _ | refine Below.drew ?_ | refine bl_alloc ?_ _ | refine bl_set ?_ (by first | (simp; done) | omega | (simp; omega)) _))⟩
      · have HB := As.mk (fun V => bit_no c1 (by omega) V)
        have HE : As (maskC cells = none) := ⟨maskC_bad (k := k + 1) (by rw [maskC_take HK.out.2, HM.out.1]; unfold addC; simp only; rw [if_neg (fun h => hok ⟨h.1, h.2.1⟩)])⟩
        clear hok
        go_wp2_with fail
        refine (HB.out _).mono ?_
        rintro e w' ⟨rfl, rfl⟩
        go_wp2_with fail
        have hF := ((HS.out.setBlkAt 5 rfl 0 (.int .i64 0)).setBlkAt 5 rfl 1 (.int .i64 0)).alloc #[.int .i64 c1, .int .i64 c2] 33
        have e0 := (hF.cellAt 6 rfl 0).trans rfl
        have e1 := (hF.cellAt 6 rfl 1).trans rfl
        refine bodyPost_ret (v := .tuple #[.agg #[.int .i64 0, .int .i64 0], .int .i64 1]) (by simp [results, Tryd.results10, go_sem, e0, e1]) rfl (.inl ⟨1, .inl ⟨HE.out, rfl⟩, rfl, ?_⟩)
        exact (hF.dropAt 6 (by simp [stL])).dropAt 0 (by simp [stL])
    · obtain rfl : k = cells.length := by omega
      rw [List.take_length] at HM
      have HF := As.mk (full_does HW.out.nd hS m HM.out.2)
      have HF0 := hS
      clear hk
      go_wp2_with fail
      refine HF.out.mono ?_
      rintro e w1 ⟨rfl, hS⟩
      clear HF HF0
      have p0 := (hS.cellAt 5 rfl 0).trans rfl
      have p1 := (hS.cellAt 5 rfl 1).trans rfl
      have pf0 := hS.frozenAt 5 rfl 0
      have pf1 := hS.frozenAt 5 rfl 1
      have plt := hS.ltAt 5 rfl
      have HS := As.mk hS
      clear hS
      cases hfu : fullB most D m with
      | true =>
        have HE := As.mk hfu
        clear hfu
        go_wp2_with fail
        have hF := (HS.out.setBlkAt 5 rfl 0 (.int .i64 0)).setBlkAt 5 rfl 1 (.int .i64 0)
        have e0 := (hF.cellAt 5 rfl 0).trans rfl
        have e1 := (hF.cellAt 5 rfl 1).trans rfl
        refine bodyPost_ret (v := .tuple #[.agg #[.int .i64 0, .int .i64 0], .int .i64 10]) (by simp [results, Tryd.results10, go_sem, e0, e1]) rfl (.inl ⟨10, .inr ⟨m, HM.out.1, rfl, .inl HE.out⟩, rfl, ?_⟩)
        exact hF.dropAt 5 (by simp [stL])
      | false =>
        have HE := As.mk hfu
        clear hfu
        have q0 : w1.cell? ⟨q, 0, none⟩ = some (.pointer (some ⟨pi, 0, none⟩)) := (HS.out.cellAt 0 rfl 0).trans rfl
        rcases HMk.out with ⟨id, sl', fr', hmk, hOk⟩ | ⟨hyes, hno⟩
        · have HC : As (Calls Tryd.prog 28 #[.pointer (some ⟨pi, 0, none⟩)] w1 fun e w' => e = .returned (.tuple #[.agg #[.int .i64 id.1, .int .i64 id.2], .int .i64 0]) ∧ At (fun _ => False) w0 w' (Hp.seps (stL q pi bt bm most room nm sl' fr' D M (Hp.blk x #[.int .i64 0, .int .i64 0] 31 :: r)))) := ⟨(HS.out.callAt 1 rfl hmk.does).mono fun e w' ⟨B, ⟨h1, h2⟩, h3⟩ => ⟨h1, by subst h2; exact h3⟩⟩
          have HMK := As.mk hmk
          have HOk := As.mk hOk
          clear hOk p0 p1 pf0 pf1 plt hmk
          go_wp2_with fail
          refine HC.out.mono ?_
          rintro e w2 ⟨rfl, hS⟩
          clear HC q0
          obtain ⟨a1, a2⟩ := id
          have hS2 := (hS.alloc #[.int .i64 a1, .int .i64 a2] 31).stIn
          have HP := As.mk (put_does HT.out hS2 HW.out.nd (a1, a2) HMK.out.ok m HM.out.2 (fun j p' Q hj => by
            have h1 : M (a1, a2) = none := by
              have := HW.out.alive (a1, a2)
              rw [HMK.out.new] at this
              simpa using this
            refine ⟨ix_none fun hx => ?_, by have := HW.out.len j m p' Q hj; omega⟩
            have := HW.out.back j m p' Q hj (a1, a2) hx
            rw [h1] at this
            cases this) _ cells (fun w' L' h => HRd.out w' (L' ++ [Hp.blk w2.heap.size #[.int .i64 a1, .int .i64 a2] 31, Hp.blk x #[.int .i64 0, .int .i64 0] 31]) (by rw [List.append_assoc]; exact h)))
          clear hS hS2
          go_wp2_with fail
          refine HP.out.mono ?_
          rintro e w3 ⟨rfl, D', hD', hS⟩
          clear HP
          have y0 := (hS.cellAt 5 rfl 0).trans rfl
          have y1 := (hS.cellAt 5 rfl 1).trans rfl
          have p0 := (hS.cellAt 6 rfl 0).trans rfl
          have p1 := (hS.cellAt 6 rfl 1).trans rfl
          have pf0 := hS.frozenAt 6 rfl 0
          have pf1 := hS.frozenAt 6 rfl 1
          have plt := hS.ltAt 6 rfl
          have hF := (hS.setBlkAt 6 rfl 0 (.int .i64 a1)).setBlkAt 6 rfl 1 (.int .i64 a2)
          have HF := As.mk hF
          clear hS hF
          go_wp2_with fail
          have e0 := (HF.out.cellAt 6 rfl 0).trans rfl
          have e1 := (HF.out.cellAt 6 rfl 1).trans rfl
          refine bodyPost_ret (v := .tuple #[.agg #[.int .i64 a1, .int .i64 a2], .int .i64 0]) (by simp [results, Tryd.results10, go_sem, e0, e1]) rfl (.inr ⟨m, (a1, a2), sl', fr', D', HM.out.1, HE.out, HMK.out, HOk.out, hD', rfl, ?_⟩)
          exact (HF.out.dropAt 6 (by simp [stL])).dropAt 5 (by simp [stL])
        · have hno' : Does Tryd.prog 28 #[.pointer (some ⟨pi, 0, none⟩)] (I.isIds pi room sl fr) (fun e B => e = .returned (.tuple #[.agg #[.int .i64 0, .int .i64 0], .int .i64 10]) ∧ B = I.isIds pi room sl fr) := hno
          have HNo := As.mk hyes
          have HC : As (Calls Tryd.prog 28 #[.pointer (some ⟨pi, 0, none⟩)] w1 fun e w' => e = .returned (.tuple #[.agg #[.int .i64 0, .int .i64 0], .int .i64 10]) ∧ At (fun _ => False) w0 w' (Hp.seps (stL q pi bt bm most room nm sl fr D M (Hp.blk x #[.int .i64 0, .int .i64 0] 31 :: r)))) := ⟨(HS.out.callAt 1 rfl hno').mono fun e w' ⟨B, ⟨h1, h2⟩, h3⟩ => ⟨h1, by subst h2; exact h3⟩⟩
          clear p0 p1 pf0 pf1 plt hno hno' hyes
          go_wp2_with fail
          refine HC.out.mono ?_
          rintro e w2 ⟨rfl, hS⟩
          clear HC q0
          have p0 := (hS.cellAt 5 rfl 0).trans rfl
          have p1 := (hS.cellAt 5 rfl 1).trans rfl
          have pf0 := hS.frozenAt 5 rfl 0
          have pf1 := hS.frozenAt 5 rfl 1
          have plt := hS.ltAt 5 rfl
          have HF := As.mk (((hS.setBlkAt 5 rfl 0 (.int .i64 0)).setBlkAt 5 rfl 1 (.int .i64 0)).alloc #[.int .i64 0, .int .i64 0] 31)
          clear hS
          go_wp2_with fail
          have e0 := (HF.out.cellAt 6 rfl 0).trans rfl
          have e1 := (HF.out.cellAt 6 rfl 1).trans rfl
          refine bodyPost_ret (v := .tuple #[.agg #[.int .i64 0, .int .i64 0], .int .i64 10]) (by simp [results, Tryd.results10, go_sem, e0, e1]) rfl (.inl ⟨10, .inr ⟨m, HM.out.1, rfl, .inr HNo.out⟩, rfl, ?_⟩)
          exact (HF.out.dropAt 6 (by simp [stL])).dropAt 0 (by simp [stL])
end
end Go.Proofs.YtkebkmbfglodlaaDoor
