/- A store: Get, of what is there. No condition. -/
import Derived.Test.YtkebkmbfglodlaaDoorEs3
set_option linter.unusedVariables false
set_option linter.unusedSimpArgs false
set_option maxRecDepth 100000
namespace Go.Proofs.YtkebkmbfglodlaaDoor
open Go.RowKit
section
variable {F0 : Nat → Prop} {w0 w : World} {q pi bt bm : Nat} {most room : Int} {nm : Nat} {sl : List (Int × Bool)} {fr : List Int} {D : List TD} {M : Int × Int → Option Nat} {r : List Hp}
set_option maxHeartbeats 6400000 in
theorem get_none (hS : At F0 w0 w (Hp.seps (stL q pi bt bm most room nm sl fr D M r))) (id : Int × Int) (hid : okId id) (c m : Nat) (hc : c < 16) (hm : m < 65536) (hh : hasI sl id = true) (hM : M id = some m) (ht : m.testBit c = false) :
    Calls Tryd.prog 15 #[.pointer (some ⟨q, 0, none⟩), .agg #[.int .i64 id.1, .int .i64 id.2], .int .i64 (c : Nat)] w fun e w' => e = .returned (.tuple #[.int .i64 0, .int .i64 12]) ∧ At F0 w0 w' (Hp.seps (stL q pi bt bm most room nm sl fr D M r)) := by
  obtain ⟨a1, a2⟩ := id
  have hS1 := (hS.alloc #[.int .i64 a1, .int .i64 a2] 31).stIn
  obtain ⟨x, hx⟩ : ∃ x, x = w.heap.size := ⟨_, rfl⟩
  obtain ⟨W, hW⟩ : ∃ W, W = w.alloc (.cells #[.int .i64 a1, .int .i64 a2] 31) := ⟨_, rfl⟩
  rw [← hW, ← hx] at hS1
  have HW := As.mk (⟨hW.symm, hx.symm⟩ : _ ∧ _)
  have x0 : W.cell? ⟨x, 0, none⟩ = some (.int .i64 a1) := (hS1.cellAt 5 rfl 0).trans rfl
  have x1 : W.cell? ⟨x, 1, none⟩ = some (.int .i64 a2) := (hS1.cellAt 5 rfl 1).trans rfl
  have HC := As.mk (look_does hS1 (a1, a2) hid c)
  rw [lookS_ok hh hc hM] at HC
  obtain ⟨pw, hpw⟩ : ∃ pw, pw = 2 ^ c := ⟨_, rfl⟩
  have a0 : bits .and .u16 (m : Int) (pw : Int) = 0 := by rw [hpw, and_ne m c hm hc, (testBit_and m c).2 ht]; rfl
  rw [← hpw] at HC
  clear hS hS1 hW hx hid hh hM ht hpw
  go_enter Tryd.func15, Tryd.ntmps15
  go_upto_region 1 with fail
  rw [HW.out.1, HW.out.2]
  go_wp2_with fail
  refine HC.out.mono ?_
  rintro e w' ⟨rfl, hS⟩
  clear HC x0 x1
  go_wp2_with fail
  refine bodyPost_ret (v := .tuple #[.int .i64 0, .int .i64 12]) (by simp [results, Tryd.results15, go_sem]) rfl ⟨rfl, hS.stDrop⟩
set_option maxHeartbeats 6400000 in
theorem get_yes (hS : At F0 w0 w (Hp.seps (stL q pi bt bm most room nm sl fr D M r))) (hnd : (masksOf D).Nodup) (id : Int × Int) (hid : okId id) (c m : Nat) (hc : c < 16) (hm : m < 65536) (hh : hasI sl id = true) (hM : M id = some m) (ht : m.testBit c = true) (i p k : Nat) (R : List TRow) (f : Int → Int) (hi : D[i]? = some (m, p, R)) (hk : R[k]? = some (id, f)) (hn : (idsOf R).Nodup) :
    Calls Tryd.prog 15 #[.pointer (some ⟨q, 0, none⟩), .agg #[.int .i64 id.1, .int .i64 id.2], .int .i64 (c : Nat)] w fun e w' => e = .returned (.tuple #[.int .i64 (f c), .int .i64 0]) ∧ At F0 w0 w' (Hp.seps (stL q pi bt bm most room nm sl fr D M r)) := by
  obtain ⟨a1, a2⟩ := id
  have hS1 := (hS.alloc #[.int .i64 a1, .int .i64 a2] 31).stIn
  obtain ⟨x, hx⟩ : ∃ x, x = w.heap.size := ⟨_, rfl⟩
  obtain ⟨W, hW⟩ : ∃ W, W = w.alloc (.cells #[.int .i64 a1, .int .i64 a2] 31) := ⟨_, rfl⟩
  rw [← hW, ← hx] at hS1
  have HW := As.mk (⟨hW.symm, hx.symm⟩ : _ ∧ _)
  have x0 : W.cell? ⟨x, 0, none⟩ = some (.int .i64 a1) := (hS1.cellAt 5 rfl 0).trans rfl
  have x1 : W.cell? ⟨x, 1, none⟩ = some (.int .i64 a2) := (hS1.cellAt 5 rfl 1).trans rfl
  have HC := As.mk (look_does hS1 (a1, a2) hid c)
  rw [lookS_ok hh hc hM] at HC
  obtain ⟨pw, hpw⟩ : ∃ pw, pw = 2 ^ c := ⟨_, rfl⟩
  obtain ⟨an, han⟩ : ∃ an, an = m &&& 2 ^ c := ⟨_, rfl⟩
  have a0 : bits .and .u16 (m : Int) (pw : Int) = (an : Int) := by rw [hpw, and_ne m c hm hc, han]
  have a1' : ((an : Int) == 0) = false := by
    rw [beq_eq_false_iff_ne, han]
    intro h
    have := (testBit_and m c).1 (by omega)
    rw [ht] at this
    cases this
  rw [← hpw] at HC
  have HR := As.mk (row_does p (bitsN m) R (a1, a2) hid)
  rw [rowI_at hn hk] at HR
  have HG := As.mk (get_does p (bitsN m) R (k : Int) (c : Int))
  rw [getV_at hc ht hk] at HG
  have hset : D.set i (m, p, R) = D := by
    apply List.ext_getElem?
    intro j
    rw [List.getElem?_set]
    split
    · rename_i h; subst h; rw [hi, if_pos (List.getElem?_eq_some_iff.1 hi).1]
    · rfl
  have HT := As.mk (⟨hi, tf_at hnd hi, hset, hm⟩ : _ ∧ _ ∧ _ ∧ _)
  clear hS hS1 hW hx hid hh hM ht hpw han hi hk hn hset hnd
  go_enter Tryd.func15, Tryd.ntmps15
  go_upto_region 1 with fail
  rw [HW.out.1, HW.out.2]
  go_wp2_with fail
  refine HC.out.mono ?_
  rintro e w1 ⟨rfl, hS⟩
  clear HC x0 x1
  have c2 : w1.cell? ⟨q, 2, none⟩ = some (.map (some bt)) := (hS.cellAt 0 rfl 2).trans rfl
  have x0 : w1.cell? ⟨x, 0, none⟩ = some (.int .i64 a1) := (hS.cellAt 5 rfl 0).trans rfl
  have x1 : w1.cell? ⟨x, 1, none⟩ = some (.int .i64 a2) := (hS.cellAt 5 rfl 1).trans rfl
  have hl := look_tab (hS.mpAt 2 rfl) HT.out.2.2.2
  rw [HT.out.2.1] at hl
  have hl : (Instr.lookup 67 (.map (some bt)) (.int .u16 (m : Nat)) false).run Tryd.prog w1 = .ok (.pointer (some ⟨p, 0, none⟩)) w1 := hl 0
  have HC1 := As.mk (At.tabCall hS i m p R HT.out.1 HR.out R [] (fun e B h W F hh => by rw [h.2] at hh; exact one_seps hh))
  clear hS
  go_wp2_with fail
  refine HC1.out.mono ?_
  rintro e w2 ⟨⟨B, rfl, _⟩, hS⟩
  rw [HT.out.2.2.1] at hS
  have HC2 := As.mk (At.tabCall hS i m p R HT.out.1 HG.out R [] (fun e B h W F hh => by rw [h.2] at hh; exact one_seps hh))
  clear hS HC1 hl
  go_wp2_with fail
  refine HC2.out.mono ?_
  rintro e w3 ⟨⟨B, rfl, _⟩, hS⟩
  rw [HT.out.2.2.1] at hS
  clear HC2
  go_wp2_with fail
  refine bodyPost_ret (v := .tuple #[.int .i64 (f c), .int .i64 0]) (by simp [results, Tryd.results15, go_sem]) rfl ⟨rfl, ?_⟩
  exact At.stDrop hS
end
end Go.Proofs.YtkebkmbfglodlaaDoor
