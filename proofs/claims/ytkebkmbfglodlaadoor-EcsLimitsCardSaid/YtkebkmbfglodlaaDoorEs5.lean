/- A store: out. No condition. -/
import Derived.Test.YtkebkmbfglodlaaDoorEs4
set_option linter.unusedVariables false
set_option linter.unusedSimpArgs false
set_option maxRecDepth 100000
namespace Go.Proofs.YtkebkmbfglodlaaDoor
open Go.RowKit
theorem set_same' {α : Type} {xs : List α} {i : Nat} {x : α} (h : xs[i]? = some x) : xs.set i x = xs := by
  apply List.ext_getElem?
  intro j
  rw [List.getElem?_set]
  split
  · rename_i e; subst e; rw [h, if_pos (List.getElem?_eq_some_iff.1 h).1]
  · rfl
section
variable {F0 : Nat → Prop} {w0 w : World} {q pi bt bm : Nat} {most room : Int} {nm : Nat} {sl : List (Int × Bool)} {fr : List Int} {D : List TD} {M : Int × Int → Option Nat} {r : List Hp}
set_option maxHeartbeats 6400000 in
theorem out_does (hS : At F0 w0 w (Hp.seps (stL q pi bt bm most room nm sl fr D M r))) (hnd : (masksOf D).Nodup) (id : Int × Int) (hid : okId id) (m : Nat) (hm : m < 65536) (hM : M id = some m) (i p k : Nat) (R : List TRow) (f : Int → Int) (hi : D[i]? = some (m, p, R)) (hk : R[k]? = some (id, f)) (hn : (idsOf R).Nodup) (hok : ∀ x ∈ idsOf R, okId x) (hR : R.length ≤ 1000000) :
    Calls Tryd.prog 31 #[.pointer (some ⟨q, 0, none⟩), .agg #[.int .i64 id.1, .int .i64 id.2]] w fun e w' => ∃ v, e = .returned v ∧ At F0 w0 w' (Hp.seps (stL q pi bt bm most room nm sl fr (D.set i (m, p, swp R k)) M (Hp.row 33 2 encId v (cellsOf (bitsN m) (id, f)) :: r))) := by
  have hRow := row_does p (bitsN m) R id hid
  rw [rowI_at hn hk] at hRow
  have hRem := rem_some p (bitsN m) (Nat.le_trans (bitsN_len m) (by decide)) R k (id, f) hk hn hok hR
  have hset : D.set i (m, p, R) = D := set_same' hi
  obtain ⟨a1, a2⟩ := id
  have hS1 := (hS.alloc #[.int .i64 a1, .int .i64 a2] 31).stIn
  obtain ⟨x, hx⟩ : ∃ x, x = w.heap.size := ⟨_, rfl⟩
  obtain ⟨W, hW⟩ : ∃ W, W = w.alloc (.cells #[.int .i64 a1, .int .i64 a2] 31) := ⟨_, rfl⟩
  rw [← hW, ← hx] at hS1
  have HW := As.mk (⟨hW.symm, hx.symm⟩ : _ ∧ _)
  have x0 : W.cell? ⟨x, 0, none⟩ = some (.int .i64 a1) := (hS1.cellAt 5 rfl 0).trans rfl
  have x1 : W.cell? ⟨x, 1, none⟩ = some (.int .i64 a2) := (hS1.cellAt 5 rfl 1).trans rfl
  have c2 : W.cell? ⟨q, 2, none⟩ = some (.map (some bt)) := (hS1.cellAt 0 rfl 2).trans rfl
  have c3 : W.cell? ⟨q, 3, none⟩ = some (.map (some bm)) := (hS1.cellAt 0 rfl 3).trans rfl
  have hl2 := look_mask (hS1.mpAt 3 rfl) hid
  rw [hM] at hl2
  have hl1 := look_tab (hS1.mpAt 2 rfl) hm
  rw [tf_at hnd hi] at hl1
  simp only [Option.getD_some] at hl1 hl2
  have HRow := As.mk hRow
  have HRem := As.mk hRem
  have HI := As.mk (⟨hi, hset⟩ : _ ∧ _)
  have HS := As.mk hS1
  simp only
  clear hS hS1 hW hx hid hM hi hk hn hok hR hRow hRem hset hnd
  go_enter Tryd.func31, Tryd.ntmps31
  go_upto_region 1 with fail
  rw [HW.out.1, HW.out.2]
  go_quiet (fail)
  have hS := HS.out.drewN nq
  have HC1 := As.mk (At.tabCall hS i m p R HI.out.1 HRow.out R [] (fun e B h W F hh => by rw [h.2] at hh; exact one_seps hh))
  clear hS hl1 hl2
  go_wp2_with fail
  refine HC1.out.mono ?_
  rintro e w2 ⟨⟨B, rfl, _⟩, hS⟩
  rw [HI.out.2] at hS
  have HC2 := As.mk (At.tabCallX hS i m p R HI.out.1 HRem.out (swp R k) (fun e A => ∃ v, e = .returned (.tuple #[v, .bool true]) ∧ A = [Hp.row 33 2 encId v (cellsOf (bitsN m) ((a1, a2), f))]) (fun e B h => by
    obtain ⟨v, h1, h2⟩ := h
    exact ⟨_, ⟨v, h1, rfl⟩, fun W F hh => by rw [h2] at hh; exact hh⟩))
  clear hS HC1
  go_wp2_with fail
  refine HC2.out.mono ?_
  rintro e w3 ⟨A, ⟨v, rfl, rfl⟩, hS⟩
  clear HC2
  go_wp2_with fail
  go_ret
  exact ⟨v, rfl, hS.dropAt 6 (by simp [stL])⟩
end
end Go.Proofs.YtkebkmbfglodlaaDoor
