/- A store: look. No condition. -/
import Derived.Test.YtkebkmbfglodlaaDoorEs1
set_option linter.unusedVariables false
set_option linter.unusedSimpArgs false
set_option maxRecDepth 100000
namespace Go.Proofs.YtkebkmbfglodlaaDoor
open Go.RowKit
section
variable {F0 : Nat → Prop} {w0 w : World} {q pi bt bm : Nat} {most room : Int} {nm : Nat} {sl : List (Int × Bool)} {fr : List Int} {D : List TD} {M : Int × Int → Option Nat} {r : List Hp}
abbrev hasI (sl : List (Int × Bool)) (id : Int × Int) : Bool := I.hasB sl id.1 id.2
def lookS (sl : List (Int × Bool)) (M : Int × Int → Option Nat) (id : Int × Int) (c : Int) : Nat × Nat × Int :=
  if hasI sl id then (if c < 0 ∨ 16 ≤ c then (0, 0, 1) else ((M id).getD 0, 2 ^ c.toNat, 0)) else (0, 0, 11)
set_option maxHeartbeats 6400000 in
theorem look_does (hS : At F0 w0 w (Hp.seps (stL q pi bt bm most room nm sl fr D M r))) (id : Int × Int) (hid : okId id) (c : Int) :
    Calls Tryd.prog 32 #[.pointer (some ⟨q, 0, none⟩), .agg #[.int .i64 id.1, .int .i64 id.2], .int .i64 c] w fun e w' => e = .returned (.tuple #[.int .u16 ((lookS sl M id c).1 : Nat), .int .u16 ((lookS sl M id c).2.1 : Nat), .int .i64 (lookS sl M id c).2.2]) ∧ At F0 w0 w' (Hp.seps (stL q pi bt bm most room nm sl fr D M r)) := by
  obtain ⟨a1, a2⟩ := id
  have hS1 := hS.alloc #[.int .i64 a1, .int .i64 a2] 31
  obtain ⟨x, hx⟩ : ∃ x, x = w.heap.size := ⟨_, rfl⟩
  obtain ⟨W, hW⟩ : ∃ W, W = w.alloc (.cells #[.int .i64 a1, .int .i64 a2] 31) := ⟨_, rfl⟩
  rw [← hW, ← hx] at hS1
  have HW := As.mk (⟨hW.symm, hx.symm⟩ : _ ∧ _)
  have HA : As (∀ V, At F0 w0 V (Hp.seps (Hp.blk x #[.int .i64 a1, .int .i64 a2] 31 :: stL q pi bt bm most room nm sl fr D M r)) → (V.cell? ⟨q, 0, none⟩ = some (.pointer (some ⟨pi, 0, none⟩)) ∧ V.cell? ⟨q, 3, none⟩ = some (.map (some bm)) ∧ V.cell? ⟨x, 0, none⟩ = some (.int .i64 a1) ∧ V.cell? ⟨x, 1, none⟩ = some (.int .i64 a2) ∧ MapIs V Tryd.prog 31 bm nm encK encM M)) := ⟨fun V h => ⟨(h.cellAt 1 rfl 0).trans rfl, (h.cellAt 1 rfl 3).trans rfl, (h.cellAt 0 rfl 0).trans rfl, (h.cellAt 0 rfl 1).trans rfl, h.mpAt 4 rfl⟩⟩
  have HC : As (Calls Tryd.prog 61 #[.pointer (some ⟨pi, 0, none⟩), .agg #[.int .i64 a1, .int .i64 a2]] W.drew fun e w' => e = .returned (.bool (hasI sl (a1, a2))) ∧ At F0 w0 w' (Hp.seps (Hp.blk x #[.int .i64 a1, .int .i64 a2] 31 :: stL q pi bt bm most room nm sl fr D M r))) := ⟨(hS1.drew.callAt 2 rfl (I.has_does pi a1 a2 room sl fr)).mono fun e w' ⟨B, ⟨h1, h2⟩, h3⟩ => ⟨h1, by subst h2; exact h3⟩⟩
  have HKp : As (∀ V, Below W.heap.size W V → (V.cell? ⟨q, 0, none⟩ = some (.pointer (some ⟨pi, 0, none⟩)) ∧ V.cell? ⟨x, 0, none⟩ = some (.int .i64 a1) ∧ V.cell? ⟨x, 1, none⟩ = some (.int .i64 a2))) := ⟨fun V hb => by have h := HA.out V (hS1.below hb); exact ⟨h.1, h.2.2.1, h.2.2.2.1⟩⟩
  have HAK : As (∀ V, At F0 w0 V (Hp.seps (Hp.blk x #[.int .i64 a1, .int .i64 a2] 31 :: stL q pi bt bm most room nm sl fr D M r)) → (V.cell? ⟨q, 0, none⟩ = some (.pointer (some ⟨pi, 0, none⟩)) ∧ V.cell? ⟨x, 0, none⟩ = some (.int .i64 a1) ∧ V.cell? ⟨x, 1, none⟩ = some (.int .i64 a2))) := ⟨fun V h => ⟨(HA.out V h).1, (HA.out V h).2.2.1, (HA.out V h).2.2.2.1⟩⟩
  have HID := As.mk hid
  obtain ⟨L, hL⟩ : ∃ L, lookS sl M (a1, a2) c = L := ⟨_, rfl⟩
  rw [hL]
  unfold lookS at hL
  have HL := As.mk hL
  obtain ⟨hv, hhv⟩ : ∃ hv, hasI sl (a1, a2) = hv := ⟨_, rfl⟩
  rw [hhv] at HC
  have HV := As.mk hhv
  clear hS hS1 hW hx hid hL hhv
  go_enter Tryd.func32, Tryd.ntmps32
  go_upto_region 1 with fail
  rw [HW.out.1, HW.out.2]
  go_region_held3 (fun V => V.cell? ⟨q, 0, none⟩ = some (.pointer (some ⟨pi, 0, none⟩)) ∧ V.cell? ⟨x, 0, none⟩ = some (.int .i64 a1) ∧ V.cell? ⟨x, 1, none⟩ = some (.int .i64 a2)) (first | with_reducible exact HAK.out _ HS3.out | exact HKp.out _ (by repeat (first | exact Below.refl _ _ | refine bl_drewN ?_ _ | refine Below.drew ?_ | refine bl_alloc ?_ _ | refine bl_set ?_ (by first | (simp; done) | omega | (simp; omega)) _))) (first | (go_at_call 61; refine HC.out.mono ?_; rintro e w3 ⟨rfl, hS3⟩; have HS3 := As.mk hS3; clear hS3))
  clear HC HKp HAK
  cases hv with
  | false =>
    have hE : L = (0, 0, 11) := by rw [← HL.out, HV.out]; rfl
    subst hE
    have hS := HS3.out
    clear HS3
    go_wp2_with fail
    refine bodyPost_ret (v := .tuple #[.int .u16 (0 : Nat), .int .u16 (0 : Nat), .int .i64 11]) (by simp [results, Tryd.results32, go_sem]) rfl ⟨rfl, hS.dropAt 0 (by simp)⟩
  | true =>
    by_cases hc : c < 0 ∨ 16 ≤ c
    · have hE : L = (0, 0, 1) := by rw [← HL.out, HV.out, if_pos rfl, if_pos hc]
      subst hE
      have hS := HS3.out
      have HB := As.mk (fun V => bit_no c hc V)
      clear HS3 hc
      go_wp2_with fail
      refine (HB.out _).mono ?_
      rintro e w' ⟨rfl, rfl⟩
      go_wp2_with fail
      refine bodyPost_ret (v := .tuple #[.int .u16 (0 : Nat), .int .u16 (0 : Nat), .int .i64 1]) (by simp [results, Tryd.results32, go_sem]) rfl ⟨rfl, hS.dropAt 0 (by simp)⟩
    · obtain ⟨k, rfl⟩ : ∃ k : Nat, c = (k : Int) := ⟨c.toNat, by omega⟩
      have hE : L = ((M (a1, a2)).getD 0, 2 ^ k, 0) := by rw [← HL.out, HV.out, if_pos rfl, if_neg hc, Int.toNat_natCast]
      subst hE
      have hS := HS3.out
      have HB := As.mk (fun V => bit_yes k (by omega) V)
      obtain ⟨_, f3, f0, f1, hm⟩ := HA.out _ hS
      have hlk := look_mask hm HID.out
      have HS := As.mk hS
      clear HS3 hc HA hS hm
      go_wp2_with fail
      refine (HB.out _).mono ?_
      rintro e w' ⟨rfl, rfl⟩
      go_wp2_with fail
      go_quiet (fail)
      go_wp2_with fail
      refine bodyPost_ret (v := .tuple #[.int .u16 ((M (a1, a2)).getD 0 : Nat), .int .u16 (2 ^ k : Nat), .int .i64 0]) (by simp [results, Tryd.results32, go_sem]) rfl ⟨rfl, (HS.out.dropAt 0 (by simp)).drewN _⟩
end
end Go.Proofs.YtkebkmbfglodlaaDoor
