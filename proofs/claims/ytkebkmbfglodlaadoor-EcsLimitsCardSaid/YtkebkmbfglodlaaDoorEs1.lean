/- A store: bit, full, look. No condition. -/
import Derived.Test.YtkebkmbfglodlaaDoorEs0
set_option linter.unusedVariables false
set_option linter.unusedSimpArgs false
set_option maxRecDepth 100000
namespace Go.Proofs.YtkebkmbfglodlaaDoor
open Go.RowKit
theorem bit_no (c : Int) (h : c < 0 ∨ 16 ≤ c) (w : World) : Calls Tryd.prog 26 #[.int .i64 c] w fun e w' => e = .returned (.tuple #[.int .u16 (0 : Nat), .bool false]) ∧ w' = w := by
  by_cases h0 : c < 0
  · go_enter Tryd.func26, Tryd.ntmps26
    go_wp2_with fail
    refine bodyPost_ret (v := .tuple #[.int .u16 (0 : Nat), .bool false]) (by simp [results, Tryd.results26, go_sem]) rfl ⟨rfl, rfl⟩
  · have h1 : (16 : Int) ≤ c := by omega
    have h2 : ¬ c < 16 := by omega
    go_enter Tryd.func26, Tryd.ntmps26
    go_wp2_with fail
    refine bodyPost_ret (v := .tuple #[.int .u16 (0 : Nat), .bool false]) (by simp [results, Tryd.results26, go_sem]) rfl ⟨rfl, rfl⟩
theorem bit_yes (c : Nat) (h : c < 16) (w : World) : Calls Tryd.prog 26 #[.int .i64 (c : Nat)] w fun e w' => e = .returned (.tuple #[.int .u16 (2 ^ c : Nat), .bool true]) ∧ w' = w := by
  have h0 : ¬ (c : Int) < 0 := by omega
  have h1 : (c : Int) < 16 := by omega
  go_enter Tryd.func26, Tryd.ntmps26
  have e1 : IntKind.u16.wrap ((2 : Int) ^ c) = ((2 ^ c : Nat) : Int) := by
    have : c = 0 ∨ c = 1 ∨ c = 2 ∨ c = 3 ∨ c = 4 ∨ c = 5 ∨ c = 6 ∨ c = 7 ∨ c = 8 ∨ c = 9 ∨ c = 10 ∨ c = 11 ∨ c = 12 ∨ c = 13 ∨ c = 14 ∨ c = 15 := by omega
    rcases this with rfl | rfl | rfl | rfl | rfl | rfl | rfl | rfl | rfl | rfl | rfl | rfl | rfl | rfl | rfl | rfl <;> decide
  go_wp2_with fail
  refine bodyPost_ret (v := .tuple #[.int .u16 (2 ^ c : Nat), .bool true]) (by simp [results, Tryd.results26, go_sem]) rfl ⟨rfl, rfl⟩
section
variable {F0 : Nat → Prop} {w0 w : World} {q pi bt bm : Nat} {most room : Int} {nm : Nat} {sl : List (Int × Bool)} {fr : List Int} {D : List TD} {M : Int × Int → Option Nat} {r : List Hp}
theorem look_tab (h : MapIs w Tryd.prog 35 bt D.length encM evP (tf D)) {m : Nat} (hm : m < 65536) : ∀ n, (Instr.lookup 67 (.map (some bt)) (.int .u16 (m : Nat)) false).run Tryd.prog (w.drewN n) = .ok (match tf D m with | some p => .pointer (some ⟨p, 0, none⟩) | none => .pointer none) (w.drewN n) := fun n => by
  obtain ⟨kl, hkl⟩ := keyU_ok m hm
  have hd : MapIs (w.drewN n) Tryd.prog 35 bt D.length encM evP (tf D) := h.move rfl
  cases hf : tf D m with
  | none => exact hd.look_none (t := 67) KlawU encM_inj Tryd.underlying67 (z := .pointer none) (by kernel_rfl) hkl hf false
  | some y => exact hd.look_some (t := 67) KlawU encM_inj Tryd.underlying67 hkl hf false
theorem len_tab (h : MapIs w Tryd.prog 35 bt D.length encM evP (tf D)) (hn : (masksOf D).Nodup) : ∀ n ty, (Builtin.len_ #[67] ty #[.map (some bt)]).run Tryd.prog (w.drewN n) = .ok (.int .i64 (D.length : Nat)) (w.drewN n) := fun n ty => by
  have hd : MapIs (w.drewN n) Tryd.prog 35 bt D.length encM evP (tf D) := h.move rfl
  obtain ⟨es, clock, hb, hs⟩ := hd.count hn
  rw [run_len_map _ 67 ty bt es clock (by kernel_rfl) hb, hs]
  rfl
theorem look_mask (h : MapIs w Tryd.prog 31 bm nm encK encM M) {id : Int × Int} (hid : okId id) : ∀ n, (Instr.lookup 68 (.map (some bm)) (.agg #[.int .i64 id.1, .int .i64 id.2]) false).run Tryd.prog (w.drewN n) = .ok (.int .u16 ((M id).getD 0 : Nat)) (w.drewN n) := fun n => by
  obtain ⟨kl, hkl⟩ := key_ok id hid
  have hd : MapIs (w.drewN n) Tryd.prog 31 bm nm encK encM M := h.move rfl
  cases hf : M id with
  | none => exact hd.look_none (t := 68) Klaw encK_inj Tryd.underlying68 (z := .int .u16 0) (by kernel_rfl) hkl hf false
  | some y => exact hd.look_some (t := 68) Klaw encK_inj Tryd.underlying68 hkl hf false
def fullB (most : Int) (D : List TD) (m : Nat) : Bool := (tf D m).isNone && decide (most ≤ (D.length : Nat))
theorem full_does (hn : (masksOf D).Nodup) (hS : At F0 w0 w (Hp.seps (stL q pi bt bm most room nm sl fr D M r))) (m : Nat) (hm : m < 65536) :
    Calls Tryd.prog 27 #[.pointer (some ⟨q, 0, none⟩), .int .u16 (m : Nat)] w fun e w' => e = .returned (.bool (fullB most D m)) ∧ At F0 w0 w' (Hp.seps (stL q pi bt bm most room nm sl fr D M r)) := by
  have hl := look_tab (hS.mpAt 2 rfl) hm
  have hln := len_tab (hS.mpAt 2 rfl) hn
  have c1 : w.cell? ⟨q, 1, none⟩ = some (.int .i64 most) := (hS.cellAt 0 rfl 1).trans rfl
  have c2 : w.cell? ⟨q, 2, none⟩ = some (.map (some bt)) := (hS.cellAt 0 rfl 2).trans rfl
  obtain ⟨V, hV⟩ : ∃ V, fullB most D m = V := ⟨_, rfl⟩
  rw [hV]
  unfold fullB at hV
  have HS := As.mk hS
  clear hS hn
  cases hf : tf D m with
  | some p =>
    rw [hf] at hl hV
    obtain rfl : false = V := hV
    simp only at hl
    clear hf
    go_enter Tryd.func27, Tryd.ntmps27
    go_upto_region 1 with fail
    go_quiet (fail)
    go_wp2_with fail
    go_ret
    exact ⟨rfl, HS.out.drewN _⟩
  | none =>
    rw [hf] at hl hV
    have hV : decide (most ≤ (D.length : Nat)) = V := hV
    simp only at hl
    clear hf
    go_enter Tryd.func27, Tryd.ntmps27
    go_upto_region 1 with fail
    go_quiet (fail)
    go_wp2_with fail
    go_ret
    exact ⟨by rw [← hV]; rfl, HS.out.drewN _⟩
end
end Go.Proofs.YtkebkmbfglodlaaDoor
