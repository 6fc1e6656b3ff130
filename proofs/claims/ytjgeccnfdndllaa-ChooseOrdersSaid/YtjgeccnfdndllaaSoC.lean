/- The comparison that Order hands on: a closure over the weights. -/
import Derived.Test.YtjgeccnfdndllaaSoB
import Derived.Deep.RegionHeld3
set_option linter.unusedVariables false
set_option linter.unusedSimpArgs false
namespace Go.Proofs.Ytjgeccnfdndllaa
open Go.RowKit
theorem isnan_does (w : World) (a : Int) : Calls Try.prog 25 #[.int .i64 a] w fun e w' => e = .returned (.bool false) ∧ w' = w := by
  go_enter Try.func25, Try.ntmps25
  go_wp2_with fail
  go_ret
  exact ⟨by simp, rfl⟩
def cmpI (a b : Int) : Int := if a < b then -1 else if b < a then 1 else 0
theorem cmpI_neg (a b : Int) : cmpI a b < 0 ↔ a < b := by unfold cmpI; split <;> rename_i h <;> (try split) <;> simp <;> omega
set_option maxHeartbeats 6400000 in
theorem cmp_does (w : World) (a b : Int) : Calls Try.prog 19 #[.int .i64 a, .int .i64 b] w fun e w' => e = .returned (.int .i64 (cmpI a b)) ∧ w' = w := by
  have HE : As (∀ c, (a < b → c = -1) → (b < a → c = 1) → (a = b → c = 0) → c = cmpI a b) := ⟨fun c h1 h2 h3 => by
    unfold cmpI
    by_cases h : a < b
    · rw [if_pos h]; exact h1 h
    · rw [if_neg h]
      by_cases h' : b < a
      · rw [if_pos h']; exact h2 h'
      · rw [if_neg h']; exact h3 (by omega)⟩
  go_enter Try.func19, Try.ntmps19
  go_wp2_with fail
  refine (isnan_does _ _).mono ?_
  rintro e w1 ⟨rfl, rfl⟩
  go_wp2_with fail
  refine (isnan_does _ _).mono ?_
  rintro e w2 ⟨rfl, rfl⟩
  by_cases h : a < b
  · go_wp2_with fail
    go_ret
    exact ⟨by rw [← HE.out (-1) (fun _ => rfl) (fun _ => by omega) (fun _ => by omega)]; rfl, rfl⟩
  · by_cases h' : b < a
    · go_wp2_with fail
      go_ret
      exact ⟨by rw [← HE.out 1 (fun _ => by omega) (fun _ => rfl) (fun _ => by omega)]; rfl, rfl⟩
    · go_wp2_with fail
      go_ret
      exact ⟨by rw [← HE.out 0 (fun _ => by omega) (fun _ => by omega) (fun _ => rfl)]; rfl, rfl⟩
abbrev BX (bx : Nat) (A : Option Addr) (n cA : Nat) : Hp := Hp.blk bx #[.slice A n cA] 22
set_option maxHeartbeats 6400000 in
theorem clo_does {w0 w : World} {R1 : Hp} {lst : List Hp} (bx : Nat) (A : Option Addr) (cA : Nat) (ws : List Int) (hR : Rd w0 1 encInt (.slice A ws.length cA) ws) (x y : Nat) (wx wy : Int) (hx : ws[x]? = some wx) (hy : ws[y]? = some wy)
    (hS : At (fun _ => False) w0 w (Hp.seps (R1 :: BX bx A ws.length cA :: lst))) :
    Calls Try.prog 18 #[.int .i64 x, .int .i64 y, .pointer (some ⟨bx, 0, none⟩)] w fun e w' => e = .returned (.int .i64 (cmpI wy wx)) ∧ At (fun _ => False) w0 w' (Hp.seps (R1 :: BX bx A ws.length cA :: lst)) := by
  obtain ⟨b, off, rfl, hb, c1⟩ := hR.cells A _ _ rfl x wx hx
  obtain ⟨b', off', e, _, c2⟩ := hR.cells _ _ _ rfl y wy hy
  injection e with e; injection e with e1 e2 _
  subst e1; subst e2
  have c1 := c1 0 (by decide)
  have c2 := c2 0 (by decide)
  rw [Nat.mul_one, Nat.add_zero] at c1 c2
  have hxl : (x : Int) < (ws.length : Int) := by have := (List.getElem?_eq_some_iff.1 hx).1; omega
  have hyl : (y : Int) < (ws.length : Int) := by have := (List.getElem?_eq_some_iff.1 hy).1; omega
  have HKp : As (∀ V : World, Below w.heap.size w V → (V.cell? ⟨bx, 0, none⟩ = some (.slice (some ⟨b, off, none⟩) ws.length cA) ∧ V.cell? ⟨b, off + x, none⟩ = some (.int .i64 wx) ∧ V.cell? ⟨b, off + y, none⟩ = some (.int .i64 wy))) := ⟨fun V hV => by
    have h := hS.below hV
    exact ⟨(h.cellAt 1 rfl 0).trans rfl, (h.bl.cell (p := ⟨b, off + x, none⟩) hb).trans c1, (h.bl.cell (p := ⟨b, off + y, none⟩) hb).trans c2⟩⟩
  clear c1 c2 hx hy hR
  go_enter Try.func18, Try.ntmps18
  go_upto_region 1 with fail
  go_region_held3 (fun V => V.cell? ⟨bx, 0, none⟩ = some (.slice (some ⟨b, off, none⟩) ws.length cA) ∧ V.cell? ⟨b, off + x, none⟩ = some (.int .i64 wx) ∧ V.cell? ⟨b, off + y, none⟩ = some (.int .i64 wy)) (exact HKp.out _ (by repeat (first | exact Below.refl _ _ | refine bl_drewN ?_ _ | refine Below.drew ?_ | refine bl_alloc ?_ _ | refine bl_set ?_ (by first | (simp; done) | omega | (simp; omega)) _))) (first | (go_at_call 19; refine (cmp_does _ _ _).mono ?_; rintro e w3 ⟨rfl, rfl⟩))
  all_goals (go_wp2_with fail)
  all_goals (go_ret)
  all_goals (exact ⟨rfl, hS.drew⟩)
end Go.Proofs.Ytjgeccnfdndllaa
