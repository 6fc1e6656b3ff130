/- Order. No condition but bounded sizes. -/
import Derived.Test.YtjgeccnfdndllaaSoK
import Derived.Test.YtjgeccnfdndllaaGrow
import Derived.Test.YtjgeccnfdndllaaMore
import Derived.Deep.RegionLaw
import Derived.Deep.RegionWith
set_option linter.unusedVariables false
set_option linter.unusedSimpArgs false
set_option maxRecDepth 100000
namespace Go.Proofs.Ytjgeccnfdndllaa
open Go.RowKit
set_option maxHeartbeats 6400000 in
theorem stable_nil (v : Value) (bx : Nat) (w : World) : Calls Try.prog 24 #[v, .int .i64 (0 : Nat), FV bx] w fun e w' => e = .returned (.tuple #[]) ∧ Below w.heap.size w w' := by
  have HC := As.mk (fun W => ins_empty v 0 bx (by decide) W)
  unfold FV at *
  go_enter Try.func24, Try.ntmps24
  go_wp2_with fail
  go_loopg [7, 8] 0 (fun g0 av bv wr => g0 = 0 ∧ av = .int .i64 (0 : Nat) ∧ bv = .int .i64 20 ∧ Below w.heap.size w wr)
  case atStart => exact ⟨rfl, rfl, rfl, by first | exact Below.refl _ _ | (with_reducible exact bl_drew (Below.refl _ _)) | exact (by repeat (first | exact Below.refl _ _ | refine bl_drewN ?_ _ | refine Below.drew ?_ | refine bl_alloc ?_ _ | refine bl_set ?_ (by first | (simp; done) | omega | (simp; omega)) _))⟩
  case round =>
    obtain ⟨rfl, rfl, rfl, hb⟩ := hrel
    go_wp2_with fail
    refine (HC.out _).mono ?_
    rintro e w' ⟨rfl, hb2⟩
    have hb3 : Below w.heap.size w w' := by exact hb.trans (hb2.mono hb.size)
    clear hb hb2
    go_wp2_with fail
    go_loopg [6] 0 (fun g0 kv wr => g0 = 0 ∧ kv = .int .i64 20 ∧ Below w.heap.size w wr)
    case atStart => exact ⟨rfl, rfl, hb3⟩
    case round =>
      obtain ⟨rfl, rfl, hb4⟩ := hrel
      go_wp2_with fail
      go_end0
      exact ⟨rfl, hb4⟩
theorem sort_nil (v : Value) (hv : v = .slice none 0 0) (bx : Nat) (w : World) : Calls Try.prog 17 #[v, FV bx] w fun e w' => e = .returned (.tuple #[]) ∧ Below w.heap.size w w' := by
  subst hv
  have HC := As.mk (fun W => stable_nil (.slice none 0 0) bx W)
  unfold FV at *
  go_enter Try.func17, Try.ntmps17
  go_wp2_with fail
  refine (HC.out _).mono ?_
  rintro e w' ⟨rfl, hb2⟩
  go_wp2_with fail
  go_end0
  exact ⟨rfl, hb2⟩
theorem sort_does {w0 w : World} {lst : List Hp} (bx : Nat) (A : Option Addr) (cA : Nat) (ws : List Int) (hR : Rd w0 1 encInt (.slice A ws.length cA) ws) (v : Value) (N : Nat) (hNw : N ≤ ws.length) (hNb : N ≤ 1000000)
    (hS : At (fun _ => False) w0 w (Hp.seps (Hp.row 3 1 encInt v (iota 0 N) :: BX bx A ws.length cA :: lst))) :
    Calls Try.prog 17 #[v, FV bx] w fun e w' => e = .returned (.tuple #[]) ∧ ∃ S : List Int, As (S.length = N ∧ Seg ws 0 S) ∧ At (fun _ => False) w0 w' (Hp.seps (Hp.row 3 1 encInt v S :: BX bx A ws.length cA :: lst)) := by
  obtain ⟨D, n, c, rfl⟩ := (hS.rowAt 0 rfl).slice
  cases D with
  | none =>
    obtain ⟨rfl, rfl, h0⟩ := (hS.rowAt 0 rfl).none_nil
    have e : N = 0 := by rw [← iota_len 0 N, h0]; rfl
    subst e
    exact (sort_nil _ rfl bx w).mono fun e w' ⟨h1, h2⟩ => ⟨h1, [], ⟨rfl, Seg.nil _ _⟩, hS.below h2⟩
  | some p =>
    obtain ⟨g, rfl, _⟩ := (hS.rowAt 0 rfl).head0
    have hn := ((hS.rowAt 0 rfl).rd encInt_len).len
    rw [iota_len] at hn
    obtain rfl : n = N := hn.1
    have HC := As.mk (stable_does bx A cA ws hR g c n hNw hNb hS)
    unfold FV at *
    clear hR hNw hn
    go_enter Try.func17, Try.ntmps17
    go_wp2_with fail
    refine HC.out.mono ?_
    rintro e w' ⟨rfl, S, HS, hS2⟩
    go_wp2_with fail
    go_end0
    exact ⟨rfl, S, HS, hS2⟩
set_option maxHeartbeats 12800000 in
theorem order_does {w : World} (A : Option Addr) (cA : Nat) (ws : List Int) (hR : Rd w 1 encInt (.slice A ws.length cA) ws) (hNb : ws.length ≤ 1000000) :
    Calls Try.prog 11 #[.slice A ws.length cA] w fun e w' => ∃ (v : Value) (S : List Int) (lst : List Hp), e = .returned v ∧ As (S.length = ws.length ∧ Seg ws 0 S) ∧ At (fun _ => False) w w' (Hp.seps (Hp.row 3 1 encInt v S :: lst)) := by
  obtain ⟨N, hN⟩ : ∃ N, N = ws.length := ⟨_, rfl⟩
  obtain ⟨bx, hbx⟩ : ∃ bx, bx = w.heap.size := ⟨_, rfl⟩
  have hS := (At.start0 (w0 := w) (w := w) (Below.refl _ _)).alloc #[.slice A ws.length cA] 22
  rw [← hbx] at hS
  have HB := As.mk hbx
  have HR := As.mk hR
  have HN := As.mk hN
  rw [← hN] at hS hNb ⊢
  have HS := As.mk hS
  clear hR hN hbx hS
  go_enter Try.func11, Try.ntmps11
  go_upto_region 1 with fail
  go_upto_region 2 with fail
  rw [← HB.out]
  obtain ⟨wb, hwb⟩ : ∃ wb, wb = w.alloc (.cells #[.slice A N cA] 22) := ⟨_, rfl⟩
  rw [← hwb] at HS ⊢
  have hS := HS.out
  clear HS hwb
  have c0 := (hS.cellAt 0 rfl 0).trans rfl
  go_wp2_with fail
  clear c0
  go_loopg [3, 7] N (fun g0 sv iv wr => ∃ (i c : Nat) (D : Option Addr), i + g0 = N ∧ sv = .slice D i c ∧ iv = .int .i64 i ∧ At (fun _ => False) w wr (Hp.seps [Hp.row 3 1 encInt (.slice D i c) (iota 0 i), Hp.blk bx #[.slice A N cA] 22]))
  case atStart => exact ⟨0, 0, none, Nat.zero_add _, rfl, rfl, hS.nilRow 3 1 encInt⟩
  case round =>
    clear hS
    obtain ⟨i, c, D, hi, rfl, rfl, hS⟩ := hrel
    by_cases hlt : i < N
    · have s1 : IntKind.i64.wrap ((i : Int) + 1) = ((i + 1 : Nat) : Int) := by rw [IntKind.wrap_i64]; omega
      have HI := As.mk hi
      have hl := iota_len 0 i
      clear hi
      go_wp2_with (at_builtin; refine rw_append rfl (.tmp 10) (.tmp 12) 22 3 1 encInt (.int .i64 0) 8 rfl Try.underlying22 Try.info3 rfl (by decide) (.slice D i c) (iota 0 i) (i : Int) rfl _ rfl (by first | exact blk_new (by simp) | exact blk_new_drew (by simp)) ((hS.below (by repeat (first | exact Below.refl _ _ | refine bl_drewN ?_ _ | refine Below.drew ?_ | refine bl_alloc ?_ _ | refine bl_set ?_ (by first | (simp; done) | omega | (simp; omega)) _))).rowAt 0 rfl) encInt_len (one_int _) ?c1 ?c2 ?c3)
      case c1 => simp only [maxLen, iota_len]; omega
      case c2 => rw [iota_len]; omega
      case c3 =>
        intro v1 w2 hA
        obtain ⟨D1, n1, c1, rfl⟩ := hA.row.slice
        have hS2 := At.appendAt 0 hA hS rfl (by repeat (first | exact Below.refl _ _ | refine bl_drewN ?_ _ | refine Below.drew ?_ | refine bl_alloc ?_ _ | refine bl_set ?_ (by first | (simp; done) | omega | (simp; omega)) _))
        clear hA
        have hn1 := ((hS2.rowAt 0 rfl).rd encInt_len).len
        rw [List.length_append, List.length_singleton, hl] at hn1
        obtain rfl : n1 = i + 1 := hn1.1
        have hS3 : At (fun _ => False) w w2 (Hp.seps [Hp.row 3 1 encInt (.slice D1 (i + 1) c1) (iota 0 (i + 1)), Hp.blk bx #[.slice A N cA] 22]) := by rw [iota_succ, Nat.zero_add]; exact hS2
        clear hS hS2 hl hn1
        go_wp2_with fail
        go_roundg (N - (i + 1))
        case measure => have := HI.out; omega
        case rel => exact ⟨i + 1, c1, D1, by omega, rfl, rfl, hS3⟩
    · obtain rfl : i = N := by omega
      have HC := As.mk (sort_does (lst := []) bx A cA ws HR.out (.slice D i c) i (by have := HN.out; omega) hNb (by rw [← HN.out]; exact hS))
      unfold FV at HC
      clear hS hi
      go_wp2_with fail
      refine HC.out.mono ?_
      rintro e w' ⟨rfl, S, HS, hS⟩
      go_wp2_with fail
      go_ret
      exact ⟨_, S, _, rfl, HS, hS⟩
end Go.Proofs.Ytjgeccnfdndllaa
