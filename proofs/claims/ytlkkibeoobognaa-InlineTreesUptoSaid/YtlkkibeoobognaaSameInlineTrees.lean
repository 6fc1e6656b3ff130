/- SameExpr, SameExprs: true of two that are one. For expressions of bounded size; no other condition. -/
import Derived.Test.YtlkkibeoobognaaCopyInlineTrees
set_option linter.unusedVariables false
set_option maxRecDepth 100000
namespace Go.Proofs.Ytlkkibeoobognaa.OpenInlineTrees
open Go.RowKit Go.Deep
open Go.Proofs.YtlkkibeoobognaaW.PrintWords Go.Proofs.YtlkkibeoobognaaW.PrintLast Go.Proofs.YtlkkibeoobognaaW.PrintMore Go.Proofs.Ytlkkibeoobognaa.PInlineTrees
def SameEs (n : Nat) : Prop := ∀ (l : List S27) (A1 A2 : Option Addr) (c1 c2 : Nat) (w : World), szEs l ≤ n → k27.C w A1 l.length l → k27.C w A2 l.length l → l.length ≤ c1 → l.length ≤ c2 → Calls Try.prog 24 #[.slice A1 l.length c1, .slice A2 l.length c2] w fun e w' => e = .returned (.bool true) ∧ Below w.heap.size w w'
def SameE (n : Nat) : Prop := ∀ (x : S27) (A1 A2 : Option Addr) (c1 c2 : Nat) (w : World), szE x ≤ n → k27.C w A1 x.f3.length x.f3 → k27.C w A2 x.f3.length x.f3 → x.f3.length ≤ c1 → x.f3.length ≤ c2 → Calls Try.prog 23 #[.agg #[.int .i64 x.f0, .int .i64 x.f1, .string x.f2, .slice A1 x.f3.length c1], .agg #[.int .i64 x.f0, .int .i64 x.f1, .string x.f2, .slice A2 x.f3.length c2]] w fun e w' => e = .returned (.bool true) ∧ Below w.heap.size w w'
set_option maxHeartbeats 3200000 in
theorem same_step (n : Nat) (ih : SameEs n) : SameE (n + 1) := by
  intro x A1 A2 c1 c2 w hn h1 h2 hc1 hc2
  have hk := szE_kids x
  obtain ⟨f0, f1, f2, l⟩ := x
  simp only at h1 h2 hc1 hc2 hk ⊢
  have hS := ((At.start0 (Below.refl w.heap.size w)).alloc #[.int .i64 f0, .int .i64 f1, .string f2, .slice A1 l.length c1] 27).alloc #[.int .i64 f0, .int .i64 f1, .string f2, .slice A2 l.length c2] 27
  have HB := As.mk hS.bl
  have HC := As.mk (fun (W : World) (hb : Below w.heap.size w W) => ih l A1 A2 c1 c2 W (by omega) (Kd.C_below h1 hb) (Kd.C_below h2 hb) hc1 hc2)
  clear h1 h2 hk hn hS
  go_enter Try.func23, Try.ntmps23
  go_wp2_with fail
  refine (HC.out _ HB.out).mono ?_
  rintro e w1 ⟨rfl, hb⟩
  have HB2 := As.mk (HB.out.trans (Below.mono hb HB.out.size))
  clear hb
  go_wp2_with fail
  go_ret
  exact ⟨rfl, HB2.out⟩
set_option maxHeartbeats 6400000 in
theorem sames_step (n : Nat) (ih : SameE n) : SameEs n := by
  intro l A1 A2 c1 c2 w hl h1 h2 hc1 hc2
  have hlen := len_szEs l
  have HMem := As.mk (szE_mem l)
  have HC := As.mk (fun (W : World) (hb : Below w.heap.size w W) => (⟨Kd.C_below h1 hb, Kd.C_below h2 hb⟩ : k27.C W A1 l.length l ∧ k27.C W A2 l.length l))
  have hll := h1.2.1
  have HI := As.mk ih
  have HL := As.mk hl
  have hB := Below.refl w.heap.size w
  clear h1 h2 ih hl
  go_enter Try.func24, Try.ntmps24
  go_wp2_with fail
  go_loopg [5] l.length (fun g0 iv wr => ∃ k : Nat, k + g0 = l.length ∧ iv = .int .i64 k ∧ As (Below w.heap.size w wr))
  case atStart => exact ⟨0, by omega, rfl, ⟨hB⟩⟩
  case round =>
    clear hB
    obtain ⟨k, hk, rfl, HB⟩ := hrel
    by_cases hlt : k < l.length
    · obtain ⟨x, hx⟩ : ∃ x, l[k]? = some x := ⟨_, List.getElem?_eq_getElem hlt⟩
      have HK := As.mk hk
      have HLm := As.mk (Nat.le_trans (HMem.out k x hx) HL.out)
      obtain ⟨b, off, cs, rfl, hbl, _, hcK, hcell⟩ := C_lit (HC.out _ HB.out).1 (by decide) x hx
      obtain ⟨A3, q3, rfl, h3l, h3C⟩ := k27_open hcK
      obtain ⟨b', off', cs', rfl, hbl', _, hcK', hcell'⟩ := C_lit (HC.out _ HB.out).2 (by decide) x hx
      obtain ⟨A4, q4, rfl, h4l, h4C⟩ := k27_open hcK'
      have u0 := hcell 0 _ rfl
      have u1 := hcell 1 _ rfl
      have u2 := hcell 2 _ rfl
      have u3 := hcell 3 _ rfl
      have v0 := hcell' 0 _ rfl
      have v1 := hcell' 1 _ rfl
      have v2 := hcell' 2 _ rfl
      have v3 := hcell' 3 _ rfl
      simp only [show k27.sz = 4 from rfl, Nat.add_zero] at u0 u1 u2 u3 v0 v1 v2 v3
      obtain ⟨f0, f1, f2, f3⟩ := x
      simp only at u0 u1 u2 u3 v0 v1 v2 v3 h3l h3C h4l h4C
      have HCC := As.mk (HI.out ⟨f0, f1, f2, f3⟩ A3 A4 q3 q4 wr.drew HLm.out (Kd.C_below h3C (Below.drew (Below.refl _ _))) (Kd.C_below h4C (Below.drew (Below.refl _ _))) h3l h4l)
      have hin : (k : Int) < (l.length : Int) := by omega
      clear hk hx hcell hcell' h3C h4C hcK hcK'
      go_wp2_with fail
      go_still_tail 8, (by kernel_rfl)
      go_wp2_with fail
      refine HCC.out.mono ?_
      rintro e w1 ⟨rfl, hb⟩
      have HB2 := As.mk ((HB.out.trans (Below.mono (Below.drew (Below.refl _ _)) HB.out.size)).trans (Below.mono hb HB.out.size))
      clear hb
      go_wp2_with fail
      go_roundg (gk - 1)
      case measure => have := HK.out; omega
      case rel => exact ⟨k + 1, by have := HK.out; omega, by go_num, HB2⟩
    · obtain rfl : k = l.length := by omega
      go_wp2_with fail
      go_ret
      exact ⟨rfl, HB.out⟩
theorem same_all : ∀ n, SameEs n ∧ SameE n
  | 0 => by
    have h0 : SameE 0 := fun x A1 A2 c1 c2 w hn _ _ _ _ => by have := szE_kids x; omega
    exact ⟨sames_step 0 h0, h0⟩
  | n + 1 => by
    obtain ⟨h1, h2⟩ := same_all n
    have h3 := same_step n h1
    exact ⟨sames_step (n + 1) h3, h3⟩
end Go.Proofs.Ytlkkibeoobognaa.OpenInlineTrees
