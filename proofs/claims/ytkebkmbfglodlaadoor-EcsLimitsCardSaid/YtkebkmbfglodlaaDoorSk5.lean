/- Sorted keys; Masks. No condition but bounded sizes. -/
import Derived.Test.YtkebkmbfglodlaaDoorSk4
import Derived.Test.YtkebkmbfglodlaaDoorGrow
set_option linter.unusedVariables false
set_option linter.unusedSimpArgs false
set_option maxRecDepth 100000
namespace Go.Proofs.YtkebkmbfglodlaaDoor
open Go.RowKit
theorem pdq_zero (v : Value) (l : Nat) (w : World) :
    Calls Tryd.prog 74 #[v, .int .i64 0, .int .i64 (0 : Nat), .int .i64 (l : Nat)] w fun e w' => e = .returned (.tuple #[]) ∧ Below w.heap.size w w' := by
  have HC := As.mk (insU_empty v 0 (by decide) w)
  have s1 : IntKind.i64.wrap (((0 : Nat) : Int) - 0) = 0 := by decide
  go_enter Tryd.func74, Tryd.ntmps74
  go_wp2_with fail
  go_loopg [1, 2, 3] 0 (fun g0 av bv lv wr => g0 = 0 ∧ av = .int .i64 (0 : Nat) ∧ bv = .int .i64 (0 : Nat) ∧ lv = .int .i64 (l : Nat) ∧ wr = w)
  case atStart => exact ⟨rfl, rfl, rfl, rfl, rfl⟩
  case round =>
    obtain ⟨rfl, rfl, rfl, rfl, rfl⟩ := hrel
    go_wp2_with fail
    refine HC.out.mono ?_
    rintro e w' ⟨rfl, hb⟩
    go_wp2_with fail
    refine bodyPost_ret (v := .tuple #[]) (by simp [results, Tryd.results74, go_sem]) rfl ⟨rfl, ?_⟩
    first | exact hb | exact bl_drew hb
/-- What a sort has to do: at up to twelve it is insertion. -/
def SortsUpto (K : Nat) : Prop := ∀ (F : Nat → Prop) (w0 w : World) (lst : List Hp) (g c N l : Nat) (xs : List Int), N = xs.length → N ≤ K → l ≤ 255 → At F w0 w (Hp.seps (RU g N c xs :: lst)) →
  Calls Tryd.prog 74 #[.slice (some ⟨g, 0, none⟩) N c, .int .i64 0, .int .i64 (N : Nat), .int .i64 (l : Nat)] w fun e w' => e = .returned (.tuple #[]) ∧ ∃ S : List Int, S.Perm xs ∧ S.Pairwise (· ≤ ·) ∧ At F w0 w' (Hp.seps (RU g N c S :: lst))
theorem sorts12 : SortsUpto 12 := fun _ _ _ _ g c N l xs hN h hl hS => pdq_short g c N l xs hN h hl hS
theorem sort_does {K : Nat} (HK : SortsUpto K) (h64 : K ≤ 64) {F : Nat → Prop} {w0 w : World} {lst : List Hp} (v : Value) (xs : List Int) (hx : xs.length ≤ K) (hS : At F w0 w (Hp.seps (Hp.row 35 1 encH v xs :: lst))) :
    Calls Tryd.prog 69 #[v] w fun e w' => e = .returned (.tuple #[]) ∧ ∃ S : List Int, S.Perm xs ∧ S.Pairwise (· ≤ ·) ∧ At F w0 w' (Hp.seps (Hp.row 35 1 encH v S :: lst)) := by
  obtain ⟨D, N, c, rfl⟩ := (hS.rowAt 0 rfl).slice
  have hN : N = xs.length := ((hS.rowAt 0 rfl).rd encH_len).len.1
  have hL := As.mk (fun W => len_does N (by omega) W)
  have e1 : IntKind.u64.wrap (N : Int) = (N : Int) := by simp [IntKind.wrap, IntKind.bits, IntKind.signed]; omega
  have HC : As (∀ l : Nat, l ≤ 255 → ∀ W, W = w → Calls Tryd.prog 74 #[.slice D N c, .int .i64 0, .int .i64 (N : Nat), .int .i64 (l : Nat)] W fun e w' => e = .returned (.tuple #[]) ∧ ∃ S : List Int, S.Perm xs ∧ S.Pairwise (· ≤ ·) ∧ At F w0 w' (Hp.seps (Hp.row 35 1 encH (.slice D N c) S :: lst))) := ⟨by
    rintro l hl W rfl
    cases D with
    | none =>
      obtain ⟨h1, rfl, rfl⟩ := (hS.rowAt 0 rfl).none_nil
      subst h1
      exact (pdq_zero _ l W).mono fun e w' ⟨h1, h2⟩ => ⟨h1, [], List.Perm.refl _, List.Pairwise.nil, hS.below h2⟩
    | some p =>
      obtain ⟨g, rfl, _⟩ := (hS.rowAt 0 rfl).head0
      exact HK _ _ _ _ g c N l xs hN (by omega) hl hS⟩
  clear hS hN
  go_enter Tryd.func69, Tryd.ntmps69
  go_wp2_with fail
  refine (hL.out _).mono ?_
  rintro e w1 ⟨l, hl, rfl, rfl⟩
  have HC := As.mk (HC.out l hl _ rfl)
  go_wp2_with fail
  refine HC.out.mono ?_
  rintro e w' ⟨rfl, S, p, o, hS⟩
  go_wp2_with fail
  go_end0
  exact ⟨rfl, S, p, o, hS⟩
theorem strict_of {S : List Int} (h : S.Nodup) (o : S.Pairwise (· ≤ ·)) : S.Pairwise (· < ·) := by
  have := List.nodup_iff_pairwise_ne.1 h
  exact (this.and o).imp (fun h => by omega)
abbrev KeysOf (f : Nat → Option Nat) (ss : List Int) : Prop := ss.Pairwise (· < ·) ∧ ∀ x : Int, x ∈ ss ↔ ∃ m : Nat, x = (m : Int) ∧ (f m).isSome = true
theorem sorted_does {K : Nat} (HK : SortsUpto K) (h64 : K ≤ 64) {F : Nat → Prop} {w0 w : World} {l : List Hp} (nb nm Bm b n : Nat) (f : Nat → Option Nat) (hn : n ≤ K) (hS : At F w0 w (Hp.seps l)) (hb : l[nb]? = some (Hp.blk Bm #[.map (some b)] 67)) (hm : l[nm]? = some (Hp.mp Tryd.prog 35 b n encM evP f)) :
    Calls Tryd.prog 57 #[.func (.func 70) #[] #[.pointer (some ⟨Bm, 0, none⟩)]] w fun e w' => ∃ v ss, e = .returned v ∧ As (KeysOf f ss) ∧ At F w0 w' (Hp.seps (Hp.row 35 1 encH v ss :: l)) := by
  have HC := As.mk (collect_does (hS.mpAt nm hm) (by omega) ((hS.cellAt nb hb 0).trans rfl))
  have HS := As.mk hS
  clear hS hb hm
  go_enter Tryd.func57, Tryd.ntmps57
  go_wp2_with fail
  refine HC.out.mono ?_
  rintro e w1 ⟨v, ss, rfl, H1, h2, h3, h4⟩
  have hS1 := HS.out.newRow h4 h2 h3
  have HD := As.mk (sort_does HK h64 v ss (by have := H1.out; omega) hS1)
  clear HC hS1 h2 h3 h4
  go_wp2_with fail
  refine HD.out.mono ?_
  rintro e w' ⟨rfl, S, p, o, hS⟩
  go_wp2_with fail
  go_ret
  exact ⟨_, S, rfl, ⟨strict_of (p.nodup_iff.2 H1.out.1) o, fun x => by rw [p.mem_iff]; exact H1.out.2.2 x⟩, hS⟩
theorem keys_does (w : World) (b : Nat) : Calls Tryd.prog 58 #[.map (some b)] w fun e w' => e = .returned (.func (.func 70) #[] #[.pointer (some ⟨w.heap.size, 0, none⟩)]) ∧ w' = w.alloc (.cells #[.map (some b)] 67) :=
  callsIn_wide.1 (Sk.keys_in Go.Fence.wide 8 trivial rfl (some b) w)
/-- Store.Masks. -/
theorem masks_does {K : Nat} (HK : SortsUpto K) (h64 : K ≤ 64) {F : Nat → Prop} {w0 w : World} {l : List Hp} (nq nm q b n : Nat) (v0 v1 v3 : Value) (f : Nat → Option Nat) (hn : n ≤ K) (hS : At F w0 w (Hp.seps l)) (hq : l[nq]? = some (Hp.blk q #[v0, v1, .map (some b), v3] 70)) (hm : l[nm]? = some (Hp.mp Tryd.prog 35 b n encM evP f)) :
    Calls Tryd.prog 24 #[.pointer (some ⟨q, 0, none⟩)] w fun e w' => ∃ v ss, e = .returned v ∧ As (KeysOf f ss) ∧ At F w0 w' (Hp.seps (Hp.row 35 1 encH v ss :: l)) := by
  have c2 : w.cell? ⟨q, 2, none⟩ = some (.map (some b)) := (hS.cellAt nq hq 2).trans rfl
  have HK1 := As.mk (fun W => keys_does W b)
  have HS := As.mk hS
  have HM := As.mk hm
  have HK := As.mk HK
  clear hS hq hm
  go_enter Tryd.func24, Tryd.ntmps24
  go_wp2_with fail
  refine (HK1.out _).mono ?_
  rintro e w1 ⟨rfl, rfl⟩
  have HD := As.mk (sorted_does HK.out h64 0 (nm + 1) _ b n f hn (HS.out.alloc _ _) rfl (by rw [List.getElem?_cons_succ]; exact HM.out))
  go_wp2_with fail
  refine HD.out.mono ?_
  rintro e w' ⟨v, ss, rfl, H1, hS⟩
  have hS2 := hS.dropAt 1 (by simp)
  clear hS
  go_wp2_with fail
  go_ret
  exact ⟨v, ss, rfl, H1, hS2⟩
end Go.Proofs.YtkebkmbfglodlaaDoor
