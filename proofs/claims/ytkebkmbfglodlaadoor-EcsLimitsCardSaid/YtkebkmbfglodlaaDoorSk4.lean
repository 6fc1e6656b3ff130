/- Sorting the masks. No condition but bounded sizes. -/
import Derived.Test.YtkebkmbfglodlaaDoorSk3
set_option linter.unusedVariables false
set_option linter.unusedSimpArgs false
set_option maxRecDepth 100000
namespace Go.Proofs.YtkebkmbfglodlaaDoor
open Go.RowKit
theorem b_wrap (b : UInt8) : wrap64 (wrap64 (b.toNat : Int)) = ((b.toNat : Nat) : Int) := by have := b.toNat_lt; unfold wrap64; omega
theorem len64_does (n : Nat) (hn : n ≤ 64) (w : World) : Calls Tryd.prog 87 #[.int .u64 (n : Nat)] w fun e w' => ∃ r : Nat, r ≤ 255 ∧ e = .returned (.int .i64 (r : Nat)) ∧ w' = w := by
  have d1 : ¬ (4294967296 : Int) ≤ (n : Int) := by omega
  have d2 : ¬ (65536 : Int) ≤ (n : Int) := by omega
  have d3 : ¬ (256 : Int) ≤ (n : Int) := by omega
  have e1 : IntKind.u8.wrap (n : Int) = (n : Int) := by simp [IntKind.wrap, IntKind.bits, IntKind.signed]; omega
  have hlt : (n : Int) < 256 := by omega
  go_enter Tryd.func87, Tryd.ntmps87
  go_wp2_with fail
  go_ret
  exact ⟨_, Nat.le_of_lt_succ (UInt8.toNat_lt _), congrArg Ending.returned (congrArg (Value.int .i64) (b_wrap _)), rfl⟩
theorem len_does (n : Nat) (hn : n ≤ 64) (w : World) : Calls Tryd.prog 75 #[.int .u64 (n : Nat)] w fun e w' => ∃ r : Nat, r ≤ 255 ∧ e = .returned (.int .i64 (r : Nat)) ∧ w' = w := by
  have HC := As.mk (fun W => len64_does n hn W)
  go_enter Tryd.func75, Tryd.ntmps75
  go_wp2_with fail
  refine (HC.out _).mono ?_
  rintro e w' ⟨r, hr, rfl, rfl⟩
  go_wp2_with fail
  go_ret
  exact ⟨r, hr, rfl, rfl⟩
/-- At most twelve: by insertion. -/
theorem pdq_short {F : Nat → Prop} {w0 w : World} {lst : List Hp} (g c N l : Nat) (xs : List Int) (hN : N = xs.length) (h12 : N ≤ 12) (hl : l ≤ 255)
    (hS : At F w0 w (Hp.seps (RU g N c xs :: lst))) :
    Calls Tryd.prog 74 #[.slice (some ⟨g, 0, none⟩) N c, .int .i64 0, .int .i64 (N : Nat), .int .i64 (l : Nat)] w fun e w' => e = .returned (.tuple #[]) ∧ ∃ S : List Int, S.Perm xs ∧ S.Pairwise (· ≤ ·) ∧ At F w0 w' (Hp.seps (RU g N c S :: lst)) := by
  have HC : As (Calls Tryd.prog 77 #[.slice (some ⟨g, 0, none⟩) N c, .int .i64 (0 : Nat), .int .i64 (N : Nat)] w fun e w' => e = .returned (.tuple #[]) ∧ ∃ S : List Int, S.Perm xs ∧ S.Pairwise (· ≤ ·) ∧ At F w0 w' (Hp.seps (RU g N c S :: lst))) := ⟨by
    by_cases h0 : xs = []
    · subst h0
      obtain rfl : N = 0 := hN
      exact (insU_empty _ 0 (by decide) w).mono fun e w' ⟨h1, h2⟩ => ⟨h1, [], List.Perm.refl _, List.Pairwise.nil, hS.below h2⟩
    · refine (insU_does g c 0 N N [] xs [] h0 rfl (by omega) rfl (by omega) (show At F w0 w (Hp.seps (RU g N c ([] ++ (xs ++ [])) :: lst)) by simpa using hS)).mono ?_
      rintro e w' ⟨h1, S, p, o, h⟩
      exact ⟨h1, S, p, o, by simpa using h⟩⟩
  have s1 : IntKind.i64.wrap ((N : Int) - 0) = (N : Int) := by rw [IntKind.wrap_i64]; omega
  have h12' : (N : Int) ≤ 12 := by omega
  clear hS hN
  go_enter Tryd.func74, Tryd.ntmps74
  go_wp2_with fail
  go_loopg [1, 2, 3] 0 (fun g0 av bv lv wr => g0 = 0 ∧ av = .int .i64 (0 : Nat) ∧ bv = .int .i64 (N : Nat) ∧ lv = .int .i64 (l : Nat) ∧ wr = w)
  case atStart => exact ⟨rfl, rfl, rfl, rfl, rfl⟩
  case round =>
    obtain ⟨rfl, rfl, rfl, rfl, rfl⟩ := hrel
    go_wp2_with fail
    refine HC.out.mono ?_
    rintro e w' ⟨rfl, S, p, o, hS⟩
    go_wp2_with fail
    refine bodyPost_ret (v := .tuple #[]) (by simp [results, Tryd.results74, go_sem]) rfl ⟨rfl, S, p, o, hS⟩
end Go.Proofs.YtkebkmbfglodlaaDoor
