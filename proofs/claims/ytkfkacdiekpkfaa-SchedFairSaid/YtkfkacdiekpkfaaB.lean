/- slices.Grow onto nil; slices.Concat of two; a ring: New, Add, List, Move. -/
import Derived.Test.YtkfkacdiekpkfaaA
import Derived.Test.YtkfkacdiekpkfaaGrow
namespace Go.Proofs.Ytkfkacdiekpkfaa
open Go.RowKit
attribute [local go_sem] mx_two mn_two mx2_int mn2_int
set_option maxHeartbeats 1600000 in
theorem grow_does (n : Nat) (hn : n ≤ 1000000) (w : World) : Calls Try.prog 30 #[.slice none 0 0, .int .i64 (n : Nat)] w fun e w' => ∃ D c, e = .returned (.slice D 0 c) ∧ Below w.heap.size w w' ∧ Rw w' 35 2 encId (.slice D 0 c) ([] : List (Int × Int)) ∧ ∀ k, (Value.slice D 0 c).ownBlock = some k → w.heap.size ≤ k := by
  by_cases h0 : n = 0
  · subst h0
    go_enter Try.func30, Try.ntmps30
    go_wp2
    go_ret
    exact ⟨none, 0, rfl, Below.refl _ _, Rw.nil _ _ _ _, by simp [Value.ownBlock]⟩
  · have t0 : decide ((0 : Int) < (n : Int)) = true := decide_eq_true (by omega)
    have t1 : decide (0 < n) = true := decide_eq_true (by omega)
    have HN := As.mk h0
    clear h0
    go_enter Try.func30, Try.ntmps30
    go_wp2_with (at_builtin; refine rw_grow (α := Int × Int) rfl (.tmp 20) (.tmp 21) 37 3 35 2 encId (.agg #[.int .i64 0, .int .i64 0]) 16 .i64 .i64 rfl Try.underlying37 Try.underlying3 Try.info35 rfl (by decide) rfl n rfl ?c1 ?c2 ?c3 ?c4)
    case c1 => have := HN.out; omega
    case c2 => omega
    case c3 => omega
    case c4 =>
      intro cap w1 hc hb hr
      have HB := As.mk hb
      have HR := As.mk hr
      clear hb hr
      go_wp2
      go_ret
      exact ⟨_, _, rfl, HB.out, HR.out, by simp [Value.ownBlock]⟩
def encSl (v : Value) : List Value := [v]
set_option maxHeartbeats 3200000 in
/-- Concat of the lists that stand in a block. -/
theorem concat_does (b : Nat) (v1 v2 : Value) (xs ys : List (Int × Int)) (w : World) (hb : w.heap[b]? = some (.cells #[v1, v2] 37 (0, 0))) (h1 : Rd w 2 encId v1 xs) (h2 : Rd w 2 encId v2 ys) (hm : xs.length + ys.length ≤ 100000) :
    Calls Try.prog 26 #[.slice (some ⟨b, 0, none⟩) 2 2] w fun e w' => ∃ v, e = .returned v ∧ Below w.heap.size w w' ∧ Rw w' 35 2 encId v (xs ++ ys) ∧ ∀ k, v.ownBlock = some k → w.heap.size ≤ k := by
  obtain ⟨A1, c1, rfl, _, hn1⟩ := h1.shape
  obtain ⟨A2, c2, rfl, _, hn2⟩ := h2.shape
  have H1 := As.mk h1
  have H2 := As.mk h2
  have HB := As.mk hb
  have hbl := lt_of_blk hb
  have e0 := (cell_of_blk hb 0).trans rfl
  have e1 := (cell_of_blk hb 1).trans rfl
  have HG := As.mk (fun w => grow_does (xs.length + ys.length) (by omega) w)
  clear h1 h2 hb
  go_enter Try.func26, Try.ntmps26
  go_wp2
  go_loop [3, 11] (fun sv iv => (iv = .int .i64 (0 : Nat) ∧ sv = .int .i64 (0 : Nat)) ∨ (iv = .int .i64 (1 : Nat) ∧ sv = .int .i64 xs.length) ∨ (iv = .int .i64 (2 : Nat) ∧ sv = .int .i64 (xs.length + ys.length : Nat))) (fun _ iv => 2 - (intOf iv).toNat)
  case atStart => exact .inl ⟨rfl, rfl⟩
  case round =>
    rcases hrel with ⟨rfl, rfl⟩ | ⟨rfl, rfl⟩ | ⟨rfl, rfl⟩
    · go_wp2
      go_round
      case rel => exact .inr (.inl ⟨rfl, by simp⟩)
      case measure => simp [intOf]
    · go_wp2
      go_round
      case rel => exact .inr (.inr ⟨rfl, by push_cast; rfl⟩)
      case measure => simp [intOf]
    · go_wp2_with fail
      refine (HG.out _).mono ?_
      rintro e w1 ⟨D, c, rfl, hb, hr, hn⟩
      have hT0 : At (fun _ => False) w w1 (Hp.seps [Hp.row 35 2 encId (.slice D 0 c) ([] : List (Int × Int))]) := At.newRow (At.start0 (Below.refl _ _)) hb hr hn
      clear hb hr hn
      go_wp2_with fail
      go_loopg [6, 27] 2 (fun g v iv wr => (g = 2 ∧ iv = .int .i64 (0 : Nat) ∧ At (fun _ => False) w wr (Hp.seps [Hp.row 35 2 encId v ([] : List (Int × Int))])) ∨ (g = 1 ∧ iv = .int .i64 (1 : Nat) ∧ At (fun _ => False) w wr (Hp.seps [Hp.row 35 2 encId v xs])) ∨ (g = 0 ∧ iv = .int .i64 (2 : Nat) ∧ At (fun _ => False) w wr (Hp.seps [Hp.row 35 2 encId v (xs ++ ys)])))
      case atStart => exact .inl ⟨rfl, rfl, hT0⟩
      case round =>
        clear hT0
        rcases hrel with ⟨rfl, rfl, hS⟩ | ⟨rfl, rfl, hS⟩ | ⟨rfl, rfl, hS⟩
        · have hb := (hS.bl.block b hbl).trans HB.out
          have e0 := (cell_of_blk hb 0).trans rfl
          clear hb
          obtain ⟨D, n0, c, rfl⟩ := (hS.rowAt 0 rfl).slice
          have HLn : As (n0 = ([] : List (Int × Int)).length) := ⟨((hS.rowAt 0 rfl).rd encId_len).len.1⟩
          go_wp2_with (at_builtin; refine rw_appendL rfl (.tmp 31) (.tmp 32) 37 35 2 encId (.agg #[.int .i64 0, .int .i64 0]) 16 rfl Try.underlying37 Try.info35 rfl (by decide) (.slice D n0 c) (.slice A1 xs.length c1) ([] : List (Int × Int)) xs rfl rfl (H1.out.below hS.bl) (hS.rowAt 0 rfl) encId_len one_id ?c1 ?c2 ?c3)
          case c1 => simp [maxLen]; omega
          case c2 => omega
          case c3 =>
            intro v1 w2 hA
            have hT := At.appendLAt 0 hA hS rfl (Below.refl _ _)
            clear hA hS
            go_wp2_with fail
            go_roundg 1
            case measure => omega
            case rel => exact .inr (.inl ⟨rfl, rfl, hT⟩)
        · have hb := (hS.bl.block b hbl).trans HB.out
          have e1 := (cell_of_blk hb 1).trans rfl
          clear hb
          obtain ⟨D, n0, c, rfl⟩ := (hS.rowAt 0 rfl).slice
          have HLn : As (n0 = (xs).length) := ⟨((hS.rowAt 0 rfl).rd encId_len).len.1⟩
          go_wp2_with (at_builtin; refine rw_appendL rfl (.tmp 31) (.tmp 32) 37 35 2 encId (.agg #[.int .i64 0, .int .i64 0]) 16 rfl Try.underlying37 Try.info35 rfl (by decide) (.slice D n0 c) (.slice A2 ys.length c2) xs ys rfl rfl (H2.out.below hS.bl) (hS.rowAt 0 rfl) encId_len one_id ?c1 ?c2 ?c3)
          case c1 => simp [maxLen]; omega
          case c2 => omega
          case c3 =>
            intro v1 w2 hA
            have hT := At.appendLAt 0 hA hS rfl (Below.refl _ _)
            clear hA hS
            go_wp2_with fail
            go_roundg 0
            case measure => omega
            case rel => exact .inr (.inr ⟨rfl, rfl, hT⟩)
        · go_wp2_with fail
          obtain ⟨D, n0, c, rfl⟩ := (hS.rowAt 0 rfl).slice
          go_ret
          exact ⟨_, rfl, hS.bl, hS.rowAt 0 rfl, hS.own_new 0 rfl⟩
end Go.Proofs.Ytkfkacdiekpkfaa
