/- SchedShares answers true for every budget and list; no conditions. -/
import Derived.Test.YtkfkacdiekpkfaaR
import Derived.Test.YtkfkacdiekpkfaaU
namespace Go.Proofs.Ytkfkacdiekpkfaa
open Go.RowKit
set_option maxRecDepth 100000 in
set_option maxHeartbeats 6400000 in
theorem shares_walk (b0 : Int) (lv : Value) (l : List Int) (w : World) (hb0 : b0 ≤ 9223372036854775807) (hd : Rd w 1 encInt lv l) : Calls Try.prog 3 #[.int .i64 b0, lv] w fun e w' => e = .returned (.bool true) ∧ Below w.heap.size w w' := by
  obtain ⟨dA, dc, rfl, hdc, hdn⟩ := hd.shape
  have HD := As.mk hd
  clear hd
  go_enter Try.func3, Try.ntmps3
  go_wp2_with fail
  refine (alive_does w).mono ?_
  rintro e w1 ⟨rfl, hb⟩
  have hS1 := At.start0 hb
  clear hb
  by_cases hg : l.length ≤ 60
  · have d3 : decide (60 < (l.length : Int)) = false := decide_eq_false (by omega)
    have d4 : decide (60 < l.length) = false := decide_eq_false (by omega)
    have hS2 := hS1.nilRow 3 1 encInt
    go_wp2_with (at_builtin; refine rw_appendL rfl (.const (.slice none 0 0)) (.tmp 21) 22 3 1 encInt (.int .i64 0) 8 rfl Try.underlying22 Try.info3 rfl (by decide) (.slice none 0 0) (.slice dA l.length dc) ([] : List Int) l rfl rfl (HD.out.below hS2.bl) (hS2.rowAt 0 rfl) encInt_len one_int ?c1 ?c2 ?c3)
    case c1 => simp only [maxLen, List.length_nil]; omega
    case c2 => simp only [List.length_nil]; omega
    case c3 =>
      intro v1 w2 hA
      have hS3 := At.appendLAt 0 hA hS2 rfl (Below.refl _ _)
      obtain ⟨A1, n1, c1, rfl⟩ := hA.row.slice
      clear hA hS1 hS2
      go_wp2_with fail
      refine (share_does b0 hb0 _ l _ ((hS3.rowAt 0 rfl).rd encInt_len) (by omega)).mono ?_
      rintro e w3 ⟨v, rfl, hb, hr, hn⟩
      have hS4 := hS3.newRow hb hr hn
      obtain ⟨A2, n2, c2, rfl⟩ := hr.slice
      clear hb hr hn hS3
      go_wp2_with fail
      refine (rshare_does b0 hb0 _ l _ (HD.out.below hS4.bl) (by omega)).mono ?_
      rintro e w4 ⟨v, rfl, hb, hr, hn⟩
      have hS5 := hS4.newRow hb hr hn
      obtain ⟨A3, n3, c3, rfl⟩ := hr.slice
      clear hb hr hn hS4
      go_wp2_with fail
      refine (hS5.beside (sameints_does _ _ _ _ ((hS5.rowAt 1 rfl).rd encInt_len) ((hS5.rowAt 0 rfl).rd encInt_len))).mono ?_
      rintro e w5 ⟨rfl, hS6⟩
      go_wp2_with fail
      go_ret
      exact ⟨rfl, hS6.bl⟩
  · have HG := As.mk hg
    clear hg
    go_wp2_with fail
    all_goals first | (exfalso; have := HG.out; omega) | (go_ret; exact ⟨rfl, hS1.bl⟩)
end Go.Proofs.Ytkfkacdiekpkfaa
