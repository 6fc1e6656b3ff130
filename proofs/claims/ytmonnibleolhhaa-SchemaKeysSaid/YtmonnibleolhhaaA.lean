/- Names: letter, Goes, Name. -/
import Derived.Test.YtmonnibleolhhaaAt
import Derived.Test.YtmonnibleolhhaaMp
import Derived.Test.YtmonnibleolhhaaPSchemaKeysx
import Derived.Lib.ConvBytes
import Derived.IntWalk
import Derived.Laws.Strings
import Derived.Deep.RegionLaw
import Derived.Deep.RegionWith
set_option linter.unusedVariables false
namespace Go.Proofs.Ytmonnibleolhhaa
open Go.RowKit
abbrev KeyM := PSchemaKeys.S24
def isLet (a : Int) : Bool := decide (97 ≤ a ∧ a ≤ 122) || decide (65 ≤ a ∧ a ≤ 90)
def isGo (a : Int) : Bool := isLet a || (decide (48 ≤ a ∧ a ≤ 57) || a == 95)
def byI (c : UInt8) : Int := (c.toNat : Int)
def nameB (l : List UInt8) : Bool := match l with
  | [] => false
  | c :: r => decide ((c :: r).length ≤ 24) && (isLet (byI c) && (c :: r).all fun c => isGo (byI c))
theorem letter_does (a : Int) (w : World) : Calls Try.prog 21 #[.int .u8 a] w fun e w' => e = .returned (.bool (isLet a)) ∧ Below w.heap.size w w' := by
  refine (PSchemaKeys.value_letter.calls a (isLet a) w ?_).mono fun e w' h => ⟨h.1, h.2.below⟩
  unfold PSchemaKeys.value_letter.f isLet
  by_cases h1 : a ≥ 97
  · rw [if_pos h1]
    by_cases h2 : a ≤ 122
    · rw [if_pos h2, decide_eq_true (show 97 ≤ a ∧ a ≤ 122 from ⟨h1, h2⟩)]; rfl
    · rw [if_neg h2, if_pos (by omega), decide_eq_false (show ¬ (97 ≤ a ∧ a ≤ 122) by omega), decide_eq_false (show ¬ (65 ≤ a ∧ a ≤ 90) by omega), decide_eq_false (show ¬ a ≤ 90 by omega)]; rfl
  · rw [if_neg h1, decide_eq_false (show ¬ (97 ≤ a ∧ a ≤ 122) by omega)]
    by_cases h3 : a ≥ 65
    · rw [if_pos h3, Bool.false_or]
      congr 1
      rw [decide_eq_decide]; omega
    · rw [if_neg h3, decide_eq_false (show ¬ (65 ≤ a ∧ a ≤ 90) by omega)]; rfl
theorem letter_f (a : Int) : PSchemaKeys.value_letter.f a = some (isLet a) := by
  unfold PSchemaKeys.value_letter.f isLet
  by_cases h1 : a ≥ 97
  · rw [if_pos h1]
    by_cases h2 : a ≤ 122
    · rw [if_pos h2, decide_eq_true (show 97 ≤ a ∧ a ≤ 122 from ⟨h1, h2⟩)]; rfl
    · rw [if_neg h2, if_pos (by omega), decide_eq_false (show ¬ (97 ≤ a ∧ a ≤ 122) by omega), decide_eq_false (show ¬ (65 ≤ a ∧ a ≤ 90) by omega), decide_eq_false (show ¬ a ≤ 90 by omega)]; rfl
  · rw [if_neg h1, decide_eq_false (show ¬ (97 ≤ a ∧ a ≤ 122) by omega)]
    by_cases h3 : a ≥ 65
    · rw [if_pos h3, Bool.false_or]
      congr 1
      rw [decide_eq_decide]; omega
    · rw [if_neg h3, decide_eq_false (show ¬ (65 ≤ a ∧ a ≤ 90) by omega)]; rfl
theorem goes_does (a : Int) (w : World) : Calls Try.prog 22 #[.int .u8 a] w fun e w' => e = .returned (.bool (isGo a)) ∧ Below w.heap.size w w' := by
  refine (PSchemaKeys.value_Goes.calls a (isGo a) w ?_).mono fun e w' h => ⟨h.1, h.2.below⟩
  unfold PSchemaKeys.value_Goes.f isGo
  rw [letter_f, Option.bind_some]
  cases isLet a with
  | true => simp
  | false =>
    rw [if_neg (by simp), Bool.false_or]
    by_cases h1 : a ≥ 48
    · rw [if_pos h1]
      by_cases h2 : a ≤ 57
      · rw [if_pos h2, decide_eq_true (show 48 ≤ a ∧ a ≤ 57 from ⟨h1, h2⟩)]; rfl
      · rw [if_neg h2, decide_eq_false (show ¬ (48 ≤ a ∧ a ≤ 57) by omega)]; rfl
    · rw [if_neg h1, decide_eq_false (show ¬ (48 ≤ a ∧ a ≤ 57) by omega)]; rfl
theorem ret_b {a b : Bool} (h : a = b) : Ending.returned (.bool a) = .returned (.bool b) := by rw [h]
theorem nameB_of (s : ByteArray) (h : 0 < s.size) : nameB s.data.toList = (decide (s.size ≤ 24) && (isLet (s[0].toNat : Int) && s.data.toList.all fun c => isGo (byI c))) := by
  obtain ⟨⟨l⟩⟩ := s
  cases l with
  | nil => simp [ByteArray.size] at h
  | cons c r => rfl
theorem nameB_nil (s : ByteArray) (h : s.size = 0) : nameB s.data.toList = false := by
  obtain ⟨⟨l⟩⟩ := s
  cases l with
  | nil => rfl
  | cons c r => simp [ByteArray.size] at h
theorem take_all (s : ByteArray) (k : Nat) (h : k < s.size) (f : UInt8 → Bool) : (s.data.toList.take (k + 1)).all f = ((s.data.toList.take k).all f && f s[k]) := by
  rw [List.take_succ_eq_append_getElem (by simpa using h), List.all_append]
  simp
  rfl
theorem all_at (s : ByteArray) (k : Nat) (h : k < s.size) (f : UInt8 → Bool) (hf : f s[k] = false) : s.data.toList.all f = false := by
  rw [List.all_eq_false]
  refine ⟨s[k], ?_, by simp [hf]⟩
  have : s[k] = s.data.toList[k]'(by simpa using h) := rfl
  rw [this]
  exact List.getElem_mem _
theorem byte_getD (s : ByteArray) (k : Nat) (h : k < s.size) : (s.data.toList.getD k 0).toNat = s[k].toNat := by
  rw [List.getD_eq_getElem?_getD, List.getElem?_eq_getElem (by simpa using h)]
  rfl
set_option maxHeartbeats 3200000 in
theorem name_does (s : ByteArray) (w : World) (hs : s.size ≤ 9223372036854775807) : Calls Try.prog 20 #[.string s] w fun e w' => e = .returned (.bool (nameB s.data.toList)) ∧ Below w.heap.size w w' := by
  obtain ⟨r, hr⟩ : ∃ r, nameB s.data.toList = r := ⟨_, rfl⟩
  rw [hr]
  by_cases h0 : s.size = 0
  · rw [nameB_nil s h0] at hr
    subst hr
    have t0 : s.toList.isEmpty = true := by
      rw [ByteArray.toList_eq]
      obtain ⟨⟨l⟩⟩ := s
      cases l with
      | nil => rfl
      | cons c r => simp [ByteArray.size] at h0
    have t00 : s.toList = [] := by simpa using t0
    have HZ := As.mk h0
    clear h0
    go_enter Try.func20, Try.ntmps20
    go_wp2_with fail
    go_ret
    exact ⟨rfl, Below.refl _ _⟩
  · have hpos : 0 < s.size := by omega
    have t0 : s.toList.isEmpty = false := by
      rw [ByteArray.toList_eq]
      obtain ⟨⟨l⟩⟩ := s
      cases l with
      | nil => exact absurd rfl h0
      | cons c r => rfl
    rw [nameB_of s hpos] at hr
    by_cases h24 : 24 < s.size
    · rw [decide_eq_false (by omega), Bool.false_and] at hr
      subst hr
      have t1 : decide (24 < (s.size : Int)) = true := decide_eq_true (by omega)
      have t1' : decide (24 < s.size) = true := decide_eq_true (by omega)
      clear h0 h24
      go_enter Try.func20, Try.ntmps20
      go_wp2_with fail
      go_ret
      exact ⟨rfl, Below.refl _ _⟩
    · rw [decide_eq_true (by omega), Bool.true_and] at hr
      have HR := As.mk hr
      clear hr
      have t1 : decide (24 < (s.size : Int)) = false := decide_eq_false (by omega)
      have t1' : decide (24 < s.size) = false := decide_eq_false (by omega)
      have hcv := fun w => Lib.run_convert_string_bytes (P := Try.prog) w 9 54 5 s Try.underlying9 Try.underlying54 Try.underlying5
      clear h0 h24
      obtain ⟨b, hb⟩ : ∃ b, isLet (s[0].toNat : Int) = b := ⟨_, rfl⟩
      rw [hb] at HR
      have HB := As.mk hb
      clear hb
      cases b with
      | false =>
        have HR2 : As (r = false) := ⟨by have := HR.out; simpa using this.symm⟩
        obtain rfl := HR2.out
        clear HR HR2
        go_enter Try.func20, Try.ntmps20
        go_wp2_with fail
        refine (letter_does _ _).mono ?_
        rintro e w1 ⟨rfl, hb⟩
        have HBl := As.mk hb
        clear hb
        rw [HB.out]
        go_wp2_with fail
        go_ret
        exact ⟨rfl, HBl.out⟩
      | true =>
        have HR2 : As ((s.data.toList.all fun c => isGo (byI c)) = r) := ⟨by have := HR.out; simpa using this⟩
        clear HR
        go_enter Try.func20, Try.ntmps20
        go_wp2_with fail
        refine (letter_does _ _).mono ?_
        rintro e w1 ⟨rfl, hb⟩
        have HBl := As.mk hb
        clear hb
        rw [HB.out]
        go_wp2_with fail
        obtain ⟨W, hW⟩ : ∃ W, W = Lib.bytesWorld w1 5 s := ⟨_, rfl⟩
        obtain ⟨g, hg⟩ : ∃ g, g = w1.heap.size := ⟨_, rfl⟩
        rw [← hW, ← hg]
        have HC : As (∀ j, j < s.size → W.cell? ⟨g, j, none⟩ = some (.int .u8 (s.data.toList.getD j 0).toNat)) := ⟨fun j hj => by rw [hW, hg]; exact Lib.bytesWorld_cell w1 5 s j hj⟩
        have HWl : As (g < W.heap.size) := ⟨by rw [hW, hg, Lib.bytesWorld_size]; omega⟩
        have HWb : As (Below w.heap.size w W) := ⟨HBl.out.trans (Below.mono (by rw [hW]; exact ⟨rfl, rfl, rfl, by rw [Lib.bytesWorld_size]; omega, fun k hk => Lib.bytesWorld_at_old w1 5 s k hk⟩) HBl.out.size)⟩
        clear hW hg HBl hcv
        go_loopw [21] (fun iv wr => ∃ k : Nat, k ≤ s.size ∧ iv = .int .i64 k ∧ As ((s.data.toList.take k).all (fun c => isGo (byI c)) = true) ∧ As (Below W.heap.size W wr)) (fun iv _ => s.size - (intOf iv).toNat)
        case atStart => exact ⟨0, by omega, rfl, ⟨rfl⟩, ⟨Below.refl _ _⟩⟩
        case round =>
          obtain ⟨k, hk, rfl, HA, HL⟩ := hrel
          by_cases hlt : k < s.size
          · have c0 := (HL.out.cell (p := ⟨g, k, none⟩) HWl.out).trans (HC.out k hlt)
            rw [byte_getD s k hlt] at c0
            have HT := As.mk (take_all s k hlt fun c => isGo (byI c))
            obtain ⟨b, hb⟩ : ∃ b, isGo (s[k].toNat : Int) = b := ⟨_, rfl⟩
            have HBk := As.mk hb
            clear hb
            go_wp2_with fail
            refine (goes_does _ _).mono ?_
            rintro e w2 ⟨rfl, hb⟩
            have HL2 := As.mk (HL.out.trans (Below.mono hb HL.out.size))
            clear hb
            rw [HBk.out]
            cases b with
            | true =>
              go_wp2_with fail
              exact ⟨⟨k + 1, by omega, by go_num, ⟨by rw [HT.out, HA.out, Bool.true_and]; exact HBk.out⟩, HL2⟩, by simp [intOf]; omega⟩
            | false =>
              go_wp2_with fail
              go_ret
              exact ⟨ret_b (by rw [← HR2.out]; exact (all_at s k hlt _ HBk.out).symm), HWb.out.trans (Below.mono HL2.out HWb.out.size)⟩
          · obtain rfl : k = s.size := by omega
            go_wp2_with fail
            go_ret
            exact ⟨ret_b (by rw [← HR2.out, ← HA.out, List.take_of_length_le (by simp)]), HWb.out.trans (Below.mono HL.out HWb.out.size)⟩
end Go.Proofs.Ytmonnibleolhhaa
