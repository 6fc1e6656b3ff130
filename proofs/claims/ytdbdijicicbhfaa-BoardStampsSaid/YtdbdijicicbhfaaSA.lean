/- Names: letter, Goes, Name. -/
import Derived.Test.YtdbdijicicbhfaaAt
import Derived.Test.YtdbdijicicbhfaaMp
import Derived.Test.YtdbdijicicbhfaaRowz
import Derived.Test.YtdbdijicicbhfaaGrow
import Derived.Test.YtdbdijicicbhfaaProg
import Derived.Maps.Own
import Derived.DeepKeys4
import Derived.Laws.StructEq
import Derived.Lib.ConvBytes
import Derived.IntWalk
import Derived.Laws.Strings
import Derived.Deep.RegionLaw
import Derived.Deep.RegionWith
set_option linter.unusedVariables false
namespace Go.Proofs.Ytdbdijicicbhfaa
open Go.RowKit
structure KeyM where
  f0 : ByteArray
  f1 : Int
  f2 : Bool
def isLet (a : Int) : Bool := decide (97 ≤ a ∧ a ≤ 122) || decide (65 ≤ a ∧ a ≤ 90)
def isGo (a : Int) : Bool := isLet a || (decide (48 ≤ a ∧ a ≤ 57) || a == 95)
def byI (c : UInt8) : Int := (c.toNat : Int)
def nameB (l : List UInt8) : Bool := match l with
  | [] => false
  | c :: r => decide ((c :: r).length ≤ 24) && (isLet (byI c) && (c :: r).all fun c => isGo (byI c))
theorem letter_does (a : Int) (w : World) : Calls Try.prog 28 #[.int .u8 a] w fun e w' => e = .returned (.bool (isLet a)) ∧ Below w.heap.size w w' := by
  have hr : isLet a = ((decide (97 ≤ a) && decide (a ≤ 122)) || (decide (65 ≤ a) && decide (a ≤ 90))) := by simp [isLet]
  rw [hr]
  clear hr
  obtain ⟨b1, t1⟩ : ∃ b, decide (97 ≤ a) = b := ⟨_, rfl⟩
  obtain ⟨b2, t2⟩ : ∃ b, decide (a ≤ 122) = b := ⟨_, rfl⟩
  obtain ⟨b3, t3⟩ : ∃ b, decide (65 ≤ a) = b := ⟨_, rfl⟩
  obtain ⟨b4, t4⟩ : ∃ b, decide (a ≤ 90) = b := ⟨_, rfl⟩
  rw [t1, t2, t3, t4]
  cases b1 <;> cases b2 <;> cases b3 <;> cases b4
  all_goals
    go_enter Try.func28, Try.ntmps28
    go_wp2_with fail
    go_ret
    exact ⟨rfl, Below.refl _ _⟩
theorem goes_does (a : Int) (w : World) : Calls Try.prog 29 #[.int .u8 a] w fun e w' => e = .returned (.bool (isGo a)) ∧ Below w.heap.size w w' := by
  have HL := As.mk (letter_does a)
  have hr : isGo a = (isLet a || ((decide (48 ≤ a) && decide (a ≤ 57)) || (a == 95))) := by simp [isGo]
  rw [hr]
  clear hr
  obtain ⟨b, hb⟩ : ∃ b, isLet a = b := ⟨_, rfl⟩
  rw [hb] at HL ⊢
  obtain ⟨b1, t1⟩ : ∃ b, decide (48 ≤ a) = b := ⟨_, rfl⟩
  obtain ⟨b2, t2⟩ : ∃ b, decide (a ≤ 57) = b := ⟨_, rfl⟩
  obtain ⟨b3, t3⟩ : ∃ b, (a == 95) = b := ⟨_, rfl⟩
  rw [t1, t2, t3]
  clear hb
  cases b <;> cases b1 <;> cases b2 <;> cases b3
  all_goals
    go_enter Try.func29, Try.ntmps29
    go_wp2_with fail
    refine (HL.out w).mono ?_
    rintro e w1 ⟨rfl, hB⟩
    have HB := As.mk hB
    clear hB
    go_wp2_with fail
    go_ret
    exact ⟨rfl, HB.out⟩
theorem ret_b {a b : Bool} (h : a = b) : Ending.returned (.bool a) = .returned (.bool b) := by rw [h]
theorem nameB_of (s : ByteArray) (h : 0 < s.size) : nameB s.data.toList = (decide (s.size ≤ 24) && (isLet (s[0].toNat : Int) && s.data.toList.all fun c => isGo (byI c))) := by
  obtain ⟨⟨l⟩⟩ := s
  cases l with
  | nil => simp [ByteArray.size] at h
  | cons c r => rfl
theorem nameB_nil (s : ByteArray) (h : s.size = 0) : nameB s.data.toList = false := by
  obtain ⟨⟨l⟩⟩ := s
  cases l with
  | nil => rfl
  | cons c r => simp [ByteArray.size] at h
theorem take_all (s : ByteArray) (k : Nat) (h : k < s.size) (f : UInt8 → Bool) : (s.data.toList.take (k + 1)).all f = ((s.data.toList.take k).all f && f s[k]) := by
  rw [List.take_succ_eq_append_getElem (by simpa using h), List.all_append]
  simp
  rfl
theorem all_at (s : ByteArray) (k : Nat) (h : k < s.size) (f : UInt8 → Bool) (hf : f s[k] = false) : s.data.toList.all f = false := by
  rw [List.all_eq_false]
  refine ⟨s[k], ?_, by simp [hf]⟩
  have : s[k] = s.data.toList[k]'(by simpa using h) := rfl
  rw [this]
  exact List.getElem_mem _
theorem byte_getD (s : ByteArray) (k : Nat) (h : k < s.size) : (s.data.toList.getD k 0).toNat = s[k].toNat := by
  rw [List.getD_eq_getElem?_getD, List.getElem?_eq_getElem (by simpa using h)]
  rfl
set_option maxHeartbeats 3200000 in
theorem name_does (s : ByteArray) (w : World) (hs : s.size ≤ 9223372036854775807) : Calls Try.prog 23 #[.string s] w fun e w' => e = .returned (.bool (nameB s.data.toList)) ∧ Below w.heap.size w w' := by
  obtain ⟨r, hr⟩ : ∃ r, nameB s.data.toList = r := ⟨_, rfl⟩
  rw [hr]
  by_cases h0 : s.size = 0
  · rw [nameB_nil s h0] at hr
    subst hr
    have t0 : s.toList.isEmpty = true := by
      rw [ByteArray.toList_eq]
      obtain ⟨⟨l⟩⟩ := s
      cases l with
      | nil => rfl
      | cons c r => simp [ByteArray.size] at h0
    have t00 : s.toList = [] := by simpa using t0
    have HZ := As.mk h0
    clear h0
    go_enter Try.func23, Try.ntmps23
    go_wp2_with fail
    go_ret
    exact ⟨rfl, Below.refl _ _⟩
  · have hpos : 0 < s.size := by omega
    have t0 : s.toList.isEmpty = false := by
      rw [ByteArray.toList_eq]
      obtain ⟨⟨l⟩⟩ := s
      cases l with
      | nil => exact absurd rfl h0
      | cons c r => rfl
    rw [nameB_of s hpos] at hr
    by_cases h24 : 24 < s.size
    · rw [decide_eq_false (by omega), Bool.false_and] at hr
      subst hr
      have t1 : decide (24 < (s.size : Int)) = true := decide_eq_true (by omega)
      have t1' : decide (24 < s.size) = true := decide_eq_true (by omega)
      clear h0 h24
      go_enter Try.func23, Try.ntmps23
      go_wp2_with fail
      go_ret
      exact ⟨rfl, Below.refl _ _⟩
    · rw [decide_eq_true (by omega), Bool.true_and] at hr
      have HR := As.mk hr
      clear hr
      have t1 : decide (24 < (s.size : Int)) = false := decide_eq_false (by omega)
      have t1' : decide (24 < s.size) = false := decide_eq_false (by omega)
      have hcv := fun w => Lib.run_convert_string_bytes (P := Try.prog) w 9 84 5 s Try.underlying9 Try.underlying84 Try.underlying5
      clear h0 h24
      obtain ⟨b, hb⟩ : ∃ b, isLet (s[0].toNat : Int) = b := ⟨_, rfl⟩
      rw [hb] at HR
      have HB := As.mk hb
      clear hb
      cases b with
      | false =>
        have HR2 : As (r = false) := ⟨by have := HR.out; simpa using this.symm⟩
        obtain rfl := HR2.out
        clear HR HR2
        go_enter Try.func23, Try.ntmps23
        go_wp2_with fail
        refine (letter_does _ _).mono ?_
        rintro e w1 ⟨rfl, hb⟩
        have HBl := As.mk hb
        clear hb
        rw [HB.out]
        go_wp2_with fail
        go_ret
        exact ⟨rfl, HBl.out⟩
      | true =>
        have HR2 : As ((s.data.toList.all fun c => isGo (byI c)) = r) := ⟨by have := HR.out; simpa using this⟩
        clear HR
        go_enter Try.func23, Try.ntmps23
        go_wp2_with fail
        refine (letter_does _ _).mono ?_
        rintro e w1 ⟨rfl, hb⟩
        have HBl := As.mk hb
        clear hb
        rw [HB.out]
        go_wp2_with fail
        obtain ⟨W, hW⟩ : ∃ W, W = Lib.bytesWorld w1 5 s := ⟨_, rfl⟩
        obtain ⟨g, hg⟩ : ∃ g, g = w1.heap.size := ⟨_, rfl⟩
        rw [← hW, ← hg]
        have HC : As (∀ j, j < s.size → W.cell? ⟨g, j, none⟩ = some (.int .u8 (s.data.toList.getD j 0).toNat)) := ⟨fun j hj => by rw [hW, hg]; exact Lib.bytesWorld_cell w1 5 s j hj⟩
        have HWl : As (g < W.heap.size) := ⟨by rw [hW, hg, Lib.bytesWorld_size]; omega⟩
        have HWb : As (Below w.heap.size w W) := ⟨HBl.out.trans (Below.mono (by rw [hW]; exact ⟨rfl, rfl, rfl, by rw [Lib.bytesWorld_size]; omega, fun k hk => Lib.bytesWorld_at_old w1 5 s k hk⟩) HBl.out.size)⟩
        clear hW hg HBl hcv
        go_loopw [21] (fun iv wr => ∃ k : Nat, k ≤ s.size ∧ iv = .int .i64 k ∧ As ((s.data.toList.take k).all (fun c => isGo (byI c)) = true) ∧ As (Below W.heap.size W wr)) (fun iv _ => s.size - (intOf iv).toNat)
        case atStart => exact ⟨0, by omega, rfl, ⟨rfl⟩, ⟨Below.refl _ _⟩⟩
        case round =>
          obtain ⟨k, hk, rfl, HA, HL⟩ := hrel
          by_cases hlt : k < s.size
          · have c0 := (HL.out.cell (p := ⟨g, k, none⟩) HWl.out).trans (HC.out k hlt)
            rw [byte_getD s k hlt] at c0
            have HT := As.mk (take_all s k hlt fun c => isGo (byI c))
            obtain ⟨b, hb⟩ : ∃ b, isGo (s[k].toNat : Int) = b := ⟨_, rfl⟩
            have HBk := As.mk hb
            clear hb
            go_wp2_with fail
            refine (goes_does _ _).mono ?_
            rintro e w2 ⟨rfl, hb⟩
            have HL2 := As.mk (HL.out.trans (Below.mono hb HL.out.size))
            clear hb
            rw [HBk.out]
            cases b with
            | true =>
              go_wp2_with fail
              exact ⟨⟨k + 1, by omega, by go_num, ⟨by rw [HT.out, HA.out, Bool.true_and]; exact HBk.out⟩, HL2⟩, by simp [intOf]; omega⟩
            | false =>
              go_wp2_with fail
              go_ret
              exact ⟨ret_b (by rw [← HR2.out]; exact (all_at s k hlt _ HBk.out).symm), HWb.out.trans (Below.mono HL2.out HWb.out.size)⟩
          · obtain rfl : k = s.size := by omega
            go_wp2_with fail
            go_ret
            exact ⟨ret_b (by rw [← HR2.out, ← HA.out, List.take_of_length_le (by simp)]), HWb.out.trans (Below.mono HL.out HWb.out.size)⟩
end Go.Proofs.Ytdbdijicicbhfaa
