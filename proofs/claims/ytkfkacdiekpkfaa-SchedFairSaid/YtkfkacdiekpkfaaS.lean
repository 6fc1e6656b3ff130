/- Share, both texts; SameInts; alive. -/
import Derived.Test.YtkfkacdiekpkfaaC
namespace Go.Proofs.Ytkfkacdiekpkfaa
open Go.RowKit
attribute [local go_sem] mx_two mn_two mx2_int mn2_int
def encInt (x : Int) : List Value := [.int .i64 x]
theorem encInt_len (x : Int) : (encInt x).length = 1 := rfl
theorem one_int (x : Int) : ∀ u ∈ encInt x, u.oneCell' = true := by intro u hu; simp [encInt] at hu; subst hu; rfl
theorem Try.info3 : (Try.prog.info? 3).map (fun i => (i.zero, i.size, i.bytes)) = some (some (.int .i64 0), 1, 8) := by kernel_rfl
/-- What each gets, and how many get all. -/
def one (n : Int) : Int := if n < 1 then 1 else n
def least (a b : Int) : Int := if b < a then b else a
def shO : Int → List Int → List Int
  | _, [] => []
  | b, n :: l => least (one n) b :: shO (b - least (one n) b) l
def shW : Int → List Int → Nat
  | _, [] => 0
  | b, n :: l => (if one n ≤ b then 1 else 0) + shW (b - least (one n) b) l
theorem shW_le : ∀ (l : List Int) (b : Int), shW b l ≤ l.length
  | [], _ => Nat.le_refl _
  | n :: l, b => by simp only [shW, List.length_cons]; have := shW_le l (b - least (one n) b); split <;> omega
theorem shO_len : ∀ (l : List Int) (b : Int), (shO b l).length = l.length
  | [], _ => rfl
  | n :: l, b => by simp only [shO, List.length_cons, shO_len l]
def wh (b : Int) (l : List Int) : Nat := if shW b l = l.length then 0 else shW b l
def bz (b : Int) : Int := if b < 0 then 0 else b
set_option maxHeartbeats 6400000 in
theorem share_does (b0 : Int) (hb0 : b0 ≤ 9223372036854775807) (v : Value) (l : List Int) (w : World) (hd : Rd w 1 encInt v l) (hl : l.length ≤ 1000) : Calls Try.prog 9 #[.int .i64 b0, v] w fun e w' => ∃ v, e = .returned (.tuple #[v, .int .i64 (wh (bz b0) l : Nat)]) ∧ Below w.heap.size w w' ∧ Rw w' 3 1 encInt v (shO (bz b0) l) ∧ ∀ k, v.ownBlock = some k → w.heap.size ≤ k := by
  obtain ⟨A, c, rfl, hc, hn⟩ := hd.shape
  have HD := As.mk hd
  clear hd
  obtain ⟨R, hR⟩ : ∃ R, shO (bz b0) l = R := ⟨_, rfl⟩
  obtain ⟨T, hT⟩ : ∃ T, shW (bz b0) l = T := ⟨_, rfl⟩
  have HR : As (shO (bz b0) (l.drop 0) = R) := ⟨hR⟩
  have HT : As (0 + shW (bz b0) (l.drop 0) = T) := ⟨by rw [Nat.zero_add]; exact hT⟩
  have HW : As (wh (bz b0) l = if T = l.length then 0 else T) := ⟨by unfold wh; rw [hT]⟩
  have HRn : As (R.length = l.length) := ⟨by rw [← hR, shO_len]⟩
  have hTl : T ≤ l.length := by rw [← hT]; exact shW_le _ _
  rw [hR]
  generalize wh (bz b0) l = res at *
  have hbz : 0 ≤ bz b0 ∧ bz b0 ≤ 9223372036854775807 := by unfold bz; split <;> omega
  have HBZ : As ((b0 < 0 → bz b0 = 0) ∧ (0 ≤ b0 → bz b0 = b0)) := ⟨by unfold bz; split <;> omega⟩
  generalize bz b0 = b at *
  obtain ⟨hbz1, hbz2⟩ := hbz
  clear hR hT
  have hS : At (fun _ => False) w w (Hp.seps [Hp.row 3 1 encInt (.slice none 0 0) ([] : List Int)]) := (At.start0 (Below.refl _ _)).nilRow 3 1 encInt
  by_cases hneg : 0 < b0
  · obtain rfl : b = b0 := HBZ.out.2 (by omega)
    have BNN := hbz1
    have BMX := hbz2
    clear HBZ
    go_enter Try.func9, Try.ntmps9
    go_wp2_with fail
    go_loopw [0, 6, 7, 15] (fun bv ov wv iv wr => ∃ (k : Nat) (bb : Int) (acc : List Int) (m : Nat), k ≤ l.length ∧ bv = .int .i64 bb ∧ 0 ≤ bb ∧ bb ≤ 9223372036854775807 ∧ wv = .int .i64 m ∧ m ≤ k ∧ iv = .int .i64 k ∧ As (acc ++ shO bb (l.drop k) = R) ∧ As (m + shW bb (l.drop k) = T) ∧ At (fun _ => False) w wr (Hp.seps [Hp.row 3 1 encInt ov acc])) (fun _ _ _ iv _ => l.length - (intOf iv).toNat)
    case atStart => exact ⟨0, _, [], 0, by omega, rfl, BNN, BMX, rfl, by omega, rfl, ⟨HR.out⟩, ⟨HT.out⟩, hS⟩
    case round =>
      clear hS HR HT
      obtain ⟨k, bb, acc, m, hk, rfl, hb1, hb2, rfl, hmk, rfl, HR, HT, hS⟩ := hrel
      obtain ⟨D, n0, cc, rfl⟩ := (hS.rowAt 0 rfl).slice
      by_cases hlt : k < l.length
      · obtain ⟨n, hx⟩ : ∃ n, l[k]? = some n := ⟨_, List.getElem?_eq_getElem hlt⟩
        obtain ⟨bk, off, rfl, hbk, hcell⟩ := (HD.out.below hS.bl).cells _ _ _ rfl k n hx
        have c0 := hcell 0 (by omega)
        simp only [encInt, List.getElem?_cons_zero, Nat.add_zero, Nat.mul_one] at c0
        have hdr : l.drop k = n :: l.drop (k + 1) := by
          rw [List.drop_eq_getElem_cons hlt]
          rw [(List.getElem?_eq_some_iff.1 hx).2]
        have HR1 := As.mk HR.out
        have HT1 := As.mk HT.out
        have hal : acc.length ≤ 1000 := by
          have h1 := congrArg List.length HR.out
          rw [List.length_append, HRn.out] at h1
          omega
        rw [hdr] at HR1 HT1
        simp only [shO, shW] at HR1 HT1
        clear hcell hx hdr HR HT
        have HO1 : As ((1 < n → one n = n) ∧ (¬ 1 < n → one n = 1)) := ⟨by unfold one; split <;> omega⟩
        by_cases h1 : 1 < n
        · rw [HO1.out.1 h1] at HR1 HT1
          by_cases h2 : bb < n
          · have t0 : (bb == n) = false := beq_eq_false_iff_ne.2 (by omega)
            have HL : As (least n bb = bb ∧ ¬ n ≤ bb) := ⟨by unfold least; rw [if_pos h2]; exact ⟨rfl, by omega⟩⟩
            rw [HL.out.1] at HR1 HT1
            rw [if_neg HL.out.2, Nat.zero_add] at HT1
            have HR2 : As ((acc ++ [bb]) ++ shO (bb - bb) (l.drop (k + 1)) = R) := ⟨by rw [List.append_assoc]; exact HR1.out⟩
            have HT2 : As (m + shW (bb - bb) (l.drop (k + 1)) = T) := ⟨HT1.out⟩
            rw [Int.sub_self] at HR2 HT2
            clear HR1 HT1 HL HO1
            go_wp2_with (at_builtin; refine rw_append rfl (.tmp 32) (.tmp 34) 22 3 1 encInt (.int .i64 0) 8 rfl Try.underlying22 Try.info3 rfl (by decide) (.slice D n0 cc) acc (bb) rfl _ rfl (by first | exact blk_new (by simp) | exact blk_new_drew (by simp)) ((hS.below (by repeat (first | exact Below.refl _ _ | refine bl_drewN ?_ _ | refine Below.drew ?_ | refine bl_alloc ?_ _ | refine bl_set ?_ (by first | (simp; done) | omega | (simp; omega)) _))).rowAt 0 rfl) encInt_len (one_int _) ?c1 ?c2 ?c3)
            case c1 => simp only [maxLen]; omega
            case c2 => omega
            case c3 =>
              intro v1 w2 hA
              have hU := At.appendAt 0 hA hS rfl (by repeat (first | exact Below.refl _ _ | refine bl_drewN ?_ _ | refine Below.drew ?_ | refine bl_alloc ?_ _ | refine bl_set ?_ (by first | (simp; done) | omega | (simp; omega)) _))
              clear hA hS
              go_wp2_with fail
              go_roundw
              case rel => exact ⟨k + 1, _, _, m, by omega, rfl, by omega, by omega, by go_num, by omega, by go_num, HR2, HT2, hU⟩
              case measure => simp [intOf]; omega
          · have HL : As (least n bb = n ∧ n ≤ bb) := ⟨by unfold least; rw [if_neg h2]; exact ⟨rfl, by omega⟩⟩
            rw [HL.out.1] at HR1 HT1
            rw [if_pos HL.out.2] at HT1
            have hle := HL.out.2
            have HR2 : As ((acc ++ [n]) ++ shO (bb - n) (l.drop (k + 1)) = R) := ⟨by rw [List.append_assoc]; exact HR1.out⟩
            have HT2 : As ((m + 1) + shW (bb - n) (l.drop (k + 1)) = T) := ⟨by rw [Nat.add_assoc]; exact HT1.out⟩
            clear HR1 HT1 HL HO1
            go_wp2_with (at_builtin; refine rw_append rfl (.tmp 32) (.tmp 34) 22 3 1 encInt (.int .i64 0) 8 rfl Try.underlying22 Try.info3 rfl (by decide) (.slice D n0 cc) acc (n) rfl _ rfl (by first | exact blk_new (by simp) | exact blk_new_drew (by simp)) ((hS.below (by repeat (first | exact Below.refl _ _ | refine bl_drewN ?_ _ | refine Below.drew ?_ | refine bl_alloc ?_ _ | refine bl_set ?_ (by first | (simp; done) | omega | (simp; omega)) _))).rowAt 0 rfl) encInt_len (one_int _) ?c1 ?c2 ?c3)
            case c1 => simp only [maxLen]; omega
            case c2 => omega
            case c3 =>
              intro v1 w2 hA
              have hU := At.appendAt 0 hA hS rfl (by repeat (first | exact Below.refl _ _ | refine bl_drewN ?_ _ | refine Below.drew ?_ | refine bl_alloc ?_ _ | refine bl_set ?_ (by first | (simp; done) | omega | (simp; omega)) _))
              clear hA hS
              go_wp2_with fail
              go_roundw
              case rel => exact ⟨k + 1, _, _, m + 1, by omega, rfl, by omega, by omega, by go_num, by omega, by go_num, HR2, HT2, hU⟩
              case measure => simp [intOf]; omega
        · rw [HO1.out.2 h1] at HR1 HT1
          by_cases h2 : bb < 1
          · have t0 : (bb == 1) = false := beq_eq_false_iff_ne.2 (by omega)
            have HL : As (least 1 bb = bb ∧ ¬ 1 ≤ bb) := ⟨by unfold least; rw [if_pos h2]; exact ⟨rfl, by omega⟩⟩
            rw [HL.out.1] at HR1 HT1
            rw [if_neg HL.out.2, Nat.zero_add] at HT1
            have HR2 : As ((acc ++ [bb]) ++ shO (bb - bb) (l.drop (k + 1)) = R) := ⟨by rw [List.append_assoc]; exact HR1.out⟩
            have HT2 : As (m + shW (bb - bb) (l.drop (k + 1)) = T) := ⟨HT1.out⟩
            rw [Int.sub_self] at HR2 HT2
            clear HR1 HT1 HL HO1
            go_wp2_with (at_builtin; refine rw_append rfl (.tmp 32) (.tmp 34) 22 3 1 encInt (.int .i64 0) 8 rfl Try.underlying22 Try.info3 rfl (by decide) (.slice D n0 cc) acc (bb) rfl _ rfl (by first | exact blk_new (by simp) | exact blk_new_drew (by simp)) ((hS.below (by repeat (first | exact Below.refl _ _ | refine bl_drewN ?_ _ | refine Below.drew ?_ | refine bl_alloc ?_ _ | refine bl_set ?_ (by first | (simp; done) | omega | (simp; omega)) _))).rowAt 0 rfl) encInt_len (one_int _) ?c1 ?c2 ?c3)
            case c1 => simp only [maxLen]; omega
            case c2 => omega
            case c3 =>
              intro v1 w2 hA
              have hU := At.appendAt 0 hA hS rfl (by repeat (first | exact Below.refl _ _ | refine bl_drewN ?_ _ | refine Below.drew ?_ | refine bl_alloc ?_ _ | refine bl_set ?_ (by first | (simp; done) | omega | (simp; omega)) _))
              clear hA hS
              go_wp2_with fail
              go_roundw
              case rel => exact ⟨k + 1, _, _, m, by omega, rfl, by omega, by omega, by go_num, by omega, by go_num, HR2, HT2, hU⟩
              case measure => simp [intOf]; omega
          · have HL : As (least 1 bb = 1 ∧ 1 ≤ bb) := ⟨by unfold least; rw [if_neg h2]; exact ⟨rfl, by omega⟩⟩
            rw [HL.out.1] at HR1 HT1
            rw [if_pos HL.out.2] at HT1
            have hle := HL.out.2
            have HR2 : As ((acc ++ [1]) ++ shO (bb - 1) (l.drop (k + 1)) = R) := ⟨by rw [List.append_assoc]; exact HR1.out⟩
            have HT2 : As ((m + 1) + shW (bb - 1) (l.drop (k + 1)) = T) := ⟨by rw [Nat.add_assoc]; exact HT1.out⟩
            clear HR1 HT1 HL HO1
            go_wp2_with (at_builtin; refine rw_append rfl (.tmp 32) (.tmp 34) 22 3 1 encInt (.int .i64 0) 8 rfl Try.underlying22 Try.info3 rfl (by decide) (.slice D n0 cc) acc (1) rfl _ rfl (by first | exact blk_new (by simp) | exact blk_new_drew (by simp)) ((hS.below (by repeat (first | exact Below.refl _ _ | refine bl_drewN ?_ _ | refine Below.drew ?_ | refine bl_alloc ?_ _ | refine bl_set ?_ (by first | (simp; done) | omega | (simp; omega)) _))).rowAt 0 rfl) encInt_len (one_int _) ?c1 ?c2 ?c3)
            case c1 => simp only [maxLen]; omega
            case c2 => omega
            case c3 =>
              intro v1 w2 hA
              have hU := At.appendAt 0 hA hS rfl (by repeat (first | exact Below.refl _ _ | refine bl_drewN ?_ _ | refine Below.drew ?_ | refine bl_alloc ?_ _ | refine bl_set ?_ (by first | (simp; done) | omega | (simp; omega)) _))
              clear hA hS
              go_wp2_with fail
              go_roundw
              case rel => exact ⟨k + 1, _, _, m + 1, by omega, rfl, by omega, by omega, by go_num, by omega, by go_num, HR2, HT2, hU⟩
              case measure => simp [intOf]; omega
      · obtain rfl : k = l.length := by omega
        have HR2 : As (acc = R) := ⟨by have := HR.out; rwa [List.drop_length, shO, List.append_nil] at this⟩
        have HT2 : As (m = T) := ⟨by have := HT.out; rwa [List.drop_length, shW, Nat.add_zero] at this⟩
        obtain rfl := HR2.out
        obtain rfl := HT2.out
        clear HR HT HR2 HT2
        by_cases hw : m = l.length
        · have t0 : ((m : Int) == (l.length : Int)) = true := by rw [beq_iff_eq]; omega
          have t1 : (m == l.length) = true := by rw [beq_iff_eq]; omega
          have HI : As (res = 0) := ⟨by rw [HW.out, if_pos hw]⟩
          clear hw
          go_wp2_with fail
          all_goals
            go_ret2
            exact ⟨_, by first | rfl | (rw [HI.out]; rfl), hS.bl, hS.rowAt 0 rfl, hS.own_new 0 rfl⟩
        · have t0 : ((m : Int) == (l.length : Int)) = false := beq_eq_false_iff_ne.2 (by omega)
          have t1 : (m == l.length) = false := beq_eq_false_iff_ne.2 (by omega)
          have HI : As (res = m) := ⟨by rw [HW.out, if_neg hw]⟩
          clear hw
          go_wp2_with fail
          all_goals
            go_ret2
            exact ⟨_, by first | rfl | (rw [HI.out]; rfl), hS.bl, hS.rowAt 0 rfl, hS.own_new 0 rfl⟩
  · obtain rfl : b = 0 := by
      by_cases h : b0 < 0
      · exact HBZ.out.1 h
      · have := HBZ.out.2 (by omega); omega
    have BNN : (0 : Int) ≤ 0 := by omega
    have BMX : (0 : Int) ≤ 9223372036854775807 := by omega
    clear HBZ hbz1 hbz2
    go_enter Try.func9, Try.ntmps9
    go_wp2_with fail
    go_loopw [0, 6, 7, 15] (fun bv ov wv iv wr => ∃ (k : Nat) (bb : Int) (acc : List Int) (m : Nat), k ≤ l.length ∧ bv = .int .i64 bb ∧ 0 ≤ bb ∧ bb ≤ 9223372036854775807 ∧ wv = .int .i64 m ∧ m ≤ k ∧ iv = .int .i64 k ∧ As (acc ++ shO bb (l.drop k) = R) ∧ As (m + shW bb (l.drop k) = T) ∧ At (fun _ => False) w wr (Hp.seps [Hp.row 3 1 encInt ov acc])) (fun _ _ _ iv _ => l.length - (intOf iv).toNat)
    case atStart => exact ⟨0, _, [], 0, by omega, rfl, BNN, BMX, rfl, by omega, rfl, ⟨HR.out⟩, ⟨HT.out⟩, hS⟩
    case round =>
      clear hS HR HT
      obtain ⟨k, bb, acc, m, hk, rfl, hb1, hb2, rfl, hmk, rfl, HR, HT, hS⟩ := hrel
      obtain ⟨D, n0, cc, rfl⟩ := (hS.rowAt 0 rfl).slice
      by_cases hlt : k < l.length
      · obtain ⟨n, hx⟩ : ∃ n, l[k]? = some n := ⟨_, List.getElem?_eq_getElem hlt⟩
        obtain ⟨bk, off, rfl, hbk, hcell⟩ := (HD.out.below hS.bl).cells _ _ _ rfl k n hx
        have c0 := hcell 0 (by omega)
        simp only [encInt, List.getElem?_cons_zero, Nat.add_zero, Nat.mul_one] at c0
        have hdr : l.drop k = n :: l.drop (k + 1) := by
          rw [List.drop_eq_getElem_cons hlt]
          rw [(List.getElem?_eq_some_iff.1 hx).2]
        have HR1 := As.mk HR.out
        have HT1 := As.mk HT.out
        have hal : acc.length ≤ 1000 := by
          have h1 := congrArg List.length HR.out
          rw [List.length_append, HRn.out] at h1
          omega
        rw [hdr] at HR1 HT1
        simp only [shO, shW] at HR1 HT1
        clear hcell hx hdr HR HT
        have HO1 : As ((1 < n → one n = n) ∧ (¬ 1 < n → one n = 1)) := ⟨by unfold one; split <;> omega⟩
        by_cases h1 : 1 < n
        · rw [HO1.out.1 h1] at HR1 HT1
          by_cases h2 : bb < n
          · have t0 : (bb == n) = false := beq_eq_false_iff_ne.2 (by omega)
            have HL : As (least n bb = bb ∧ ¬ n ≤ bb) := ⟨by unfold least; rw [if_pos h2]; exact ⟨rfl, by omega⟩⟩
            rw [HL.out.1] at HR1 HT1
            rw [if_neg HL.out.2, Nat.zero_add] at HT1
            have HR2 : As ((acc ++ [bb]) ++ shO (bb - bb) (l.drop (k + 1)) = R) := ⟨by rw [List.append_assoc]; exact HR1.out⟩
            have HT2 : As (m + shW (bb - bb) (l.drop (k + 1)) = T) := ⟨HT1.out⟩
            rw [Int.sub_self] at HR2 HT2
            clear HR1 HT1 HL HO1
            go_wp2_with (at_builtin; refine rw_append rfl (.tmp 32) (.tmp 34) 22 3 1 encInt (.int .i64 0) 8 rfl Try.underlying22 Try.info3 rfl (by decide) (.slice D n0 cc) acc (bb) rfl _ rfl (by first | exact blk_new (by simp) | exact blk_new_drew (by simp)) ((hS.below (by repeat (first | exact Below.refl _ _ | refine bl_drewN ?_ _ | refine Below.drew ?_ | refine bl_alloc ?_ _ | refine bl_set ?_ (by first | (simp; done) | omega | (simp; omega)) _))).rowAt 0 rfl) encInt_len (one_int _) ?c1 ?c2 ?c3)
            case c1 => simp only [maxLen]; omega
            case c2 => omega
            case c3 =>
              intro v1 w2 hA
              have hU := At.appendAt 0 hA hS rfl (by repeat (first | exact Below.refl _ _ | refine bl_drewN ?_ _ | refine Below.drew ?_ | refine bl_alloc ?_ _ | refine bl_set ?_ (by first | (simp; done) | omega | (simp; omega)) _))
              clear hA hS
              go_wp2_with fail
              go_roundw
              case rel => exact ⟨k + 1, _, _, m, by omega, rfl, by omega, by omega, by go_num, by omega, by go_num, HR2, HT2, hU⟩
              case measure => simp [intOf]; omega
          · have HL : As (least n bb = n ∧ n ≤ bb) := ⟨by unfold least; rw [if_neg h2]; exact ⟨rfl, by omega⟩⟩
            rw [HL.out.1] at HR1 HT1
            rw [if_pos HL.out.2] at HT1
            have hle := HL.out.2
            have HR2 : As ((acc ++ [n]) ++ shO (bb - n) (l.drop (k + 1)) = R) := ⟨by rw [List.append_assoc]; exact HR1.out⟩
            have HT2 : As ((m + 1) + shW (bb - n) (l.drop (k + 1)) = T) := ⟨by rw [Nat.add_assoc]; exact HT1.out⟩
            clear HR1 HT1 HL HO1
            go_wp2_with (at_builtin; refine rw_append rfl (.tmp 32) (.tmp 34) 22 3 1 encInt (.int .i64 0) 8 rfl Try.underlying22 Try.info3 rfl (by decide) (.slice D n0 cc) acc (n) rfl _ rfl (by first | exact blk_new (by simp) | exact blk_new_drew (by simp)) ((hS.below (by repeat (first | exact Below.refl _ _ | refine bl_drewN ?_ _ | refine Below.drew ?_ | refine bl_alloc ?_ _ | refine bl_set ?_ (by first | (simp; done) | omega | (simp; omega)) _))).rowAt 0 rfl) encInt_len (one_int _) ?c1 ?c2 ?c3)
            case c1 => simp only [maxLen]; omega
            case c2 => omega
            case c3 =>
              intro v1 w2 hA
              have hU := At.appendAt 0 hA hS rfl (by repeat (first | exact Below.refl _ _ | refine bl_drewN ?_ _ | refine Below.drew ?_ | refine bl_alloc ?_ _ | refine bl_set ?_ (by first | (simp; done) | omega | (simp; omega)) _))
              clear hA hS
              go_wp2_with fail
              go_roundw
              case rel => exact ⟨k + 1, _, _, m + 1, by omega, rfl, by omega, by omega, by go_num, by omega, by go_num, HR2, HT2, hU⟩
              case measure => simp [intOf]; omega
        · rw [HO1.out.2 h1] at HR1 HT1
          by_cases h2 : bb < 1
          · have t0 : (bb == 1) = false := beq_eq_false_iff_ne.2 (by omega)
            have HL : As (least 1 bb = bb ∧ ¬ 1 ≤ bb) := ⟨by unfold least; rw [if_pos h2]; exact ⟨rfl, by omega⟩⟩
            rw [HL.out.1] at HR1 HT1
            rw [if_neg HL.out.2, Nat.zero_add] at HT1
            have HR2 : As ((acc ++ [bb]) ++ shO (bb - bb) (l.drop (k + 1)) = R) := ⟨by rw [List.append_assoc]; exact HR1.out⟩
            have HT2 : As (m + shW (bb - bb) (l.drop (k + 1)) = T) := ⟨HT1.out⟩
            rw [Int.sub_self] at HR2 HT2
            clear HR1 HT1 HL HO1
            go_wp2_with (at_builtin; refine rw_append rfl (.tmp 32) (.tmp 34) 22 3 1 encInt (.int .i64 0) 8 rfl Try.underlying22 Try.info3 rfl (by decide) (.slice D n0 cc) acc (bb) rfl _ rfl (by first | exact blk_new (by simp) | exact blk_new_drew (by simp)) ((hS.below (by repeat (first | exact Below.refl _ _ | refine bl_drewN ?_ _ | refine Below.drew ?_ | refine bl_alloc ?_ _ | refine bl_set ?_ (by first | (simp; done) | omega | (simp; omega)) _))).rowAt 0 rfl) encInt_len (one_int _) ?c1 ?c2 ?c3)
            case c1 => simp only [maxLen]; omega
            case c2 => omega
            case c3 =>
              intro v1 w2 hA
              have hU := At.appendAt 0 hA hS rfl (by repeat (first | exact Below.refl _ _ | refine bl_drewN ?_ _ | refine Below.drew ?_ | refine bl_alloc ?_ _ | refine bl_set ?_ (by first | (simp; done) | omega | (simp; omega)) _))
              clear hA hS
              go_wp2_with fail
              go_roundw
              case rel => exact ⟨k + 1, _, _, m, by omega, rfl, by omega, by omega, by go_num, by omega, by go_num, HR2, HT2, hU⟩
              case measure => simp [intOf]; omega
          · have HL : As (least 1 bb = 1 ∧ 1 ≤ bb) := ⟨by unfold least; rw [if_neg h2]; exact ⟨rfl, by omega⟩⟩
            rw [HL.out.1] at HR1 HT1
            rw [if_pos HL.out.2] at HT1
            have hle := HL.out.2
            have HR2 : As ((acc ++ [1]) ++ shO (bb - 1) (l.drop (k + 1)) = R) := ⟨by rw [List.append_assoc]; exact HR1.out⟩
            have HT2 : As ((m + 1) + shW (bb - 1) (l.drop (k + 1)) = T) := ⟨by rw [Nat.add_assoc]; exact HT1.out⟩
            clear HR1 HT1 HL HO1
            go_wp2_with (at_builtin; refine rw_append rfl (.tmp 32) (.tmp 34) 22 3 1 encInt (.int .i64 0) 8 rfl Try.underlying22 Try.info3 rfl (by decide) (.slice D n0 cc) acc (1) rfl _ rfl (by first | exact blk_new (by simp) | exact blk_new_drew (by simp)) ((hS.below (by repeat (first | exact Below.refl _ _ | refine bl_drewN ?_ _ | refine Below.drew ?_ | refine bl_alloc ?_ _ | refine bl_set ?_ (by first | (simp; done) | omega | (simp; omega)) _))).rowAt 0 rfl) encInt_len (one_int _) ?c1 ?c2 ?c3)
            case c1 => simp only [maxLen]; omega
            case c2 => omega
            case c3 =>
              intro v1 w2 hA
              have hU := At.appendAt 0 hA hS rfl (by repeat (first | exact Below.refl _ _ | refine bl_drewN ?_ _ | refine Below.drew ?_ | refine bl_alloc ?_ _ | refine bl_set ?_ (by first | (simp; done) | omega | (simp; omega)) _))
              clear hA hS
              go_wp2_with fail
              go_roundw
              case rel => exact ⟨k + 1, _, _, m + 1, by omega, rfl, by omega, by omega, by go_num, by omega, by go_num, HR2, HT2, hU⟩
              case measure => simp [intOf]; omega
      · obtain rfl : k = l.length := by omega
        have HR2 : As (acc = R) := ⟨by have := HR.out; rwa [List.drop_length, shO, List.append_nil] at this⟩
        have HT2 : As (m = T) := ⟨by have := HT.out; rwa [List.drop_length, shW, Nat.add_zero] at this⟩
        obtain rfl := HR2.out
        obtain rfl := HT2.out
        clear HR HT HR2 HT2
        by_cases hw : m = l.length
        · have t0 : ((m : Int) == (l.length : Int)) = true := by rw [beq_iff_eq]; omega
          have t1 : (m == l.length) = true := by rw [beq_iff_eq]; omega
          have HI : As (res = 0) := ⟨by rw [HW.out, if_pos hw]⟩
          clear hw
          go_wp2_with fail
          all_goals
            go_ret2
            exact ⟨_, by first | rfl | (rw [HI.out]; rfl), hS.bl, hS.rowAt 0 rfl, hS.own_new 0 rfl⟩
        · have t0 : ((m : Int) == (l.length : Int)) = false := beq_eq_false_iff_ne.2 (by omega)
          have t1 : (m == l.length) = false := beq_eq_false_iff_ne.2 (by omega)
          have HI : As (res = m) := ⟨by rw [HW.out, if_neg hw]⟩
          clear hw
          go_wp2_with fail
          all_goals
            go_ret2
            exact ⟨_, by first | rfl | (rw [HI.out]; rfl), hS.bl, hS.rowAt 0 rfl, hS.own_new 0 rfl⟩
end Go.Proofs.Ytkfkacdiekpkfaa
