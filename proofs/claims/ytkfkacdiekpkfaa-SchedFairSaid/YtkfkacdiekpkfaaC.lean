/- A ring in memory: New, Add, List, Move. -/
import Derived.Test.YtkfkacdiekpkfaaB
namespace Go.Proofs.Ytkfkacdiekpkfaa
open Go.RowKit
def isRg (t p : Nat) (xs : List (Int × Int)) (cur : Nat) : Hp := Hp.ex fun sv => Hp.seps [Hp.blk p #[sv, .int .i64 (cur : Nat)] t, Hp.row 35 2 encId sv xs]
theorem rg_openL {F0 : Nat → Prop} {w0 w : World} {t p cur : Nat} {xs : List (Int × Int)} {l : List Hp} (h : At F0 w0 w (Hp.seps (isRg t p xs cur :: l))) : ∃ A c, xs.length ≤ c ∧ xs.length ≤ 9223372036854775807 ∧ At F0 w0 w (Hp.seps (Hp.blk p #[.slice A xs.length c, .int .i64 (cur : Nat)] t :: Hp.row 35 2 encId (.slice A xs.length c) xs :: l)) := by
  obtain ⟨sv, h⟩ := h.openAt (f := fun sv => [Hp.blk p #[sv, .int .i64 (cur : Nat)] t, Hp.row 35 2 encId sv xs]) 0 rfl
  obtain ⟨A, c, rfl, h1, h2⟩ := (h.rowAt 1 rfl).shape
  exact ⟨A, c, h1, h2, h⟩
theorem rg_closeL {F0 : Nat → Prop} {w0 w : World} {t p cur : Nat} {xs : List (Int × Int)} {l : List Hp} {sv : Value} (h : At F0 w0 w (Hp.seps (Hp.blk p #[sv, .int .i64 (cur : Nat)] t :: Hp.row 35 2 encId sv xs :: l))) : At F0 w0 w (Hp.seps (isRg t p xs cur :: l)) :=
  At.closeL (f := fun sv => [Hp.blk p #[sv, .int .i64 (cur : Nat)] t, Hp.row 35 2 encId sv xs]) sv h
theorem rg_open {F0 : Nat → Prop} {w0 w : World} {t p cur : Nat} {xs : List (Int × Int)} (h : At F0 w0 w (isRg t p xs cur)) : ∃ A c, xs.length ≤ c ∧ xs.length ≤ 9223372036854775807 ∧ At F0 w0 w (Hp.seps [Hp.blk p #[.slice A xs.length c, .int .i64 (cur : Nat)] t, Hp.row 35 2 encId (.slice A xs.length c) xs]) := rg_openL h.toL
theorem rg_close {F0 : Nat → Prop} {w0 w : World} {t p cur : Nat} {xs : List (Int × Int)} {sv : Value} (h : At F0 w0 w (Hp.seps [Hp.blk p #[sv, .int .i64 (cur : Nat)] t, Hp.row 35 2 encId sv xs])) : At F0 w0 w (isRg t p xs cur) := (rg_closeL h).ofL
set_option maxHeartbeats 1600000 in
theorem new_does : Does Try.prog 13 #[] Hp.emp (fun e B => ∃ p, e = .returned (.pointer (some ⟨p, 0, none⟩)) ∧ B = isRg 51 p [] 0) := by
  refine Does.of fun w F hS => ?_
  go_enter Try.func13, Try.ntmps13
  go_wp2
  go_ret
  exact At.post (rg_close (((emp_seps hS).nilRow 35 2 encId).alloc _ _)) ⟨_, rfl, rfl⟩
set_option maxHeartbeats 3200000 in
theorem add_old (p : Nat) (xs : List (Int × Int)) (cur : Nat) (a b : Int) (hm : 0 ≤ pos xs (a, b)) : Does Try.prog 14 #[.pointer (some ⟨p, 0, none⟩), .agg #[.int .i64 a, .int .i64 b]] (isRg 51 p xs cur) (fun e B => e = .returned (.bool false) ∧ B = isRg 51 p xs cur) := by
  refine Does.of fun w F hS => ?_
  obtain ⟨sA, sc, hsc, hn, hS⟩ := rg_open hS
  have hS := hS.alloc #[.int .i64 a, .int .i64 b] 35
  obtain ⟨r, hr⟩ : ∃ r, r = w.heap.size := ⟨_, rfl⟩
  obtain ⟨W, hW⟩ : ∃ W, W = w.alloc (.cells #[.int .i64 a, .int .i64 b] 35) := ⟨_, rfl⟩
  rw [← hW, ← hr] at hS
  have HW := As.mk hW
  have HQ := As.mk hr
  have HT : As (decide (0 ≤ pos xs (a, b)) = true) := ⟨decide_eq_true hm⟩
  clear hW hr hm hsc
  go_enter Try.func14, Try.ntmps14
  go_wp2
  rw [← HW.out, ← HQ.out]
  clear HW HQ
  have r0 := (hS.cellAt 0 rfl 0).trans rfl
  have r1 := (hS.cellAt 0 rfl 1).trans rfl
  have p0 := (hS.cellAt 1 rfl 0).trans rfl
  have p1 := (hS.cellAt 1 rfl 1).trans rfl
  have HC := As.mk (fun W hr => contains_does (.slice sA xs.length sc) xs a b W hr)
  rw [HT.out] at HC
  go_still_tail 5, (by kernel_rfl)
  go_wp2_with fail
  refine (hS.drew.beside (HC.out _ ((hS.drew.rowAt 2 rfl).rd encId_len))).mono ?_
  rintro e w1 ⟨rfl, hS1⟩
  go_wp2_with fail
  go_ret
  exact At.post (rg_close (hS1.sel [1, 1])) ⟨rfl, rfl⟩
set_option maxHeartbeats 6400000 in
theorem add_new (p : Nat) (xs : List (Int × Int)) (cur : Nat) (a b : Int) (hm : ¬ 0 ≤ pos xs (a, b)) (hl : xs.length ≤ 100000) : Does Try.prog 14 #[.pointer (some ⟨p, 0, none⟩), .agg #[.int .i64 a, .int .i64 b]] (isRg 51 p xs cur) (fun e B => e = .returned (.bool true) ∧ B = isRg 51 p (xs ++ [(a, b)]) cur) := by
  refine Does.of fun w F hS => ?_
  obtain ⟨sA, sc, hsc, hn, hS⟩ := rg_open hS
  have hS := hS.alloc #[.int .i64 a, .int .i64 b] 35
  obtain ⟨r, hr⟩ : ∃ r, r = w.heap.size := ⟨_, rfl⟩
  obtain ⟨W, hW⟩ : ∃ W, W = w.alloc (.cells #[.int .i64 a, .int .i64 b] 35) := ⟨_, rfl⟩
  rw [← hW, ← hr] at hS
  have HW := As.mk hW
  have HQ := As.mk hr
  have HT : As (decide (0 ≤ pos xs (a, b)) = false) := ⟨decide_eq_false hm⟩
  clear hW hr hm hsc
  go_enter Try.func14, Try.ntmps14
  go_wp2
  rw [← HW.out, ← HQ.out]
  clear HW HQ
  have r0 := (hS.cellAt 0 rfl 0).trans rfl
  have r1 := (hS.cellAt 0 rfl 1).trans rfl
  have p0 := (hS.cellAt 1 rfl 0).trans rfl
  have p1 := (hS.cellAt 1 rfl 1).trans rfl
  have HC := As.mk (fun W hr => contains_does (.slice sA xs.length sc) xs a b W hr)
  rw [HT.out] at HC
  go_still_tail 5, (by kernel_rfl)
  go_wp2_with fail
  refine (hS.drew.beside (HC.out _ ((hS.drew.rowAt 2 rfl).rd encId_len))).mono ?_
  rintro e w1 ⟨rfl, hS1⟩
  clear r0 r1 p0 p1 hS
  have r0 := (hS1.cellAt 0 rfl 0).trans rfl
  have r1 := (hS1.cellAt 0 rfl 1).trans rfl
  have rlt := hS1.ltAt 0 rfl
  have p0 := (hS1.cellAt 1 rfl 0).trans rfl
  have p1 := (hS1.cellAt 1 rfl 1).trans rfl
  have plt := hS1.ltAt 1 rfl
  go_wp2_with fail
  go_region_law (refine rw_append_step rfl (.tmp 15) (.tmp 17) 37 35 2 encId (.agg #[.int .i64 0, .int .i64 0]) 16 rfl Try.underlying37 Try.info35 rfl (by decide) (.slice sA xs.length sc) xs (a, b) rfl _ rfl (by first | exact blk_new (by simp) | exact blk_new_drew (by simp) | exact (blk_new_drewN (by simp))) ((hS1.below (by repeat (first | exact Below.refl _ _ | refine bl_drewN ?_ _ | refine Below.drew ?_ | refine bl_alloc ?_ _ | refine bl_set ?_ (by first | (simp; done) | omega | (simp; omega)) _))).rowAt 2 rfl) encId_len (one_id _) ?_ ?_ ?_; (simp only [maxLen]; omega); omega; intro v1 w2 hA; obtain ⟨A1, n1, c1, rfl⟩ := hA.row.slice; have hS2 := At.appendAt 2 hA hS1 rfl (by repeat (first | exact Below.refl _ _ | refine bl_drewN ?_ _ | refine Below.drew ?_ | refine bl_alloc ?_ _ | refine bl_set ?_ (by first | (simp; done) | omega | (simp; omega)) _)); clear hA; have p0 := (hS2.cellAt 1 rfl 0).trans rfl; have f0 := hS2.frozenAt 1 rfl 0; have plt := hS2.ltAt 1 rfl)
  all_goals
    have hS3 := (hS2.setBlkAt 1 rfl 0 (.slice A1 n1 c1)).sel [1, 1]
    go_wp2
    go_ret
    exact At.post (rg_close hS3) ⟨rfl, rfl⟩
set_option maxHeartbeats 6400000 in
theorem list_does (p : Nat) (xs : List (Int × Int)) (cur : Nat) (hc : cur ≤ xs.length) (hl : xs.length ≤ 50000) : Does Try.prog 16 #[.pointer (some ⟨p, 0, none⟩)] (isRg 51 p xs cur) (fun e B => ∃ v, e = .returned v ∧ B = Hp.seps [Hp.row 35 2 encId v (xs.drop cur ++ xs.take cur), isRg 51 p xs cur]) := by
  refine Does.of fun w F hS => ?_
  obtain ⟨sA, sc, hsc, hn, hS⟩ := rg_open hS
  obtain ⟨A, hA, HR⟩ := rw_tail 35 2 encId encId_len cur sA sc xs hc
  have p0 := (hS.cellAt 0 rfl 0).trans rfl
  have p1 := (hS.cellAt 0 rfl 1).trans rfl
  have m0 : (cur : Int) ≤ (xs.length : Int) := by omega
  have m1 : (0 : Int) ≤ (cur : Int) := by omega
  have m2 : (cur : Int) ≤ (sc : Int) := by omega
  go_enter Try.func16, Try.ntmps16
  go_wp2
  go_still_tail 18, (by kernel_rfl)
  go_wp2_with fail
  have hT := (hS.alloc #[.slice A (xs.length - cur) (sc - cur), .slice sA cur sc] 37).drew
  clear p0 p1 hS hA
  refine (concat_does _ _ _ (xs.drop cur) (xs.take cur) _ (hT.blkAt 0 rfl) (HR.out _ (hT.rowAt 2 rfl)) (((hT.rowAt 2 rfl).rd encId_len).take cur hc) (by simp; omega)).mono ?_
  rintro e w1 ⟨v, rfl, hb, hr, hn⟩
  have hU := hT.newRow hb hr hn
  obtain ⟨D, n0, c0, rfl⟩ := hr.slice
  clear hT hb hr hn
  go_wp2_with fail
  go_ret
  have hV := rg_closeL (hU.sel [2, 2, 0])
  exact At.post (hV.sel [1, 0]) ⟨_, rfl, rfl⟩
attribute [local go_sem] mx_two mn_two mx2_int mn2_int
def mv (len cur : Nat) (n : Int) : Nat := (cur + n.toNat % len) % len
set_option maxHeartbeats 3200000 in
theorem move_nil (p cur : Nat) (n : Int) : Does Try.prog 15 #[.pointer (some ⟨p, 0, none⟩), .int .i64 n] (isRg 51 p [] cur) (fun e B => e = .returned (.tuple #[]) ∧ B = isRg 51 p [] cur) := by
  refine Does.of fun w F hS => ?_
  obtain ⟨sA, sc, hsc, hn, hS⟩ := rg_open hS
  have p0 := (hS.cellAt 0 rfl 0).trans rfl
  have p1 := (hS.cellAt 0 rfl 1).trans rfl
  go_enter Try.func15, Try.ntmps15
  go_wp2
  go_end0
  exact At.post (rg_close hS) ⟨rfl, rfl⟩
set_option maxHeartbeats 3200000 in
theorem move_does (p cur : Nat) (xs : List (Int × Int)) (n : Int) (h0 : 0 < xs.length) (hl : xs.length ≤ 50000) (hc : cur ≤ xs.length) : Does Try.prog 15 #[.pointer (some ⟨p, 0, none⟩), .int .i64 n] (isRg 51 p xs cur) (fun e B => e = .returned (.tuple #[]) ∧ B = isRg 51 p xs (mv xs.length cur n)) := by
  refine Does.of fun w F hS => ?_
  obtain ⟨sA, sc, hsc, hn, hS⟩ := rg_open hS
  have p0 := (hS.cellAt 0 rfl 0).trans rfl
  have p1 := (hS.cellAt 0 rfl 1).trans rfl
  have f1 := hS.frozenAt 0 rfl 1
  have plt := hS.ltAt 0 rfl
  obtain ⟨L, hL⟩ : ∃ L, xs.length = L := ⟨_, rfl⟩
  have HR : As (isRg 51 p xs (mv xs.length cur n) = isRg 51 p xs (mv L cur n)) := ⟨by rw [hL]⟩
  rw [hL] at h0 hl hc hsc hn p0
  have d0 : decide ((0 : Int) < (L : Int)) = true := decide_eq_true (by omega)
  have d1 : decide (0 < L) = true := decide_eq_true h0
  have HL := As.mk hL
  clear hL
  by_cases hp : 0 < n
  · obtain ⟨k, rfl⟩ : ∃ k : Nat, n = k := ⟨n.toNat, by omega⟩
    obtain ⟨a, ha⟩ : ∃ a, k % L = a := ⟨_, rfl⟩
    obtain ⟨b, hb⟩ : ∃ b, (cur + a) % L = b := ⟨_, rfl⟩
    have hal : a < L := ha ▸ Nat.mod_lt _ h0
    have hbl : b < L := hb ▸ Nat.mod_lt _ h0
    have HM : As (mv L cur (k : Int) = b) := ⟨by unfold mv; rw [← hb, ← ha]; simp⟩
    have r1 : (k : Int).tmod (L : Int) = (a : Int) := by rw [Int.tmod_eq_emod_of_nonneg (by omega), ← ha]; rfl
    have r1' : (k : Int) % (L : Int) = (a : Int) := by rw [← ha]; rfl
    have r2 : ((cur : Int) + (a : Int)).tmod (L : Int) = (b : Int) := by rw [Int.tmod_eq_emod_of_nonneg (by omega), ← hb]; rfl
    have r2' : ((cur : Int) + (a : Int)) % (L : Int) = (b : Int) := by rw [← hb]; rfl
    have r3 : IntKind.i64.wrap ((cur : Int) + (a : Int)) = (cur : Int) + (a : Int) := IntWalk.i64_in _ (by omega)
    have r4 : IntKind.i64.wrap (a : Int) = (a : Int) := IntWalk.i64_in _ (by omega)
    have r5 : IntKind.i64.wrap (b : Int) = (b : Int) := IntWalk.i64_in _ (by omega)
    have r6 : ¬ (L : Int) = 0 := by omega
    have r7 : ((L : Int) == 0) = false := beq_eq_false_iff_ne.2 r6
    have r8 : ¬ L = 0 := by omega
    clear ha hb
    go_enter Try.func15, Try.ntmps15
    go_wp2
    go_still_tail 22, (by kernel_rfl)
    go_wp2_with fail
    go_end0
    exact At.post (rg_close (hS.setBlkAt 0 rfl 1 (.int .i64 (b : Nat))).drew) ⟨rfl, by rw [HR.out, HM.out]⟩
  · obtain ⟨b, hb⟩ : ∃ b, cur % L = b := ⟨_, rfl⟩
    have hbl : b < L := hb ▸ Nat.mod_lt _ h0
    have HM : As (mv L cur n = b) := ⟨by unfold mv; rw [← hb, Int.toNat_of_nonpos (by omega)]; simp⟩
    have r2 : (cur : Int).tmod (L : Int) = (b : Int) := by rw [Int.tmod_eq_emod_of_nonneg (by omega), ← hb]; rfl
    have r2' : (cur : Int) % (L : Int) = (b : Int) := by rw [← hb]; rfl
    have r3 : IntKind.i64.wrap (cur : Int) = (cur : Int) := IntWalk.i64_in _ (by omega)
    have r5 : IntKind.i64.wrap (b : Int) = (b : Int) := IntWalk.i64_in _ (by omega)
    have r6 : ¬ (L : Int) = 0 := by omega
    have r7 : ((L : Int) == 0) = false := beq_eq_false_iff_ne.2 r6
    have r8 : ¬ L = 0 := by omega
    clear hb
    go_enter Try.func15, Try.ntmps15
    go_wp2
    go_still_tail 22, (by kernel_rfl)
    go_wp2_with fail
    go_end0
    exact At.post (rg_close (hS.setBlkAt 0 rfl 1 (.int .i64 (b : Nat))).drew) ⟨rfl, by rw [HR.out, HM.out]⟩
end Go.Proofs.Ytkfkacdiekpkfaa
