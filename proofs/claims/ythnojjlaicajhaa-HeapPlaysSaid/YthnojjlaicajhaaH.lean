/- Pop of more than one. -/
import Derived.Test.YthnojjlaicajhaaG
namespace Go.Proofs.Ythnojjlaicajhaa
open Go.RowKit
set_option maxHeartbeats 12800000 in
theorem pop_more (p : Nat) (x : Item) (xs : List Item) (hx : xs ≠ []) (hh : Heaped (x :: xs)) (hm : xs.length < 1000000) : Does Try.prog 11 #[.pointer (some ⟨p, 0, none⟩)] (isHp 40 p (x :: xs))
    (fun e B => e = .returned (.tuple #[x.val, .bool true]) ∧ ∃ ys, Heaped ys ∧ (x :: ys).Perm (x :: xs) ∧ B = isHp 40 p ys) := by
  refine Does.of fun w F hS => ?_
  have hpos : 0 < xs.length := List.length_pos_iff.2 hx
  obtain ⟨l, hl⟩ : ∃ l, (x :: xs)[xs.length]? = some l := ⟨_, List.getElem?_eq_getElem (by simp)⟩
  have hS := hS.toL.alloc #[.int .i64 0, .int .i64 0, .int .i64 0] 32
  have HP := As.mk (peek_cons p x xs)
  have HD : As (isDown (fn (((x :: xs).set 0 l).take xs.length)) (((x :: xs).set 0 l).take xs.length).length 0) := ⟨by have := heaped_pop hh l; simpa using this⟩
  have HPm : As ((x :: ((x :: xs).set 0 l).take xs.length).Perm (x :: xs)) := ⟨by have := pop_perm (xs := x :: xs) (x := x) (l := l) rfl (by simpa using hl); simpa using this⟩
  have HLn : As ((((x :: xs).set 0 l).take xs.length).length = xs.length) := ⟨by simp⟩
  have HL := As.mk hl
  clear hl hh hx
  obtain ⟨x1, x2, x3⟩ := x
  obtain ⟨l1, l2, l3⟩ := l
  unfold Item.val at *
  go_enter Try.func11, Try.ntmps11
  go_wp2_with fail
  refine (hS.callAt 1 rfl HP.out).mono ?_
  rintro e w1 ⟨B, ⟨rfl, rfl⟩, hS1⟩
  have hS1 : At F w w1 (Hp.seps [isHp 40 p (⟨x1, x2, x3⟩ :: xs), Hp.blk w.heap.size #[.int .i64 0, .int .i64 0, .int .i64 0] 32]) := hS1.map fun _ _ h => Hp.swap h
  obtain ⟨sA, sc, hsc, hn, hS1⟩ := hp_openL hS1
  obtain ⟨gs, rfl, hgs⟩ := row_ptr (hS1.rowAt 1 rfl) 0 _ rfl
  rw [List.length_cons] at hsc hn hS1
  have h0 : w1.cell? ⟨p, 0, none⟩ = some (.slice (some ⟨gs, 0, none⟩) (xs.length + 1) sc) := (hS1.cellAt 0 rfl 0).trans rfl
  have hp := hS1.ltAt 0 rfl
  clear hS HP
  go_wp2
  have hS2 := hS1.alloc #[.int .i64 x1, .int .i64 x2, .int .i64 x3] 32
  obtain ⟨r, hr⟩ : ∃ r, r = w1.heap.size := ⟨_, rfl⟩
  obtain ⟨W, hW⟩ : ∃ W, W = w1.alloc (.cells #[.int .i64 x1, .int .i64 x2, .int .i64 x3] 32) := ⟨_, rfl⟩
  rw [← hW, ← hr] at hS2
  rw [← hW, ← hr]
  clear hW hr h0 hp hS1
  obtain ⟨rv, hrv⟩ : ∃ rv, rv = w.heap.size := ⟨_, rfl⟩
  rw [← hrv] at hS2
  rw [← hrv]
  clear hrv
  obtain ⟨c0, c1, c2, f0, f1, f2⟩ := item_cells (hS2.rowAt 2 rfl) 0 _ rfl
  obtain ⟨b0, b1, b2, _⟩ := item_cells (hS2.rowAt 2 rfl) xs.length _ HL.out
  have h0 : W.cell? ⟨p, 0, none⟩ = some (.slice (some ⟨gs, 0, none⟩) (xs.length + 1) sc) := (hS2.cellAt 1 rfl 0).trans rfl
  have z0 := hS2.frozenAt 1 rfl 0
  have m0 : (xs.length : Int) < ((xs.length + 1 : Nat) : Int) := by omega
  have m1 : (0 : Int) < ((xs.length + 1 : Nat) : Int) := by omega
  have m2 : (xs.length : Int) < (xs.length : Int) + 1 := by omega
  have m3 : (0 : Int) < (xs.length : Int) + 1 := by omega
  have m4 : xs.length < xs.length + 1 := by omega
  have t0 : ((xs.length : Int) == 0) = false := beq_eq_false_iff_ne.2 (by omega)
  have n01 := hS2.neBB 0 1 rfl rfl (by decide)
  have n01' := n01.symm
  have n02 := (hS2.neGB 2 0 rfl rfl (by decide)).symm
  have n02' := n02.symm
  have n03 := hS2.neBB 0 3 rfl rfl (by decide)
  have n03' := n03.symm
  have n12 := (hS2.neGB 2 1 rfl rfl (by decide)).symm
  have n12' := n12.symm
  have n13 := hS2.neBB 1 3 rfl rfl (by decide)
  have n13' := n13.symm
  have n23 := hS2.neGB 2 3 rfl rfl (by decide)
  have n23' := n23.symm
  simp only [Nat.zero_mul, Nat.zero_add] at c0 c1 c2 f0 f1 f2
  go_still_tail 12, (by kernel_rfl)
  go_wp2_with fail
  have h3 := (((item_set 2 hS2 rfl 0 _ ⟨l1, l2, l3⟩ rfl).setBlkAt 1 rfl 0 (.slice (some ⟨gs, 0, none⟩) xs.length sc)).takeAt 2 xs.length rfl encItem_len (by simp)).drew
  clear h0 z0 c0 c1 c2 f0 f1 f2 b0 b1 b2
  generalize ((⟨x1, x2, x3⟩ : Item) :: xs).set 0 ⟨l1, l2, l3⟩ = zs at h3 HD HPm HLn
  generalize zs.take xs.length = ys0 at h3 HD HPm HLn
  have hln := HLn.out
  have h4 := h3.map (B := Hp.seps [Hp.blk p #[.slice (some ⟨gs, 0, none⟩) ys0.length sc] 40, Hp.row 32 3 encItem (.slice (some ⟨gs, 0, none⟩) ys0.length sc) ys0, Hp.blk rv #[.int .i64 0, .int .i64 0, .int .i64 0] 32, Hp.blk r #[.int .i64 x1, .int .i64 x2, .int .i64 x3] 32])
    (fun _ _ h => by rw [hln]; exact Hp.imp (Hp.swap h) fun _ h => Hp.imp (Hp.swap h) fun _ h => Hp.swap h)
  have h5 := hp_closeL h4
  clear h3 h4 hln
  have hS6 := h5
  refine (hS6.callAt 0 rfl (lesser_does p ys0 0 (by rw [HLn.out]; exact hpos) (by rw [HLn.out]; omega))).mono ?_
  rintro e w2 ⟨B, ⟨k, hk, hkl, rfl, rfl⟩, hS3⟩
  have HK := As.mk hkl
  clear hS2 h5 hS6 hkl
  go_wp2_with fail
  go_loopw [7, 8] (fun iv kv wr => ∃ (i k : Nat) (ys : List Item), i < ys.length ∧ k < ys.length ∧ ys.length = xs.length ∧ iv = .int .i64 i ∧ kv = .int .i64 k ∧ As (isDown (fn ys) ys.length i) ∧ As (isLesser (fn ys) ys.length i k) ∧ As ((⟨x1, x2, x3⟩ :: ys).Perm (⟨x1, x2, x3⟩ :: xs)) ∧ At F w wr (Hp.seps [isHp 40 p ys, Hp.blk rv #[.int .i64 0, .int .i64 0, .int .i64 0] 32, Hp.blk r #[.int .i64 x1, .int .i64 x2, .int .i64 x3] 32])) (fun iv _ _ => xs.length - (intOf iv).toNat)
  case atStart => exact ⟨0, k, ys0, by rw [HLn.out]; exact hpos, hk, HLn.out, rfl, rfl, HD, HK, HPm, hS3⟩
  case round =>
    clear hS3 HK HD HPm HLn hk hS
    obtain ⟨i, k, ys, hi, hk, hl, rfl, rfl, HD, HK, HPm, hS⟩ := hrel
    obtain ⟨a, ha⟩ : ∃ a, ys[k]? = some a := ⟨_, List.getElem?_eq_getElem hk⟩
    obtain ⟨b, hb⟩ : ∃ b, ys[i]? = some b := ⟨_, List.getElem?_eq_getElem hi⟩
    by_cases hlt : a.lt b
    · have hst := down_step HD.out HK.out (by rw [fn_some ha, fn_some hb]; exact hlt)
      rw [← fn_swap ha hb] at hst
      have HD2 : As (isDown (fn (swapL ys k i a b)) (swapL ys k i a b).length k) := ⟨by rw [swapL_len]; exact hst.1⟩
      have HP2 : As ((⟨x1, x2, x3⟩ :: swapL ys k i a b).Perm (⟨x1, x2, x3⟩ :: xs)) := ⟨(List.Perm.cons _ (swapL_perm ha hb)).trans HPm.out⟩
      have hik := hst.2.2
      have HC := As.mk (swap_yes p ys k i k i a b rfl rfl ha hb hlt)
      have HL := As.mk (lesser_does p (swapL ys k i a b) k (by rw [swapL_len]; exact hk) (by rw [swapL_len]; omega))
      have HLn : As ((swapL ys k i a b).length = ys.length) := ⟨swapL_len _ _ _ _ _⟩
      clear ha hb hlt hst HD HPm HK
      generalize swapL ys k i a b = zs at *
      go_wp2_with (first | (go_at_call 14; refine (hS.callAt 0 rfl HC.out).mono ?_; rintro e w3 ⟨B, ⟨rfl, rfl⟩, hS4⟩) | (go_at_call 15; refine (hS4.callAt 0 rfl HL.out).mono ?_; rintro e w4 ⟨B, ⟨k2, hk2, hkl2, rfl, rfl⟩, hS5⟩; have HK2 := As.mk hkl2; clear hkl2))
      clear hS hS4
      go_roundw
      case rel => exact ⟨k, k2, zs, by rw [HLn.out]; exact hk, hk2, by rw [HLn.out]; exact hl, rfl, rfl, HD2, HK2, HP2, hS5⟩
      case measure => simp [intOf]; omega
    · have HH : As (Heaped ys) := ⟨down_done HD.out HK.out (by rw [fn_some ha, fn_some hb]; exact hlt)⟩
      have HC := As.mk (swap_no p ys k i k i a b rfl rfl ha hb hlt)
      clear ha hb hlt HD HK
      go_wp2_with (go_at_call 14; refine (hS.callAt 0 rfl HC.out).mono ?_; rintro e w3 ⟨B, ⟨rfl, rfl⟩, hS4⟩; have y0 := (hS4.cellAt 2 rfl 0).trans rfl; have y1 := (hS4.cellAt 2 rfl 1).trans rfl; have y2 := (hS4.cellAt 2 rfl 2).trans rfl; have q0 := (hS4.cellAt 1 rfl 0).trans rfl; have q1 := (hS4.cellAt 1 rfl 1).trans rfl; have q2 := (hS4.cellAt 1 rfl 2).trans rfl; have f0 := hS4.frozenAt 1 rfl 0; have f1 := hS4.frozenAt 1 rfl 1; have f2 := hS4.frozenAt 1 rfl 2; have n0 := hS4.neBB 1 2 rfl rfl (by decide); have n1 := n0.symm)
      have h4 := ((hS4.setBlkAt 1 rfl 0 (.int .i64 x1)).setBlkAt 1 rfl 1 (.int .i64 x2)).setBlkAt 1 rfl 2 (.int .i64 x3)
      have e0 := (h4.cellAt 1 rfl 0).trans rfl
      have e1 := (h4.cellAt 1 rfl 1).trans rfl
      have e2 := (h4.cellAt 1 rfl 2).trans rfl
      refine bodyPost_ret (v := .tuple #[.agg #[.int .i64 x1, .int .i64 x2, .int .i64 x3], .bool true]) (by simp [results, Try.results11, go_sem, e0, e1, e2]) rfl ?_
      exact At.post (h4.one 0 rfl) ⟨rfl, _, HH.out, HPm.out, rfl⟩
end Go.Proofs.Ythnojjlaicajhaa
