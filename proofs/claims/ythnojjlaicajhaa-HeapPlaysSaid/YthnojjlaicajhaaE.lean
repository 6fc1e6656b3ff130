/- Push. -/
import Derived.Test.YthnojjlaicajhaaD
import Derived.Deep.RegionLaw
namespace Go.Proofs.Ythnojjlaicajhaa
open Go.RowKit
theorem Try.info32 : (Try.prog.info? 32).map (fun i => (i.zero, i.size, i.bytes)) = some (some (.agg #[.int .i64 0, .int .i64 0, .int .i64 0]), 3, 24) := by kernel_rfl
theorem one_item (x : Item) : ∀ u ∈ encItem x, u.oneCell' = true := by intro u hu; simp [encItem] at hu; rcases hu with rfl | rfl | rfl <;> rfl
theorem swap_yes (p : Nat) (xs : List Item) (i' k' : Int) (i k : Nat) (a b : Item) (ei : i' = (i : Nat)) (ek : k' = (k : Nat)) (hi : xs[i]? = some a) (hk : xs[k]? = some b) (h : a.lt b) : Does Try.prog 14 #[.pointer (some ⟨p, 0, none⟩), .int .i64 i', .int .i64 k'] (isHp 40 p xs)
    (fun e B => e = .returned (.bool true) ∧ B = isHp 40 p (swapL xs i k a b)) := by
  subst ei; subst ek
  have := swap_does p xs i k a b hi hk
  rw [if_pos h, decide_eq_true h] at this
  exact this
theorem swap_no (p : Nat) (xs : List Item) (i' k' : Int) (i k : Nat) (a b : Item) (ei : i' = (i : Nat)) (ek : k' = (k : Nat)) (hi : xs[i]? = some a) (hk : xs[k]? = some b) (h : ¬ a.lt b) : Does Try.prog 14 #[.pointer (some ⟨p, 0, none⟩), .int .i64 i', .int .i64 k'] (isHp 40 p xs)
    (fun e B => e = .returned (.bool false) ∧ B = isHp 40 p xs) := by
  subst ei; subst ek
  have := swap_does p xs i k a b hi hk
  rw [if_neg h, decide_eq_false h] at this
  exact this
set_option maxHeartbeats 3200000 in
theorem push_does (p : Nat) (xs : List Item) (x : Item) (h : Heaped xs) (hm : xs.length ≤ 1000000) : Does Try.prog 7 #[.pointer (some ⟨p, 0, none⟩), x.val] (isHp 40 p xs)
    (fun e B => e = .returned (.tuple #[]) ∧ ∃ ys, Heaped ys ∧ ys.Perm (xs ++ [x]) ∧ B = isHp 40 p ys) := by
  refine Does.of fun w F hS => ?_
  obtain ⟨sA, sc, hsc, hn, hS⟩ := hp_open hS
  have h0 := (hS.cellAt 0 rfl 0).trans rfl
  have hp := hS.ltAt 0 rfl
  have HU := As.mk (heaped_push h x)
  obtain ⟨x1, x2, x3⟩ := x
  clear hsc h
  unfold Item.val
  go_enter Try.func7, Try.ntmps7
  go_wp2
  go_region_law (refine rw_append_step rfl (.tmp 9) (.tmp 11) 22 32 3 encItem (.agg #[.int .i64 0, .int .i64 0, .int .i64 0]) 24 rfl Try.underlying22 Try.info32 rfl (by decide) (.slice sA xs.length sc) xs ⟨x1, x2, x3⟩ rfl _ rfl (by first | exact blk_new (by simp) | exact blk_new_drew (by simp) | exact (blk_new_drewN (by simp))) ((hS.below (by repeat (first | exact Below.refl _ _ | refine bl_drewN ?_ _ | refine Below.drew ?_ | refine bl_alloc ?_ _ | refine bl_set ?_ (by first | (simp; done) | omega | (simp; omega)) _))).rowAt 1 rfl) encItem_len (one_item _) ?_ ?_ ?_; (simp only [maxLen]; omega); omega; intro v1 w2 hA; obtain ⟨g1, cap1, rfl⟩ := hA.form; have hS2 := At.appendAt 1 hA hS rfl (by repeat (first | exact Below.refl _ _ | refine bl_drewN ?_ _ | refine Below.drew ?_ | refine bl_alloc ?_ _ | refine bl_set ?_ (by first | (simp; done) | omega | (simp; omega)) _)); clear hA; have h0 := (hS2.cellAt 0 rfl 0).trans rfl; have f0 := hS2.frozenAt 0 rfl 0; have hp := hS2.ltAt 0 rfl)
  all_goals
    have hS3 := hp_close (hS2.setBlkAt 0 rfl 0 (.slice (some ⟨g1, 0, none⟩) (xs.length + 1) cap1))
    go_wp2
    clear h0 f0 hp hS2 hS
    go_loopw [4] (fun v wr => ∃ (k : Nat) (ys : List Item), k < ys.length ∧ ys.length = xs.length + 1 ∧ v = .int .i64 k ∧ As (isUp (fn ys) ys.length k) ∧ As (ys.Perm (xs ++ [⟨x1, x2, x3⟩])) ∧ At F w wr (isHp 40 p ys)) (fun v _ => (intOf v).toNat)
    case atStart => exact ⟨xs.length, _, by simp, by simp, rfl, HU, ⟨List.Perm.refl _⟩, hS3⟩
    case round =>
      clear hS3 HU
      obtain ⟨k, ys, hk, hl, rfl, HU, HP, hS⟩ := hrel
      by_cases hk0 : k = 0
      · subst hk0
        go_wp2
        go_end0
        exact At.post hS ⟨rfl, _, up_done HU.out (.inl rfl), HP.out, rfl⟩
      · obtain ⟨a, ha⟩ : ∃ a, ys[k]? = some a := ⟨_, List.getElem?_eq_getElem hk⟩
        obtain ⟨b, hb⟩ : ∃ b, ys[(k - 1) / 2]? = some b := ⟨_, List.getElem?_eq_getElem (by omega)⟩
        have t0 : decide ((0 : Int) < k) = true := decide_eq_true (by omega)
        have hq : ((k : Int) - 1) / 2 = (((k - 1) / 2 : Nat) : Int) := by omega
        have HQ := As.mk hq
        by_cases hlt : a.lt b
        · have HU2 : As (isUp (fn (swapL ys k ((k - 1) / 2) a b)) (swapL ys k ((k - 1) / 2) a b).length ((k - 1) / 2)) := ⟨by rw [fn_swap ha hb, swapL_len]; exact up_step HU.out (by omega) hk (by rw [fn_some ha, fn_some hb]; exact hlt)⟩
          have HP2 : As ((swapL ys k ((k - 1) / 2) a b).Perm (xs ++ [⟨x1, x2, x3⟩])) := ⟨(swapL_perm ha hb).trans HP.out⟩
          have HD := As.mk (swap_yes p ys k (((k : Int) - 1) / 2) k ((k - 1) / 2) a b rfl hq ha hb hlt)
          clear hq ha hb hlt
          go_wp2_with (go_at_call 14; refine (hS.call1 HD.out).mono ?_; rintro e w3 ⟨B, ⟨rfl, rfl⟩, hS4⟩)
          clear hS
          go_roundw
          case rel => exact ⟨(k - 1) / 2, _, by rw [swapL_len]; omega, by rw [swapL_len]; exact hl, by rw [HQ.out], HU2, HP2, hS4⟩
          case measure => simp [intOf]; omega
        · have HU2 : As (Heaped ys) := ⟨up_done HU.out (.inr (by rw [fn_some ha, fn_some hb]; exact hlt))⟩
          have HD := As.mk (swap_no p ys k (((k : Int) - 1) / 2) k ((k - 1) / 2) a b rfl hq ha hb hlt)
          clear hq ha hb hlt
          go_wp2_with (go_at_call 14; refine (hS.call1 HD.out).mono ?_; rintro e w3 ⟨B, ⟨rfl, rfl⟩, hS4⟩)
          clear hS
          go_end0
          exact At.post hS4 ⟨rfl, _, HU2.out, HP.out, rfl⟩
end Go.Proofs.Ythnojjlaicajhaa
