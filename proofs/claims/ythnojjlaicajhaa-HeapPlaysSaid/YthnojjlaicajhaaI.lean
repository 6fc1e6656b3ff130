/- The reference: Push. -/
import Derived.Test.YthnojjlaicajhaaH
namespace Go.Proofs.Ythnojjlaicajhaa
open Go.RowKit
theorem tail_rd (i : Nat) (sA : Option Addr) (sc : Nat) (xs : List Item) (hi : i ≤ xs.length) : ∃ A42, (if sc = i then sA else sA.map (fun x => x.add (i * 3))) = A42 ∧ As (∀ W, Rw W 32 3 encItem (.slice sA xs.length sc) xs → Rd W 3 encItem (.slice A42 (xs.length - i) (sc - i)) (xs.drop i)) := by
  refine ⟨_, rfl, ⟨fun W h => ?_⟩⟩
  cases sA with
  | none =>
    obtain ⟨_, rfl, rfl⟩ := h.none_nil
    obtain rfl : i = 0 := by simpa using hi
    exact rd_nil W 3 encItem
  | some a =>
    obtain ⟨g, rfl, _⟩ := h.head0
    have := (h.rd encItem_len).tail i hi
    rw [Option.map_some, Addr.add_lit]
    exact this
set_option maxHeartbeats 12800000 in
theorem rpush_does (p : Nat) (xs : List Item) (x : Item) (hs : Srt xs) (hm : xs.length ≤ 1000000) : Does Try.prog 8 #[.pointer (some ⟨p, 0, none⟩), x.val] (isHp 29 p xs)
    (fun e B => e = .returned (.tuple #[]) ∧ ∃ ys, Srt ys ∧ ys.Perm (xs ++ [x]) ∧ B = isHp 29 p ys) := by
  refine Does.of fun w F hS => ?_
  have HSr := As.mk hs
  have HB := As.mk (fun b w => before_does x b w)
  obtain ⟨x1, x2, x3⟩ := x
  obtain ⟨sA, sc, hsc, hn, hS⟩ := hp_open hS
  have h0 := (hS.cellAt 0 rfl 0).trans rfl
  have hp := hS.ltAt 0 rfl
  clear hs hsc
  unfold Item.val at *
  have hS1 := (hS.alloc #[.int .i64 x1, .int .i64 x2, .int .i64 x3] 32)
  obtain ⟨r, hr⟩ : ∃ r, r = w.heap.size := ⟨_, rfl⟩
  rw [← hr] at hS1
  go_enter Try.func8, Try.ntmps8
  go_upto_block 0 with fail
  rw [← hr]
  clear hr
  go_cut [4] (fun v wc => ∃ (i : Nat), i ≤ xs.length ∧ v = .int .i64 i ∧ As (Srt (xs.take i ++ [⟨x1, x2, x3⟩] ++ xs.drop i)) ∧ At F w wc (Hp.seps [Hp.blk r #[.int .i64 x1, .int .i64 x2, .int .i64 x3] 32, Hp.blk p #[.slice sA xs.length sc] 29, Hp.row 32 3 encItem (.slice sA xs.length sc) xs]))
  case first =>
    go_wp2
    go_loopw [4] (fun v wr => ∃ (i : Nat), i ≤ xs.length ∧ v = .int .i64 i ∧ As (∀ j y, i ≤ j → xs[j]? = some y → Item.lt ⟨x1, x2, x3⟩ y) ∧ At F w wr (Hp.seps [Hp.blk r #[.int .i64 x1, .int .i64 x2, .int .i64 x3] 32, Hp.blk p #[.slice sA xs.length sc] 29, Hp.row 32 3 encItem (.slice sA xs.length sc) xs])) (fun v _ => (intOf v).toNat)
    case atStart => exact ⟨xs.length, Nat.le_refl _, rfl, ⟨fun j y hj hy => by have := (List.getElem?_eq_some_iff.1 hy).1; omega⟩, hS1⟩
    case round =>
      clear hS1 hS h0 hp
      obtain ⟨i, hi, rfl, HH, hS⟩ := hrel
      have h0 := (hS.cellAt 1 rfl 0).trans rfl
      have z0 := hS.frozenAt 1 rfl 0
      have r0 := (hS.cellAt 0 rfl 0).trans rfl
      have r1 := (hS.cellAt 0 rfl 1).trans rfl
      have r2 := (hS.cellAt 0 rfl 2).trans rfl
      have hp := hS.ltAt 1 rfl
      by_cases hi0 : i = 0
      · have HX : As (Srt (xs.take i ++ [⟨x1, x2, x3⟩] ++ xs.drop i)) := ⟨srt_insert HSr.out i hi (.inl hi0) HH.out⟩
        subst hi0
        go_wp2
        go_quiet (fail)
        go_wp2
        go_meet
        exact ⟨0, by omega, rfl, HX, hS.below (by repeat (first | exact Below.refl _ _ | refine bl_drewN ?_ _ | refine Below.drew ?_ | refine bl_alloc ?_ _ | refine bl_set ?_ (by first | (simp; done) | omega | (simp; omega)) _))⟩
      · obtain ⟨k, rfl⟩ : ∃ k, i = k + 1 := ⟨i - 1, by omega⟩
        obtain ⟨b, hb⟩ : ∃ b, xs[k]? = some b := ⟨_, List.getElem?_eq_getElem (by omega)⟩
        obtain ⟨gs, rfl, hgs⟩ := row_ptr (hS.rowAt 2 rfl) _ _ hb
        obtain ⟨c0, c1, c2, _⟩ := item_cells (hS.rowAt 2 rfl) _ b hb
        have t0 : decide ((0 : Int) < (k : Int) + 1) = true := decide_eq_true (by omega)
        have m0 : (k : Int) < (xs.length : Int) := by omega
        have m1 : (0 : Int) ≤ (k : Int) := by omega
        have e1 : IntKind.i64.wrap (k : Int) = (k : Int) := IntWalk.i64_in _ (by omega)
        by_cases hlt : Item.lt ⟨x1, x2, x3⟩ b
        · have HC : As (∀ w, Calls Try.prog 13 #[.agg #[.int .i64 x1, .int .i64 x2, .int .i64 x3], .agg #[.int .i64 b.key, .int .i64 b.seq, .int .i64 b.what]] w fun e w' => e = .returned (.bool true) ∧ Below w.heap.size w w') := ⟨fun w => by have := HB.out b w; rwa [decide_eq_true hlt] at this⟩
          have HH2 : As (∀ j y, k ≤ j → xs[j]? = some y → Item.lt ⟨x1, x2, x3⟩ y) := ⟨fun j y hj hy => by
            by_cases e : j = k
            · subst e
              rw [hb] at hy
              injection hy with hy
              exact hy ▸ hlt
            · exact HH.out j y (by omega) hy⟩
          clear hlt hb HH HB
          go_wp2
          go_still_tail 12, (by kernel_rfl)
          go_wp2_with fail
          refine (hS.drew.beside (HC.out _)).mono ?_
          rintro e w3 ⟨rfl, hS2⟩
          clear h0 z0 r0 r1 r2 c0 c1 c2 hS
          go_wp2
          go_roundw
          case rel => exact ⟨k, by omega, rfl, HH2, hS2⟩
          case measure => simp [intOf]
        · have HC : As (∀ w, Calls Try.prog 13 #[.agg #[.int .i64 x1, .int .i64 x2, .int .i64 x3], .agg #[.int .i64 b.key, .int .i64 b.seq, .int .i64 b.what]] w fun e w' => e = .returned (.bool false) ∧ Below w.heap.size w w') := ⟨fun w => by have := HB.out b w; rwa [decide_eq_false hlt] at this⟩
          have HX : As (Srt (xs.take (k + 1) ++ [⟨x1, x2, x3⟩] ++ xs.drop (k + 1))) := ⟨srt_insert HSr.out (k + 1) hi (.inr ⟨b, hb, hlt⟩) HH.out⟩
          clear hlt hb HH HB
          go_wp2
          go_still_tail 12, (by kernel_rfl)
          go_wp2_with fail
          refine (hS.drew.beside (HC.out _)).mono ?_
          rintro e w3 ⟨rfl, hS2⟩
          clear h0 z0 r0 r1 r2 c0 c1 c2 hS
          go_wp2
          go_meet
          exact ⟨k + 1, hi, rfl, HX, hS2⟩
  case rest =>
    clear hS1 hS h0 hp HB HSr
    obtain ⟨i, hi, rfl, HX, hS⟩ := hcut
    obtain ⟨A42, hA42, HR⟩ := tail_rd i sA sc xs hi
    have h0 := (hS.cellAt 1 rfl 0).trans rfl
    have r0 := (hS.cellAt 0 rfl 0).trans rfl
    have r1 := (hS.cellAt 0 rfl 1).trans rfl
    have r2 := (hS.cellAt 0 rfl 2).trans rfl
    have hp := hS.ltAt 1 rfl
    have hr := hS.ltAt 0 rfl
    have q1 : (i : Int) ≤ (xs.length : Int) := by omega
    have q2 : (0 : Int) ≤ (i : Int) := by omega
    have q4 : xs.length ≤ sc := ((hS.rowAt 2 rfl).rd encItem_len).len.2
    have q5 : (i : Int) ≤ (sc : Int) := by omega
    go_wp2
    go_region_law (first | (refine rw_appendL_step rfl (.const (.slice none 0 0)) (.tmp 32) 22 32 3 encItem (.agg #[.int .i64 0, .int .i64 0, .int .i64 0]) 24 rfl Try.underlying22 Try.info32 rfl (by decide) (.slice none 0 0) (.slice sA i sc) ([] : List Item) (xs.take i) rfl rfl ((((hS.below (by repeat (first | exact Below.refl _ _ | refine bl_drewN ?_ _ | refine Below.drew ?_ | refine bl_alloc ?_ _ | refine bl_set ?_ (by first | (simp; done) | omega | (simp; omega)) _))).rowAt 2 rfl).rd encItem_len).take i (by omega)) (Rw.nil _ _ _ _) encItem_len one_item ?_ ?_ ?_; (simp [maxLen]; omega); (simp; omega); intro v33 w33 hA; obtain ⟨A33, n33, c33, rfl⟩ := hA.row.slice; have hT := At.appendLAt 0 hA (hS.nilRow 32 3 encItem) rfl (by repeat (first | exact Below.refl _ _ | refine bl_drewN ?_ _ | refine Below.drew ?_ | refine bl_alloc ?_ _ | refine bl_set ?_ (by first | (simp; done) | omega | (simp; omega)) _)); have HA33 := As.mk hA; clear hA; have h0 := (hT.cellAt 2 rfl 0).trans rfl; have r0 := (hT.cellAt 1 rfl 0).trans rfl; have r1 := (hT.cellAt 1 rfl 1).trans rfl; have r2 := (hT.cellAt 1 rfl 2).trans rfl; have hp := hT.ltAt 2 rfl; have hr := hT.ltAt 1 rfl) | (refine rw_append_step rfl (.tmp 33) (.tmp 35) 22 32 3 encItem (.agg #[.int .i64 0, .int .i64 0, .int .i64 0]) 24 rfl Try.underlying22 Try.info32 rfl (by decide) (.slice A33 n33 c33) ([] ++ xs.take i) (⟨x1, x2, x3⟩ : Item) rfl _ rfl (by first | exact blk_new (by simp) | exact blk_new_drew (by simp) | exact blk_new_drewN (by simp) | exact grown_blk HA33.out.grown (by first | exact blk_new (by simp) | exact blk_new_drew (by simp) | exact blk_new_drewN (by simp)) (by simp [Value.ownBlock])) ((hT.below (by repeat (first | exact Below.refl _ _ | refine bl_drewN ?_ _ | refine Below.drew ?_ | refine bl_alloc ?_ _ | refine bl_set ?_ (by first | (simp; done) | omega | (simp; omega)) _))).rowAt 0 rfl) encItem_len (one_item _) ?_ ?_ ?_; (simp [maxLen]; omega); (simp; omega); intro v36 w36 hA; obtain ⟨A36, n36, c36, rfl⟩ := hA.row.slice; have hU := At.appendAt 0 hA hT rfl (by repeat (first | exact Below.refl _ _ | refine bl_drewN ?_ _ | refine Below.drew ?_ | refine bl_alloc ?_ _ | refine bl_set ?_ (by first | (simp; done) | omega | (simp; omega)) _)); clear hA; have h0 := (hU.cellAt 2 rfl 0).trans rfl; have hp := hU.ltAt 2 rfl) | (refine rw_appendL_step rfl (.tmp 36) (.tmp 42) 22 32 3 encItem (.agg #[.int .i64 0, .int .i64 0, .int .i64 0]) 24 rfl Try.underlying22 Try.info32 rfl (by decide) (.slice A36 n36 c36) (.slice A42 (xs.length - i) (sc - i)) ([] ++ xs.take i ++ [(⟨x1, x2, x3⟩ : Item)]) (xs.drop i) rfl rfl (HR.out _ ((hU.below (by repeat (first | exact Below.refl _ _ | refine bl_drewN ?_ _ | refine Below.drew ?_ | refine bl_alloc ?_ _ | refine bl_set ?_ (by first | (simp; done) | omega | (simp; omega)) _))).rowAt 3 rfl)) ((hU.below (by repeat (first | exact Below.refl _ _ | refine bl_drewN ?_ _ | refine Below.drew ?_ | refine bl_alloc ?_ _ | refine bl_set ?_ (by first | (simp; done) | omega | (simp; omega)) _))).rowAt 0 rfl) encItem_len one_item ?_ ?_ ?_; (simp [maxLen]; omega); (simp; omega); intro v43 w43 hA; obtain ⟨A43, n43, c43, rfl⟩ := hA.row.slice; have hV := At.appendLAt 0 hA hU rfl (by repeat (first | exact Below.refl _ _ | refine bl_drewN ?_ _ | refine Below.drew ?_ | refine bl_alloc ?_ _ | refine bl_set ?_ (by first | (simp; done) | omega | (simp; omega)) _)); clear hA; have h0 := (hV.cellAt 2 rfl 0).trans rfl; have f0 := hV.frozenAt 2 rfl 0; have hp := hV.ltAt 2 rfl))
    all_goals
      have hE := (hV.setBlkAt 2 rfl 0 (.slice A43 n43 c43)).map (B := Hp.seps [Hp.blk p #[.slice A43 n43 c43] 29, Hp.row 32 3 encItem (.slice A43 n43 c43) ([] ++ xs.take i ++ [(⟨x1, x2, x3⟩ : Item)] ++ xs.drop i), Hp.blk r #[.int .i64 x1, .int .i64 x2, .int .i64 x3] 32, Hp.row 32 3 encItem (.slice sA xs.length sc) xs]) (fun _ _ h => Hp.imp (Hp.swap (Hp.imp h fun _ h => Hp.swap h)) fun _ h => h)
      go_wp2
      go_end0
      exact At.post ((hp_closeL hE).one 0 rfl) ⟨rfl, _, HX.out, insert_perm _ _ _, rfl⟩
end Go.Proofs.Ythnojjlaicajhaa
