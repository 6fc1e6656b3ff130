/- A schema is made: made, New. -/
import Derived.Test.YtdbdijicicbhfaaSB
set_option linter.unusedVariables false
namespace Go.Proofs.Ytdbdijicicbhfaa
open Go.RowKit
open Go.Maps (Keyed)
/-- The first key that can't be, behind those ahead. -/
def badF (pre : List KeyM) : List KeyM → Option (Int × Int)
  | [] => none
  | k :: r => if chk pre k = 0 then badF (pre ++ [k]) r else some ((pre.length : Int), chk pre k)
theorem chk_zero {l : List KeyM} {k : KeyM} (h : chk l k = 0) : atF l k.f0 = none := by
  unfold chk at h
  split at h
  · omega
  · split at h
    · omega
    · split at h
      · omega
      · rename_i h1; simpa using h1
theorem take_snoc {α : Type} {l : List α} {k : Nat} {x : α} (h : l[k]? = some x) : l.take (k + 1) = l.take k ++ [x] := by
  have hk := (List.getElem?_eq_some_iff.1 h)
  obtain ⟨h1, h2⟩ := hk
  rw [List.take_succ_eq_append_getElem h1, h2]
theorem sc_grow {F0 : Nat → Prop} {w0 w : World} {p m k : Nat} {l : List KeyM} {x : KeyM} {sv : Value} (h : At F0 w0 w (Hp.seps [Hp.blk p #[sv, .map (some m)] 81, Hp.row 30 3 encKey sv (l ++ [x]), Hp.mp Try.prog 9 m (k + 1) encS encN (fput (atF l) x.f0 (some k))])) (hn : atF l x.f0 = none) (hl : l.length = k) : At F0 w0 w (Hp.seps [isSc p (l ++ [x])]) := by
  subst hl
  refine sc_closeL (m := m) (sv := sv) ?_
  rw [atF_snoc _ _ hn, List.length_append]
  exact h
set_option maxRecDepth 100000 in
set_option maxHeartbeats 12800000 in
theorem made_does (v : Value) (l : List KeyM) (w : World) (hd : Rd w 3 encKey v l) (hl : l.length ≤ 100) (hsz : ∀ x ∈ l, x.f0.size ≤ 9223372036854775807) : Calls Try.prog 19 #[v] w fun e w' =>
    (badF [] l = none ∧ ∃ p, e = .returned (.tuple #[.pointer (some ⟨p, 0, none⟩), .int .i64 (-1), .int .i64 0]) ∧ At (fun _ => False) w w' (Hp.seps [isSc p l])) ∨
    (∃ i c, badF [] l = some (i, c) ∧ e = .returned (.tuple #[.pointer none, .int .i64 i, .int .i64 c]) ∧ Below w.heap.size w w') := by
  obtain ⟨dA, dc, rfl, hdc, hdn⟩ := hd.shape
  have HD := As.mk hd
  have HSz := As.mk hsz
  clear hd hsz
  obtain ⟨R, hR⟩ : ∃ R, badF [] l = R := ⟨_, rfl⟩
  rw [hR]
  have HR := As.mk hR
  clear hR
  have hS0 := (At.start0 (Below.refl w.heap.size w)).mpNew Try.prog 9 encS encN
  obtain ⟨m, hm⟩ : ∃ m, m = w.heap.size := ⟨_, rfl⟩
  obtain ⟨W0, hW0⟩ : ∃ W0, W0 = w.alloc (.map #[] 0) := ⟨_, rfl⟩
  rw [← hm, ← hW0] at hS0
  have hS1 := (hS0.nilRow 30 3 encKey).alloc #[.slice none 0 0, .map (some m)] 81
  obtain ⟨p, hp⟩ : ∃ p, p = W0.heap.size := ⟨_, rfl⟩
  obtain ⟨W1, hW1⟩ : ∃ W1, W1 = W0.alloc (.cells #[.slice none 0 0, .map (some m)] 81) := ⟨_, rfl⟩
  rw [← hp, ← hW1] at hS1
  have HE : As (w.alloc (.map #[] 0) = W0 ∧ w.heap.size = m ∧ m + 1 = p ∧ W0.alloc (.cells #[.slice none 0 0, .map (some m)] 81) = W1) := ⟨hW0.symm, hm.symm, by rw [hp, hW0, hm]; simp, hW1.symm⟩
  have hS : At (fun _ => False) w W1 (Hp.seps [isSc p []]) := sc_closeL hS1
  clear hm hW0 hp hW1 hS0 hS1
  have hmk := fun w => run_makeMap (P := Try.prog) 79 w
  go_enter Try.func19, Try.ntmps19
  go_wp2_with fail
  rw [HE.out.2.1, HE.out.1, HE.out.2.2.1, HE.out.2.2.2]
  clear hmk HE
  go_loopg [14] l.length (fun g0 iv wr => ∃ k : Nat, k + g0 = l.length ∧ iv = .int .i64 k ∧ As (badF (l.take k) (l.drop k) = R) ∧ At (fun _ => False) w wr (Hp.seps [isSc p (l.take k)]))
  case atStart => exact ⟨0, by omega, rfl, HR, hS⟩
  case round =>
    clear hS HR
    obtain ⟨k, hk, rfl, HB, hS⟩ := hrel
    by_cases hlt : k < l.length
    · have HK := As.mk hk
      obtain ⟨x, hx⟩ : ∃ x, l[k]? = some x := ⟨_, List.getElem?_eq_getElem hlt⟩
      obtain ⟨bk, off, rfl, hbk, hcell⟩ := (HD.out.below hS.bl).cells _ _ _ rfl k x hx
      have c0 := hcell 0 (by omega)
      have c1 := hcell 1 (by omega)
      have c2 := hcell 2 (by omega)
      have hsx := HSz.out x (List.mem_of_getElem? hx)
      have hdr : l.drop k = x :: l.drop (k + 1) := by rw [List.drop_eq_getElem_cons hlt, (List.getElem?_eq_some_iff.1 hx).2]
      have hts := take_snoc hx
      have HT := As.mk hts
      have hb := HB.out
      rw [hdr, badF, ← hts] at hb
      have HB2 := As.mk hb
      have HLn : As ((l.take k).length = k) := ⟨by rw [List.length_take]; omega⟩
      have HC := As.mk (check_does p (l.take k) x hsx)
      obtain ⟨C, hC⟩ : ∃ C, chk (l.take k) x = C := ⟨_, rfl⟩
      rw [hC] at HC
      have HCC := As.mk hC
      obtain ⟨s, kd, sh⟩ := x
      simp only [encKey, List.getElem?_cons_zero, List.getElem?_cons_succ, Nat.add_zero] at c0 c1 c2
      simp only at hsx HC
      have hS1 := hS.alloc #[.string s, .int .i64 kd, .bool sh] 30
      obtain ⟨q, hq⟩ : ∃ q, q = wr.heap.size := ⟨_, rfl⟩
      obtain ⟨W, hW⟩ : ∃ W, W = wr.alloc (.cells #[.string s, .int .i64 kd, .bool sh] 30) := ⟨_, rfl⟩
      rw [← hW, ← hq] at hS1
      have HW := As.mk hW
      have HQ := As.mk hq
      clear hk hcell hx hdr hts hb HB hC hW hq
      go_wp2_with fail
      rw [← HW.out, ← HQ.out]
      refine (hS1.callAt 1 rfl HC.out).mono ?_
      rintro e w1 ⟨B, ⟨rfl, rfl⟩, hS2⟩
      have hS2 : At (fun _ => False) w w1 (Hp.seps [Hp.blk q #[.string s, .int .i64 kd, .bool sh] 30, isSc p (l.take k)]) := hS2
      clear HW HQ hS hS1 HC c0 c1 c2
      by_cases hz : C = 0
      · subst hz
        have HN : As (atF (l.take k) s = none) := ⟨chk_zero HCC.out⟩
        have HB3 : As (badF (l.take (k + 1)) (l.drop (k + 1)) = R) := ⟨by have := HB2.out; rwa [HCC.out, if_pos rfl] at this⟩
        clear HB2 HCC
        obtain ⟨A, c, m', hc, hn, hS3⟩ := sc_openL (hS2.sel [1, 0])
        rw [HLn.out] at hc hn hS3
        obtain ⟨kl, hkl⟩ := key_ok s hsx
        have HKl := As.mk hkl
        clear hS2 hkl hc hn
        have p0 := (hS3.cellAt 0 rfl 0).trans rfl
        have p1 := (hS3.cellAt 0 rfl 1).trans rfl
        have q0 := (hS3.cellAt 3 rfl 0).trans rfl
        have q1 := (hS3.cellAt 3 rfl 1).trans rfl
        have q2 := (hS3.cellAt 3 rfl 2).trans rfl
        go_wp2_with fail
        go_still_tail 7, (by kernel_rfl)
        go_wp2_with (at_mapUpdate; refine rw_mapUpdate rfl (.tmp 29) (.tmp 31) (.tmp 32) 79 rfl 3 Klaw encS_inj Try.underlying79 rfl (hS3.drew.mpAt 2 rfl) s k _ rfl rfl HKl.out ?c1)
        case c1 =>
          intro w2 hm2 hg2
          have hS4 := hS3.drew.mpGrown 2 rfl hm2 hg2
          clear hm2 hg2 hS3 p0 p1 q0 q1 q2
          have p0 := (hS4.cellAt 0 rfl 0).trans rfl
          have p1 := (hS4.cellAt 0 rfl 1).trans rfl
          have f0 := hS4.frozenAt 0 rfl 0
          have plt := hS4.ltAt 0 rfl
          have q0 := (hS4.cellAt 3 rfl 0).trans rfl
          have q1 := (hS4.cellAt 3 rfl 1).trans rfl
          have q2 := (hS4.cellAt 3 rfl 2).trans rfl
          have qlt := hS4.ltAt 3 rfl
          go_wp2_with fail
          go_region_law (refine rw_append_step rfl (.tmp 37) (.tmp 39) 31 30 3 encKey (.agg #[.string ⟨#[]⟩, .int .i64 0, .bool false]) 32 rfl Try.underlying31 Try.info30 rfl (by decide) (.slice A k c) (l.take k) ⟨s, kd, sh⟩ rfl _ rfl (by first | exact blk_new (by simp) | exact blk_new_drew (by simp) | exact (blk_new_drewN (by simp))) ((hS4.below (by repeat (first | exact Below.refl _ _ | refine bl_drewN ?_ _ | refine Below.drew ?_ | refine bl_alloc ?_ _ | refine bl_set ?_ (by first | (simp; done) | omega | (simp; omega)) _))).rowAt 1 rfl) encKey_len (one_key _) ?_ ?_ ?_; (simp only [maxLen]; have := HLn.out; omega); (have := HLn.out; omega); intro v1 w3 hA; obtain ⟨A1, n1, c1, rfl⟩ := hA.row.slice; have hS5 := At.appendAt 1 hA hS4 rfl (by repeat (first | exact Below.refl _ _ | refine bl_drewN ?_ _ | refine Below.drew ?_ | refine bl_alloc ?_ _ | refine bl_set ?_ (by first | (simp; done) | omega | (simp; omega)) _)); clear hA; have p0 := (hS5.cellAt 0 rfl 0).trans rfl; have f0 := hS5.frozenAt 0 rfl 0; have plt := hS5.ltAt 0 rfl)
          all_goals
            have hS6 := (hS5.setBlkAt 0 rfl 0 (.slice A1 n1 c1)).sel [0, 0, 0]
            have hS7 := sc_grow hS6 HN.out HLn.out
            rw [← HT.out] at hS7
            clear hS4 hS5 hS6
            go_wp2_with fail
            go_roundg (gk - 1)
            case measure => have := HK.out; omega
            case rel => exact ⟨k + 1, by have := HK.out; omega, by go_num, HB3, hS7⟩
      · have t0 : (C != 0) = true := by simpa using hz
        have t1 : (C == 0) = false := beq_eq_false_iff_ne.2 hz
        have HB3 : As (R = some ((k : Int), C)) := ⟨by have := HB2.out; rw [HCC.out, if_neg hz, HLn.out] at this; exact this.symm⟩
        clear HB2 HCC hz
        go_wp2_with fail
        go_ret3
        exact .inr ⟨_, _, HB3.out, rfl, hS2.bl⟩
    · obtain rfl : k = l.length := by omega
      have HR2 : As (R = none) := ⟨by have := HB.out; rw [List.drop_length] at this; exact this.symm⟩
      rw [List.take_length] at hS
      go_wp2_with fail
      go_ret3
      exact .inl ⟨HR2.out, p, rfl, hS⟩
end Go.Proofs.Ytdbdijicicbhfaa
