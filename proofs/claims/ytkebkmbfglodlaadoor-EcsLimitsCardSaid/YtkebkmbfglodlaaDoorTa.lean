/- A table: Add. -/
import Derived.Test.YtkebkmbfglodlaaDoorTd
set_option linter.unusedVariables false
set_option maxRecDepth 100000
namespace Go.Proofs.YtkebkmbfglodlaaDoor
open Go.RowKit
open Go.Maps (Keyed)
theorem ixF_snoc (xs : List (Int × Int)) (k : Int × Int) (h : ixF xs k = none) : ixF (xs ++ [k]) = fput (ixF xs) k (some xs.length) := by
  funext s
  unfold ixF at h ⊢
  unfold fput
  rw [List.findIdx?_append]
  by_cases e : s = k
  · subst e
    rw [h, if_pos rfl]
    simp
  · rw [if_neg e]
    simp [Ne.symm e]
def newR (R : List TRow) (id : Int × Int) : List TRow := R ++ [(id, fun _ => 0)]
def putR (cs : List Int) (R : List TRow) (n : Int) (l : List (Int × Int)) : List TRow := l.foldl (fun R c => setR cs R n c.1 c.2) R
def addR (cs : List Int) (R : List TRow) (id : Int × Int) (l : List (Int × Int)) : List TRow := putR cs (newR R id) R.length l
theorem colOf_new (R : List TRow) (id : Int × Int) (c : Int) : colOf (newR R id) c = colOf R c ++ [0] := by simp [colOf, newR]
theorem idsOf_new (R : List TRow) (id : Int × Int) : idsOf (newR R id) = idsOf R ++ [id] := by simp [idsOf, newR]
theorem idsOf_len (R : List TRow) : (idsOf R).length = R.length := by simp [idsOf]
theorem putR_snoc (cs : List Int) (R : List TRow) (n : Int) (l : List (Int × Int)) (x : Int × Int) : putR cs R n (l ++ [x]) = setR cs (putR cs R n l) n x.1 x.2 := by simp [putR]
def Grw (cs : List Int) (R : List TRow) (k : Nat) (L : ColL) : Prop := L.length = cs.length ∧ ∀ j c, cs[j]? = some c → ∃ v, L[j]? = some (v, if j < k then colOf R c ++ [0] else colOf R c)
theorem grw_start {cs : List Int} {R : List TRow} {L : ColL} (h : L.map (·.2) = cs.map (colOf R)) : Grw cs R 0 L := by
  have hl : L.length = cs.length := by simpa using congrArg List.length h
  refine ⟨hl, fun j c hc => ?_⟩
  have hj := (List.getElem?_eq_some_iff.1 hc).1
  have h1 := congrArg (fun l => l[j]?) h
  simp only [List.getElem?_map, hc, Option.map_some] at h1
  rw [List.getElem?_eq_getElem (by omega)] at h1 ⊢
  simp only [Option.map_some, Option.some.injEq] at h1
  exact ⟨L[j].1, by rw [if_neg (by omega), ← h1]⟩
theorem grw_end {cs : List Int} {R : List TRow} {L : ColL} (id : Int × Int) (h : Grw cs R cs.length L) : L.map (·.2) = cs.map (colOf (newR R id)) := by
  apply List.ext_getElem?
  intro j
  simp only [List.getElem?_map]
  cases hc : cs[j]? with
  | none =>
    rw [List.getElem?_eq_none_iff] at hc
    rw [Option.map_none, Option.map_eq_none_iff, List.getElem?_eq_none_iff, h.1]
    exact hc
  | some c =>
    obtain ⟨v, hv⟩ := h.2 j c hc
    rw [hv, if_pos (List.getElem?_eq_some_iff.1 hc).1]
    simp [colOf_new]
theorem grw_step {cs : List Int} {R : List TRow} {k : Nat} {L : ColL} {c : Int} (h : Grw cs R k L) (hc : cs[k]? = some c) (v : Value) : Grw cs R (k + 1) (L.set k (v, colOf R c ++ [0])) := by
  refine ⟨by rw [List.length_set]; exact h.1, fun j c' hc' => ?_⟩
  by_cases hj : j = k
  · subst hj
    rw [hc] at hc'
    injection hc' with hc'
    subst hc'
    exact ⟨v, by rw [List.getElem?_set_self (by rw [h.1]; exact (List.getElem?_eq_some_iff.1 hc).1), if_pos (by omega)]⟩
  · obtain ⟨u, hu⟩ := h.2 j c' hc'
    refine ⟨u, ?_⟩
    rw [List.getElem?_set_ne (by omega), hu]
    by_cases h1 : j < k
    · rw [if_pos h1, if_pos (by omega)]
    · rw [if_neg h1, if_neg (by omega)]
def tbX (p : Nat) (cs : List Int) (vc vk vi : Value) (b n : Nat) (L : ColL) (ids : List (Int × Int)) (f : Int × Int → Option Nat) (r : List Hp) : List Hp :=
  Hp.blk p #[vc, vk, vi, .map (some b)] 126 :: Hp.row 3 1 encI vc cs :: Hp.row 63 1 encV vk (L.map (·.1)) :: Hp.rows 3 1 encI L :: Hp.row 31 2 encId vi ids :: Hp.mp Tryd.prog 31 b n encK encN f :: r
theorem take_snoc {α : Type} {l : List α} {k : Nat} {x : α} (h : l[k]? = some x) : l.take k ++ [x] = l.take (k + 1) := by
  have hl := (List.getElem?_eq_some_iff.1 h).1
  rw [List.take_succ_eq_append_getElem hl, (List.getElem?_eq_some_iff.1 h).2]
set_option maxHeartbeats 6400000 in
theorem add_old {F0 : Nat → Prop} {w0 w : World} {l : List Hp} (p : Nat) (cs : List Int) (R : List TRow) (id : Int × Int) (cv : Value) (hk : okId id) (hi : ∃ i, ixF (idsOf R) id = some i) (hS : At F0 w0 w (Hp.seps (isTb p cs R :: l))) :
    Calls Tryd.prog 60 #[.pointer (some ⟨p, 0, none⟩), .agg #[.int .i64 id.1, .int .i64 id.2], cv] w (fun e w' => e = .returned (.int .i64 (-1)) ∧ At F0 w0 w' (Hp.seps (isTb p cs R :: l))) := by
  obtain ⟨i, hx⟩ := hi
  obtain ⟨Ac, cc, Ak, ck, Ai, ci, b, n, L, h⟩ := tb_open hS
  obtain ⟨a1, a2⟩ := id
  obtain ⟨kl, hkl⟩ := key_ok (a1, a2) hk
  clear hS
  have hS := h.at_.alloc #[.int .i64 a1, .int .i64 a2] 31
  obtain ⟨q, hq⟩ : ∃ q, q = w.heap.size := ⟨_, rfl⟩
  obtain ⟨W, hW⟩ : ∃ W, W = w.alloc (.cells #[.int .i64 a1, .int .i64 a2] 31) := ⟨_, rfl⟩
  rw [← hW, ← hq] at hS
  have HW := As.mk hW
  have HQ := As.mk hq
  have HC := As.mk h.cols
  simp only
  clear hW hq h hk
  have HL := As.mk (fun W (h : MapIs W Tryd.prog 31 b n encK encN (ixF (idsOf R))) => h.look_some (t := 124) Klaw encK_inj Tryd.underlying124 hkl hx true)
  clear hx hkl
  go_enter Tryd.func60, Tryd.ntmps60
  go_wp2_with fail
  rw [← HW.out, ← HQ.out]
  have q0 := (hS.cellAt 0 rfl 0).trans rfl
  have q1 := (hS.cellAt 0 rfl 1).trans rfl
  have p0 := (hS.cellAt 1 rfl 0).trans rfl
  have p1 := (hS.cellAt 1 rfl 1).trans rfl
  have p2 := (hS.cellAt 1 rfl 2).trans rfl
  have p3 := (hS.cellAt 1 rfl 3).trans rfl
  clear HW HQ
  have hl : ∀ n, (Instr.lookup 124 (.map (some b)) (.agg #[.int .i64 a1, .int .i64 a2]) true).run Tryd.prog (W.drewN n) = .ok (.tuple #[.int .i64 (i : Nat), .bool true]) (W.drewN n) := fun n => HL.out _ ((hS.mpAt 6 rfl).move rfl)
  go_wp2_with fail
  go_quiet (fail)
  go_wp2_with fail
  go_ret
  exact ⟨rfl, tb_closeV ((hS.drewN _).tail) HC.out⟩
set_option maxHeartbeats 12800000 in
theorem add_new {F0 : Nat → Prop} {w0 w : World} {l : List Hp} (p : Nat) (cs : List Int) (hcs : cs.Nodup) (R : List TRow) (id : Int × Int) (cv : Value) (cells : List (Int × Int)) (hk : okId id) (hx : ixF (idsOf R) id = none) (hm : R.length ≤ 100000)
    (hR : ∀ w' L', At F0 w0 w' (Hp.seps (L' ++ l)) → Rd w' 2 encId cv cells) (hS : At F0 w0 w (Hp.seps (isTb p cs R :: l))) :
    Calls Tryd.prog 60 #[.pointer (some ⟨p, 0, none⟩), .agg #[.int .i64 id.1, .int .i64 id.2], cv] w (fun e w' => e = .returned (.int .i64 (R.length : Nat)) ∧ At F0 w0 w' (Hp.seps (isTb p cs (addR cs R id cells) :: l))) := by
  obtain ⟨Dc, cn, rfl, hcn, hcm⟩ := (hR w [isTb p cs R] hS).shape
  obtain ⟨Ac, cc, Ak, ck, Ai, ci, b, n, L, h⟩ := tb_open hS
  obtain ⟨a1, a2⟩ := id
  obtain ⟨kl, hkl⟩ := key_ok (a1, a2) hk
  have HRd := As.mk hR
  have HN := As.mk hcs
  clear hS hR hcs
  have hS := h.at_.alloc #[.int .i64 a1, .int .i64 a2] 31
  obtain ⟨q, hq⟩ : ∃ q, q = w.heap.size := ⟨_, rfl⟩
  obtain ⟨W, hW⟩ : ∃ W, W = w.alloc (.cells #[.int .i64 a1, .int .i64 a2] 31) := ⟨_, rfl⟩
  rw [← hW, ← hq] at hS
  have HW := As.mk hW
  have HQ := As.mk hq
  have HC := As.mk h.cols
  have hmc := h.mc
  have HX := As.mk hx
  have HKl := As.mk hkl
  simp only
  clear hW hq h hk
  have HL := As.mk (fun W (h : MapIs W Tryd.prog 31 b n encK encN (ixF (idsOf R))) => h.look_none (t := 124) Klaw encK_inj Tryd.underlying124 (z := .int .i64 0) (by kernel_rfl) hkl hx true)
  clear hx hkl
  go_enter Tryd.func60, Tryd.ntmps60
  go_wp2_with fail
  rw [← HW.out, ← HQ.out]
  have q0 := (hS.cellAt 0 rfl 0).trans rfl
  have q1 := (hS.cellAt 0 rfl 1).trans rfl
  have p0 := (hS.cellAt 1 rfl 0).trans rfl
  have p1 := (hS.cellAt 1 rfl 1).trans rfl
  have p2 := (hS.cellAt 1 rfl 2).trans rfl
  have p3 := (hS.cellAt 1 rfl 3).trans rfl
  clear HW HQ
  have hl : ∀ n, (Instr.lookup 124 (.map (some b)) (.agg #[.int .i64 a1, .int .i64 a2]) true).run Tryd.prog (W.drewN n) = .ok (.tuple #[.int .i64 0, .bool false]) (W.drewN n) := fun n => HL.out _ ((hS.mpAt 6 rfl).move rfl)
  go_wp2_with fail
  go_quiet (fail)
  have hS2 := hS.drewN nq
  generalize W.drewN nq = W2 at hS2 ⊢
  clear hS hl q0 q1 p0 p1 p2 p3
  have q0 := (hS2.cellAt 0 rfl 0).trans rfl
  have q1 := (hS2.cellAt 0 rfl 1).trans rfl
  have qf0 := hS2.frozenAt 0 rfl 0
  have qf1 := hS2.frozenAt 0 rfl 1
  have qlt := hS2.ltAt 0 rfl
  have p0 := (hS2.cellAt 1 rfl 0).trans rfl
  have p1 := (hS2.cellAt 1 rfl 1).trans rfl
  have p2 := (hS2.cellAt 1 rfl 2).trans rfl
  have p3 := (hS2.cellAt 1 rfl 3).trans rfl
  have pf0 := hS2.frozenAt 1 rfl 0
  have pf1 := hS2.frozenAt 1 rfl 1
  have pf2 := hS2.frozenAt 1 rfl 2
  have pf3 := hS2.frozenAt 1 rfl 3
  have plt := hS2.ltAt 1 rfl
  go_upto_region 5 with fail
  go_cut [] (fun wc => ∃ A1 n1 c1, At F0 w0 wc (Hp.seps (Hp.blk q #[.int .i64 a1, .int .i64 a2] 31 :: tbX p cs (.slice Ac cs.length cc) (.slice Ak cs.length ck) (.slice A1 n1 c1) b n L (idsOf R ++ [(a1, a2)]) (ixF (idsOf R)) l)))
  case first =>
    go_region_law (refine rw_append_step rfl (.tmp 32) (.tmp 34) 26 31 2 encId (.agg #[.int .i64 0, .int .i64 0]) 16 rfl Tryd.underlying26 Tryd.infoD rfl (by decide) (.slice Ai R.length ci) (idsOf R) (a1, a2) rfl _ rfl (by first | exact blk_new (by simp) | exact blk_new_drew (by simp) | exact (blk_new_drewN (by simp))) ((hS2.below (by repeat (first | exact Below.refl _ _ | refine bl_drewN ?_ _ | refine Below.drew ?_ | refine bl_alloc ?_ _ | refine bl_set ?_ (by first | (simp; done) | omega | (simp; omega)) _))).rowAt 5 rfl) encId_len (one_id _) ?_ ?_ ?_; (simp only [maxLen, idsOf_len]; omega); (simp only [idsOf_len]; omega); intro v1 w2 hA; obtain ⟨A1, n1, c1, rfl⟩ := hA.row.slice; have hS3 := At.appendAt 5 hA hS2 rfl (by repeat (first | exact Below.refl _ _ | refine bl_drewN ?_ _ | refine Below.drew ?_ | refine bl_alloc ?_ _ | refine bl_set ?_ (by first | (simp; done) | omega | (simp; omega)) _)); clear hA; have z2 := (hS3.cellAt 1 rfl 2).trans rfl; have zf := hS3.frozenAt 1 rfl 2; have zlt := hS3.ltAt 1 rfl)
    all_goals
      have hS4 := hS3.setBlkAt 1 rfl 2 (.slice A1 n1 c1)
      go_wp2_with fail
      go_meet
      exact ⟨_, _, _, hS4⟩
  case rest =>
    clear hS2 q0 q1 p0 p1 p2 p3 qf0 qf1 pf0 pf1 pf2 pf3 qlt plt
    obtain ⟨A1, n1, c1, hS2⟩ := hcut
    have q0 := (hS2.cellAt 0 rfl 0).trans rfl
    have q1 := (hS2.cellAt 0 rfl 1).trans rfl
    have p0 := (hS2.cellAt 1 rfl 0).trans rfl
    have p1 := (hS2.cellAt 1 rfl 1).trans rfl
    have p2 := (hS2.cellAt 1 rfl 2).trans rfl
    have p3 := (hS2.cellAt 1 rfl 3).trans rfl
    go_upto_region 6 with fail
    go_cut [] (fun wc => ∃ n' , At F0 w0 wc (Hp.seps (Hp.blk q #[.int .i64 a1, .int .i64 a2] 31 :: tbX p cs (.slice Ac cs.length cc) (.slice Ak cs.length ck) (.slice A1 n1 c1) b n' L (idsOf R ++ [(a1, a2)]) (ixF (idsOf R ++ [(a1, a2)])) l)))
    case first =>
      go_still_tail 6, (by kernel_rfl)
      go_wp2_with (at_mapUpdate; refine rw_mapUpdate rfl (.tmp 41) (.tmp 42) (.tmp 43) 124 rfl 3 Klaw encK_inj Tryd.underlying124 rfl (hS2.drew.mpAt 6 rfl) (a1, a2) R.length _ rfl rfl HKl.out ?c1)
      case c1 =>
        intro w2 hm2 hg2
        have hS4 := hS2.drew.mpGrown 6 rfl hm2 hg2
        have he := ixF_snoc (idsOf R) (a1, a2) HX.out
        rw [idsOf_len] at he
        rw [← he] at hS4
        clear hm2 hg2 hS2 he
        go_wp2
        go_meet
        exact ⟨_, hS4⟩
    case rest =>
      clear hS2 q0 q1 p0 p1 p2 p3
      obtain ⟨n', hS2⟩ := hcut
      have q0 := (hS2.cellAt 0 rfl 0).trans rfl
      have q1 := (hS2.cellAt 0 rfl 1).trans rfl
      have p0 := (hS2.cellAt 1 rfl 0).trans rfl
      have p1 := (hS2.cellAt 1 rfl 1).trans rfl
      have p2 := (hS2.cellAt 1 rfl 2).trans rfl
      have p3 := (hS2.cellAt 1 rfl 3).trans rfl
      have HG := As.mk (grw_start HC.out)
      go_wp2_with fail
      go_loopg [49] cs.length (fun g0 iv wr => ∃ (k : Nat) (L' : ColL), k + g0 = cs.length ∧ iv = .int .i64 k ∧ As (Grw cs R k L') ∧ At F0 w0 wr (Hp.seps (Hp.blk q #[.int .i64 a1, .int .i64 a2] 31 :: tbX p cs (.slice Ac cs.length cc) (.slice Ak cs.length ck) (.slice A1 n1 c1) b n' L' (idsOf R ++ [(a1, a2)]) (ixF (idsOf R ++ [(a1, a2)])) l)))
      case atStart => exact ⟨0, L, by omega, rfl, HG, hS2⟩
      case round =>
        clear hS2 q0 q1 p0 p1 p2 p3
        obtain ⟨k, L', hk, rfl, HG', hS2⟩ := hrel
        have HK := As.mk hk
        by_cases hlt : k < cs.length
        · obtain ⟨x, hx⟩ : ∃ x, cs[k]? = some x := ⟨_, List.getElem?_eq_getElem hlt⟩
          obtain ⟨v, hv⟩ := HG'.out.2 k x hx
          rw [if_neg (by omega)] at hv
          have hO := hS2.rowsOut 4 k rfl hv
          obtain ⟨A, c, rfl, h1, h2⟩ := (hO.rowAt 0 rfl).shape
          obtain ⟨gz, rfl, hgk, hcell⟩ := (hO.rowAt 4 rfl).cell encV_len k _ (by rw [List.getElem?_map, hv]; rfl)
          have c0 := (hcell 0 (by decide)).1
          have f0 := (hcell 0 (by decide)).2
          simp only [encV, Nat.mul_one, Nat.add_zero, List.getElem?_cons_zero] at c0 f0
          have HV := As.mk (And.intro hx hv)
          have HLn : As ((colOf R x).length = R.length) := ⟨colOf_len R x⟩
          have q0 := (hO.cellAt 1 rfl 0).trans rfl
          have q1 := (hO.cellAt 1 rfl 1).trans rfl
          have p0 := (hO.cellAt 2 rfl 0).trans rfl
          have p1 := (hO.cellAt 2 rfl 1).trans rfl
          have p2 := (hO.cellAt 2 rfl 2).trans rfl
          have p3 := (hO.cellAt 2 rfl 3).trans rfl
          have plt := hO.ltAt 2 rfl
          clear hS2 hx hv hcell h1 h2 hk
          go_wp2_with fail
          go_region_law (refine rw_append_step rfl (.tmp 63) (.tmp 64) 63 3 1 encI (.int .i64 0) 8 rfl Tryd.underlying63 Tryd.infoI rfl (by decide) (.slice A (colOf R x).length c) (colOf R x) 0 rfl _ rfl (by first | exact blk_new (by simp) | exact blk_new_drew (by simp) | exact (blk_new_drewN (by simp))) ((hO.below (by repeat (first | exact Below.refl _ _ | refine bl_drewN ?_ _ | refine Below.drew ?_ | refine bl_alloc ?_ _ | refine bl_set ?_ (by first | (simp; done) | omega | (simp; omega)) _))).rowAt 0 rfl) encI_len (one_i _) ?_ ?_ ?_; (simp only [maxLen, HLn.out]; omega); (simp only [HLn.out]; omega); intro v1 w2 hA; obtain ⟨A2, n2, c2, rfl⟩ := hA.row.slice; have hS3 := At.appendAt 0 hA hO rfl (by repeat (first | exact Below.refl _ _ | refine bl_drewN ?_ _ | refine Below.drew ?_ | refine bl_alloc ?_ _ | refine bl_set ?_ (by first | (simp; done) | omega | (simp; omega)) _)); clear hA; have y1 := (hS3.cellAt 2 rfl 1).trans rfl; have z2 := (hS3.rowAt 4 rfl).at_ encV_len k _ (by rw [List.getElem?_map, HV.out.2]; rfl) 0 (by decide); have zlt := hS3.row_lt 4 rfl; simp only [encV, Nat.mul_one, Nat.add_zero, List.getElem?_cons_zero] at z2; have z0 := z2.1; have zf := z2.2; clear z2)
          all_goals
            have hS4 := hS3.setAt 4 rfl encV_len k 0 _ (.slice A2 n2 c2) (.slice A2 n2 c2) (by rw [List.getElem?_map, HV.out.2]; rfl) (by decide) rfl
            simp only [Nat.mul_one, Nat.add_zero] at hS4
            have hS5 := hS4.rowsIn (v := .slice A2 n2 c2) (xs := colOf R x ++ [0]) 4 k rfl (List.getElem?_eq_some_iff.1 HV.out.2).1
            have HG2 := As.mk (grw_step HG'.out HV.out.1 (.slice A2 n2 c2))
            have hS6 : At F0 w0 _ (Hp.seps (Hp.blk q #[.int .i64 a1, .int .i64 a2] 31 :: tbX p cs (.slice Ac cs.length cc) (.slice (some ⟨gz, 0, none⟩) cs.length ck) (.slice A1 n1 c1) b n' (L'.set k (.slice A2 n2 c2, colOf R x ++ [0])) (idsOf R ++ [(a1, a2)]) (ixF (idsOf R ++ [(a1, a2)])) l)) := hS5.as _ (by unfold tbX; rw [List.map_set]; rfl)
            clear hO hS3 hS4 hS5 HG' y1 z0 zf zlt p0 p1 p2 p3 q0 q1 c0 f0
            go_wp2_with fail
            go_roundg (gk - 1)
            case measure => have := HK.out; omega
            case rel => exact ⟨k + 1, _, by have := HK.out; omega, by go_num, HG2, hS6⟩
        · obtain rfl : k = cs.length := by omega
          have hT := At.tail (A := Hp.blk q #[.int .i64 a1, .int .i64 a2] 31) hS2
          have hT2 : At F0 w0 wr (Hp.seps (isTb p cs (newR R (a1, a2)) :: l)) := tb_closeV (vc := .slice Ac cs.length cc) (vk := .slice Ak cs.length ck) (vi := .slice A1 n1 c1) (b := b) (n := n') (L := L') (by unfold tbV; rw [idsOf_new]; exact hT) (grw_end _ HG'.out)
          clear hS2 hT HG' HK
          go_wp2_with fail
          go_loopg [70] cells.length (fun g0 iv wr => ∃ k : Nat, k + g0 = cells.length ∧ iv = .int .i64 k ∧ At F0 w0 wr (Hp.seps (isTb p cs (putR cs (newR R (a1, a2)) R.length (cells.take k)) :: l)))
          case atStart => exact ⟨0, by omega, rfl, hT2⟩
          case round =>
            clear hT2 hk hlt
            obtain ⟨k, hk, rfl, hS⟩ := hrel
            have HK := As.mk hk
            by_cases hlt : k < cells.length
            · obtain ⟨x, hx⟩ : ∃ x, cells[k]? = some x := ⟨_, List.getElem?_eq_getElem hlt⟩
              obtain ⟨bk, off, rfl, hbk, hcell⟩ := (HRd.out _ [isTb p cs (putR cs (newR R (a1, a2)) R.length (cells.take k))] hS).cells _ _ _ rfl k x hx
              have c0 := hcell 0 (by omega)
              have c1 := hcell 1 (by omega)
              have HT := As.mk (take_snoc hx)
              have HS := As.mk (set_does p cs HN.out (putR cs (newR R (a1, a2)) R.length (cells.take k)) R.length x.1 x.2)
              have HP := As.mk (putR_snoc cs (newR R (a1, a2)) R.length (cells.take k) x)
              obtain ⟨x1, x2⟩ := x
              simp only [encId, List.getElem?_cons_zero, List.getElem?_cons_succ, Nat.add_zero] at c0 c1
              have hS1 := hS.alloc #[.int .i64 x1, .int .i64 x2] 33
              obtain ⟨r, hr⟩ : ∃ r, r = wr.heap.size := ⟨_, rfl⟩
              obtain ⟨W, hW⟩ : ∃ W, W = wr.alloc (.cells #[.int .i64 x1, .int .i64 x2] 33) := ⟨_, rfl⟩
              rw [← hW, ← hr] at hS1
              have HW := As.mk hW
              have HQ := As.mk hr
              clear hk hcell hx hW hr
              go_wp2_with fail
              rw [← HW.out, ← HQ.out]
              have r0 := (hS1.cellAt 0 rfl 0).trans rfl
              have r1 := (hS1.cellAt 0 rfl 1).trans rfl
              clear HW HQ hS
              go_wp2_with fail
              refine (hS1.callAt 1 rfl HS.out).mono ?_
              rintro e w1 ⟨B, ⟨rfl, rfl⟩, hS2⟩
              have hS3 : At F0 w0 w1 (Hp.seps (isTb p cs (putR cs (newR R (a1, a2)) R.length (cells.take (k + 1))) :: l)) := by rw [← HT.out, HP.out]; exact hS2.tail
              clear hS1 hS2 HS r0 r1 c0 c1
              go_wp2_with fail
              go_roundg (gk - 1)
              case measure => have := HK.out; omega
              case rel => exact ⟨k + 1, by have := HK.out; omega, by go_num, hS3⟩
            · obtain rfl : k = cells.length := by omega
              rw [List.take_length] at hS
              go_wp2_with fail
              go_ret
              exact ⟨rfl, hS⟩
end Go.Proofs.YtkebkmbfglodlaaDoor
