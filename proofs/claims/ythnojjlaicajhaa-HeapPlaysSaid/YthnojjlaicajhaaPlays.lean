/- HeapPlays answers true for every list; no conditions. -/
import Derived.Test.YthnojjlaicajhaaSorts
import Derived.Laws.StructEq
namespace Go.Proofs.Ythnojjlaicajhaa
open Go.RowKit
theorem eq32 (d : Nat) (w : World) (x0 y0 x1 y1 x2 y2 : Int) :
    (Op.equalIn (d + 2) 32 (.agg #[.int .i64 x0, .int .i64 x1, .int .i64 x2]) (.agg #[.int .i64 y0, .int .i64 y1, .int .i64 y2])).run Try.prog w = .ok (x0 == y0 && (x1 == y1 && (x2 == y2))) w := by
  refine seq_of Try.underlying32 (by kernel_rfl) ?_
  refine seq_cons (by rfl) (by go_simp; rfl) (by go_simp; rfl) (by go_simp) ?_
  refine seq_cons (by rfl) (by go_simp; rfl) (by go_simp; rfl) (by go_simp) ?_
  exact seq_last (by rfl) (by go_simp; rfl) (by go_simp; rfl) (by go_simp)
attribute [local go_sem high] eq32
theorem len_same (p : Nat) (A : Option Addr) (n c : Nat) (w : World) (h0 : w.cell? ⟨p, 0, none⟩ = some (.slice A n c)) : Calls Try.prog 10 #[.pointer (some ⟨p, 0, none⟩)] w fun e w' => e = .returned (.int .i64 n) ∧ w' = w := by
  go_enter Try.func10, Try.ntmps10
  go_wp2
  go_ret
  exact ⟨rfl, rfl⟩
theorem hp_cell {F0 : Nat → Prop} {w0 w : World} {t p : Nat} {xs : List Item} {l : List Hp} (n : Nat) (h : At F0 w0 w (Hp.seps l)) (ha : l[n]? = some (isHp t p xs)) : ∃ A c, w.cell? ⟨p, 0, none⟩ = some (.slice A xs.length c) ∧ p < w.heap.size ∧ Rw w 32 3 encItem (.slice A xs.length c) xs := by
  obtain ⟨A, c, _, _, h⟩ := hp_open (h.one n ha)
  exact ⟨A, c, h.cellAt 0 rfl 0, h.ltAt 0 rfl, h.rowAt 1 rfl⟩
def encB (b : Bool) : List Value := [.bool b]
/-- The two heaps go together. -/
structure Pair (m : Nat) (ys rl : List Item) : Prop where
  heaped : Heaped ys
  perm : ys.Perm rl
  srt : Srt rl
  len : ys.length ≤ m
theorem Pair.cons {m : Nat} {y : Item} {ys rl : List Item} (h : Pair m (y :: ys) rl) : ∃ rs, rl = y :: rs ∧ ∀ zs, Heaped zs → (y :: zs).Perm (y :: ys) → Pair m zs rs := by
  cases rl with
  | nil => exact absurd h.perm.length_eq (by simp)
  | cons r rs =>
    have e : y = r := srt_head (rl := r :: rs) h.heaped h.perm h.srt rfl rfl
    subst e
    refine ⟨rs, rfl, fun zs hz hp => ⟨hz, ?_, (List.pairwise_cons.1 h.srt).2, ?_⟩⟩
    · exact ((List.perm_cons y).1 hp).trans ((List.perm_cons y).1 h.perm)
    · have := ((List.perm_cons y).1 hp).length_eq
      have := h.len
      simp at this
      omega
theorem Pair.push {m : Nat} {ys rl ys' rl' : List Item} {x : Item} (h : Pair m ys rl) (h1 : Heaped ys') (h2 : ys'.Perm (ys ++ [x])) (h3 : Srt rl') (h4 : rl'.Perm (rl ++ [x])) : Pair (m + 1) ys' rl' ∧ ∃ y zs, ys' = y :: zs := by
  refine ⟨⟨h1, h2.trans ((List.Perm.append_right _ h.perm).trans h4.symm), h3, by have := h2.length_eq; have := h.len; simp at *; omega⟩, ?_⟩
  cases ys' with
  | nil => exact absurd h2.length_eq (by simp)
  | cons y zs => exact ⟨y, zs, rfl⟩
set_option maxRecDepth 100000 in
set_option maxHeartbeats 25600000 in
theorem plays_walk (lv : Value) (l : List Item) (pv : Value) (ps : List Bool) (w : World) (hd : Rd w 3 encItem lv l) (hp : Rd w 1 encB pv ps) : Calls Try.prog 3 #[lv, pv] w fun e w' => e = .returned (.bool true) ∧ Below w.heap.size w w' := by
  obtain ⟨dA, dc, rfl, hdc, hdn⟩ := hd.shape
  obtain ⟨pA, pc, rfl, hpc, hpn⟩ := hp.shape
  have HD := As.mk hd
  have HP := As.mk hp
  clear hd hp
  go_enter Try.func3, Try.ntmps3
  go_wp2_with fail
  refine (alive_does w).mono ?_
  rintro e w1 ⟨rfl, hb⟩
  have hS1 := At.start0 hb
  clear hb
  by_cases hg : l.length ≤ 200
  · have d3 : decide (200 < (l.length : Int)) = false := decide_eq_false (by omega)
    have d4 : decide (200 < l.length) = false := decide_eq_false (by omega)
    by_cases hg2 : l.length ≤ ps.length
    · have d5 : decide (ps.length < l.length) = false := decide_eq_false (by omega)
      have d6 : decide ((ps.length : Int) < (l.length : Int)) = false := decide_eq_false (by omega)
      go_wp2_with fail
      refine (hS1.callNew new_does).mono ?_
      rintro e w2 ⟨B, ⟨p, rfl, rfl⟩, hS2⟩
      clear hS1
      go_wp2_with fail
      refine (hS2.callNew new_does).mono ?_
      rintro e w3 ⟨B, ⟨p2, rfl, rfl⟩, hS3⟩
      clear hS2
      have hS4 := (hS3.nilRow 32 3 encItem).alloc #[.slice none 0 0] 29
      have hS5 : At (fun _ => False) w _ (Hp.seps [isHp 29 w3.heap.size [], isHp 40 p2 [], isHp 40 p []]) := hp_closeL hS4
      clear hS4
      obtain ⟨q, hq⟩ : ∃ q, q = w3.heap.size := ⟨_, rfl⟩
      rw [← hq] at hS5
      have HQ := As.mk hq
      clear hq hS3
      go_wp2_with fail
      rw [← HQ.out]
      clear HQ
      go_loopg [9] l.length (fun g iv wr => ∃ (i : Nat) (ys zs rl : List Item), i + g = l.length ∧ iv = .int .i64 i ∧ As (Pair i ys rl) ∧ As (Heaped zs ∧ zs.length ≤ i) ∧ At (fun _ => False) w wr (Hp.seps [isHp 29 q rl, isHp 40 p2 zs, isHp 40 p ys]))
      case atStart => exact ⟨0, [], [], [], by omega, rfl, ⟨⟨heaped_nil, List.Perm.refl _, List.Pairwise.nil, by simp⟩⟩, ⟨heaped_nil, by simp⟩, hS5⟩
      case round =>
        clear hS5
        obtain ⟨i, ys, zs, rl, hi, rfl, HA, HZ, hS⟩ := hrel
        by_cases hlt : i < l.length
        · obtain ⟨x, hx⟩ : ∃ x, l[i]? = some x := ⟨_, List.getElem?_eq_getElem hlt⟩
          obtain ⟨pb, hpb⟩ : ∃ b, ps[i]? = some b := ⟨_, List.getElem?_eq_getElem (by omega)⟩
          have HI := As.mk hi
          have HC := As.mk (push_does p2 zs ⟨-(i : Int), 0, 0⟩ HZ.out.1 (by have := HZ.out.2; omega))
          have HC2 := As.mk (push_does p ys x HA.out.heaped (by have := HA.out.len; omega))
          have HC3 := As.mk (rpush_does q rl x HA.out.srt (by have := HA.out.len; have := HA.out.perm.length_eq; omega))
          obtain ⟨x1, x2, x3⟩ := x
          have HX := As.mk hx
          have HPB := As.mk hpb
          unfold Item.val at HC HC2 HC3
          clear hx hpb hi
          go_wp2_with fail
          refine (hS.callAt 1 rfl HC.out).mono ?_
          rintro e w4 ⟨B, ⟨rfl, zs2, hz1, hz2, rfl⟩, hS6⟩
          have HZ2 : As (Heaped zs2 ∧ zs2.length ≤ i + 1) := ⟨hz1, by have := hz2.length_eq; have := HZ.out.2; simp at *; omega⟩
          clear hz1 hz2 hS HZ HC
          obtain ⟨db, doff, rfl, hdb, hdcell⟩ := (HD.out.below hS6.bl).cells _ _ _ rfl i _ HX.out
          have c0 := hdcell 0 (by omega)
          have c1 := hdcell 1 (by omega)
          have c2 := hdcell 2 (by omega)
          simp only [encItem, List.getElem?_cons_zero, List.getElem?_cons_succ, Nat.add_zero] at c0 c1 c2
          clear hdcell
          go_wp2_with fail
          refine (hS6.callAt 2 rfl HC2.out).mono ?_
          rintro e w5 ⟨B, ⟨rfl, ys2, hh, hy, rfl⟩, hS7⟩
          have HY2 := As.mk hy
          have HH2 := As.mk hh
          obtain ⟨db', doff', he, hdb', hdcell⟩ := (HD.out.below hS7.bl).cells _ _ _ rfl i _ HX.out
          injection he with he
          injection he with he he'
          subst he; subst he'
          have c0 := hdcell 0 (by omega)
          have c1 := hdcell 1 (by omega)
          have c2 := hdcell 2 (by omega)
          simp only [encItem, List.getElem?_cons_zero, List.getElem?_cons_succ, Nat.add_zero] at c0 c1 c2
          clear hdcell hh hy hS6 HC2
          go_wp2_with fail
          refine (hS7.callAt 0 rfl HC3.out).mono ?_
          rintro e w6 ⟨B, ⟨rfl, rl2, hr, hrp, rfl⟩, hS8⟩
          obtain ⟨hpair, y, ys3, rfl⟩ := HA.out.push HH2.out HY2.out hr hrp
          obtain ⟨rs, rfl, hnext⟩ := hpair.cons
          have HPr := As.mk hpair
          have HNx := As.mk hnext
          have HCk := As.mk (peek_cons p y ys3)
          have HCp := As.mk (pop_cons p y ys3 hpair.heaped (by have := hpair.len; simp at this; omega))
          have HCr := As.mk (rpop_cons q y rs (by have := hpair.len; have := hpair.perm.length_eq; simp at *; omega))
          have HLe : As (rs.length = ys3.length) := ⟨by have := hpair.perm.length_eq; simpa using this.symm⟩
          obtain ⟨y1, y2, y3⟩ := y
          unfold Item.val at HCk HCp HCr
          clear hpair hnext hr hrp HA HH2 HY2 hS7 HC3 c0 c1 c2
          go_wp2_with fail
          refine (hS8.callAt 2 rfl HCk.out).mono ?_
          rintro e w7 ⟨B, ⟨rfl, rfl⟩, hS9⟩
          have hS10 := hS9.alloc #[.int .i64 y1, .int .i64 y2, .int .i64 y3] 32
          clear hS8 HCk
          go_upto_region 14 with fail
          obtain ⟨r, hr⟩ : ∃ r, r = w7.heap.size := ⟨_, rfl⟩
          obtain ⟨W, hW⟩ : ∃ W, W = w7.alloc (.cells #[.int .i64 y1, .int .i64 y2, .int .i64 y3] 32) := ⟨_, rfl⟩
          rw [← hW, ← hr] at hS10
          rw [← hW, ← hr]
          clear hW hr hS9
          have hS10 : At (fun _ => False) w W (Hp.seps [Hp.blk r #[.int .i64 y1, .int .i64 y2, .int .i64 y3] 32, isHp 29 q (⟨y1, y2, y3⟩ :: rs), isHp 40 p2 zs2, isHp 40 p (⟨y1, y2, y3⟩ :: ys3)]) := hS10
          go_cut [89] (fun t wc => t = .bool false ∧ At (fun _ => False) w wc (Hp.seps [Hp.blk r #[.int .i64 y1, .int .i64 y2, .int .i64 y3] 32, isHp 29 q (⟨y1, y2, y3⟩ :: rs), isHp 40 p2 zs2, isHp 40 p (⟨y1, y2, y3⟩ :: ys3)]))
          case first =>
            have r0 := (hS10.cellAt 0 rfl 0).trans rfl
            have r1 := (hS10.cellAt 0 rfl 1).trans rfl
            have r2 := (hS10.cellAt 0 rfl 2).trans rfl
            have rf0 := hS10.frozenAt 0 rfl 0
            have rf1 := hS10.frozenAt 0 rfl 1
            have rf2 := hS10.frozenAt 0 rfl 2
            have rlt := hS10.ltAt 0 rfl
            obtain ⟨A1, k1, h1, hp1, hrow1⟩ := hp_cell 1 hS10 rfl
            obtain ⟨gs, rfl, hgs⟩ := row_ptr hrow1 0 _ rfl
            obtain ⟨c0, c1, c2, _⟩ := item_cells hrow1 0 _ rfl
            obtain ⟨A2, k2, h2, hp2, _⟩ := hp_cell 3 hS10 rfl
            rw [List.length_cons, HLe.out] at h1
            rw [List.length_cons] at h2
            simp only [Nat.zero_mul, Nat.zero_add] at c0 c1 c2
            have m0 : (0 : Int) < (ys3.length : Int) + 1 := by omega
            clear hrow1
            go_quiet ((go_at_call 10; exact Calls.quiet_of_same (len_same p _ _ _ _ (by simpa using h2))))
            go_wp2_with fail
            go_meet
            exact ⟨rfl, hS10.below (by repeat (first | exact Below.refl _ _ | refine bl_drewN ?_ _ | refine Below.drew ?_ | refine bl_alloc ?_ _ | refine bl_set ?_ (by first | (simp; done) | omega | (simp; omega)) _))⟩
          case rest =>
            clear hS10
            obtain ⟨rfl, hS10⟩ := hcut
            obtain ⟨pb', poff, hpe, hpbl, hpcell⟩ := (HP.out.below hS10.bl).cells _ _ _ rfl i _ HPB.out
            subst hpe
            have pc0 := hpcell 0 (by omega)
            simp only [encB, List.getElem?_cons_zero, Nat.add_zero, Nat.mul_one] at pc0
            have hips : (i : Int) < (ps.length : Int) := by omega
            clear hpcell
            cases pb with
            | false =>
              go_wp2_with fail
              go_roundg (gk - 1)
              case measure => have := HI.out; omega
              case rel => exact ⟨i + 1, _, _, _, by have := HI.out; omega, by go_num, HPr, HZ2, hS10.sel [1, 1, 1]⟩
            | true =>
              go_wp2_with fail
              refine (hS10.callAt 3 rfl HCp.out).mono ?_
              rintro e w8 ⟨B, ⟨ys4, hh4, hy4, rfl, rfl⟩, hS11⟩
              have HPr2 := As.mk (HNx.out ys4 hh4 hy4)
              have HLe2 : As (rs.length = ys4.length) := ⟨by have := HPr2.out.perm.length_eq; exact this.symm⟩
              clear hh4 hy4 hS10 HCp HNx HPr pc0
              have r0 := (hS11.cellAt 0 rfl 0).trans rfl
              have r1 := (hS11.cellAt 0 rfl 1).trans rfl
              have r2 := (hS11.cellAt 0 rfl 2).trans rfl
              have rf0 := hS11.frozenAt 0 rfl 0
              have rf1 := hS11.frozenAt 0 rfl 1
              have rf2 := hS11.frozenAt 0 rfl 2
              have rlt := hS11.ltAt 0 rfl
              have hS12 := ((hS11.setBlkAt 0 rfl 0 (.int .i64 y1)).setBlkAt 0 rfl 1 (.int .i64 y2)).setBlkAt 0 rfl 2 (.int .i64 y3)
              go_wp2_with fail
              refine (hS12.callAt 1 rfl HCr.out).mono ?_
              rintro e w9 ⟨B, ⟨rfl, rfl⟩, hS13⟩
              clear hS11 hS12 r0 r1 r2 rf0 rf1 rf2 rlt HCr
              have hS14 := hS13.alloc #[.int .i64 y1, .int .i64 y2, .int .i64 y3] 32
              go_upto_region 19 with fail
              obtain ⟨r', hr⟩ : ∃ r', r' = w9.heap.size := ⟨_, rfl⟩
              obtain ⟨W', hW⟩ : ∃ W', W' = w9.alloc (.cells #[.int .i64 y1, .int .i64 y2, .int .i64 y3] 32) := ⟨_, rfl⟩
              rw [← hW, ← hr] at hS14
              rw [← hW, ← hr]
              clear hW hr hS13
              have hS14 : At (fun _ => False) w W' (Hp.seps [Hp.blk r' #[.int .i64 y1, .int .i64 y2, .int .i64 y3] 32, Hp.blk r #[.int .i64 y1, .int .i64 y2, .int .i64 y3] 32, isHp 29 q rs, isHp 40 p2 zs2, isHp 40 p ys4]) := hS14
              go_cut [121] (fun t wc => t = .bool false ∧ At (fun _ => False) w wc (Hp.seps [Hp.blk r' #[.int .i64 y1, .int .i64 y2, .int .i64 y3] 32, Hp.blk r #[.int .i64 y1, .int .i64 y2, .int .i64 y3] 32, isHp 29 q rs, isHp 40 p2 zs2, isHp 40 p ys4]))
              case first =>
                have r0 := (hS14.cellAt 0 rfl 0).trans rfl
                have r1 := (hS14.cellAt 0 rfl 1).trans rfl
                have r2 := (hS14.cellAt 0 rfl 2).trans rfl
                have rf0 := hS14.frozenAt 0 rfl 0
                have rf1 := hS14.frozenAt 0 rfl 1
                have rf2 := hS14.frozenAt 0 rfl 2
                have rlt := hS14.ltAt 0 rfl
                have s0 := (hS14.cellAt 1 rfl 0).trans rfl
                have s1 := (hS14.cellAt 1 rfl 1).trans rfl
                have s2 := (hS14.cellAt 1 rfl 2).trans rfl
                have sf0 := hS14.frozenAt 1 rfl 0
                have sf1 := hS14.frozenAt 1 rfl 1
                have sf2 := hS14.frozenAt 1 rfl 2
                have slt := hS14.ltAt 1 rfl
                obtain ⟨A1, k1, h1, hp1, _⟩ := hp_cell 2 hS14 rfl
                obtain ⟨A2, k2, h2, hp2, _⟩ := hp_cell 4 hS14 rfl
                rw [HLe2.out] at h1
                go_quiet ((go_at_call 10; exact Calls.quiet_of_same (len_same p _ _ _ _ (by simpa using h2))))
                go_wp2_with fail
                go_meet
                exact ⟨rfl, hS14.below (by repeat (first | exact Below.refl _ _ | refine bl_drewN ?_ _ | refine Below.drew ?_ | refine bl_alloc ?_ _ | refine bl_set ?_ (by first | (simp; done) | omega | (simp; omega)) _))⟩
              case rest =>
                clear hS14
                obtain ⟨rfl, hS14⟩ := hcut
                go_wp2_with fail
                go_roundg (gk - 1)
                case measure => have := HI.out; omega
                case rel => exact ⟨i + 1, _, _, _, by have := HI.out; omega, by go_num, ⟨⟨HPr2.out.heaped, HPr2.out.perm, HPr2.out.srt, HPr2.out.len⟩⟩, HZ2, hS14.sel [2, 2, 2]⟩
        · obtain rfl : i = l.length := by omega
          clear hi HZ
          have hT : At (fun _ => False) w wr (Hp.seps [isHp 29 q rl, isHp 40 p ys]) := hS.sel [0, 1]
          clear hS
          go_wp2_with fail
          go_loopg [] l.length (fun g wr => ∃ (ys rl : List Item), g ≤ 200 ∧ As (Pair g ys rl) ∧ At (fun _ => False) w wr (Hp.seps [isHp 29 q rl, isHp 40 p ys]))
          case atStart => exact ⟨ys, rl, hg, HA, hT⟩
          case round =>
            clear hT HA
            obtain ⟨ys, rl, hgk, HA, hS⟩ := hrel
            obtain ⟨A1, k1, h1, hp1, _⟩ := hp_cell 0 hS rfl
            cases ys with
            | nil =>
              obtain rfl : rl = [] := List.eq_nil_of_length_eq_zero HA.out.perm.length_eq.symm
              rw [List.length_nil] at h1
              go_wp2_with fail
              refine (hS.callAt 1 rfl (pop_nil p)).mono ?_
              rintro e w8 ⟨B, ⟨rfl, rfl⟩, hS2⟩
              have hS3 := hS2.alloc #[.int .i64 0, .int .i64 0, .int .i64 0] 32
              go_wp2_with fail
              refine (hS3.callAt 2 rfl (len_does p [])).mono ?_
              rintro e w9 ⟨B, ⟨rfl, rfl⟩, hS4⟩
              go_wp2_with fail
              go_ret
              exact ⟨rfl, hS4.bl⟩
            | cons y ys3 =>
              obtain ⟨rs, rfl, hnext⟩ := HA.out.cons
              have HNx := As.mk hnext
              have HCp := As.mk (pop_cons p y ys3 HA.out.heaped (by have := HA.out.len; simp at this; omega))
              have HCr := As.mk (rpop_cons q y rs (by have := HA.out.len; have := HA.out.perm.length_eq; simp at *; omega))
              rw [List.length_cons] at h1
              have t0 : decide ((0 : Int) < (rs.length : Int) + 1) = true := decide_eq_true (by omega)
              obtain ⟨y1, y2, y3⟩ := y
              unfold Item.val at HCp HCr
              clear hnext
              go_wp2_with fail
              refine (hS.callAt 1 rfl HCp.out).mono ?_
              rintro e w8 ⟨B, ⟨ys4, hh4, hy4, rfl, rfl⟩, hS2⟩
              have hpr := HNx.out ys4 hh4 hy4
              have HPr2 : As (Pair (gk - 1) ys4 rs) := ⟨⟨hpr.heaped, hpr.perm, hpr.srt, by have := ((List.perm_cons _).1 hy4).length_eq; have := HA.out.len; simp at this; omega⟩⟩
              have HG : As (0 < gk) := ⟨by have := HA.out.len; simp at this; omega⟩
              clear hh4 hy4 hS HCp HNx hpr h1 hp1 HA
              have hS3 := hS2.alloc #[.int .i64 y1, .int .i64 y2, .int .i64 y3] 32
              go_wp2_with fail
              refine (hS3.callAt 1 rfl HCr.out).mono ?_
              rintro e w9 ⟨B, ⟨rfl, rfl⟩, hS4⟩
              clear hS2 hS3 HCr
              have hS5 := hS4.alloc #[.int .i64 y1, .int .i64 y2, .int .i64 y3] 32
              have r0 := (hS4.cellAt 0 rfl 0).trans rfl
              have r1 := (hS4.cellAt 0 rfl 1).trans rfl
              have r2 := (hS4.cellAt 0 rfl 2).trans rfl
              have rf0 := hS4.frozenAt 0 rfl 0
              have rf1 := hS4.frozenAt 0 rfl 1
              have rf2 := hS4.frozenAt 0 rfl 2
              have rlt := hS4.ltAt 0 rfl
              go_wp2_with fail
              go_roundg (gk - 1)
              case measure => have := HG.out; omega
              case rel => exact ⟨ys4, rs, by omega, HPr2, hS5.sel [2, 2]⟩
    · have HG := As.mk hg2
      clear hg2
      go_wp2_with fail
      all_goals first | (exfalso; have := HG.out; omega) | (go_ret; exact ⟨rfl, hS1.bl⟩)
  · have HG := As.mk hg
    clear hg
    go_wp2_with fail
    all_goals first | (exfalso; have := HG.out; omega) | (go_ret; exact ⟨rfl, hS1.bl⟩)
end Go.Proofs.Ythnojjlaicajhaa
