/- SchedFair answers true for all numbers and budgets; no conditions. -/
import Derived.Test.YtkfkacdiekpkfaaU
import Derived.Test.YtkfkacdiekpkfaaFairF
import Derived.Deep.OwnRows
namespace Go.Proofs.Ytkfkacdiekpkfaa
open Go.RowKit
def encB (x : Bool) : List Value := [.bool x]
theorem encB_len (x : Bool) : (encB x).length = 1 := rfl
theorem Try.info4 : (Try.prog.info? 4).map (fun i => (i.zero, i.size, i.bytes)) = some (some (.bool false), 1, 1) := by kernel_rfl
theorem sho_tab (n : Nat) (b : Int) (f : Nat → Int) : shO b (tab n f) = tab n (gotF b n f) := by
  apply List.ext_getElem?
  intro i
  by_cases hi : i < n
  · rw [tab_get _ _ _ hi]
    unfold gotF
    have hl : i < (shO b (tab n f)).length := by rw [shO_len, tab_len]; exact hi
    rw [List.getElem?_eq_getElem hl]; rfl
  · rw [List.getElem?_eq_none (by rw [shO_len, tab_len]; omega), List.getElem?_eq_none (by rw [tab_len]; omega)]
theorem At.set1 {F0 : Nat → Prop} {w0 w : World} {l : List Hp} {α : Type} {e : Nat} {enc : α → List Value} {xs : List α} {g m c : Nat} (n : Nat) (h : At F0 w0 w (Hp.seps l)) (ha : l[n]? = some (Hp.row e 1 enc (.slice (some ⟨g, 0, none⟩) m c) xs)) (he : ∀ x, (enc x).length = 1) (i : Nat) (x x' : α) (u : Value) (hx : xs[i]? = some x) (hu : enc x' = [u]) :
    At F0 w0 (w.setCell ⟨g, i, none⟩ u) (Hp.seps (l.set n (Hp.row e 1 enc (.slice (some ⟨g, 0, none⟩) m c) (xs.set i x')))) := by
  have h1 := h.setAt n ha he i 0 x x' u hx (by decide) (by
    rw [hu]
    obtain ⟨y, hy⟩ := List.length_eq_one_iff.1 (he x)
    rw [hy]; rfl)
  simpa only [Nat.mul_one, Nat.add_zero] using h1
theorem Rw.at1 {α : Type} {w : World} {e g n c : Nat} {enc : α → List Value} {xs : List α} (h : Rw w e 1 enc (.slice (some ⟨g, 0, none⟩) n c) xs) (he : ∀ x, (enc x).length = 1) (i : Nat) (x : α) (hx : xs[i]? = some x) : w.cell? ⟨g, i, none⟩ = (enc x)[0]? ∧ w.frozen? ⟨g, i, none⟩ = false := by
  have := h.at_ he i x hx 0 (by decide)
  simpa only [Nat.mul_one, Nat.add_zero] using this
theorem tab_head {w : World} {e n c : Nat} {α : Type} {enc : α → List Value} {A : Option Addr} {m : Nat} {f : Nat → α} (h : Rw w e 1 enc (.slice A m c) (tab n f)) (he : ∀ x, (enc x).length = 1) (hn : 0 < n) : m = n ∧ ∃ g, A = some ⟨g, 0, none⟩ := by
  refine ⟨(h.rd he).len.1.trans (tab_len n f), ?_⟩
  obtain ⟨g, h1, _⟩ := h.cell he 0 _ (tab_get n f 0 hn)
  exact ⟨g, h1⟩
def needF (xs : List Int) (k : Nat) : Int := 1 + low (xs.getD k 0)
theorem needF_le (xs : List Int) (k : Nat) : 1 ≤ needF xs k ∧ needF xs k ≤ 64 := by have := low_le (xs.getD k 0); unfold needF; omega
theorem tab_snoc {α : Type} (n : Nat) (f : Nat → α) : tab (n + 1) f = tab n f ++ [f n] := by unfold tab; rw [List.range_succ, List.map_append]; rfl
theorem upd_upd {α : Type} (f : Nat → α) (k : Nat) (x y : α) : upd (upd f k x) k y = upd f k y := by funext j; unfold upd; split <;> rfl
theorem bits_low (x : Int) : bits BinOp.and IntKind.i64 x 63 = low x := rfl
theorem most_step {xs : List Int} {k : Nat} {m m' : Int} (h : ∀ j, j < k → needF xs j ≤ m) (h1 : m ≤ m') (h2 : needF xs k ≤ m') : ∀ j, j < k + 1 → needF xs j ≤ m' := by
  intro j hj
  by_cases e : j = k
  · rw [e]; exact h2
  · have := h j (by omega); omega
set_option maxRecDepth 100000 in
set_option maxHeartbeats 12800000 in
theorem fair_walk (lv : Value) (xs : List Int) (b : Int) (w : World) (hd : Rd w 1 encInt lv xs) : Calls Try.prog 4 #[lv, .int .i64 b] w fun e w' => e = .returned (.bool true) ∧ Below w.heap.size w w' := by
  obtain ⟨dA, dc, rfl, hdc, hdn⟩ := hd.shape
  have HD := As.mk hd
  clear hd
  by_cases hg : (1 ≤ xs.length ∧ xs.length ≤ 12) ∧ (1 ≤ b ∧ b ≤ 1000)
  · obtain ⟨⟨g1, g2⟩, g3, g4⟩ := hg
    obtain ⟨N, hN⟩ : ∃ N, xs.length = N := ⟨_, rfl⟩
    have HLen := As.mk hN
    rw [hN] at g1 g2 hdc hdn ⊢
    clear hN
    have t1 : decide ((N : Int) < 1) = false := decide_eq_false (by omega)
    have t1' : decide (N < 1) = false := decide_eq_false (by omega)
    have t2 : decide (12 < (N : Int)) = false := decide_eq_false (by omega)
    have t2' : decide (12 < N) = false := decide_eq_false (by omega)
    have t3 : decide (b < 1) = false := decide_eq_false (by omega)
    have t4 : decide (1000 < b) = false := decide_eq_false (by omega)
    have hmk := run_make_row' (P := Try.prog) 28 4 (.bool false) 1 Try.underlying28 Try.info4 rfl .i64 .i64 N (by omega) (by omega)
    have HAll := As.mk (needF_le xs)
    go_enter Try.func4, Try.ntmps4
    go_wp2_with fail
    refine (alive_does w).mono ?_
    rintro e w1 ⟨rfl, hb⟩
    have hS1 := At.start0 hb
    have hS2 := (hS1.nilRow 3 1 encInt).newRow (w1 := w1.alloc (.cells (madeCells #[.bool false] N) 4)) (by repeat (first | exact Below.refl _ _ | refine bl_drewN ?_ _ | refine Below.drew ?_ | refine bl_alloc ?_ _ | refine bl_set ?_ (by first | (simp; done) | omega | (simp; omega)) _)) (rw_made w1 4 (.bool false) N encB false rfl (by simp only [maxLen]; omega)) (by simp [Value.ownBlock])
    obtain ⟨gd, hgd⟩ : ∃ gd, gd = w1.heap.size := ⟨_, rfl⟩
    obtain ⟨W1, hW1⟩ : ∃ W1, W1 = w1.alloc (.cells (madeCells #[.bool false] N) 4) := ⟨_, rfl⟩
    rw [← hgd, ← hW1] at hS2
    have HW1 := As.mk hW1
    have HGd := As.mk hgd
    clear hb hS1 hW1 hgd
    go_wp2_with fail
    rw [← HW1.out, ← HGd.out]
    clear HW1 HGd hmk
    go_loopg [7, 8, 10] N (fun g0 mv sv iv wr => ∃ (k : Nat) (m : Int), k + g0 = N ∧ iv = .int .i64 k ∧ mv = .int .i64 m ∧ 0 ≤ m ∧ m ≤ 64 ∧ (0 < k → 1 ≤ m) ∧ As (∀ j, j < k → needF xs j ≤ m) ∧ At (fun _ => False) w wr (Hp.seps [Hp.row 4 1 encB (.slice (some ⟨gd, 0, none⟩) N N) (tab N fun _ => false), Hp.row 3 1 encInt sv (tab k (needF xs))]))
    case atStart => exact ⟨0, 0, by omega, rfl, rfl, by omega, by omega, by omega, ⟨fun j hj => by omega⟩, hS2⟩
    case round =>
      clear hS2
      obtain ⟨k, m, hk, rfl, rfl, hm1, hm2, hm3, HM, hS⟩ := hrel
      obtain ⟨D, n0, cc, rfl⟩ := (hS.rowAt 1 rfl).slice
      by_cases hlt : k < N
      · have HK := As.mk hk
        obtain ⟨x, hx⟩ : ∃ x, xs[k]? = some x := ⟨_, List.getElem?_eq_getElem (by have := HLen.out; omega)⟩
        obtain ⟨bk, off, rfl, hbk, hcell⟩ := (HD.out.below hS.bl).cells _ _ _ (by rw [HLen.out]) k x hx
        have c0 := hcell 0 (by omega)
        simp only [encInt, List.getElem?_cons_zero, Nat.add_zero, Nat.mul_one] at c0
        have HX : As (needF xs k = 1 + low x) := ⟨by unfold needF; rw [List.getD_eq_getElem?_getD, hx]; rfl⟩
        have hlo := low_le x
        have HT : As (tab (k + 1) (needF xs) = tab k (needF xs) ++ [1 + low x]) := ⟨by rw [tab_snoc, HX.out]⟩
        have bl := bits_low x
        have hlk : (tab k (needF xs)).length = k := tab_len _ _
        have HLk := As.mk hlk
        clear hk hcell hx hlk
        by_cases hgt : m < 1 + low x
        · have t9 : decide (m < 1 + low x) = true := decide_eq_true hgt
          go_wp2_with (at_builtin; refine rw_append rfl (.tmp 59) (.tmp 61) 22 3 1 encInt (.int .i64 0) 8 rfl Try.underlying22 Try.info3 rfl (by decide) (.slice D n0 cc) (tab k (needF xs)) (1 + low x) rfl _ rfl (by first | exact blk_new (by simp) | exact blk_new_drew (by simp)) ((hS.below (by repeat (first | exact Below.refl _ _ | refine bl_drewN ?_ _ | refine Below.drew ?_ | refine bl_alloc ?_ _ | refine bl_set ?_ (by first | (simp; done) | omega | (simp; omega)) _))).rowAt 1 rfl) encInt_len (one_int _) ?c1 ?c2 ?c3)
          case c1 => simp only [maxLen]; have := HLk.out; omega
          case c2 => have := HLk.out; omega
          case c3 =>
            intro v1 w2 hA
            have hT := At.appendAt 1 hA hS rfl (by repeat (first | exact Below.refl _ _ | refine bl_drewN ?_ _ | refine Below.drew ?_ | refine bl_alloc ?_ _ | refine bl_set ?_ (by first | (simp; done) | omega | (simp; omega)) _))
            rw [← HT.out] at hT
            clear hA hS
            go_wp2_with fail
            go_roundg (gk - 1)
            case measure => have := HK.out; omega
            case rel => exact ⟨k + 1, 1 + low x, by have := HK.out; omega, by go_num, rfl, by omega, by omega, by omega, ⟨most_step HM.out (by omega) (by rw [HX.out]; omega)⟩, hT⟩
        · have t9 : decide (m < 1 + low x) = false := decide_eq_false hgt
          go_wp2_with (at_builtin; refine rw_append rfl (.tmp 59) (.tmp 61) 22 3 1 encInt (.int .i64 0) 8 rfl Try.underlying22 Try.info3 rfl (by decide) (.slice D n0 cc) (tab k (needF xs)) (1 + low x) rfl _ rfl (by first | exact blk_new (by simp) | exact blk_new_drew (by simp)) ((hS.below (by repeat (first | exact Below.refl _ _ | refine bl_drewN ?_ _ | refine Below.drew ?_ | refine bl_alloc ?_ _ | refine bl_set ?_ (by first | (simp; done) | omega | (simp; omega)) _))).rowAt 1 rfl) encInt_len (one_int _) ?c1 ?c2 ?c3)
          case c1 => simp only [maxLen]; have := HLk.out; omega
          case c2 => have := HLk.out; omega
          case c3 =>
            intro v1 w2 hA
            have hT := At.appendAt 1 hA hS rfl (by repeat (first | exact Below.refl _ _ | refine bl_drewN ?_ _ | refine Below.drew ?_ | refine bl_alloc ?_ _ | refine bl_set ?_ (by first | (simp; done) | omega | (simp; omega)) _))
            rw [← HT.out] at hT
            clear hA hS
            go_wp2_with fail
            go_roundg (gk - 1)
            case measure => have := HK.out; omega
            case rel => exact ⟨k + 1, m, by have := HK.out; omega, by go_num, rfl, by omega, by omega, by omega, ⟨most_step HM.out (by omega) (by rw [HX.out]; omega)⟩, hT⟩
      · obtain rfl : k = N := by omega
        have hm0 := hm3 (by omega)
        clear hk hm3
        have HF := As.mk (fun w => frames_does k m b (by omega) (by omega) hm0 hm2 g3 g4 w)
        obtain ⟨rfl, gl, rfl⟩ := tab_head (hS.rowAt 1 rfl) encInt_len g1
        go_wp2_with fail
        refine (HF.out _).mono ?_
        rintro e w' ⟨F0, rfl, hF1, hF2, hF3, rfl⟩
        obtain ⟨F, rfl⟩ : ∃ F : Nat, F0 = F := ⟨F0.toNat, by omega⟩
        have HF3 := As.mk hF3
        have HI : As (Inv n0 b (needF xs) 0 0 (needF xs) (fun _ => false)) := ⟨Inv.start n0 b _ _ g1 fun k _ => (needF_le xs k).1⟩
        clear hF3 HF hF1 hm0 hm1 hm2
        go_wp2_with fail
        go_loopg [12, 13] F (fun g0 av fv wr => ∃ (f at_ : Nat) (lf : Nat → Int) (dn : Nat → Bool), g0 + f = F ∧ av = .int .i64 at_ ∧ fv = .int .i64 g0 ∧ at_ < n0 ∧ As (Inv n0 b (needF xs) f at_ lf dn) ∧ At (fun _ => False) w wr (Hp.seps [Hp.row 4 1 encB (.slice (some ⟨gd, 0, none⟩) n0 n0) (tab n0 dn), Hp.row 3 1 encInt (.slice (some ⟨gl, 0, none⟩) n0 cc) (tab n0 lf)]))
        case atStart => exact ⟨0, 0, _, _, by omega, rfl, rfl, g1, HI, hS⟩
        case round =>
          clear hS HI
          obtain ⟨f, at_, lf, dn, hf, rfl, rfl, hat, HI, hS⟩ := hrel
          by_cases hlt : 0 < gk
          · obtain ⟨gq, rfl⟩ : ∃ gq, gk = gq + 1 := ⟨gk - 1, by omega⟩
            have HFf := As.mk hf
            have hgq : gq ≤ 1000 := by omega
            have hS1 := hS.nilRow 3 1 encInt
            have hf1 : ∀ i, i < n0 → 1 ≤ rot n0 at_ lf i := fun i _ => (HI.out.pos _ (Nat.mod_lt _ g1)).1
            have hf2 : ∀ i, i < n0 → rot n0 at_ lf i ≤ 64 := fun i _ => Int.le_trans (HI.out.pos _ (Nat.mod_lt _ g1)).2 (needF_le _ _).2
            have HR := As.mk (And.intro hf1 hf2)
            clear hf hS hf1 hf2 hlt
            go_wp2_with fail
            go_loopg [14, 15] n0 (fun g0 tv iv wr => ∃ k : Nat, k + g0 = n0 ∧ iv = .int .i64 k ∧ At (fun _ => False) w wr (Hp.seps [Hp.row 3 1 encInt tv (tab k (rot n0 at_ lf)), Hp.row 4 1 encB (.slice (some ⟨gd, 0, none⟩) n0 n0) (tab n0 dn), Hp.row 3 1 encInt (.slice (some ⟨gl, 0, none⟩) n0 cc) (tab n0 lf)]))
            case atStart => exact ⟨0, by omega, rfl, hS1⟩
            case round =>
              clear hS1
              obtain ⟨k, hk, rfl, hS⟩ := hrel
              obtain ⟨D, m0, c1, rfl⟩ := (hS.rowAt 0 rfl).slice
              by_cases hlt : k < n0
              · have HK := As.mk hk
                obtain ⟨q, hq⟩ : ∃ q, (at_ + k) % n0 = q := ⟨_, rfl⟩
                have hqi : q < n0 := hq ▸ Nat.mod_lt _ g1
                have r1 : ((at_ : Int) + (k : Int)).tmod (n0 : Int) = (q : Int) := by rw [Int.tmod_eq_emod_of_nonneg (by omega), ← hq]; rfl
                have r1' : ((at_ : Int) + (k : Int)) % (n0 : Int) = (q : Int) := by rw [← hq]; rfl
                have r6 : ¬ (n0 : Int) = 0 := by omega
                have r7 : ((n0 : Int) == 0) = false := beq_eq_false_iff_ne.2 r6
                have HT : As (tab (k + 1) (rot n0 at_ lf) = tab k (rot n0 at_ lf) ++ [lf q]) := ⟨by rw [tab_snoc]; unfold rot; rw [hq]⟩
                have x0 := ((hS.rowAt 2 rfl).at1 encInt_len q _ (tab_get _ _ _ hqi)).1
                simp only [encInt, List.getElem?_cons_zero] at x0
                have HLk := As.mk (tab_len k (rot n0 at_ lf))
                clear hk hq
                go_wp2_with (at_builtin; refine rw_append rfl (.tmp 80) (.tmp 89) 22 3 1 encInt (.int .i64 0) 8 rfl Try.underlying22 Try.info3 rfl (by decide) (.slice D m0 c1) (tab k (rot n0 at_ lf)) (lf q) rfl _ rfl (by first | exact blk_new (by simp) | exact blk_new_drew (by simp)) ((hS.below (by repeat (first | exact Below.refl _ _ | refine bl_drewN ?_ _ | refine Below.drew ?_ | refine bl_alloc ?_ _ | refine bl_set ?_ (by first | (simp; done) | omega | (simp; omega)) _))).rowAt 0 rfl) encInt_len (one_int _) ?c1 ?c2 ?c3)
                case c1 => simp only [maxLen]; have := HLk.out; omega
                case c2 => have := HLk.out; omega
                case c3 =>
                  intro v1 w2 hA
                  have hT := At.appendAt 0 hA hS rfl (by repeat (first | exact Below.refl _ _ | refine bl_drewN ?_ _ | refine Below.drew ?_ | refine bl_alloc ?_ _ | refine bl_set ?_ (by first | (simp; done) | omega | (simp; omega)) _))
                  rw [← HT.out] at hT
                  clear hA hS
                  go_wp2_with fail
                  go_roundg (gk - 1)
                  case measure => have := HK.out; omega
                  case rel => exact ⟨k + 1, by have := HK.out; omega, by go_num, hT⟩
              · obtain rfl : k = n0 := by omega
                clear hk
                have HSh := As.mk (share_does b (by omega) (.slice D m0 c1) (tab k (rot k at_ lf)) wr ((hS.rowAt 0 rfl).rd encInt_len) (by rw [tab_len]; omega))
                have eb : bz b = b := by unfold bz; rw [if_neg (by omega)]
                rw [eb, sho_tab] at HSh
                obtain ⟨mv, hmv⟩ : ∃ mv, wh b (tab k (rot k at_ lf)) = mv := ⟨_, rfl⟩
                have hml : mv < k := hmv ▸ wh_lt k b _ g1
                rw [hmv] at HSh
                have HMv := As.mk hmv
                have w1' : decide ((mv : Int) < 0) = false := decide_eq_false (by omega)
                have w2' : decide ((k : Int) ≤ (mv : Int)) = false := decide_eq_false (by omega)
                have w3' : decide (k ≤ mv) = false := decide_eq_false (by omega)
                clear eb hmv
                go_wp2_with fail
                refine HSh.out.mono ?_
                rintro e w2 ⟨v, rfl, hb, hr, hn⟩
                have hS2 := hS.newRow hb hr hn
                obtain ⟨Ag, ng, cg, rfl⟩ := hr.slice
                obtain ⟨rfl, gg, rfl⟩ := tab_head hr encInt_len g1
                clear hb hr hn hS HSh
                go_wp2_with fail
                have hS3 := hS2.sel [0, 1, 1]
                clear hS2
                have HM0 := As.mk (Mid.start ng at_ b (needF xs) lf dn)
                go_loopg [18, 19] ng (fun g0 sv iv wr => ∃ (k : Nat) (L : Nat → Int) (D : Nat → Bool), k + g0 = ng ∧ iv = .int .i64 k ∧ sv = .int .i64 (psum (gotF b ng (rot ng at_ lf)) k) ∧ As (Mid ng at_ b (needF xs) lf dn k L D) ∧ At (fun _ => False) w wr (Hp.seps [Hp.row 3 1 encInt (.slice (some ⟨gg, 0, none⟩) ng cg) (tab ng (gotF b ng (rot ng at_ lf))), Hp.row 4 1 encB (.slice (some ⟨gd, 0, none⟩) ng ng) (tab ng D), Hp.row 3 1 encInt (.slice (some ⟨gl, 0, none⟩) ng cc) (tab ng L)]))
                case atStart => exact ⟨0, _, _, by omega, rfl, rfl, HM0, hS3⟩
                case round =>
                  clear hS3 HM0
                  obtain ⟨k, L, D, hk, rfl, rfl, HM, hS⟩ := hrel
                  by_cases hlt : k < ng
                  · have HK := As.mk hk
                    obtain ⟨q, hq⟩ : ∃ q, (at_ + k) % ng = q := ⟨_, rfl⟩
                    have hqi : q < ng := hq ▸ Nat.mod_lt _ g1
                    have r1 : ((at_ : Int) + (k : Int)).tmod (ng : Int) = (q : Int) := by rw [Int.tmod_eq_emod_of_nonneg (by omega), ← hq]; rfl
                    have r1' : ((at_ : Int) + (k : Int)) % (ng : Int) = (q : Int) := by rw [← hq]; rfl
                    have r6 : ¬ (ng : Int) = 0 := by omega
                    have r7 : ((ng : Int) == 0) = false := beq_eq_false_iff_ne.2 r6
                    have hLq : L q = rot ng at_ lf k := by have := (HM.out.coming k (Nat.le_refl _) hlt).1; rw [hq] at this; rw [this]; unfold rot; rw [hq]
                    have hxb := HR.out.2 k hlt
                    have hgb := got_bounds ng b (rot ng at_ lf) (by omega) HR.out.1 k hlt
                    have hsb := got_sum ng b (rot ng at_ lf) (by omega) HR.out.1 k (by omega)
                    have HSum : As (psum (gotF b ng (rot ng at_ lf)) (k + 1) = psum (gotF b ng (rot ng at_ lf)) k + gotF b ng (rot ng at_ lf) k) := ⟨rfl⟩
                    have hxg : gotF b ng (rot ng at_ lf) k = rot ng at_ lf k ∨ gotF b ng (rot ng at_ lf) k ≠ rot ng at_ lf k := Classical.em _
                    have HWh := As.mk (HM.out.whole hlt)
                    have HPt := As.mk (HM.out.part hlt)
                    rw [hq] at HWh HPt
                    have x0 := ((hS.rowAt 2 rfl).at1 encInt_len q _ (tab_get _ _ _ hqi))
                    have y0 := ((hS.rowAt 0 rfl).at1 encInt_len k _ (tab_get _ _ _ hlt))
                    have S1 := As.mk (fun u => hS.set1 2 rfl encInt_len q _ u (.int .i64 u) (tab_get _ _ _ hqi) rfl)
                    rw [hLq] at x0
                    generalize psum (gotF b ng (rot ng at_ lf)) k = sm at *
                    generalize hgx : gotF b ng (rot ng at_ lf) k = gx at *
                    generalize hrx : rot ng at_ lf k = rx at *
                    obtain ⟨x0, x1⟩ := x0
                    obtain ⟨y0, y1⟩ := y0
                    simp only [encInt, List.getElem?_cons_zero] at x0 y0
                    obtain ⟨hs1, hs2⟩ := hsb
                    obtain ⟨hg1, hg2, hg3⟩ := hgb
                    have xlt := (hS.rowAt 2 rfl).lt gl rfl
                    have hne := hS.neGG 1 2 rfl rfl (by decide)
                    have hne' := hne.symm
                    have ylt := (hS.rowAt 1 rfl).lt gd rfl
                    have z0 := ((hS.rowAt 1 rfl).at1 encB_len q _ (tab_get _ _ _ hqi))
                    obtain ⟨z0, z1⟩ := z0
                    simp only [encB, List.getElem?_cons_zero] at z0
                    clear hk hq hgx hrx hLq y1
                    rcases hxg with hxg | hxg
                    · have HW := As.mk (HWh.out hxg)
                      have HSt := As.mk (fun u => by
                        have h1 := (hS.set1 2 rfl encInt_len q _ 0 (.int .i64 0) (tab_get _ _ _ hqi) rfl).set1 1 rfl encB_len q _ true (.bool true) (tab_get _ _ _ hqi) rfl
                        rewrite [tab_set, tab_set] at h1
                        have h2 := (h1.set1 2 rfl encInt_len q _ u (.int .i64 u) (tab_get _ _ _ hqi) rfl).drew
                        rewrite [tab_set, upd_upd] at h2
                        exact h2)
                      clear HWh HPt
                      subst hxg
                      obtain ⟨z, hz⟩ : ∃ z, xs[q]? = some z := ⟨_, List.getElem?_eq_getElem (by have := HLen.out; omega)⟩
                      obtain ⟨bk, off, rfl, hbk, hcell⟩ := (HD.out.below hS.bl).cells _ _ _ (by rw [HLen.out]) q z hz
                      obtain ⟨bk', off', hbo, hbk2, _⟩ := HD.out.cells _ _ _ (by rw [HLen.out]) q z hz
                      injection hbo with hbo; injection hbo with hbo hbo2; subst hbo; subst hbo2
                      have hold := hS.own_new 1 rfl gd rfl
                      have hold2 := hS.own_new 2 rfl gl rfl
                      have c0 := hcell 0 (by omega)
                      simp only [encInt, List.getElem?_cons_zero, Nat.add_zero, Nat.mul_one] at c0
                      have n1 : bk ≠ gd := by omega
                      have n1' := n1.symm
                      have n2 : bk ≠ gl := by omega
                      have n2' := n2.symm
                      have bl := bits_low z
                      have hlo := low_le z
                      have HX : As (needF xs q = 1 + low z) := ⟨by unfold needF; rw [List.getD_eq_getElem?_getD, hz]; rfl⟩
                      clear hold hold2 hcell hz hbk2
                      go_wp2_with fail
                      go_still_tail 12, (by kernel_rfl)
                      go_wp2_with fail
                      go_roundg (gk - 1)
                      case measure => have := HK.out; omega
                      case rel => exact ⟨k + 1, _, _, by have := HK.out; omega, by go_num, by rw [HSum.out], HW, by rw [HX.out]; exact HSt.out (1 + low z)⟩
                    · have HW := As.mk (HPt.out hxg)
                      have HSt := As.mk (fun u => by
                        have h1 := (hS.set1 2 rfl encInt_len q _ u (.int .i64 u) (tab_get _ _ _ hqi) rfl).drew
                        rewrite [tab_set] at h1
                        exact h1)
                      have t0 : (rx - gx == 0) = false := beq_eq_false_iff_ne.2 (by omega)
                      clear HWh HPt hxg
                      go_wp2_with fail
                      go_still_tail 12, (by kernel_rfl)
                      go_wp2_with fail
                      go_roundg (gk - 1)
                      case measure => have := HK.out; omega
                      case rel => exact ⟨k + 1, _, _, by have := HK.out; omega, by go_num, by rw [HSum.out], HW, HSt.out (rx - gx)⟩
                  · obtain rfl : k = ng := by omega
                    have hsb := got_sum k b (rot k at_ lf) (by omega) HR.out.1 k (by omega)
                    generalize psum (gotF b k (rot k at_ lf)) k = sm at *
                    obtain ⟨q, hq⟩ : ∃ q, (at_ + mv) % k = q := ⟨_, rfl⟩
                    have hqi : q < k := hq ▸ Nat.mod_lt _ g1
                    have r1 : ((at_ : Int) + (mv : Int)).tmod (k : Int) = (q : Int) := by rw [Int.tmod_eq_emod_of_nonneg (by omega), ← hq]; rfl
                    have r1' : ((at_ : Int) + (mv : Int)) % (k : Int) = (q : Int) := by rw [← hq]; rfl
                    have r6 : ¬ (k : Int) = 0 := by omega
                    have r7 : ((k : Int) == 0) = false := beq_eq_false_iff_ne.2 r6
                    have HI2 : As (Inv k b (needF xs) (f + 1) q L D) := ⟨by
                      have := Inv.step HI.out (by omega) (fun k _ => (needF_le xs k).1) HM.out
                      unfold moved at this
                      rwa [HMv.out, hq] at this⟩
                    obtain ⟨hs1, hs2⟩ := hsb
                    clear hk hq HM HI
                    go_wp2_with fail
                    go_roundg gq
                    case measure => omega
                    case rel => exact ⟨f + 1, q, _, _, by have := HFf.out; omega, rfl, by go_num, hqi, HI2, hS.sel [1, 1]⟩
          · obtain rfl : gk = 0 := by omega
            have hh : ∀ k, k < n0 → 0 ≤ needF xs k ∧ needF xs k ≤ m := fun k hk => ⟨by have := (needF_le xs k).1; omega, HM.out k hk⟩
            obtain rfl : f = F := by omega
            have HDn := As.mk (HI.out.over g3 hh HF3.out)
            clear hh
            clear hf
            go_wp2_with fail
            go_loopg [21] n0 (fun g0 iv wr => ∃ k : Nat, k + g0 = n0 ∧ iv = .int .i64 k ∧ At (fun _ => False) w wr (Hp.seps [Hp.row 4 1 encB (.slice (some ⟨gd, 0, none⟩) n0 n0) (tab n0 dn), Hp.row 3 1 encInt (.slice (some ⟨gl, 0, none⟩) n0 cc) (tab n0 lf)]))
            case atStart => exact ⟨0, by omega, rfl, hS⟩
            case round =>
              clear hS
              obtain ⟨k, hk, rfl, hS⟩ := hrel
              by_cases hlt : k < n0
              · have HK := As.mk hk
                have z0 := ((hS.rowAt 0 rfl).at1 encB_len k _ (tab_get _ _ _ hlt)).1
                rw [HDn.out k hlt] at z0
                simp only [encB, List.getElem?_cons_zero] at z0
                clear hk
                go_wp2_with fail
                go_roundg (gk - 1)
                case measure => have := HK.out; omega
                case rel => exact ⟨k + 1, by have := HK.out; omega, by go_num, hS⟩
              · obtain rfl : k = n0 := by omega
                go_wp2_with fail
                go_ret
                exact ⟨rfl, hS.bl⟩
  · have HG := As.mk hg
    clear hg
    go_enter Try.func4, Try.ntmps4
    go_wp2_with fail
    refine (alive_does w).mono ?_
    rintro e w1 ⟨rfl, hb⟩
    have hS1 := At.start0 hb
    clear hb
    go_wp2_with fail
    all_goals first | (exfalso; have := HG.out; omega) | (go_ret; exact ⟨rfl, hS1.bl⟩)
end Go.Proofs.Ytkfkacdiekpkfaa
