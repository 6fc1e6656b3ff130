/- A store: Put. No condition but bounded sizes. -/
import Derived.Test.YtkebkmbfglodlaaDoorEs7
set_option linter.unusedVariables false
set_option linter.unusedSimpArgs false
set_option maxRecDepth 100000
namespace Go.Proofs.YtkebkmbfglodlaaDoor
open Go.RowKit
section
variable {w0 w : World} {q pi bt bm : Nat} {most room : Int} {nm : Nat} {sl : List (Int × Bool)} {fr : List Int} {D : List TD} {M : Int × Int → Option Nat} {r : List Hp}
theorem At.stIn2 {F0 : Nat → Prop} {A B : Hp} (h : At F0 w0 w (Hp.seps (A :: B :: stL q pi bt bm most room nm sl fr D M r))) : At F0 w0 w (Hp.seps (stL q pi bt bm most room nm sl fr D M (A :: B :: r))) :=
  h.perm (perm_mid [A, B] [Hp.blk q #[.pointer (some ⟨pi, 0, none⟩), .int .i64 most, .map (some bt), .map (some bm)] 70, I.isIds pi room sl fr, Hp.mp Tryd.prog 35 bt D.length encM evP (tf D), Hp.mp Tryd.prog 31 bm nm encK encM M, Hp.many tbH D] r)
theorem one_cell (x : Int × Int) : ∀ u ∈ encId x, u.oneCell' = true := one_id x
set_option maxHeartbeats 12800000 in
theorem put_err (hS : At (fun _ => False) w0 w (Hp.seps (stL q pi bt bm most room nm sl fr D M r))) (id : Int × Int) (hid : okId id) (c v e0 : Int) (he : e0 ≠ 0) (hl : lookS sl M id c = (0, 0, e0)) :
    Calls Tryd.prog 13 #[.pointer (some ⟨q, 0, none⟩), .agg #[.int .i64 id.1, .int .i64 id.2], .agg #[.int .i64 c, .int .i64 v]] w fun e w' => e = .returned (.int .i64 e0) ∧ At (fun _ => False) w0 w' (Hp.seps (stL q pi bt bm most room nm sl fr D M r)) := by
  obtain ⟨a1, a2⟩ := id
  have hS := hS.alloc #[.int .i64 a1, .int .i64 a2] 31
  obtain ⟨x0, hx0⟩ : ∃ q, q = w.heap.size := ⟨_, rfl⟩
  obtain ⟨W0, hW0⟩ : ∃ V, V = w.alloc (.cells #[.int .i64 a1, .int .i64 a2] 31) := ⟨_, rfl⟩
  rw [← hx0, ← hW0] at hS
  have hS := hS.alloc #[.int .i64 c, .int .i64 v] 33
  obtain ⟨x1, hx1⟩ : ∃ q, q = W0.heap.size := ⟨_, rfl⟩
  obtain ⟨W1, hW1⟩ : ∃ V, V = W0.alloc (.cells #[.int .i64 c, .int .i64 v] 33) := ⟨_, rfl⟩
  rw [← hx1, ← hW1] at hS
  have Hx : As (w.alloc (.cells #[.int .i64 a1, .int .i64 a2] 31) = W0 ∧ w.heap.size = x0 ∧ W0.alloc (.cells #[.int .i64 c, .int .i64 v] 33) = W1 ∧ x0 + 1 = x1) := ⟨hW0.symm, hx0.symm, hW1.symm, by rw [hx1, hW0, hx0]; simp⟩
  clear hx0 hW0 hx1 hW1
  have hS1 := hS.stIn2
  have x00 : W1.cell? ⟨x0, 0, none⟩ = some (.int .i64 a1) := (hS1.cellAt 6 rfl 0).trans rfl
  have x01 : W1.cell? ⟨x0, 1, none⟩ = some (.int .i64 a2) := (hS1.cellAt 6 rfl 1).trans rfl
  have x10 : W1.cell? ⟨x1, 0, none⟩ = some (.int .i64 c) := (hS1.cellAt 5 rfl 0).trans rfl
  have x11 : W1.cell? ⟨x1, 1, none⟩ = some (.int .i64 v) := (hS1.cellAt 5 rfl 1).trans rfl
  have HC := As.mk (look_does hS1 (a1, a2) hid c)
  rw [hl] at HC
  have b0 : (e0 == 0) = false := by rw [beq_eq_false_iff_ne]; exact he
  clear hS hS1 hid hl he
  simp only
  go_enter Tryd.func13, Tryd.ntmps13
  go_upto_region 1 with fail
  rw [Hx.out.1, Hx.out.2.1, Hx.out.2.2.1, Hx.out.2.2.2]
  go_wp2_with fail
  refine HC.out.mono ?_
  rintro e w1 ⟨rfl, hS⟩
  clear HC x00 x01 x10 x11
  go_wp2_with fail
  refine bodyPost_ret (v := .int .i64 e0) (by simp [results, Tryd.results13, go_sem]) rfl ⟨rfl, At.stDrop (At.stDrop hS)⟩
set_option maxHeartbeats 12800000 in
theorem put_set (hS : At (fun _ => False) w0 w (Hp.seps (stL q pi bt bm most room nm sl fr D M r))) (id : Int × Int) (hid : okId id) (c m : Nat) (v : Int) (hc : c < 16) (hm : m < 65536) (hh : hasI sl id = true) (hM : M id = some m) (ht : m.testBit c = true) (hnd : (masksOf D).Nodup) (i p k : Nat) (R : List TRow) (f : Int → Int) (hi : D[i]? = some (m, p, R)) (hk : R[k]? = some (id, f)) (hn : (idsOf R).Nodup) :
    Calls Tryd.prog 13 #[.pointer (some ⟨q, 0, none⟩), .agg #[.int .i64 id.1, .int .i64 id.2], .agg #[.int .i64 (c : Nat), .int .i64 v]] w fun e w' => e = .returned (.int .i64 0) ∧ At (fun _ => False) w0 w' (Hp.seps (stL q pi bt bm most room nm sl fr (D.set i (m, p, setR (bitsN m) R k c v)) M r)) := by
  obtain ⟨a1, a2⟩ := id
  have hS := hS.alloc #[.int .i64 a1, .int .i64 a2] 31
  obtain ⟨x0, hx0⟩ : ∃ q, q = w.heap.size := ⟨_, rfl⟩
  obtain ⟨W0, hW0⟩ : ∃ V, V = w.alloc (.cells #[.int .i64 a1, .int .i64 a2] 31) := ⟨_, rfl⟩
  rw [← hx0, ← hW0] at hS
  have hS := hS.alloc #[.int .i64 (c : Nat), .int .i64 v] 33
  obtain ⟨x1, hx1⟩ : ∃ q, q = W0.heap.size := ⟨_, rfl⟩
  obtain ⟨W1, hW1⟩ : ∃ V, V = W0.alloc (.cells #[.int .i64 (c : Nat), .int .i64 v] 33) := ⟨_, rfl⟩
  rw [← hx1, ← hW1] at hS
  have Hx : As (w.alloc (.cells #[.int .i64 a1, .int .i64 a2] 31) = W0 ∧ w.heap.size = x0 ∧ W0.alloc (.cells #[.int .i64 (c : Nat), .int .i64 v] 33) = W1 ∧ x0 + 1 = x1) := ⟨hW0.symm, hx0.symm, hW1.symm, by rw [hx1, hW0, hx0]; simp⟩
  clear hx0 hW0 hx1 hW1
  have hS1 := hS.stIn2
  have x00 : W1.cell? ⟨x0, 0, none⟩ = some (.int .i64 a1) := (hS1.cellAt 6 rfl 0).trans rfl
  have x01 : W1.cell? ⟨x0, 1, none⟩ = some (.int .i64 a2) := (hS1.cellAt 6 rfl 1).trans rfl
  have x10 : W1.cell? ⟨x1, 0, none⟩ = some (.int .i64 (c : Nat)) := (hS1.cellAt 5 rfl 0).trans rfl
  have x11 : W1.cell? ⟨x1, 1, none⟩ = some (.int .i64 v) := (hS1.cellAt 5 rfl 1).trans rfl
  have HC := As.mk (look_does hS1 (a1, a2) hid (c : Nat))
  rw [lookS_ok hh hc hM] at HC
  obtain ⟨pw, hpw⟩ : ∃ pw, pw = 2 ^ c := ⟨_, rfl⟩
  obtain ⟨an, han⟩ : ∃ an, an = m &&& 2 ^ c := ⟨_, rfl⟩
  have a0 : bits .and .u16 (m : Int) (pw : Int) = (an : Int) := by rw [hpw, and_ne m c hm hc, han]
  have a1' : ((an : Int) == 0) = false := by
    rw [beq_eq_false_iff_ne, han]
    intro h
    have := (testBit_and m c).1 (by omega)
    rw [ht] at this
    cases this
  rw [← hpw] at HC
  have HR := As.mk (row_does p (bitsN m) R (a1, a2) hid)
  rw [rowI_at hn hk] at HR
  have HG := As.mk (set_does p (bitsN m) (bitsN_nodup m) R (k : Int) (c : Int) v)
  have HT := As.mk (⟨hi, tf_at hnd hi, set_same' hi, hm⟩ : _ ∧ _ ∧ _ ∧ _)
  clear hS hS1 hid hh hM ht hpw han hi hk hn hnd
  simp only
  go_enter Tryd.func13, Tryd.ntmps13
  go_upto_region 1 with fail
  rw [Hx.out.1, Hx.out.2.1, Hx.out.2.2.1, Hx.out.2.2.2]
  go_wp2_with fail
  refine HC.out.mono ?_
  rintro e w1 ⟨rfl, hS⟩
  clear HC x00 x01 x10 x11
  have c2 : w1.cell? ⟨q, 2, none⟩ = some (.map (some bt)) := (hS.cellAt 0 rfl 2).trans rfl
  have hl := look_tab (hS.mpAt 2 rfl) HT.out.2.2.2
  rw [HT.out.2.1] at hl
  have hl : (Instr.lookup 67 (.map (some bt)) (.int .u16 (m : Nat)) false).run Tryd.prog w1 = .ok (.pointer (some ⟨p, 0, none⟩)) w1 := hl 0
  go_wp2_with fail
  clear hl c2
  have HA : As (∀ V, At (fun _ => False) w0 V (Hp.seps (stL q pi bt bm most room nm sl fr D M (Hp.blk x1 #[.int .i64 (c : Nat), .int .i64 v] 33 :: Hp.blk x0 #[.int .i64 a1, .int .i64 a2] 31 :: r))) → (V.cell? ⟨x0, 0, none⟩ = some (.int .i64 a1) ∧ V.cell? ⟨x0, 1, none⟩ = some (.int .i64 a2) ∧ V.cell? ⟨x1, 0, none⟩ = some (.int .i64 (c : Nat)) ∧ V.cell? ⟨x1, 1, none⟩ = some (.int .i64 v))) := ⟨fun V h => ⟨(h.cellAt 6 rfl 0).trans rfl, (h.cellAt 6 rfl 1).trans rfl, (h.cellAt 5 rfl 0).trans rfl, (h.cellAt 5 rfl 1).trans rfl⟩⟩
  have HA2 : As (∀ V, At (fun _ => False) w0 V (Hp.seps (stL q pi bt bm most room nm sl fr (D.set i (m, p, setR (bitsN m) R k c v)) M (Hp.blk x1 #[.int .i64 (c : Nat), .int .i64 v] 33 :: Hp.blk x0 #[.int .i64 a1, .int .i64 a2] 31 :: r))) → (V.cell? ⟨x0, 0, none⟩ = some (.int .i64 a1) ∧ V.cell? ⟨x0, 1, none⟩ = some (.int .i64 a2) ∧ V.cell? ⟨x1, 0, none⟩ = some (.int .i64 (c : Nat)) ∧ V.cell? ⟨x1, 1, none⟩ = some (.int .i64 v))) := ⟨fun V h => ⟨(h.cellAt 6 rfl 0).trans rfl, (h.cellAt 6 rfl 1).trans rfl, (h.cellAt 5 rfl 0).trans rfl, (h.cellAt 5 rfl 1).trans rfl⟩⟩
  have HKp : As (∀ V, Below w1.heap.size w1 V → (V.cell? ⟨x0, 0, none⟩ = some (.int .i64 a1) ∧ V.cell? ⟨x0, 1, none⟩ = some (.int .i64 a2) ∧ V.cell? ⟨x1, 0, none⟩ = some (.int .i64 (c : Nat)) ∧ V.cell? ⟨x1, 1, none⟩ = some (.int .i64 v))) := ⟨fun V hb => HA.out V (hS.below hb)⟩
  have HC1 : As (Calls Tryd.prog 34 #[.pointer (some ⟨p, 0, none⟩), .agg #[.int .i64 a1, .int .i64 a2]] w1.drew fun e w' => e = .returned (.int .i64 (k : Int)) ∧ At (fun _ => False) w0 w' (Hp.seps (stL q pi bt bm most room nm sl fr D M (Hp.blk x1 #[.int .i64 (c : Nat), .int .i64 v] 33 :: Hp.blk x0 #[.int .i64 a1, .int .i64 a2] 31 :: r)))) := ⟨(At.tabCall hS.drew i m p R HT.out.1 HR.out R [] (fun e B h W F hh => by rw [h.2] at hh; exact one_seps hh)).mono fun e w' ⟨⟨B, h1, _⟩, h2⟩ => ⟨h1, by rw [HT.out.2.2.1] at h2; exact h2⟩⟩
  have HC2 : As (∀ V, At (fun _ => False) w0 V (Hp.seps (stL q pi bt bm most room nm sl fr D M (Hp.blk x1 #[.int .i64 (c : Nat), .int .i64 v] 33 :: Hp.blk x0 #[.int .i64 a1, .int .i64 a2] 31 :: r))) → Calls Tryd.prog 33 #[.pointer (some ⟨p, 0, none⟩), .int .i64 (k : Int), .int .i64 (c : Nat), .int .i64 v] V fun e w' => e = .returned (.bool (hasR (bitsN m) R k c)) ∧ At (fun _ => False) w0 w' (Hp.seps (stL q pi bt bm most room nm sl fr (D.set i (m, p, setR (bitsN m) R k c v)) M (Hp.blk x1 #[.int .i64 (c : Nat), .int .i64 v] 33 :: Hp.blk x0 #[.int .i64 a1, .int .i64 a2] 31 :: r)))) := ⟨fun V h => (At.tabCall h i m p R HT.out.1 HG.out (setR (bitsN m) R k c v) [] (fun e B h W F hh => by rw [h.2] at hh; exact one_seps hh)).mono fun e w' ⟨⟨B, h1, _⟩, h2⟩ => ⟨h1, h2⟩⟩
  clear hS
  go_region_held3 (fun V => V.cell? ⟨x0, 0, none⟩ = some (.int .i64 a1) ∧ V.cell? ⟨x0, 1, none⟩ = some (.int .i64 a2) ∧ V.cell? ⟨x1, 0, none⟩ = some (.int .i64 (c : Nat)) ∧ V.cell? ⟨x1, 1, none⟩ = some (.int .i64 v)) (first | with_reducible exact HA2.out _ HS4.out | with_reducible exact HA.out _ HS3.out | exact HKp.out _ (by repeat (first | exact Below.refl _ _ | refine bl_drewN ?_ _ | refine Below.drew ?_ | refine bl_alloc ?_ _ | refine bl_set ?_ (by first | (simp; done) | omega | (simp; omega)) _))) (first | (go_at_call 34; refine HC1.out.mono ?_; rintro e w3 ⟨rfl, hS3⟩; have HS3 := As.mk hS3; clear hS3) | (go_at_call 33; refine (HC2.out _ HS3.out).mono ?_; rintro e w4 ⟨rfl, hS4⟩; have HS4 := As.mk hS4; clear hS4))
  all_goals (go_wp2_with fail)
  all_goals (refine bodyPost_ret (v := .int .i64 0) (by simp [results, Tryd.results13, go_sem]) rfl ⟨rfl, At.stDrop (At.stDrop HS4.out)⟩)
set_option maxHeartbeats 12800000 in
theorem put_full (hS : At (fun _ => False) w0 w (Hp.seps (stL q pi bt bm most room nm sl fr D M r))) (id : Int × Int) (hid : okId id) (c m : Nat) (v : Int) (hc : c < 16) (hm : m < 65536) (hh : hasI sl id = true) (hM : M id = some m) (ht : m.testBit c = false) (hnd : (masksOf D).Nodup) (hfu : fullB most D (m ||| 2 ^ c) = true) :
    Calls Tryd.prog 13 #[.pointer (some ⟨q, 0, none⟩), .agg #[.int .i64 id.1, .int .i64 id.2], .agg #[.int .i64 (c : Nat), .int .i64 v]] w fun e w' => e = .returned (.int .i64 10) ∧ At (fun _ => False) w0 w' (Hp.seps (stL q pi bt bm most room nm sl fr D M r)) := by
  obtain ⟨a1, a2⟩ := id
  have hS := hS.alloc #[.int .i64 a1, .int .i64 a2] 31
  obtain ⟨x0, hx0⟩ : ∃ q, q = w.heap.size := ⟨_, rfl⟩
  obtain ⟨W0, hW0⟩ : ∃ V, V = w.alloc (.cells #[.int .i64 a1, .int .i64 a2] 31) := ⟨_, rfl⟩
  rw [← hx0, ← hW0] at hS
  have hS := hS.alloc #[.int .i64 (c : Nat), .int .i64 v] 33
  obtain ⟨x1, hx1⟩ : ∃ q, q = W0.heap.size := ⟨_, rfl⟩
  obtain ⟨W1, hW1⟩ : ∃ V, V = W0.alloc (.cells #[.int .i64 (c : Nat), .int .i64 v] 33) := ⟨_, rfl⟩
  rw [← hx1, ← hW1] at hS
  have Hx : As (w.alloc (.cells #[.int .i64 a1, .int .i64 a2] 31) = W0 ∧ w.heap.size = x0 ∧ W0.alloc (.cells #[.int .i64 (c : Nat), .int .i64 v] 33) = W1 ∧ x0 + 1 = x1) := ⟨hW0.symm, hx0.symm, hW1.symm, by rw [hx1, hW0, hx0]; simp⟩
  clear hx0 hW0 hx1 hW1
  have hS1 := hS.stIn2
  have x00 : W1.cell? ⟨x0, 0, none⟩ = some (.int .i64 a1) := (hS1.cellAt 6 rfl 0).trans rfl
  have x01 : W1.cell? ⟨x0, 1, none⟩ = some (.int .i64 a2) := (hS1.cellAt 6 rfl 1).trans rfl
  have x10 : W1.cell? ⟨x1, 0, none⟩ = some (.int .i64 (c : Nat)) := (hS1.cellAt 5 rfl 0).trans rfl
  have x11 : W1.cell? ⟨x1, 1, none⟩ = some (.int .i64 v) := (hS1.cellAt 5 rfl 1).trans rfl
  have HC := As.mk (look_does hS1 (a1, a2) hid (c : Nat))
  rw [lookS_ok hh hc hM] at HC
  obtain ⟨pw, hpw⟩ : ∃ pw, pw = 2 ^ c := ⟨_, rfl⟩
  obtain ⟨an, han⟩ : ∃ an, an = m &&& 2 ^ c := ⟨_, rfl⟩
  have a0 : bits .and .u16 (m : Int) (pw : Int) = (an : Int) := by rw [hpw, and_ne m c hm hc, han]
  have a1' : ((an : Int) == 0) = true := by
    rw [beq_iff_eq, han, (testBit_and m c).2 ht]; rfl
  have hpl : pw < 65536 := by rw [hpw]; exact Nat.lt_of_lt_of_le (Nat.pow_lt_pow_right (by decide) hc) (by decide)
  obtain ⟨on, hon⟩ : ∃ on, on = m ||| pw := ⟨_, rfl⟩
  have o0 : bits .or .u16 (m : Int) (pw : Int) = (on : Int) := by rw [u16_or_nat m pw hm hpl, hon]
  have hol : on < 65536 := by rw [hon]; exact Nat.or_lt_two_pow (n := 16) hm hpl
  rw [← hpw] at HC
  rw [← hpw, ← hon] at hfu
  have HN := As.mk (⟨hnd, hfu, hol⟩ : _ ∧ _ ∧ _)
  clear hS hS1 hid hh hM ht hpw han hon hnd hfu hol
  simp only
  go_enter Tryd.func13, Tryd.ntmps13
  go_upto_region 1 with fail
  rw [Hx.out.1, Hx.out.2.1, Hx.out.2.2.1, Hx.out.2.2.2]
  go_wp2_with fail
  refine HC.out.mono ?_
  rintro e w1 ⟨rfl, hS⟩
  clear HC x00 x01 x10 x11
  have HF := As.mk (full_does HN.out.1 hS on HN.out.2.2)
  rw [HN.out.2.1] at HF
  clear hS
  go_wp2_with fail
  refine HF.out.mono ?_
  rintro e w2 ⟨rfl, hS⟩
  clear HF
  go_wp2_with fail
  refine bodyPost_ret (v := .int .i64 10) (by simp [results, Tryd.results13, go_sem]) rfl ⟨rfl, At.stDrop (At.stDrop hS)⟩
end
end Go.Proofs.YtkebkmbfglodlaaDoor
