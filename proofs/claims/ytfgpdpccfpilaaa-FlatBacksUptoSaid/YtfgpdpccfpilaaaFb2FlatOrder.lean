/- The reference's back: what it tells of any flat list. -/
import Derived.Test.YtfgpdpccfpilaaaFb1FlatOrder
set_option linter.unusedVariables false
set_option linter.unusedSimpArgs false
namespace Go.Proofs.Ytfgpdpccfpilaaa.OpenFlatOrder
open Go.RowKit Go.Deep
open Go.Proofs.YtfgpdpccfpilaaaW.PrintWords Go.Proofs.YtfgpdpccfpilaaaW.PrintLast Go.Proofs.YtfgpdpccfpilaaaW.PrintMore Go.Proofs.Ytfgpdpccfpilaaa.PFlatOrder
def NoFit (l : List S39) (at_ : Nat) (p : Int) : Prop := ∀ x, Seg l at_ (fl x p at_) → l.length < at_ + cntN x
theorem fl_head {l : List S39} {b : Nat} {x : S27} {p : Int} {y : S39} (h : Seg l b (fl x p b)) (hy : l[b]? = some y) : y.f4 = p ∧ y.f3 = ((b + cntN x : Nat) : Int) := by
  obtain ⟨a0, a1, a2, s3, e, kids, ws⟩ := x
  rw [fl] at h
  have h1 := h.head
  rw [hy] at h1
  rw [Option.some.inj h1, cntN]
  exact ⟨rfl, rfl⟩
theorem nofit_guard {l : List S39} {b : Nat} {p : Int} {y : S39} (hy : l[b]? = some y) (h : y.f4 ≠ p ∨ y.f3 ≤ (b : Int) ∨ (l.length : Int) < y.f3) : NoFit l b p := fun x hs => by
  have h1 := fl_head hs hy
  have h2 := cntN_pos x
  rcases h with h | h | h
  · exact absurd h1.1 h
  · omega
  · omega
theorem nofit_kid {l : List S39} {b t E : Nat} {p : Int} {y : S39} {ks : List S27} (hy : l[b]? = some y) (hE : y.f3 = (E : Int)) (hEl : E ≤ l.length) (hs : Seg l (b + 1) (fls ks b (b + 1))) (ht : t = b + 1 + cntNs ks) (htE : t < E) (hk : ∀ k, Seg l t (fl k b t) → E < t + cntN k) : NoFit l b p := fun x hx => by
  exfalso
  have h1 := fl_head hx hy
  obtain ⟨a0, a1, a2, s3, e, kids, ws⟩ := x
  rw [fl] at hx
  rw [cntN] at h1
  obtain ⟨r, hr⟩ := seg_prefix ks kids l b (b + 1) hs hx.tail (by omega)
  have h3 := hx.tail
  rw [hr, fls_app] at h3
  have h4 := h3.right
  rw [fls_len, ← ht] at h4
  have hc : cntNs kids = cntNs ks + cntNs r := by rw [hr, cntNs_app]
  cases r with
  | nil => rw [cntNs] at hc; omega
  | cons k r =>
    rw [fls] at h4
    rw [cntNs] at hc
    have h5 := hk k h4.left
    omega
theorem len_cntNs : ∀ (l : List S27), l.length ≤ cntNs l
  | [] => Nat.zero_le _
  | x :: l => by have := len_cntNs l; have := cntN_pos x; rw [cntNs, List.length_cons]; omega
theorem At.new_pr {F0 : Nat → Prop} {w0 w : World} {l : List Hp} (q : Prop) (hq : q) (h : At F0 w0 w (Hp.seps l)) : At F0 w0 w (Hp.seps (Hp.pr q :: l)) := by
  obtain ⟨F, hA, hF, hE⟩ := h.out
  exact ⟨F, ⟨fun _ => False, F, ⟨hq, fun _ h => h⟩, hA, fun _ h => h.elim, fun _ => by simp⟩, hF, hE⟩
def RB (m : Nat) : Prop := ∀ (wb : World) (A : Option Addr) (c : Nat) (l : List S39), k39.C wb A l.length l → l.length ≤ c → l.length ≤ 1000000 → ∀ (at_ : Nat) (p : Int) (w : World) (lst : List Hp), at_ < l.length → l.length - at_ ≤ m → At (fun _ => False) wb w (Hp.seps lst) →
  Calls Try.prog 25 #[.slice A l.length c, .int .i64 at_, .int .i64 p] w fun e w' => ∃ o : Fr, (e = .returned (.tuple #[.agg #[.int .i64 o.x.f0, .int .i64 o.x.f1, .int .i64 o.x.f2, .string o.x.f3, .int .i64 o.x.f4.f0, .int .i64 o.x.f4.f1, .string o.x.f4.f2, .slice o.A o.x.f4.f3.length o.c, .slice o.B o.x.f5.length o.d, .slice o.C o.x.f6.length o.q], .int .i64 (-1)]) ∧ NoFit l at_ p ∧ At (fun _ => False) wb w' (Hp.seps lst)) ∨
    (∃ t : Nat, e = .returned (.tuple #[.agg #[.int .i64 o.x.f0, .int .i64 o.x.f1, .int .i64 o.x.f2, .string o.x.f3, .int .i64 o.x.f4.f0, .int .i64 o.x.f4.f1, .string o.x.f4.f2, .slice o.A o.x.f4.f3.length o.c, .slice o.B o.x.f5.length o.d, .slice o.C o.x.f6.length o.q], .int .i64 t]) ∧ Seg l at_ (fl o.x p at_) ∧ t = at_ + cntN o.x ∧ t ≤ l.length ∧ At (fun _ => False) wb w' (Hp.seps (hkN m wb o :: lst)))
set_option maxRecDepth 100000 in
set_option maxHeartbeats 25600000 in
theorem rb_step (m : Nat) (ih : RB m) : RB (m + 1) := by
  intro wb A c l hC hc hl at_ p w lst hat hm hS
  have HI := As.mk (fun (t : Nat) (q : Int) (w : World) (lst : List Hp) (h1 : t < l.length) (h2 : l.length - t ≤ m) (h3 : At (fun _ => False) wb w (Hp.seps lst)) => ih wb A c l hC hc hl t q w lst h1 h2 h3)
  obtain ⟨y, hy⟩ : ∃ y, l[at_]? = some y := ⟨_, List.getElem?_eq_getElem hat⟩
  have HY := As.mk hy
  obtain ⟨b, off, cs, rfl, hbl, hcl, hK, hcell⟩ := C_lit hC (by decide) y hy
  obtain ⟨A9, c9, A10, c10, rfl, l9, g9, l10, g10⟩ := k39_open hK
  have HX := As.mk (⟨l9, g9, l10, g10⟩ : _ ∧ _ ∧ _ ∧ _)
  have hin : (at_ : Int) < (l.length : Int) := by omega
  have HB := As.mk (⟨hat, hm, hl, hc⟩ : _ ∧ _ ∧ _ ∧ _)
  have s0 : IntKind.i64.wrap ((at_ : Int) + 1) = (at_ : Int) + 1 := by rw [IntKind.wrap_i64]; omega
  have HU := As.mk (fun (V : World) (hb : Below wb.heap.size wb V) (j : Nat) (x : Value) (hx : wb.cell? ⟨b, off + at_ * 11 + j, none⟩ = some x) => (hb.cell (p := ⟨b, off + at_ * 11 + j, none⟩) hbl).trans hx)
  have HXC := As.mk (⟨hcell 0 _ rfl, hcell 1 _ rfl, hcell 2 _ rfl, hcell 3 _ rfl, hcell 4 _ rfl, hcell 5 _ rfl, hcell 6 _ rfl, hcell 7 _ rfl, hcell 8 _ rfl, hcell 9 _ rfl, hcell 10 _ rfl⟩ : _ ∧ _ ∧ _ ∧ _ ∧ _ ∧ _ ∧ _ ∧ _ ∧ _ ∧ _ ∧ _)
  clear hcell hK hcl l9 g9 l10 g10 hy hat hm hl hc hC
  have hS := hS.alloc #[.int .i64 0, .int .i64 0, .int .i64 0, .string ⟨#[]⟩, .int .i64 0, .int .i64 0, .string ⟨#[]⟩, .slice none 0 0, .slice none 0 0, .slice none 0 0] 27
  obtain ⟨q0, hq0⟩ : ∃ q, q = w.heap.size := ⟨_, rfl⟩
  obtain ⟨W0, hW0⟩ : ∃ V, V = w.alloc (.cells #[.int .i64 0, .int .i64 0, .int .i64 0, .string ⟨#[]⟩, .int .i64 0, .int .i64 0, .string ⟨#[]⟩, .slice none 0 0, .slice none 0 0, .slice none 0 0] 27) := ⟨_, rfl⟩
  rw [← hq0, ← hW0] at hS
  have Hq : As (w.alloc (.cells #[.int .i64 0, .int .i64 0, .int .i64 0, .string ⟨#[]⟩, .int .i64 0, .int .i64 0, .string ⟨#[]⟩, .slice none 0 0, .slice none 0 0, .slice none 0 0] 27) = W0 ∧ w.heap.size = q0) := ⟨hW0.symm, hq0.symm⟩
  clear hq0 hW0
  go_enter Try.func25, Try.ntmps25
  go_upto_region 1 with fail
  rw [Hq.out.1, Hq.out.2]
  clear Hq
  have u0 := HU.out W0 hS.bl 0 _ HXC.out.1
  have u1 := HU.out W0 hS.bl 1 _ HXC.out.2.1
  have u2 := HU.out W0 hS.bl 2 _ HXC.out.2.2.1
  have u3 := HU.out W0 hS.bl 3 _ HXC.out.2.2.2.1
  have u4 := HU.out W0 hS.bl 4 _ HXC.out.2.2.2.2.1
  have u5 := HU.out W0 hS.bl 5 _ HXC.out.2.2.2.2.2.1
  have u6 := HU.out W0 hS.bl 6 _ HXC.out.2.2.2.2.2.2.1
  have u7 := HU.out W0 hS.bl 7 _ HXC.out.2.2.2.2.2.2.2.1
  have u8 := HU.out W0 hS.bl 8 _ HXC.out.2.2.2.2.2.2.2.2.1
  have u9 := HU.out W0 hS.bl 9 _ HXC.out.2.2.2.2.2.2.2.2.2.1
  have u10 := HU.out W0 hS.bl 10 _ HXC.out.2.2.2.2.2.2.2.2.2.2
  simp only [Nat.add_zero] at u0
  have hS := hS.alloc #[.int .i64 y.f0, .int .i64 y.f1, .int .i64 y.f2, .int .i64 y.f3, .int .i64 y.f4, .string y.f5, .int .i64 y.f6.f0, .int .i64 y.f6.f1, .string y.f6.f2, .slice A9 y.f6.f3.length c9, .slice A10 y.f7.length c10] 39
  obtain ⟨x0, hx0⟩ : ∃ q, q = W0.heap.size := ⟨_, rfl⟩
  obtain ⟨X0, hX0⟩ : ∃ V, V = W0.alloc (.cells #[.int .i64 y.f0, .int .i64 y.f1, .int .i64 y.f2, .int .i64 y.f3, .int .i64 y.f4, .string y.f5, .int .i64 y.f6.f0, .int .i64 y.f6.f1, .string y.f6.f2, .slice A9 y.f6.f3.length c9, .slice A10 y.f7.length c10] 39) := ⟨_, rfl⟩
  rw [← hx0, ← hX0] at hS
  have Hx : As (W0.alloc (.cells #[.int .i64 y.f0, .int .i64 y.f1, .int .i64 y.f2, .int .i64 y.f3, .int .i64 y.f4, .string y.f5, .int .i64 y.f6.f0, .int .i64 y.f6.f1, .string y.f6.f2, .slice A9 y.f6.f3.length c9, .slice A10 y.f7.length c10] 39) = X0 ∧ W0.heap.size = x0) := ⟨hX0.symm, hx0.symm⟩
  clear hx0 hX0
  go_upto_region 2 with fail
  rw [Hx.out.1, Hx.out.2]
  clear Hx u0 u1 u2 u3 u4 u5 u6 u7 u8 u9 u10
  have e0 := (hS.cellAt 0 rfl 0).trans rfl
  have e1 := (hS.cellAt 0 rfl 1).trans rfl
  have e2 := (hS.cellAt 0 rfl 2).trans rfl
  have e3 := (hS.cellAt 0 rfl 3).trans rfl
  have e4 := (hS.cellAt 0 rfl 4).trans rfl
  have e5 := (hS.cellAt 0 rfl 5).trans rfl
  have e6 := (hS.cellAt 0 rfl 6).trans rfl
  have e7 := (hS.cellAt 0 rfl 7).trans rfl
  have e8 := (hS.cellAt 0 rfl 8).trans rfl
  have e9 := (hS.cellAt 0 rfl 9).trans rfl
  have e10 := (hS.cellAt 0 rfl 10).trans rfl
  have hS := hS.alloc #[.int .i64 y.f0, .int .i64 y.f1, .int .i64 y.f2, .string y.f5, .int .i64 y.f6.f0, .int .i64 y.f6.f1, .string y.f6.f2, .slice A9 y.f6.f3.length c9, .slice none 0 0, .slice A10 y.f7.length c10] 27
  obtain ⟨n0, hn0⟩ : ∃ q, q = X0.heap.size := ⟨_, rfl⟩
  obtain ⟨M0, hM0⟩ : ∃ V, V = X0.alloc (.cells #[.int .i64 y.f0, .int .i64 y.f1, .int .i64 y.f2, .string y.f5, .int .i64 y.f6.f0, .int .i64 y.f6.f1, .string y.f6.f2, .slice A9 y.f6.f3.length c9, .slice none 0 0, .slice A10 y.f7.length c10] 27) := ⟨_, rfl⟩
  rw [← hn0, ← hM0] at hS
  have Hn : As (X0.alloc (.cells #[.int .i64 y.f0, .int .i64 y.f1, .int .i64 y.f2, .string y.f5, .int .i64 y.f6.f0, .int .i64 y.f6.f1, .string y.f6.f2, .slice A9 y.f6.f3.length c9, .slice none 0 0, .slice A10 y.f7.length c10] 27) = M0 ∧ X0.heap.size = n0) := ⟨hM0.symm, hn0.symm⟩
  clear hn0 hM0
  go_upto_region 3 with fail
  rw [Hn.out.1, Hn.out.2]
  clear Hn e0 e1 e2 e3 e4 e5 e6 e7 e8 e9 e10
  have e0 := (hS.cellAt 1 rfl 0).trans rfl
  have e1 := (hS.cellAt 1 rfl 1).trans rfl
  have e2 := (hS.cellAt 1 rfl 2).trans rfl
  have e3 := (hS.cellAt 1 rfl 3).trans rfl
  have e4 := (hS.cellAt 1 rfl 4).trans rfl
  have e5 := (hS.cellAt 1 rfl 5).trans rfl
  have e6 := (hS.cellAt 1 rfl 6).trans rfl
  have e7 := (hS.cellAt 1 rfl 7).trans rfl
  have e8 := (hS.cellAt 1 rfl 8).trans rfl
  have e9 := (hS.cellAt 1 rfl 9).trans rfl
  have e10 := (hS.cellAt 1 rfl 10).trans rfl
  go_cut [46] (fun vb wc => vb = .bool ((y.f4 != p) || (decide (y.f3 ≤ (at_ : Int)) || decide ((l.length : Int) < y.f3))) ∧ wc = M0)
  case first =>
    obtain ⟨b1, t1⟩ : ∃ b, (y.f4 != p) = b := ⟨_, rfl⟩
    obtain ⟨b2, t2⟩ : ∃ b, decide (y.f3 ≤ (at_ : Int)) = b := ⟨_, rfl⟩
    obtain ⟨b3, t3⟩ : ∃ b, decide ((l.length : Int) < y.f3) = b := ⟨_, rfl⟩
    have HBD : As (((y.f4 != p) || (decide (y.f3 ≤ (at_ : Int)) || decide ((l.length : Int) < y.f3))) = (b1 || (b2 || b3))) := ⟨by rw [t1, t2, t3]⟩
    cases b1 <;> cases b2 <;> cases b3
    all_goals (go_wp2_with fail)
    all_goals (go_meet)
    all_goals (exact ⟨by rw [HBD.out]; rfl, rfl⟩)
  case rest =>
    obtain ⟨rfl, hwc⟩ := hcut
    obtain rfl : M0 = _ := hwc.symm
    cases hbad : ((y.f4 != p) || (decide (y.f3 ≤ (at_ : Int)) || decide ((l.length : Int) < y.f3))) with
    | true =>
      have HNF : As (NoFit l at_ p) := ⟨nofit_guard HY.out (by
        by_cases h1 : y.f4 = p
        · by_cases h2 : y.f3 ≤ (at_ : Int)
          · exact .inr (.inl h2)
          · rw [decide_eq_false h2] at hbad
            have e0 : (y.f4 != p) = false := by simpa using h1
            rw [e0] at hbad
            exact .inr (.inr (by simpa using hbad))
        · exact .inl h1)⟩
      clear hbad
      have n0 := (hS.cellAt 0 rfl 0).trans rfl
      have n1 := (hS.cellAt 0 rfl 1).trans rfl
      have n2 := (hS.cellAt 0 rfl 2).trans rfl
      have n3 := (hS.cellAt 0 rfl 3).trans rfl
      have n4 := (hS.cellAt 0 rfl 4).trans rfl
      have n5 := (hS.cellAt 0 rfl 5).trans rfl
      have n6 := (hS.cellAt 0 rfl 6).trans rfl
      have n7 := (hS.cellAt 0 rfl 7).trans rfl
      have n8 := (hS.cellAt 0 rfl 8).trans rfl
      have n9 := (hS.cellAt 0 rfl 9).trans rfl
      have z0 := (hS.cellAt 2 rfl 0).trans rfl
      have z1 := (hS.cellAt 2 rfl 1).trans rfl
      have z2 := (hS.cellAt 2 rfl 2).trans rfl
      have z3 := (hS.cellAt 2 rfl 3).trans rfl
      have z4 := (hS.cellAt 2 rfl 4).trans rfl
      have z5 := (hS.cellAt 2 rfl 5).trans rfl
      have z6 := (hS.cellAt 2 rfl 6).trans rfl
      have z7 := (hS.cellAt 2 rfl 7).trans rfl
      have z8 := (hS.cellAt 2 rfl 8).trans rfl
      have z9 := (hS.cellAt 2 rfl 9).trans rfl
      have zf0 := hS.frozenAt 2 rfl 0
      have zf1 := hS.frozenAt 2 rfl 1
      have zf2 := hS.frozenAt 2 rfl 2
      have zf3 := hS.frozenAt 2 rfl 3
      have zf4 := hS.frozenAt 2 rfl 4
      have zf5 := hS.frozenAt 2 rfl 5
      have zf6 := hS.frozenAt 2 rfl 6
      have zf7 := hS.frozenAt 2 rfl 7
      have zf8 := hS.frozenAt 2 rfl 8
      have zf9 := hS.frozenAt 2 rfl 9
      have zlt := hS.ltAt 2 rfl
      clear e0 e1 e2 e3 e4 e5 e6 e7 e8 e9 e10
      have hnq := hS.neBB 0 2 rfl rfl (by decide)
      have hqn := hnq.symm
      go_wp2_with fail
      refine bodyPost_ret (v := .tuple #[.agg #[.int .i64 y.f0, .int .i64 y.f1, .int .i64 y.f2, .string y.f5, .int .i64 y.f6.f0, .int .i64 y.f6.f1, .string y.f6.f2, .slice A9 y.f6.f3.length c9, .slice none 0 0, .slice A10 y.f7.length c10], .int .i64 (-1)]) (by simp [results, Try.results25, go_sem, z0, z1, z2, z3, z4, z5, z6, z7, z8, z9]) rfl ⟨⟨0, nodeOf y, A9, c9, none, 0, A10, c10⟩, .inl ⟨rfl, HNF.out, ?_⟩⟩
      have hS2 := ((((((((((hS.setBlkAt 2 rfl 0 (.int .i64 y.f0)).setBlkAt 2 rfl 1 (.int .i64 y.f1)).setBlkAt 2 rfl 2 (.int .i64 y.f2)).setBlkAt 2 rfl 3 (.string y.f5)).setBlkAt 2 rfl 4 (.int .i64 y.f6.f0)).setBlkAt 2 rfl 5 (.int .i64 y.f6.f1)).setBlkAt 2 rfl 6 (.string y.f6.f2)).setBlkAt 2 rfl 7 (.slice A9 y.f6.f3.length c9)).setBlkAt 2 rfl 8 (.slice none 0 0)).setBlkAt 2 rfl 9 (.slice A10 y.f7.length c10))
      exact hS2.tail.tail.tail
    | false =>
      have hok : y.f4 = p ∧ ¬ y.f3 ≤ (at_ : Int) ∧ ¬ (l.length : Int) < y.f3 := by
        refine ⟨?_, ?_, ?_⟩
        · cases h0 : (y.f4 != p) with
          | false => simpa using h0
          | true => rw [h0] at hbad; simp at hbad
        · intro h1; rw [decide_eq_true h1] at hbad; simp at hbad
        · intro h1; rw [decide_eq_true h1] at hbad; simp at hbad
      obtain ⟨E, hE⟩ : ∃ E : Nat, y.f3 = (E : Int) := ⟨y.f3.toNat, by omega⟩
      have HE := As.mk (⟨hok.1, hE, by omega, by omega⟩ : y.f4 = p ∧ y.f3 = (E : Int) ∧ at_ < E ∧ E ≤ l.length)
      clear hbad hok hE e0 e1 e2 e3 e4 e5 e6 e7 e8 e9 e10
      go_wp2_with fail
      go_loopg [10] E (fun g0 v10 wr => ∃ (t : Nat) (ks : List Fr) (B : Option Addr) (d : Nat), (t ≤ E ∧ E ≤ t + g0) ∧ v10 = .int .i64 t ∧ As (t = at_ + 1 + cntNs (ks.map (·.x))) ∧ As (Seg l (at_ + 1) (fls (ks.map (·.x)) at_ (at_ + 1))) ∧ At (fun _ => False) wb wr (Hp.seps (Hp.row 27 10 nodC (.slice B ks.length d) ks :: hAll (hkN m wb) ks :: Hp.blk n0 #[.int .i64 y.f0, .int .i64 y.f1, .int .i64 y.f2, .string y.f5, .int .i64 y.f6.f0, .int .i64 y.f6.f1, .string y.f6.f2, .slice A9 y.f6.f3.length c9, .slice B ks.length d, .slice A10 y.f7.length c10] 27 :: Hp.blk x0 #[.int .i64 y.f0, .int .i64 y.f1, .int .i64 y.f2, .int .i64 y.f3, .int .i64 y.f4, .string y.f5, .int .i64 y.f6.f0, .int .i64 y.f6.f1, .string y.f6.f2, .slice A9 y.f6.f3.length c9, .slice A10 y.f7.length c10] 39 :: Hp.blk q0 #[.int .i64 0, .int .i64 0, .int .i64 0, .string ⟨#[]⟩, .int .i64 0, .int .i64 0, .string ⟨#[]⟩, .slice none 0 0, .slice none 0 0, .slice none 0 0] 27 :: lst)))
      case atStart => exact ⟨at_ + 1, [], none, 0, by have := HE.out.2.2.1; omega, rfl, ⟨by simp [cntNs]⟩, ⟨fun j hj => by rw [List.map_nil, fls] at hj; simp at hj⟩, (At.new_emp hS).nilRow 27 10 nodC⟩
      case round =>
        clear hS
        obtain ⟨t, ks, B, d, ht, rfl, HT, HSg, hS⟩ := hrel
        have HTg := As.mk ht
        have htE := HE.out.2.2.2
        have hyE := HE.out.2.1
        by_cases hlt : t < E
        · have d0 : decide ((t : Int) < y.f3) = true := decide_eq_true (by omega)
          have hat2 : at_ < t := by have := HT.out; omega
          have HC := As.mk (HI.out t (at_ : Int) _ _ (by omega) (by have := HB.out.2.1; omega) hS)
          have e0 := (hS.cellAt 3 rfl 0).trans rfl
          have e1 := (hS.cellAt 3 rfl 1).trans rfl
          have e2 := (hS.cellAt 3 rfl 2).trans rfl
          have e3 := (hS.cellAt 3 rfl 3).trans rfl
          have e4 := (hS.cellAt 3 rfl 4).trans rfl
          have e5 := (hS.cellAt 3 rfl 5).trans rfl
          have e6 := (hS.cellAt 3 rfl 6).trans rfl
          have e7 := (hS.cellAt 3 rfl 7).trans rfl
          have e8 := (hS.cellAt 3 rfl 8).trans rfl
          have e9 := (hS.cellAt 3 rfl 9).trans rfl
          have e10 := (hS.cellAt 3 rfl 10).trans rfl
          have HLt := As.mk hlt
          clear hlt ht htE hyE hat2
          go_wp2_with fail
          refine HC.out.mono ?_
          rintro e w1 ⟨o, (⟨rfl, hnf, hS1⟩ | ⟨nx, rfl, hsg, hnx, hle, hS1⟩)⟩
          · clear hS HC e0 e1 e2 e3 e4 e5 e6 e7 e8 e9 e10
            have HN1 := As.mk hnf
            clear hnf
            have hS1 := hS1.alloc #[.int .i64 o.x.f0, .int .i64 o.x.f1, .int .i64 o.x.f2, .string o.x.f3, .int .i64 o.x.f4.f0, .int .i64 o.x.f4.f1, .string o.x.f4.f2, .slice o.A o.x.f4.f3.length o.c, .slice o.B o.x.f5.length o.d, .slice o.C o.x.f6.length o.q] 27
            obtain ⟨k0, hk0⟩ : ∃ q, q = w1.heap.size := ⟨_, rfl⟩
            obtain ⟨K0, hK0⟩ : ∃ V, V = w1.alloc (.cells #[.int .i64 o.x.f0, .int .i64 o.x.f1, .int .i64 o.x.f2, .string o.x.f3, .int .i64 o.x.f4.f0, .int .i64 o.x.f4.f1, .string o.x.f4.f2, .slice o.A o.x.f4.f3.length o.c, .slice o.B o.x.f5.length o.d, .slice o.C o.x.f6.length o.q] 27) := ⟨_, rfl⟩
            rw [← hk0, ← hK0] at hS1
            have Hk : As (w1.alloc (.cells #[.int .i64 o.x.f0, .int .i64 o.x.f1, .int .i64 o.x.f2, .string o.x.f3, .int .i64 o.x.f4.f0, .int .i64 o.x.f4.f1, .string o.x.f4.f2, .slice o.A o.x.f4.f3.length o.c, .slice o.B o.x.f5.length o.d, .slice o.C o.x.f6.length o.q] 27) = K0 ∧ w1.heap.size = k0) := ⟨hK0.symm, hk0.symm⟩
            clear hk0 hK0
            go_upto_region 8 with fail
            rw [Hk.out.1, Hk.out.2]
            clear Hk
            have n0 := (hS1.cellAt 3 rfl 0).trans rfl
            have n1 := (hS1.cellAt 3 rfl 1).trans rfl
            have n2 := (hS1.cellAt 3 rfl 2).trans rfl
            have n3 := (hS1.cellAt 3 rfl 3).trans rfl
            have n4 := (hS1.cellAt 3 rfl 4).trans rfl
            have n5 := (hS1.cellAt 3 rfl 5).trans rfl
            have n6 := (hS1.cellAt 3 rfl 6).trans rfl
            have n7 := (hS1.cellAt 3 rfl 7).trans rfl
            have n8 := (hS1.cellAt 3 rfl 8).trans rfl
            have n9 := (hS1.cellAt 3 rfl 9).trans rfl
            have z0 := (hS1.cellAt 5 rfl 0).trans rfl
            have z1 := (hS1.cellAt 5 rfl 1).trans rfl
            have z2 := (hS1.cellAt 5 rfl 2).trans rfl
            have z3 := (hS1.cellAt 5 rfl 3).trans rfl
            have z4 := (hS1.cellAt 5 rfl 4).trans rfl
            have z5 := (hS1.cellAt 5 rfl 5).trans rfl
            have z6 := (hS1.cellAt 5 rfl 6).trans rfl
            have z7 := (hS1.cellAt 5 rfl 7).trans rfl
            have z8 := (hS1.cellAt 5 rfl 8).trans rfl
            have z9 := (hS1.cellAt 5 rfl 9).trans rfl
            have zf0 := hS1.frozenAt 5 rfl 0
            have zf1 := hS1.frozenAt 5 rfl 1
            have zf2 := hS1.frozenAt 5 rfl 2
            have zf3 := hS1.frozenAt 5 rfl 3
            have zf4 := hS1.frozenAt 5 rfl 4
            have zf5 := hS1.frozenAt 5 rfl 5
            have zf6 := hS1.frozenAt 5 rfl 6
            have zf7 := hS1.frozenAt 5 rfl 7
            have zf8 := hS1.frozenAt 5 rfl 8
            have zf9 := hS1.frozenAt 5 rfl 9
            have zlt := hS1.ltAt 5 rfl
            have hnq := hS1.neBB 3 5 rfl rfl (by decide)
            have hqn := hnq.symm
            have HNF : As (NoFit l at_ p) := ⟨nofit_kid HY.out HE.out.2.1 HE.out.2.2.2 HSg.out HT.out HLt.out fun k hk => by have h1 := HN1.out k hk; have h2 := HE.out.2.2.2; omega⟩
            go_wp2_with fail
            refine bodyPost_ret (v := .tuple #[.agg #[.int .i64 y.f0, .int .i64 y.f1, .int .i64 y.f2, .string y.f5, .int .i64 y.f6.f0, .int .i64 y.f6.f1, .string y.f6.f2, .slice A9 y.f6.f3.length c9, .slice B ks.length d, .slice A10 y.f7.length c10], .int .i64 (-1)]) (by simp [results, Try.results25, go_sem, z0, z1, z2, z3, z4, z5, z6, z7, z8, z9]) rfl ⟨⟨0, { nodeOf y with f5 := ks.map (·.x) }, A9, c9, B, d, A10, c10⟩, .inl ⟨by simp only [List.length_map]; rfl, HNF.out, ?_⟩⟩
            have hS9 := ((((((((((hS1.setBlkAt 5 rfl 0 (.int .i64 y.f0)).setBlkAt 5 rfl 1 (.int .i64 y.f1)).setBlkAt 5 rfl 2 (.int .i64 y.f2)).setBlkAt 5 rfl 3 (.string y.f5)).setBlkAt 5 rfl 4 (.int .i64 y.f6.f0)).setBlkAt 5 rfl 5 (.int .i64 y.f6.f1)).setBlkAt 5 rfl 6 (.string y.f6.f2)).setBlkAt 5 rfl 7 (.slice A9 y.f6.f3.length c9)).setBlkAt 5 rfl 8 (.slice B ks.length d)).setBlkAt 5 rfl 9 (.slice A10 y.f7.length c10))
            exact hS9.tail.tail.tail.tail.tail.tail
          · clear hS HC e0 e1 e2 e3 e4 e5 e6 e7 e8 e9 e10
            have HN1 := As.mk (⟨hsg, hnx, hle⟩ : _ ∧ _ ∧ _)
            clear hsg hnx hle
            have hS1 := hS1.alloc #[.int .i64 o.x.f0, .int .i64 o.x.f1, .int .i64 o.x.f2, .string o.x.f3, .int .i64 o.x.f4.f0, .int .i64 o.x.f4.f1, .string o.x.f4.f2, .slice o.A o.x.f4.f3.length o.c, .slice o.B o.x.f5.length o.d, .slice o.C o.x.f6.length o.q] 27
            obtain ⟨k0, hk0⟩ : ∃ q, q = w1.heap.size := ⟨_, rfl⟩
            obtain ⟨K0, hK0⟩ : ∃ V, V = w1.alloc (.cells #[.int .i64 o.x.f0, .int .i64 o.x.f1, .int .i64 o.x.f2, .string o.x.f3, .int .i64 o.x.f4.f0, .int .i64 o.x.f4.f1, .string o.x.f4.f2, .slice o.A o.x.f4.f3.length o.c, .slice o.B o.x.f5.length o.d, .slice o.C o.x.f6.length o.q] 27) := ⟨_, rfl⟩
            rw [← hk0, ← hK0] at hS1
            have Hk : As (w1.alloc (.cells #[.int .i64 o.x.f0, .int .i64 o.x.f1, .int .i64 o.x.f2, .string o.x.f3, .int .i64 o.x.f4.f0, .int .i64 o.x.f4.f1, .string o.x.f4.f2, .slice o.A o.x.f4.f3.length o.c, .slice o.B o.x.f5.length o.d, .slice o.C o.x.f6.length o.q] 27) = K0 ∧ w1.heap.size = k0) := ⟨hK0.symm, hk0.symm⟩
            clear hk0 hK0
            go_upto_region 8 with fail
            rw [Hk.out.1, Hk.out.2]
            clear Hk
            have e0 := (hS1.cellAt 5 rfl 0).trans rfl
            have e1 := (hS1.cellAt 5 rfl 1).trans rfl
            have e2 := (hS1.cellAt 5 rfl 2).trans rfl
            have e3 := (hS1.cellAt 5 rfl 3).trans rfl
            have e4 := (hS1.cellAt 5 rfl 4).trans rfl
            have e5 := (hS1.cellAt 5 rfl 5).trans rfl
            have e6 := (hS1.cellAt 5 rfl 6).trans rfl
            have e7 := (hS1.cellAt 5 rfl 7).trans rfl
            have e8 := (hS1.cellAt 5 rfl 8).trans rfl
            have e9 := (hS1.cellAt 5 rfl 9).trans rfl
            have e10 := (hS1.cellAt 5 rfl 10).trans rfl
            by_cases hgt : E < nx
            · have d1 : decide (y.f3 < (nx : Int)) = true := decide_eq_true (by have := HE.out.2.1; omega)
              have HGt := As.mk hgt
              clear hgt
              have n0 := (hS1.cellAt 4 rfl 0).trans rfl
              have n1 := (hS1.cellAt 4 rfl 1).trans rfl
              have n2 := (hS1.cellAt 4 rfl 2).trans rfl
              have n3 := (hS1.cellAt 4 rfl 3).trans rfl
              have n4 := (hS1.cellAt 4 rfl 4).trans rfl
              have n5 := (hS1.cellAt 4 rfl 5).trans rfl
              have n6 := (hS1.cellAt 4 rfl 6).trans rfl
              have n7 := (hS1.cellAt 4 rfl 7).trans rfl
              have n8 := (hS1.cellAt 4 rfl 8).trans rfl
              have n9 := (hS1.cellAt 4 rfl 9).trans rfl
              have z0 := (hS1.cellAt 6 rfl 0).trans rfl
              have z1 := (hS1.cellAt 6 rfl 1).trans rfl
              have z2 := (hS1.cellAt 6 rfl 2).trans rfl
              have z3 := (hS1.cellAt 6 rfl 3).trans rfl
              have z4 := (hS1.cellAt 6 rfl 4).trans rfl
              have z5 := (hS1.cellAt 6 rfl 5).trans rfl
              have z6 := (hS1.cellAt 6 rfl 6).trans rfl
              have z7 := (hS1.cellAt 6 rfl 7).trans rfl
              have z8 := (hS1.cellAt 6 rfl 8).trans rfl
              have z9 := (hS1.cellAt 6 rfl 9).trans rfl
              have zf0 := hS1.frozenAt 6 rfl 0
              have zf1 := hS1.frozenAt 6 rfl 1
              have zf2 := hS1.frozenAt 6 rfl 2
              have zf3 := hS1.frozenAt 6 rfl 3
              have zf4 := hS1.frozenAt 6 rfl 4
              have zf5 := hS1.frozenAt 6 rfl 5
              have zf6 := hS1.frozenAt 6 rfl 6
              have zf7 := hS1.frozenAt 6 rfl 7
              have zf8 := hS1.frozenAt 6 rfl 8
              have zf9 := hS1.frozenAt 6 rfl 9
              have zlt := hS1.ltAt 6 rfl
              have hnq := hS1.neBB 4 6 rfl rfl (by decide)
              have hqn := hnq.symm
              have HNF : As (NoFit l at_ p) := ⟨nofit_kid HY.out HE.out.2.1 HE.out.2.2.2 HSg.out HT.out HLt.out fun k hk => by rw [← seg_uniq o.x k l t at_ at_ HN1.out.1 hk]; have h1 := HN1.out.2.1; have h2 := HGt.out; omega⟩
              go_wp2_with fail
              refine bodyPost_ret (v := .tuple #[.agg #[.int .i64 y.f0, .int .i64 y.f1, .int .i64 y.f2, .string y.f5, .int .i64 y.f6.f0, .int .i64 y.f6.f1, .string y.f6.f2, .slice A9 y.f6.f3.length c9, .slice B ks.length d, .slice A10 y.f7.length c10], .int .i64 (-1)]) (by simp [results, Try.results25, go_sem, z0, z1, z2, z3, z4, z5, z6, z7, z8, z9]) rfl ⟨⟨0, { nodeOf y with f5 := ks.map (·.x) }, A9, c9, B, d, A10, c10⟩, .inl ⟨by simp only [List.length_map]; rfl, HNF.out, ?_⟩⟩
              have hS9 := ((((((((((hS1.setBlkAt 6 rfl 0 (.int .i64 y.f0)).setBlkAt 6 rfl 1 (.int .i64 y.f1)).setBlkAt 6 rfl 2 (.int .i64 y.f2)).setBlkAt 6 rfl 3 (.string y.f5)).setBlkAt 6 rfl 4 (.int .i64 y.f6.f0)).setBlkAt 6 rfl 5 (.int .i64 y.f6.f1)).setBlkAt 6 rfl 6 (.string y.f6.f2)).setBlkAt 6 rfl 7 (.slice A9 y.f6.f3.length c9)).setBlkAt 6 rfl 8 (.slice B ks.length d)).setBlkAt 6 rfl 9 (.slice A10 y.f7.length c10))
              exact hS9.tail.tail.tail.tail.tail.tail.tail
            · have d1 : decide (y.f3 < (nx : Int)) = false := decide_eq_false (by have := HE.out.2.1; omega)
              have HGt := As.mk hgt
              clear hgt
              have kk0 := (hS1.cellAt 0 rfl 0).trans rfl
              have kk1 := (hS1.cellAt 0 rfl 1).trans rfl
              have kk2 := (hS1.cellAt 0 rfl 2).trans rfl
              have kk3 := (hS1.cellAt 0 rfl 3).trans rfl
              have kk4 := (hS1.cellAt 0 rfl 4).trans rfl
              have kk5 := (hS1.cellAt 0 rfl 5).trans rfl
              have kk6 := (hS1.cellAt 0 rfl 6).trans rfl
              have kk7 := (hS1.cellAt 0 rfl 7).trans rfl
              have kk8 := (hS1.cellAt 0 rfl 8).trans rfl
              have kk9 := (hS1.cellAt 0 rfl 9).trans rfl
              have nn0 := (hS1.cellAt 4 rfl 0).trans rfl
              have nn1 := (hS1.cellAt 4 rfl 1).trans rfl
              have nn2 := (hS1.cellAt 4 rfl 2).trans rfl
              have nn3 := (hS1.cellAt 4 rfl 3).trans rfl
              have nn4 := (hS1.cellAt 4 rfl 4).trans rfl
              have nn5 := (hS1.cellAt 4 rfl 5).trans rfl
              have nn6 := (hS1.cellAt 4 rfl 6).trans rfl
              have nn7 := (hS1.cellAt 4 rfl 7).trans rfl
              have nn8 := (hS1.cellAt 4 rfl 8).trans rfl
              have nn9 := (hS1.cellAt 4 rfl 9).trans rfl
              have hlk : ks.length ≤ 1000000 := by
                have h1 := len_cntNs (ks.map (·.x))
                have h2 := HT.out
                have h3 := HLt.out
                have h4 := HE.out.2.2.2
                have h5 := HB.out.2.2.1
                rw [List.length_map] at h1
                omega
              go_wp2_with (at_builtin; refine rw_append rfl (.tmp 71) (.tmp 73) 25 27 10 nodC (.agg #[.int .i64 0, .int .i64 0, .int .i64 0, .string ⟨#[]⟩, .int .i64 0, .int .i64 0, .string ⟨#[]⟩, .slice none 0 0, .slice none 0 0, .slice none 0 0]) 144 rfl Try.underlying25 info27 rfl (by decide) (.slice B ks.length d) ks o rfl _ rfl (by first | exact blk_new (by simp) | exact blk_new_drew (by simp)) ((hS1.below (by repeat (first | exact Below.refl _ _ | refine bl_drewN ?_ _ | refine Below.drew ?_ | refine bl_alloc ?_ _ | refine bl_set ?_ (by first | (simp; done) | omega | (simp; omega)) _))).rowAt 2 rfl) nodC_len (one_nodC _) ?c1 ?c2 ?c3)
              case c1 => simp only [maxLen]; omega
              case c2 => omega
              case c3 =>
                intro v1 w2 hA
                have hS2 := At.appendAt 2 hA hS1 rfl (by repeat (first | exact Below.refl _ _ | refine bl_drewN ?_ _ | refine Below.drew ?_ | refine bl_alloc ?_ _ | refine bl_set ?_ (by first | (simp; done) | omega | (simp; omega)) _))
                obtain ⟨A1, c1, hv1, _, _⟩ := hA.row.shape
                subst hv1
                rw [List.length_append, List.length_singleton] at hS2 ⊢
                clear hA hS1 e0 e1 e2 e3 e4 e5 e6 e7 e8 e9 e10 kk0 kk1 kk2 kk3 kk4 kk5 kk6 kk7 kk8 kk9 nn0 nn1 nn2 nn3 nn4 nn5 nn6 nn7 nn8 nn9
                have z0 := (hS2.cellAt 4 rfl 0).trans rfl
                have z1 := (hS2.cellAt 4 rfl 1).trans rfl
                have z2 := (hS2.cellAt 4 rfl 2).trans rfl
                have z3 := (hS2.cellAt 4 rfl 3).trans rfl
                have z4 := (hS2.cellAt 4 rfl 4).trans rfl
                have z5 := (hS2.cellAt 4 rfl 5).trans rfl
                have z6 := (hS2.cellAt 4 rfl 6).trans rfl
                have z7 := (hS2.cellAt 4 rfl 7).trans rfl
                have z8 := (hS2.cellAt 4 rfl 8).trans rfl
                have z9 := (hS2.cellAt 4 rfl 9).trans rfl
                have zf0 := hS2.frozenAt 4 rfl 0
                have zf1 := hS2.frozenAt 4 rfl 1
                have zf2 := hS2.frozenAt 4 rfl 2
                have zf3 := hS2.frozenAt 4 rfl 3
                have zf4 := hS2.frozenAt 4 rfl 4
                have zf5 := hS2.frozenAt 4 rfl 5
                have zf6 := hS2.frozenAt 4 rfl 6
                have zf7 := hS2.frozenAt 4 rfl 7
                have zf8 := hS2.frozenAt 4 rfl 8
                have zf9 := hS2.frozenAt 4 rfl 9
                have zlt := hS2.ltAt 4 rfl
                have hS3 := hS2.setBlkAt 4 rfl 8 (.slice A1 (ks.length + 1) c1)
                have hS4 : At (fun _ => False) wb _ (Hp.seps (hkN m wb o :: Hp.row 27 10 nodC (.slice A1 (ks.length + 1) c1) (ks ++ [o]) :: hAll (hkN m wb) ks :: Hp.blk n0 #[.int .i64 y.f0, .int .i64 y.f1, .int .i64 y.f2, .string y.f5, .int .i64 y.f6.f0, .int .i64 y.f6.f1, .string y.f6.f2, .slice A9 y.f6.f3.length c9, .slice A1 (ks.length + 1) c1, .slice A10 y.f7.length c10] 27 :: Hp.blk x0 #[.int .i64 y.f0, .int .i64 y.f1, .int .i64 y.f2, .int .i64 y.f3, .int .i64 y.f4, .string y.f5, .int .i64 y.f6.f0, .int .i64 y.f6.f1, .string y.f6.f2, .slice A9 y.f6.f3.length c9, .slice A10 y.f7.length c10] 39 :: Hp.blk q0 #[.int .i64 0, .int .i64 0, .int .i64 0, .string ⟨#[]⟩, .int .i64 0, .int .i64 0, .string ⟨#[]⟩, .slice none 0 0, .slice none 0 0, .slice none 0 0] 27 :: lst)) := hS3.tail
                have hS5 : At (fun _ => False) wb _ (Hp.seps (hAll (hkN m wb) (ks ++ [o]) :: Hp.row 27 10 nodC (.slice A1 (ks.length + 1) c1) (ks ++ [o]) :: Hp.blk n0 #[.int .i64 y.f0, .int .i64 y.f1, .int .i64 y.f2, .string y.f5, .int .i64 y.f6.f0, .int .i64 y.f6.f1, .string y.f6.f2, .slice A9 y.f6.f3.length c9, .slice A1 (ks.length + 1) c1, .slice A10 y.f7.length c10] 27 :: Hp.blk x0 #[.int .i64 y.f0, .int .i64 y.f1, .int .i64 y.f2, .int .i64 y.f3, .int .i64 y.f4, .string y.f5, .int .i64 y.f6.f0, .int .i64 y.f6.f1, .string y.f6.f2, .slice A9 y.f6.f3.length c9, .slice A10 y.f7.length c10] 39 :: Hp.blk q0 #[.int .i64 0, .int .i64 0, .int .i64 0, .string ⟨#[]⟩, .int .i64 0, .int .i64 0, .string ⟨#[]⟩, .slice none 0 0, .slice none 0 0, .slice none 0 0] 27 :: lst)) := At.fold2 (A1 := hAll (hkN m wb) ks) (A2 := hkN m wb o) (hS4.pick 2 rfl) (fun _ _ h => hAll_snoc _ _ _ _ h)
                have hS6 : At (fun _ => False) wb _ (Hp.seps (Hp.row 27 10 nodC (.slice A1 (ks.length + 1) c1) (ks ++ [o]) :: hAll (hkN m wb) (ks ++ [o]) :: Hp.blk n0 #[.int .i64 y.f0, .int .i64 y.f1, .int .i64 y.f2, .string y.f5, .int .i64 y.f6.f0, .int .i64 y.f6.f1, .string y.f6.f2, .slice A9 y.f6.f3.length c9, .slice A1 (ks.length + 1) c1, .slice A10 y.f7.length c10] 27 :: Hp.blk x0 #[.int .i64 y.f0, .int .i64 y.f1, .int .i64 y.f2, .int .i64 y.f3, .int .i64 y.f4, .string y.f5, .int .i64 y.f6.f0, .int .i64 y.f6.f1, .string y.f6.f2, .slice A9 y.f6.f3.length c9, .slice A10 y.f7.length c10] 39 :: Hp.blk q0 #[.int .i64 0, .int .i64 0, .int .i64 0, .string ⟨#[]⟩, .int .i64 0, .int .i64 0, .string ⟨#[]⟩, .slice none 0 0, .slice none 0 0, .slice none 0 0] 27 :: lst)) := hS5.pick 1 rfl
                clear hS2 hS3 hS4 hS5
                go_wp2_with fail
                rw [show ks.length + 1 = (ks ++ [o]).length by simp] at hS6 ⊢
                go_roundg (gk - 1)
                case measure => have := HTg.out; have := HLt.out; omega
                case rel =>
                  refine ⟨nx, ks ++ [o], A1, c1, by have := HTg.out; have := HLt.out; have h2 := HN1.out.2.1; have h3 := cntN_pos o.x; have h4 := HGt.out; omega, rfl, ⟨?_⟩, ⟨?_⟩, hS6⟩
                  · rw [List.map_append, cntNs_app, List.map_cons, List.map_nil, cntNs, cntNs]
                    have h1 := HT.out
                    have h2 := HN1.out.2.1
                    omega
                  · rw [List.map_append, List.map_cons, List.map_nil, fls_app, fls, fls, List.append_nil]
                    refine HSg.out.app ?_
                    rw [fls_len, ← HT.out]
                    exact HN1.out.1
        · obtain rfl : t = E := by omega
          have d0 : decide ((t : Int) < y.f3) = false := decide_eq_false (by omega)
          have HSx : As (Seg l at_ (fl { nodeOf y with f5 := ks.map (·.x) } p at_)) := ⟨fl_of_row HY.out rfl HE.out.1 (by rw [HE.out.2.1, HT.out]) HSg.out⟩
          have e0 := (hS.cellAt 3 rfl 0).trans rfl
          have e1 := (hS.cellAt 3 rfl 1).trans rfl
          have e2 := (hS.cellAt 3 rfl 2).trans rfl
          have e3 := (hS.cellAt 3 rfl 3).trans rfl
          have e4 := (hS.cellAt 3 rfl 4).trans rfl
          have e5 := (hS.cellAt 3 rfl 5).trans rfl
          have e6 := (hS.cellAt 3 rfl 6).trans rfl
          have e7 := (hS.cellAt 3 rfl 7).trans rfl
          have e8 := (hS.cellAt 3 rfl 8).trans rfl
          have e9 := (hS.cellAt 3 rfl 9).trans rfl
          have e10 := (hS.cellAt 3 rfl 10).trans rfl
          have nn0 := (hS.cellAt 2 rfl 0).trans rfl
          have nn1 := (hS.cellAt 2 rfl 1).trans rfl
          have nn2 := (hS.cellAt 2 rfl 2).trans rfl
          have nn3 := (hS.cellAt 2 rfl 3).trans rfl
          have nn4 := (hS.cellAt 2 rfl 4).trans rfl
          have nn5 := (hS.cellAt 2 rfl 5).trans rfl
          have nn6 := (hS.cellAt 2 rfl 6).trans rfl
          have nn7 := (hS.cellAt 2 rfl 7).trans rfl
          have nn8 := (hS.cellAt 2 rfl 8).trans rfl
          have nn9 := (hS.cellAt 2 rfl 9).trans rfl
          have z0 := (hS.cellAt 4 rfl 0).trans rfl
          have z1 := (hS.cellAt 4 rfl 1).trans rfl
          have z2 := (hS.cellAt 4 rfl 2).trans rfl
          have z3 := (hS.cellAt 4 rfl 3).trans rfl
          have z4 := (hS.cellAt 4 rfl 4).trans rfl
          have z5 := (hS.cellAt 4 rfl 5).trans rfl
          have z6 := (hS.cellAt 4 rfl 6).trans rfl
          have z7 := (hS.cellAt 4 rfl 7).trans rfl
          have z8 := (hS.cellAt 4 rfl 8).trans rfl
          have z9 := (hS.cellAt 4 rfl 9).trans rfl
          have zf0 := hS.frozenAt 4 rfl 0
          have zf1 := hS.frozenAt 4 rfl 1
          have zf2 := hS.frozenAt 4 rfl 2
          have zf3 := hS.frozenAt 4 rfl 3
          have zf4 := hS.frozenAt 4 rfl 4
          have zf5 := hS.frozenAt 4 rfl 5
          have zf6 := hS.frozenAt 4 rfl 6
          have zf7 := hS.frozenAt 4 rfl 7
          have zf8 := hS.frozenAt 4 rfl 8
          have zf9 := hS.frozenAt 4 rfl 9
          have zlt := hS.ltAt 4 rfl
          have hnq := hS.neBB 2 4 rfl rfl (by decide)
          have hqn := hnq.symm
          clear htE hyE hlt ht
          go_wp2_with fail
          refine bodyPost_ret (v := .tuple #[.agg #[.int .i64 y.f0, .int .i64 y.f1, .int .i64 y.f2, .string y.f5, .int .i64 y.f6.f0, .int .i64 y.f6.f1, .string y.f6.f2, .slice A9 y.f6.f3.length c9, .slice B ks.length d, .slice A10 y.f7.length c10], .int .i64 t]) (by simp [results, Try.results25, go_sem, z0, z1, z2, z3, z4, z5, z6, z7, z8, z9]) rfl ⟨⟨0, { nodeOf y with f5 := ks.map (·.x) }, A9, c9, B, d, A10, c10⟩, .inr ⟨t, by simp only [List.length_map]; rfl, HSx.out, ?_, HE.out.2.2.2, ?_⟩⟩
          · have h1 := HT.out
            simp only [nodeOf, cntN]
            omega
          · have hS9 := ((((((((((hS.setBlkAt 4 rfl 0 (.int .i64 y.f0)).setBlkAt 4 rfl 1 (.int .i64 y.f1)).setBlkAt 4 rfl 2 (.int .i64 y.f2)).setBlkAt 4 rfl 3 (.string y.f5)).setBlkAt 4 rfl 4 (.int .i64 y.f6.f0)).setBlkAt 4 rfl 5 (.int .i64 y.f6.f1)).setBlkAt 4 rfl 6 (.string y.f6.f2)).setBlkAt 4 rfl 7 (.slice A9 y.f6.f3.length c9)).setBlkAt 4 rfl 8 (.slice B ks.length d)).setBlkAt 4 rfl 9 (.slice A10 y.f7.length c10))
            have hSa := (((hS9.pick 2 rfl).tail.pick 2 rfl).tail.pick 2 rfl).tail
            have hSb : At (fun _ => False) wb _ (Hp.seps ([Hp.row 27 10 nodC (.slice B ks.length d) ks, hAll (hkN m wb) ks] ++ lst)) := hSa
            have hSc := At.new_pr (ks.map (·.x) = ks.map (·.x) ∧ GoodX wb ⟨0, { nodeOf y with f5 := ks.map (·.x) }, A9, c9, B, d, A10, c10⟩) ⟨rfl, ⟨HX.out.1, HX.out.2.1, HX.out.2.2.1, HX.out.2.2.2⟩⟩ hSb
            refine At.foldL (l1 := [Hp.pr (ks.map (·.x) = ks.map (·.x) ∧ GoodX wb ⟨0, { nodeOf y with f5 := ks.map (·.x) }, A9, c9, B, d, A10, c10⟩), Hp.row 27 10 nodC (.slice B ks.length d) ks, hAll (hkN m wb) ks]) hSc fun _ _ h => ⟨ks, ?_⟩
            have e1 : (ks.map (·.x)).length = ks.length := List.length_map ..
            show (Hp.seps [_, Hp.row 27 10 nodC (.slice B (ks.map (·.x)).length d) ks, _]).H _ _
            rw [e1]
            exact h
theorem rb_all : ∀ m, RB m
  | 0 => fun wb A c l _ _ _ at_ p w lst h1 h2 _ => by omega
  | m + 1 => rb_step m (rb_all m)
end Go.Proofs.Ytfgpdpccfpilaaa.OpenFlatOrder
