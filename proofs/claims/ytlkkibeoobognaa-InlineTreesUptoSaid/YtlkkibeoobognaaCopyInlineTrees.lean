/- Copy and Copies: expressions in memory of their own. For expressions of bounded size; no other condition. -/
import Derived.Test.YtlkkibeoobognaaKdOpenInlineTrees
import Derived.Test.YtlkkibeoobognaaAt
import Derived.Deep.RegionLaw
import Derived.Deep.RegionWith
import Derived.IntWalk
set_option linter.unusedVariables false
namespace Go.Proofs.Ytlkkibeoobognaa.OpenInlineTrees
open Go.RowKit Go.Deep
open Go.Proofs.YtlkkibeoobognaaW.PrintWords Go.Proofs.YtlkkibeoobognaaW.PrintLast Go.Proofs.YtlkkibeoobognaaW.PrintMore Go.Proofs.Ytlkkibeoobognaa.PInlineTrees
theorem infoE : (Try.prog.info? 27).map (fun i => (i.zero, i.size, i.bytes)) = some (some (.agg #[.int .i64 0, .int .i64 0, .string ⟨#[]⟩, .slice none 0 0]), 4, 56) := by kernel_rfl
def tt : Nat → Prop := fun _ => True
theorem len_szEs : ∀ l : List S27, l.length ≤ szEs l
  | [] => Nat.le_refl _
  | ⟨_, _, _, _⟩ :: l => by have := len_szEs l; simp only [szEs, szE, List.length_cons]; omega
theorem szE_mem : ∀ (l : List S27) (k : Nat) (x : S27), l[k]? = some x → szE x ≤ szEs l
  | [], k, x, h => by simp at h
  | y :: l, 0, x, h => by
    obtain rfl : y = x := by simpa using h
    simp only [szEs]; omega
  | y :: l, k + 1, x, h => by
    have := szE_mem l k x (by simpa using h)
    simp only [szEs]; omega
theorem szE_kids (x : S27) : szEs x.f3 + 1 ≤ szE x := by
  obtain ⟨a, b, s, l⟩ := x
  simp only [szE]
  omega
/-- The element of a row that is read, by its index. -/
theorem C_at {α : Type} {d : Kd α} {w : World} {A : Option Addr} {n k : Nat} {xs : List α} (h : d.C w A n xs) (x : α) (hx : xs[k]? = some x) : ∃ ad c, A = some ad ∧ c.length = d.sz ∧ d.K w x c ∧ ∀ j u, c[j]? = some u → w.cell? (ad.add (k * d.sz + j)) = some u := by
  have hk := (List.getElem?_eq_some_iff.1 hx).1
  have hl := h.1
  obtain ⟨ad, e, hc⟩ := h.2.2 (by omega)
  obtain ⟨c, hs, hr, hcell⟩ := hc k x hx
  exact ⟨ad, c, e, hs, hr, hcell⟩
theorem spot_of_cell {w : World} {a : Addr} {u : Value} (h : w.cell? a = some u) : a.spot = none ∧ a.block < w.heap.size := by
  unfold World.cell? at h
  split at h
  · rename_i c t fr hb
    by_cases hs : a.spot.isSome
    · rw [if_pos hs] at h; cases h
    · exact ⟨by cases e : a.spot <;> simp_all, (Array.getElem?_eq_some_iff.1 hb).1⟩
  · cases h
/-- .. at plain places. -/
theorem C_lit {α : Type} {d : Kd α} {w : World} {A : Option Addr} {n k : Nat} {xs : List α} (h : d.C w A n xs) (hd : 0 < d.sz) (x : α) (hx : xs[k]? = some x) : ∃ b off c, A = some ⟨b, off, none⟩ ∧ b < w.heap.size ∧ c.length = d.sz ∧ d.K w x c ∧ ∀ j u, c[j]? = some u → w.cell? ⟨b, off + k * d.sz + j, none⟩ = some u := by
  obtain ⟨ad, c, rfl, hl, hK, hc⟩ := C_at h x hx
  have hk := (List.getElem?_eq_some_iff.1 hx).1
  obtain ⟨ad2, c0, e2, hl0, _, hc0⟩ := C_at h xs[0] (List.getElem?_eq_getElem (show 0 < xs.length by omega))
  injection e2 with e2
  subst e2
  have h0 := hc0 0 _ (List.getElem?_eq_getElem (show 0 < c0.length by omega))
  have e : ad.add (0 * d.sz + 0) = ad := by rw [Nat.zero_mul]; exact Addr.add_zero' _
  rw [e] at h0
  obtain ⟨hs, hb⟩ := spot_of_cell h0
  obtain ⟨b, off, sp⟩ := ad
  simp only at hs hb
  subst hs
  refine ⟨b, off, c, rfl, hb, hl, hK, fun j u hu => ?_⟩
  have := hc j u hu
  rwa [Addr.add_lit, ← Nat.add_assoc] at this
theorem R_lt {α : Type} {d : Kd α} {e : Nat} {w : World} {base : Nat} {ok : Nat → Prop} {v : Value} {xs : List α} (h : d.R e w base ok v xs) : ∀ k, v.ownBlock = some k → k < w.heap.size := by
  obtain ⟨inner, ho⟩ := Kd.R_own h
  exact own_lt ho
theorem take_snoc {α : Type} {l : List α} {k : Nat} {x : α} (h : l[k]? = some x) : l.take (k + 1) = l.take k ++ [x] := by
  obtain ⟨h1, h2⟩ := List.getElem?_eq_some_iff.1 h
  rw [List.take_succ_eq_append_getElem h1, h2]
/-- What copies tells. -/
def CopiesDo (n : Nat) : Prop := ∀ (l : List S27) (A : Option Addr) (c : Nat) (w : World), szEs l ≤ n → k27.C w A l.length l → l.length ≤ c → Calls Try.prog 62 #[.slice A l.length c] w fun e w' => ∃ v, e = .returned v ∧ Below w.heap.size w w' ∧ k27.R 27 w' w.heap.size tt v l
def CopyDoes (n : Nat) : Prop := ∀ (x : S27) (A : Option Addr) (c : Nat) (w : World), szE x ≤ n → k27.C w A x.f3.length x.f3 → x.f3.length ≤ c → Calls Try.prog 61 #[.agg #[.int .i64 x.f0, .int .i64 x.f1, .string x.f2, .slice A x.f3.length c]] w fun e w' => ∃ v, e = .returned (.agg #[.int .i64 x.f0, .int .i64 x.f1, .string x.f2, v]) ∧ Below w.heap.size w w' ∧ k27.R 27 w' w.heap.size tt v x.f3
set_option maxHeartbeats 3200000 in
theorem copy_step (n : Nat) (ih : CopiesDo n) : CopyDoes (n + 1) := by
  intro x A c w hn hC hc
  have hk := szE_kids x
  obtain ⟨f0, f1, f2, l⟩ := x
  simp only at hC hc hk ⊢
  have hS := (At.start0 (Below.refl w.heap.size w)).alloc #[.int .i64 f0, .int .i64 f1, .string f2, .slice A l.length c] 27
  have hS := hS.alloc #[.int .i64 0, .int .i64 0, .string ⟨#[]⟩, .slice none 0 0] 27
  have HC := As.mk (fun (W : World) (hb : Below w.heap.size w W) => ih l A c W (by omega) (Kd.C_below hC hb) hc)
  obtain ⟨W, hW⟩ : ∃ W, W = (w.alloc (.cells #[.int .i64 f0, .int .i64 f1, .string f2, .slice A l.length c] 27)).alloc (.cells #[.int .i64 0, .int .i64 0, .string ⟨#[]⟩, .slice none 0 0] 27) := ⟨_, rfl⟩
  obtain ⟨p, hp⟩ : ∃ p, p = w.heap.size := ⟨_, rfl⟩
  obtain ⟨q, hq⟩ : ∃ q, q = w.heap.size + 1 := ⟨_, rfl⟩
  have hS : At (fun _ => False) w W (Hp.seps [Hp.blk q #[.int .i64 0, .int .i64 0, .string ⟨#[]⟩, .slice none 0 0] 27, Hp.blk p #[.int .i64 f0, .int .i64 f1, .string f2, .slice A l.length c] 27]) := by
    rw [hW, hp, hq]
    simpa using hS
  have HN := As.mk (⟨hW.symm, hp.symm, hq.symm⟩ : _ ∧ _ ∧ _)
  have HP := As.mk (⟨Nat.le_of_eq hp.symm, by omega, hS.size⟩ : w.heap.size ≤ p ∧ w.heap.size ≤ q ∧ w.heap.size ≤ W.heap.size)
  clear hC hk hn hW hp hq
  go_enter Try.func61, Try.ntmps61
  go_wp2_with fail
  rw [HN.out.1, HN.out.2.2, HN.out.2.1]
  clear HN
  refine (HC.out _ hS.bl).mono ?_
  rintro e w1 ⟨v, rfl, hb, hR⟩
  obtain ⟨A', c', rfl⟩ := Kd.R_slice hR
  have hS1 := hS.below hb
  have HR := As.mk (Kd.R_lower hR HP.out.2.2)
  have HF := As.mk (Kd.R_mono (Kd.R_bound hR) (ok' := fun k => W.heap.size ≤ k) (fun k hk => hk.2.1))
  have hpl := hS.ltAt 1 rfl
  have hql := hS.ltAt 0 rfl
  have HL := As.mk (⟨hpl, hql⟩ : p < W.heap.size ∧ q < W.heap.size)
  clear hb hR hS hpl hql HC
  have p0 := (hS1.cellAt 1 rfl 0).trans rfl
  have p1 := (hS1.cellAt 1 rfl 1).trans rfl
  have p2 := (hS1.cellAt 1 rfl 2).trans rfl
  have p3 := (hS1.cellAt 1 rfl 3).trans rfl
  have pf0 := hS1.frozenAt 1 rfl 0
  have pf1 := hS1.frozenAt 1 rfl 1
  have pf2 := hS1.frozenAt 1 rfl 2
  have pf3 := hS1.frozenAt 1 rfl 3
  have plt := hS1.ltAt 1 rfl
  have q0 := (hS1.cellAt 0 rfl 0).trans rfl
  have q1 := (hS1.cellAt 0 rfl 1).trans rfl
  have q2 := (hS1.cellAt 0 rfl 2).trans rfl
  have q3 := (hS1.cellAt 0 rfl 3).trans rfl
  have qf0 := hS1.frozenAt 0 rfl 0
  have qf1 := hS1.frozenAt 0 rfl 1
  have qf2 := hS1.frozenAt 0 rfl 2
  have qf3 := hS1.frozenAt 0 rfl 3
  have qlt := hS1.ltAt 0 rfl
  have hne := hS1.neBB 0 1 rfl rfl (by decide)
  have hne' := hne.symm
  go_wp2_with fail
  refine bodyPost_ret (v := .agg #[.int .i64 f0, .int .i64 f1, .string f2, .slice A' l.length c']) (by simp [results, Try.results61, go_sem, q0, q1, q2, q3]) rfl ⟨_, rfl, ?_, ?_⟩
  · exact bl_set (bl_set (bl_set (bl_set (bl_set hS1.bl HP.out.1 _) HP.out.2.1 _) HP.out.2.1 _) HP.out.2.1 _) HP.out.2.1 _
  · refine Kd.R_mono (Kd.R_lower (Kd.R_step HF.out fun k hk hk2 => ?_) HP.out.2.2) (fun _ _ => trivial)
    have h1 : k ≠ p := by have := HL.out.1; omega
    have h2 : k ≠ q := by have := HL.out.2; omega
    rw [blk_setCell_far h2, blk_setCell_far h2, blk_setCell_far h2, blk_setCell_far h2, blk_setCell_far h1]
set_option maxHeartbeats 6400000 in
theorem copies_step (n : Nat) (hn : n ≤ 2097152) (ih : CopyDoes n) : CopiesDo n := by
  intro l A c w hl hC hc
  have hlen := len_szEs l
  have HMem := As.mk (szE_mem l)
  have HC := As.mk (fun (W : World) (hb : Below w.heap.size w W) => Kd.C_below hC hb)
  have hll := hC.2.1
  have HI := As.mk ih
  have hB := Below.refl w.heap.size w
  have hR := Kd.R_nil k27 27 w w.heap.size tt
  have HL := As.mk hl
  clear hC ih hl
  go_enter Try.func62, Try.ntmps62
  go_wp2_with fail
  go_loopg [3, 8] l.length (fun g0 ov iv wr => ∃ (k : Nat) (D : Option Addr) (n0 cc : Nat), k + g0 = l.length ∧ iv = .int .i64 k ∧ ov = .slice D n0 cc ∧ As (Below w.heap.size w wr) ∧ As (k27.R 27 wr w.heap.size tt (.slice D n0 cc) (l.take k)))
  case atStart => exact ⟨0, none, 0, 0, by omega, rfl, rfl, ⟨hB⟩, ⟨hR⟩⟩
  case round =>
    clear hB hR
    obtain ⟨k, D, n0, cc, hk, rfl, rfl, HB, HR⟩ := hrel
    by_cases hlt : k < l.length
    · obtain ⟨x, hx⟩ : ∃ x, l[k]? = some x := ⟨_, List.getElem?_eq_getElem hlt⟩
      have HK := As.mk hk
      have HLm := As.mk (Nat.le_trans (HMem.out k x hx) HL.out)
      have HT := As.mk (take_snoc hx)
      obtain ⟨b, off, cs, rfl, hbl, hcl, hcK, hcell⟩ := C_lit (HC.out _ HB.out) (by decide) x hx
      obtain ⟨A3, c3, rfl, h3l, h3C⟩ := k27_open hcK
      have c0 := hcell 0 _ rfl
      have c1 := hcell 1 _ rfl
      have c2 := hcell 2 _ rfl
      have c3' := hcell 3 _ rfl
      simp only [show k27.sz = 4 from rfl, Nat.add_zero] at c0 c1 c2 c3'
      obtain ⟨f0, f1, f2, f3⟩ := x
      simp only at c0 c1 c2 c3' h3l h3C
      obtain ⟨W, hW⟩ : ∃ W, W = wr.alloc (.cells #[.int .i64 f0, .int .i64 f1, .string f2, .slice A3 f3.length c3] 27) := ⟨_, rfl⟩
      have HWb : As (Below wr.heap.size wr W) := ⟨by rw [hW]; exact (Below.refl _ _).alloc (Nat.le_refl _) _⟩
      have HCC := As.mk (HI.out ⟨f0, f1, f2, f3⟩ A3 c3 W HLm.out (Kd.C_below h3C HWb.out) h3l)
      have HW := As.mk hW.symm
      have hlk : (l.take k).length = k := by rw [List.length_take]; omega
      have HLk := As.mk hlk
      clear hk hx hcell h3C hW hlk hcK hcl
      go_wp2_with fail
      rw [HW.out]
      refine HCC.out.mono ?_
      rintro e w1 ⟨v2, rfl, hb1, hR2⟩
      obtain ⟨A', c', rfl⟩ := Kd.R_slice hR2
      have HB1 := As.mk (HWb.out.trans (Below.mono hb1 HWb.out.size))
      have HBw := As.mk (HB.out.trans (Below.mono HB1.out HB.out.size))
      have HR1 := As.mk (Kd.R_below HR.out HB1.out)
      have HM := As.mk (k27_mkM w1 w.heap.size (fun k => W.heap.size ≤ k) ⟨f0, f1, f2, f3⟩ (Kd.R_lower (Kd.R_mono (Kd.R_bound hR2) (ok' := fun k => W.heap.size ≤ k) (fun k hk => hk.2.1)) (Nat.le_trans HB.out.size HWb.out.size)))
      have HOk : As (∀ q, W.heap.size ≤ q → tt q ∧ some q ≠ (Value.slice D n0 cc).ownBlock) := ⟨fun q hq => ⟨trivial, fun e => by have := R_lt HR.out q e.symm; have := HWb.out.size; omega⟩⟩
      clear hb1 hR2 c0 c1 c2 c3'
      go_wp2_with (at_builtin; refine Kd.R_append k27 w.heap.size rfl (.tmp 12) (.tmp 15) 25 27 (.agg #[.int .i64 0, .int .i64 0, .string ⟨#[]⟩, .slice none 0 0]) 56 rfl Try.underlying25 infoE rfl (by decide) (by decide) (.slice D n0 cc) (l.take k) ⟨f0, f1, f2, f3⟩ _ tt (fun k => W.heap.size ≤ k) rfl rfl HM.out HOk.out (fun _ _ => trivial) HR1.out HBw.out HBw.out.size ?c1 ?c2)
      case c1 => have := HLk.out; have := HL.out; omega
      case c2 =>
        intro v1 w2 hR3 hB3 hg3 hat3
        rw [← HT.out] at hR3
        obtain ⟨D1, cc1, rfl⟩ := Kd.R_slice hR3
        have HR3 := As.mk hR3
        have HB3 := As.mk hB3
        clear hR3 hB3 hg3 hat3
        go_wp2_with fail
        go_roundg (gk - 1)
        case measure => have := HK.out; omega
        case rel => exact ⟨k + 1, _, _, _, by have := HK.out; omega, by go_num, rfl, HB3, HR3⟩
    · obtain rfl : k = l.length := by omega
      have HR2 := HR.out
      rw [List.take_length] at HR2
      have HRR := As.mk HR2
      clear HR HR2
      go_wp2_with fail
      go_ret
      exact ⟨_, rfl, HB.out, HRR.out⟩
/-- Copies and Copy of whatever is of bounded size. -/
theorem copy_all : ∀ n, n ≤ 2097152 → CopiesDo n ∧ CopyDoes n
  | 0, _ => by
    have h0 : CopyDoes 0 := fun x A c w hn _ _ => by have := szE_kids x; omega
    exact ⟨copies_step 0 (by omega) h0, h0⟩
  | n + 1, hn => by
    obtain ⟨h1, h2⟩ := copy_all n (by omega)
    have h3 := copy_step n h1
    exact ⟨copies_step (n + 1) hn h3, h3⟩
end Go.Proofs.Ytlkkibeoobognaa.OpenInlineTrees
