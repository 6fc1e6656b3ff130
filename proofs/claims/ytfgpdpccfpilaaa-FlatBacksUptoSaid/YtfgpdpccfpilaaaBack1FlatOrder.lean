/- Back of a list of one: the tree it was. -/
import Derived.Test.YtfgpdpccfpilaaaLaidFlatOrder
import Derived.Test.YtfgpdpccfpilaaaJumpsFlatOrder
set_option linter.unusedVariables false
namespace Go.Proofs.Ytfgpdpccfpilaaa.OpenFlatOrder
open Go.RowKit Go.Deep
open Go.Proofs.YtfgpdpccfpilaaaW.PrintWords Go.Proofs.YtfgpdpccfpilaaaW.PrintLast Go.Proofs.YtfgpdpccfpilaaaW.PrintMore Go.Proofs.Ytfgpdpccfpilaaa.PFlatOrder
def NodeDoes : Prop := ∀ (w : World) (y : S39) (A : Option Addr) (c : Nat) (B : Option Addr) (d : Nat) (h6 : szE y.f6 ≤ 2097152) (h7 : szEs y.f7 ≤ 2097152) (hA : y.f6.f3.length ≤ c) (gA : k24.C w A y.f6.f3.length y.f6.f3) (hB : y.f7.length ≤ d) (gB : k24.C w B y.f7.length y.f7),
    Calls Try.prog 20 #[.agg #[.int .i64 y.f0, .int .i64 y.f1, .int .i64 y.f2, .int .i64 y.f3, .int .i64 y.f4, .string y.f5, .int .i64 y.f6.f0, .int .i64 y.f6.f1, .string y.f6.f2, .slice A y.f6.f3.length c, .slice B y.f7.length d]] w fun e w' => ∃ A' c' B' d', e = .returned (.agg #[.int .i64 y.f0, .int .i64 y.f1, .int .i64 y.f2, .string y.f5, .int .i64 y.f6.f0, .int .i64 y.f6.f1, .string y.f6.f2, .slice A' y.f6.f3.length c', .slice none 0 0, .slice B' y.f7.length d']) ∧ Below w.heap.size w w' ∧
      k24.R 24 w' w.heap.size tt (.slice A' y.f6.f3.length c') y.f6.f3 ∧ k24.R 24 w' w.heap.size tt (.slice B' y.f7.length d') y.f7
theorem onto_ret {P : Program} {c : Code} {Q : Exit → Act → World → Prop} {n : Nat} {a : Act} {w : World} : Onto P c Q n .ret a w = Q .ret a w := by cases n <;> rfl
theorem infoR : (Try.prog.info? 48).map (fun i => (i.zero, i.size, i.bytes)) = some (some (.agg #[.int .i64 0, .int .i64 0, .int .i64 0, .int .i64 0, .string ⟨#[]⟩, .int .i64 0, .int .i64 0, .string ⟨#[]⟩, .slice none 0 0, .slice none 0 0, .slice none 0 0]), 11, 152) := by kernel_rfl
structure Rz where
  i : Int
  k : Int
  a : Int
  b : Int
  s : ByteArray
  e0 : Int
  e1 : Int
  e2 : ByteArray
  A : Option Addr
  n : Nat
  c : Nat
  B : Option Addr
  m : Nat
  d : Nat
def encR (r : Rz) : List Value := [.int .i64 r.i, .int .i64 r.k, .int .i64 r.a, .int .i64 r.b, .string r.s, .int .i64 r.e0, .int .i64 r.e1, .string r.e2, .slice r.A r.n r.c, .slice none 0 0, .slice r.B r.m r.d]
theorem encR_len (r : Rz) : (encR r).length = 11 := rfl
theorem one_R (r : Rz) : ∀ u ∈ encR r, u.oneCell' = true := by
  intro u hu
  simp only [encR, List.mem_cons, List.not_mem_nil, or_false] at hu
  rcases hu with rfl | rfl | rfl | rfl | rfl | rfl | rfl | rfl | rfl | rfl | rfl <;> rfl
set_option maxRecDepth 100000 in
set_option maxHeartbeats 12800000 in
theorem back_one (HND : NodeDoes) (w : World) (A : Option Addr) (c : Nat) (f0 f1 f2 : Int) (f5 : ByteArray) (f6 : S24) (f7 : List S24) (h6 : szE f6 ≤ 2097152) (h7 : szEs f7 ≤ 2097152) (hc : 1 ≤ c) (hC : k39.C w A 1 [⟨f0, f1, f2, 1, -1, f5, f6, f7⟩]) :
    Calls Try.prog 11 #[.slice A 1 c] w fun e w' => (∃ A' c' B' d', e = .returned (.tuple #[.agg #[.int .i64 f0, .int .i64 f1, .int .i64 f2, .string f5, .int .i64 f6.f0, .int .i64 f6.f1, .string f6.f2, .slice A' f6.f3.length c', .slice none 0 0, .slice B' f7.length d'], .bool true])) ∧ Below w.heap.size w w' := by
  obtain ⟨b, off, cs, rfl, hbl, hcl, hK, hcell⟩ := C_lit hC (by decide) _ rfl (k := 0)
  obtain ⟨A9, c9, A10, c10, rfl, l9, g9, l10, g10⟩ := k39_open hK
  simp only at l9 g9 l10 g10
  have HND2 := As.mk (fun (V : World) (hb : Below w.heap.size w V) => HND V ⟨f0, f1, f2, 1, -1, f5, f6, f7⟩ A9 c9 A10 c10 h6 h7 l9 (Kd.C_below g9 hb) l10 (Kd.C_below g10 hb))
  simp only at HND2
  obtain ⟨e0, e1, e2, e3⟩ := f6
  have u0 := hcell 0 _ rfl
  have u1 := hcell 1 _ rfl
  have u2 := hcell 2 _ rfl
  have u3 := hcell 3 _ rfl
  have u4 := hcell 4 _ rfl
  have u5 := hcell 5 _ rfl
  have u6 := hcell 6 _ rfl
  have u7 := hcell 7 _ rfl
  have u8 := hcell 8 _ rfl
  have u9 := hcell 9 _ rfl
  have u10 := hcell 10 _ rfl
  simp only [Nat.zero_mul, Nat.add_zero] at u0 u1 u2 u3 u4 u5 u6 u7 u8 u9 u10 HND2
  obtain ⟨q, hq⟩ : ∃ q, q = w.heap.size := ⟨_, rfl⟩
  obtain ⟨W, hW⟩ : ∃ W, W = w.alloc (.cells #[.int .i64 0, .int .i64 0, .int .i64 0, .string ⟨#[]⟩, .int .i64 0, .int .i64 0, .string ⟨#[]⟩, .slice none 0 0, .slice none 0 0, .slice none 0 0] 27) := ⟨_, rfl⟩
  have hS : At (fun _ => False) w W (Hp.seps [Hp.blk q #[.int .i64 0, .int .i64 0, .int .i64 0, .string ⟨#[]⟩, .int .i64 0, .int .i64 0, .string ⟨#[]⟩, .slice none 0 0, .slice none 0 0, .slice none 0 0] 27]) := by
    rw [hW, hq]
    exact (At.start0 (Below.refl w.heap.size w)).alloc _ 27
  have HU := As.mk (fun (V : World) (hb : Below w.heap.size w V) (j : Nat) => hb.cell (p := ⟨b, off + j, none⟩) hbl)
  have v0 := (HU.out W hS.bl 0).trans u0
  have v1 := (HU.out W hS.bl 1).trans u1
  have v2 := (HU.out W hS.bl 2).trans u2
  have v3 := (HU.out W hS.bl 3).trans u3
  have v4 := (HU.out W hS.bl 4).trans u4
  have v5 := (HU.out W hS.bl 5).trans u5
  have v6 := (HU.out W hS.bl 6).trans u6
  have v7 := (HU.out W hS.bl 7).trans u7
  have v8 := (HU.out W hS.bl 8).trans u8
  have v9 := (HU.out W hS.bl 9).trans u9
  have v10 := (HU.out W hS.bl 10).trans u10
  simp only [Nat.add_zero] at v0
  have HW := As.mk (⟨hW.symm, hq.symm⟩ : _ ∧ _)
  have U3 := As.mk u3
  clear hC hK hcell l9 g9 l10 g10 hW hq hcl u0 u1 u2 u3 u4 u5 u6 u7 u8 u9 u10 h6 h7 HND
  go_enter Try.func11, Try.ntmps11
  go_wp2_with fail
  rw [HW.out.1, HW.out.2]
  refine wp_scope_onto 2 ?_
  go_hide hO
  go_wp2_with fail
  go_step3
  go_wp2_with fail
  go_quiet (fail)
  go_wp2_with fail
  refine (HND2.out _ (hS.below (by repeat (first | exact Below.refl _ _ | refine bl_drewN ?_ _ | refine Below.drew ?_ | refine bl_alloc ?_ _ | refine bl_set ?_ (by first | (simp; done) | omega | (simp; omega)) _))).bl).mono ?_
  rintro e w1 ⟨A', c', B', d', rfl, hb, _, _⟩
  have hS1 := ((hS.below (by repeat (first | exact Below.refl _ _ | refine bl_drewN ?_ _ | refine Below.drew ?_ | refine bl_alloc ?_ _ | refine bl_set ?_ (by first | (simp; done) | omega | (simp; omega)) _))).below hb).nilRow 48 11 encR
  clear hb hS v0 v1 v2 v3 v4 v5 v6 v7 v8 v9 v10
  go_wp2_with (at_builtin; refine rw_append rfl (.tmp 63) (.tmp 71) 45 48 11 encR (.agg #[.int .i64 0, .int .i64 0, .int .i64 0, .int .i64 0, .string ⟨#[]⟩, .int .i64 0, .int .i64 0, .string ⟨#[]⟩, .slice none 0 0, .slice none 0 0, .slice none 0 0]) 152 rfl Try.underlying45 infoR rfl (by decide) (.slice none 0 0) ([] : List Rz) ⟨0, f0, f1, f2, f5, e0, e1, e2, A', e3.length, c', B', f7.length, d'⟩ rfl _ rfl (by first | exact blk_new (by simp) | exact blk_new_drew (by simp)) ((hS1.below (by repeat (first | exact Below.refl _ _ | refine bl_drewN ?_ _ | refine Below.drew ?_ | refine bl_alloc ?_ _ | refine bl_set ?_ (by first | (simp; done) | omega | (simp; omega)) _))).rowAt 0 rfl) encR_len (one_R _) ?c1 ?c2 ?c3)
  case c1 => simp [maxLen]
  case c2 => simp
  case c3 =>
    intro v1 w2 hA
    obtain ⟨g, cap, rfl⟩ := hA.form
    have hS2 := At.appendAt 0 hA hS1 rfl (by repeat (first | exact Below.refl _ _ | refine bl_drewN ?_ _ | refine Below.drew ?_ | refine bl_alloc ?_ _ | refine bl_set ?_ (by first | (simp; done) | omega | (simp; omega)) _))
    clear hA hS1
    simp only [List.nil_append, List.length_nil, Nat.zero_add] at hS2 ⊢
    have v3 := (HU.out w2 hS2.bl 3).trans U3.out
    go_wp2_with fail
    go_loopg [4, 6] 0 (fun g0 v4 v6 wr => v4 = .slice (some ⟨g, 0, none⟩) 1 cap ∧ v6 = .int .i64 0 ∧ wr = w2)
    case atStart => exact ⟨rfl, rfl, rfl⟩
    case round =>
      obtain ⟨rfl, rfl, rfl⟩ := hrel
      go_wp2_with fail
      go_step3
      subst hO
      refine ⟨_, rfl, ?_⟩
      go_hide hO2
      have r0 := ((hS2.rowAt 0 rfl).at_ encR_len 0 _ rfl 0 (by omega)).1
      have r1 := ((hS2.rowAt 0 rfl).at_ encR_len 0 _ rfl 1 (by omega)).1
      have r2 := ((hS2.rowAt 0 rfl).at_ encR_len 0 _ rfl 2 (by omega)).1
      have r3 := ((hS2.rowAt 0 rfl).at_ encR_len 0 _ rfl 3 (by omega)).1
      have r4 := ((hS2.rowAt 0 rfl).at_ encR_len 0 _ rfl 4 (by omega)).1
      have r5 := ((hS2.rowAt 0 rfl).at_ encR_len 0 _ rfl 5 (by omega)).1
      have r6 := ((hS2.rowAt 0 rfl).at_ encR_len 0 _ rfl 6 (by omega)).1
      have r7 := ((hS2.rowAt 0 rfl).at_ encR_len 0 _ rfl 7 (by omega)).1
      have r8 := ((hS2.rowAt 0 rfl).at_ encR_len 0 _ rfl 8 (by omega)).1
      have r9 := ((hS2.rowAt 0 rfl).at_ encR_len 0 _ rfl 9 (by omega)).1
      have r10 := ((hS2.rowAt 0 rfl).at_ encR_len 0 _ rfl 10 (by omega)).1
      simp only [encR, Nat.zero_mul, Nat.zero_add, List.getElem?_cons_zero, List.getElem?_cons_succ] at r0 r1 r2 r3 r4 r5 r6 r7 r8 r9 r10
      have q0 := (hS2.cellAt 1 rfl 0).trans rfl
      have q1 := (hS2.cellAt 1 rfl 1).trans rfl
      have q2 := (hS2.cellAt 1 rfl 2).trans rfl
      have q3 := (hS2.cellAt 1 rfl 3).trans rfl
      have q4 := (hS2.cellAt 1 rfl 4).trans rfl
      have q5 := (hS2.cellAt 1 rfl 5).trans rfl
      have q6 := (hS2.cellAt 1 rfl 6).trans rfl
      have q7 := (hS2.cellAt 1 rfl 7).trans rfl
      have q8 := (hS2.cellAt 1 rfl 8).trans rfl
      have q9 := (hS2.cellAt 1 rfl 9).trans rfl
      have qf0 := hS2.frozenAt 1 rfl 0
      have qf1 := hS2.frozenAt 1 rfl 1
      have qf2 := hS2.frozenAt 1 rfl 2
      have qf3 := hS2.frozenAt 1 rfl 3
      have qf4 := hS2.frozenAt 1 rfl 4
      have qf5 := hS2.frozenAt 1 rfl 5
      have qf6 := hS2.frozenAt 1 rfl 6
      have qf7 := hS2.frozenAt 1 rfl 7
      have qf8 := hS2.frozenAt 1 rfl 8
      have qf9 := hS2.frozenAt 1 rfl 9
      have qlt := hS2.ltAt 1 rfl
      have hne := hS2.neGB 0 1 rfl rfl (by decide)
      have hne' := hne.symm
      go_wp2_with fail
      go_step3
      subst hO2
      refine ⟨_, rfl, ?_⟩
      go_hide hO3
      go_wp2_with fail
      subst hO3
      rw [onto_ret]
      refine bodyPost_ret (v := .tuple #[.agg #[.int .i64 f0, .int .i64 f1, .int .i64 f2, .string f5, .int .i64 e0, .int .i64 e1, .string e2, .slice A' e3.length c', .slice none 0 0, .slice B' f7.length d'], .bool true]) (by simp [results, Try.results11, go_sem, q0, q1, q2, q3, q4, q5, q6, q7, q8, q9]) rfl ⟨⟨A', c', B', d', rfl⟩, ?_⟩
      have hw := Nat.le_of_eq HW.out.2
      exact bl_set (bl_set (bl_set (bl_set (bl_set (bl_set (bl_set (bl_set (bl_set (bl_set hS2.bl hw _) hw _) hw _) hw _) hw _) hw _) hw _) hw _) hw _) hw _
end Go.Proofs.Ytfgpdpccfpilaaa.OpenFlatOrder
