/- Back: what it tells of any flat list is what the machine tells. -/
import Derived.Test.YtfgpdpccfpilaaaBk2FlatOrder
set_option linter.unusedVariables false
set_option linter.unusedSimpArgs false
namespace Go.Proofs.Ytfgpdpccfpilaaa.OpenFlatOrder
open Go.RowKit Go.Deep
open Go.Proofs.YtfgpdpccfpilaaaW.PrintWords Go.Proofs.YtfgpdpccfpilaaaW.PrintLast Go.Proofs.YtfgpdpccfpilaaaW.PrintMore Go.Proofs.Ytfgpdpccfpilaaa.PFlatOrder
def Jm (St : Nat → Act → World → Prop) (n l m : Nat) (a : Act) (w : World) : Prop := (l = 1 ∧ ∃ k, k ≤ n ∧ m + k = n + 1 ∧ St k a w) ∨ (l = 0 ∧ m = 0 ∧ St n a w)
theorem wp_two_gotos {P : Program} {c X Y : Code} {Q : Exit → Act → World → Prop} {a : Act} {w : World} (St : Nat → Act → World → Prop) (n : Nat) (hb : findLabel c 1 = some (.seq .skip X)) (ho : findLabel c 0 = some (.seq .skip Y))
    (pX : ∀ k a w, k ≤ n → St k a w → X.wp P (Gj (Jm St n) (n + 1 - k) Q) a w) (pY : ∀ a w, St n a w → Y.wp P (Gj (Jm St n) 0 Q) a w)
    (first : (∀ a w, St 0 a w → X.wp P (Gj (Jm St n) (n + 1) Q) a w) → c.wp P (Gj (Jm St n) (n + 1) Q) a w) : (Code.scope c).wp P Q a w := by
  refine wp_scope_gotos (Jm St n) (n + 1) (first fun a w h => ?_) fun l m a w hJ => ?_
  · have h1 := pX 0 a w (Nat.zero_le _) h
    rwa [Nat.sub_zero] at h1
  · rcases hJ with ⟨rfl, k, hk, hm, hS⟩ | ⟨rfl, rfl, hS⟩
    · refine ⟨_, hb, wp_seq (wp_skip ?_)⟩
      obtain rfl : m = n + 1 - k := by omega
      exact pX k a w hk hS
    · exact ⟨_, ho, wp_seq (wp_skip (pY a w hS))⟩
/-- What stands at the labels. -/
structure Bst (w0 : World) (A : Option Addr) (c q : Nat) (l : List S39) (at_ : Nat) (a : Act) (w : World) : Prop where
  out : ∃ (u : Nat → Value) (fs : List Fr) (v : Value), a = ⟨#[u 0, u 1, u 2, u 3, u 4, u 5, u 6, u 7, u 8, u 9, u 10, u 11, u 12, u 13, u 14, u 15, u 16, u 17, u 18, u 19, u 20, u 21, u 22, u 23, u 24, u 25, u 26, u 27, u 28, u 29, u 30, u 31, u 32, u 33, u 34, u 35, u 36, u 37, u 38, u 39, u 40, u 41, u 42, u 43, u 44, u 45, u 46, u 47, u 48, u 49, u 50, u 51, u 52, u 53, u 54, u 55, u 56, u 57, u 58, u 59, u 60, u 61, u 62, u 63, u 64, u 65, u 66, u 67, u 68, u 69, u 70, u 71, u 72, u 73, u 74, u 75, u 76, u 77, u 78, u 79, u 80, u 81, u 82, u 83, u 84, u 85, u 86, u 87, u 88, u 89, u 90, u 91, u 92, u 93, u 94, u 95, u 96, u 97, u 98, u 99, u 100, u 101, u 102, u 103, u 104, u 105, u 106, u 107, u 108, u 109, u 110, u 111, u 112], []⟩ ∧ u 0 = .slice A l.length c ∧ u 2 = .pointer (some ⟨q, 0, none⟩) ∧ u 4 = v ∧ u 5 = .int .i64 at_ ∧ u 6 = .int .i64 (topI (absF fs)) ∧ u 7 = .int .i64 l.length ∧
    As (runB l at_ = some (absF fs)) ∧ As (tot (absF fs) ≤ at_ ∧ ∀ o ∈ fs, o.i < at_) ∧ At (fun _ => False) w0 w (Hp.seps [Hp.row 48 11 encF v fs.reverse, frs fs, Hp.blk q #[.int .i64 0, .int .i64 0, .int .i64 0, .string ⟨#[]⟩, .int .i64 0, .int .i64 0, .string ⟨#[]⟩, .slice none 0 0, .slice none 0 0, .slice none 0 0] 27])
theorem bst_mk {w0 : World} {A : Option Addr} {c q : Nat} {l : List S39} {at_ : Nat} {w : World} (a : Act) (fs : List Fr) (v : Value) (ha : a = ⟨#[a.tmps.getD 0 undef, a.tmps.getD 1 undef, a.tmps.getD 2 undef, a.tmps.getD 3 undef, a.tmps.getD 4 undef, a.tmps.getD 5 undef, a.tmps.getD 6 undef, a.tmps.getD 7 undef, a.tmps.getD 8 undef, a.tmps.getD 9 undef, a.tmps.getD 10 undef, a.tmps.getD 11 undef, a.tmps.getD 12 undef, a.tmps.getD 13 undef, a.tmps.getD 14 undef, a.tmps.getD 15 undef, a.tmps.getD 16 undef, a.tmps.getD 17 undef, a.tmps.getD 18 undef, a.tmps.getD 19 undef, a.tmps.getD 20 undef, a.tmps.getD 21 undef, a.tmps.getD 22 undef, a.tmps.getD 23 undef, a.tmps.getD 24 undef, a.tmps.getD 25 undef, a.tmps.getD 26 undef, a.tmps.getD 27 undef, a.tmps.getD 28 undef, a.tmps.getD 29 undef, a.tmps.getD 30 undef, a.tmps.getD 31 undef, a.tmps.getD 32 undef, a.tmps.getD 33 undef, a.tmps.getD 34 undef, a.tmps.getD 35 undef, a.tmps.getD 36 undef, a.tmps.getD 37 undef, a.tmps.getD 38 undef, a.tmps.getD 39 undef, a.tmps.getD 40 undef, a.tmps.getD 41 undef, a.tmps.getD 42 undef, a.tmps.getD 43 undef, a.tmps.getD 44 undef, a.tmps.getD 45 undef, a.tmps.getD 46 undef, a.tmps.getD 47 undef, a.tmps.getD 48 undef, a.tmps.getD 49 undef, a.tmps.getD 50 undef, a.tmps.getD 51 undef, a.tmps.getD 52 undef, a.tmps.getD 53 undef, a.tmps.getD 54 undef, a.tmps.getD 55 undef, a.tmps.getD 56 undef, a.tmps.getD 57 undef, a.tmps.getD 58 undef, a.tmps.getD 59 undef, a.tmps.getD 60 undef, a.tmps.getD 61 undef, a.tmps.getD 62 undef, a.tmps.getD 63 undef, a.tmps.getD 64 undef, a.tmps.getD 65 undef, a.tmps.getD 66 undef, a.tmps.getD 67 undef, a.tmps.getD 68 undef, a.tmps.getD 69 undef, a.tmps.getD 70 undef, a.tmps.getD 71 undef, a.tmps.getD 72 undef, a.tmps.getD 73 undef, a.tmps.getD 74 undef, a.tmps.getD 75 undef, a.tmps.getD 76 undef, a.tmps.getD 77 undef, a.tmps.getD 78 undef, a.tmps.getD 79 undef, a.tmps.getD 80 undef, a.tmps.getD 81 undef, a.tmps.getD 82 undef, a.tmps.getD 83 undef, a.tmps.getD 84 undef, a.tmps.getD 85 undef, a.tmps.getD 86 undef, a.tmps.getD 87 undef, a.tmps.getD 88 undef, a.tmps.getD 89 undef, a.tmps.getD 90 undef, a.tmps.getD 91 undef, a.tmps.getD 92 undef, a.tmps.getD 93 undef, a.tmps.getD 94 undef, a.tmps.getD 95 undef, a.tmps.getD 96 undef, a.tmps.getD 97 undef, a.tmps.getD 98 undef, a.tmps.getD 99 undef, a.tmps.getD 100 undef, a.tmps.getD 101 undef, a.tmps.getD 102 undef, a.tmps.getD 103 undef, a.tmps.getD 104 undef, a.tmps.getD 105 undef, a.tmps.getD 106 undef, a.tmps.getD 107 undef, a.tmps.getD 108 undef, a.tmps.getD 109 undef, a.tmps.getD 110 undef, a.tmps.getD 111 undef, a.tmps.getD 112 undef], []⟩) (h0 : a.tmps.getD 0 undef = .slice A l.length c) (h2 : a.tmps.getD 2 undef = .pointer (some ⟨q, 0, none⟩)) (h4 : a.tmps.getD 4 undef = v) (h5 : a.tmps.getD 5 undef = .int .i64 at_)
    (h6 : a.tmps.getD 6 undef = .int .i64 (topI (absF fs))) (h7 : a.tmps.getD 7 undef = .int .i64 l.length) (h8 : As (runB l at_ = some (absF fs))) (h9 : As (tot (absF fs) ≤ at_ ∧ ∀ o ∈ fs, o.i < at_)) (h10 : At (fun _ => False) w0 w (Hp.seps [Hp.row 48 11 encF v fs.reverse, frs fs, Hp.blk q #[.int .i64 0, .int .i64 0, .int .i64 0, .string ⟨#[]⟩, .int .i64 0, .int .i64 0, .string ⟨#[]⟩, .slice none 0 0, .slice none 0 0, .slice none 0 0] 27])) : Bst w0 A c q l at_ a w :=
  ⟨fun k => a.tmps.getD k undef, fs, v, ha, h0, h2, h4, h5, h6, h7, h8, h9, h10⟩
theorem At.callL {F0 : Nat → Prop} {w0 w : World} (l1 : List Hp) {l2 : List Hp} (h : At F0 w0 w (Hp.seps (l1 ++ l2))) {P : Program} {f : FuncId} {args : Array Value} {Rel : Ending → Hp → Prop} (d : Does P f args (Hp.seps l1) Rel) :
    Calls P f args w (fun e w' => ∃ B0, Rel e B0 ∧ At F0 w0 w' (B0.sep (Hp.seps l2))) := (h.map fun _ _ => At.seps_split l1 l2 _).call d
theorem tot_len : ∀ (fs : List Fr), fs.length ≤ tot (absF fs)
  | [] => Nat.le_refl _
  | o :: r => by have := tot_len r; simp only [absF, List.map_cons, tot, List.length_cons] at this ⊢; omega
theorem topI_cons (o : Fr) (r : List Fr) : topI (absF (o :: r)) = (o.i : Int) := rfl
theorem rev2 (t b : Fr) (r : List Fr) : (t :: b :: r).reverse = r.reverse ++ [b, t] := by simp
theorem step_bad1 {l : List S39} {k : Nat} {S : Stk} {y : S39} (hr : runB l k = some S) (hy : l[k]? = some y) (h : bad1 l k y S = true) : backB l = none := by
  have hk := (List.getElem?_eq_some_iff.1 hy).1
  refine backB_none l (k + 1) (by omega) ?_
  rw [runB, hr, Option.bind_some, stepB, hy]
  simp only [h, if_true]
theorem step_bad2 {l : List S39} {k : Nat} {S : Stk} {y : S39} (hr : runB l k = some S) (hy : l[k]? = some y) (h : bad1 l k y S = false) (h2 : bad2 l y S = true) : backB l = none := by
  have hk := (List.getElem?_eq_some_iff.1 hy).1
  refine backB_none l (k + 1) (by omega) ?_
  rw [runB, hr, Option.bind_some, stepB, hy]
  simp [h, h2]
theorem step_good {l : List S39} {k : Nat} {S : Stk} {y : S39} (hr : runB l k = some S) (hy : l[k]? = some y) (h : bad1 l k y S = false) (h2 : bad2 l y S = false) : runB l (k + 1) = some (popw l (k + 1) (S.length + 1) ((k, nodeOf y) :: S)) := by
  rw [runB, hr, Option.bind_some, stepB, hy]
  simp [h, h2]
def BackPost (w : World) (l : List S39) (e : Ending) (w' : World) : Prop :=
  (backB l = none ∧ e = .returned (.tuple #[.agg #[.int .i64 0, .int .i64 0, .int .i64 0, .string ⟨#[]⟩, .int .i64 0, .int .i64 0, .string ⟨#[]⟩, .slice none 0 0, .slice none 0 0, .slice none 0 0], .bool false]) ∧ Below w.heap.size w w') ∨ (∃ x cs, backB l = some x ∧ e = .returned (.tuple #[.agg cs.toArray, .bool true]) ∧ At (fun _ => False) w w' (Hp.seps [hkm k27 x cs]))
set_option maxRecDepth 100000 in
set_option maxHeartbeats 25600000 in
theorem back_does (w : World) (A : Option Addr) (c : Nat) (l : List S39) (hl : l.length ≤ 1000000) (hc : l.length ≤ c) (hC : k39.C w A l.length l) (hsz : ∀ y ∈ l, szE y.f6 ≤ 2097152 ∧ szEs y.f7 ≤ 2097152) :
    Calls Try.prog 11 #[.slice A l.length c] w fun e w' => BackPost w l e w' := by
  have HL := As.mk (⟨hl, hc⟩ : _ ∧ _)
  have HC := As.mk hC
  have HZ := As.mk hsz
  clear hl hc hC hsz
  have hS := At.start0 (Below.refl w.heap.size w)
  have hS := hS.alloc #[.int .i64 0, .int .i64 0, .int .i64 0, .string ⟨#[]⟩, .int .i64 0, .int .i64 0, .string ⟨#[]⟩, .slice none 0 0, .slice none 0 0, .slice none 0 0] 27
  obtain ⟨q0, hq0⟩ : ∃ q, q = w.heap.size := ⟨_, rfl⟩
  obtain ⟨W0, hW0⟩ : ∃ V, V = w.alloc (.cells #[.int .i64 0, .int .i64 0, .int .i64 0, .string ⟨#[]⟩, .int .i64 0, .int .i64 0, .string ⟨#[]⟩, .slice none 0 0, .slice none 0 0, .slice none 0 0] 27) := ⟨_, rfl⟩
  rw [← hq0, ← hW0] at hS
  have Hq : As (w.alloc (.cells #[.int .i64 0, .int .i64 0, .int .i64 0, .string ⟨#[]⟩, .int .i64 0, .int .i64 0, .string ⟨#[]⟩, .slice none 0 0, .slice none 0 0, .slice none 0 0] 27) = W0 ∧ w.heap.size = q0) := ⟨hW0.symm, hq0.symm⟩
  clear hq0 hW0
  go_enter Try.func11, Try.ntmps11
  go_wp2_with fail
  rw [Hq.out.1, Hq.out.2]
  refine wp_two_gotos (Bst w A c q0 l) l.length (by exact rfl) (by exact rfl) ?pX ?pY ?first
  case first =>
    intro hX
    have HX := As.mk hX
    clear hX
    go_hide hG
    go_upto_region 4 with fail
    go_cut [7] (fun v wc => v = .int .i64 l.length ∧ wc = W0)
    case first =>
      go_wp2_with fail
      go_meet
      exact ⟨rfl, rfl⟩
    case rest =>
      obtain ⟨rfl, rfl⟩ := hcut

      apply_assumption
      subst hG
      refine wp_seq (wp_label ?_)
      refine HX.out _ _ (bst_mk _ [] (.slice none 0 0) rfl rfl rfl rfl rfl rfl rfl ⟨rfl⟩ ⟨⟨Nat.le_refl _, by simp⟩⟩ ?_)
      exact ((At.new_emp hS).nilRow 48 11 encF)
  case pY =>
    intro a wr hst
    obtain ⟨u, fs, v, rfl, h0, h2, h4, h5, h6, h7, HR, HT, hS⟩ := hst.out
    rw [h0, h2, h4, h5, h6, h7]
    clear h0 h2 h4 h5 h6 h7 hst
    generalize u 1 = x1, u 3 = x3, u 8 = x8, u 9 = x9, u 10 = x10, u 11 = x11, u 12 = x12, u 13 = x13, u 14 = x14, u 15 = x15, u 16 = x16, u 17 = x17, u 18 = x18, u 19 = x19, u 20 = x20, u 21 = x21, u 22 = x22, u 23 = x23, u 24 = x24, u 25 = x25, u 26 = x26, u 27 = x27, u 28 = x28, u 29 = x29, u 30 = x30, u 31 = x31, u 32 = x32, u 33 = x33, u 34 = x34, u 35 = x35, u 36 = x36, u 37 = x37, u 38 = x38, u 39 = x39, u 40 = x40, u 41 = x41, u 42 = x42, u 43 = x43, u 44 = x44, u 45 = x45, u 46 = x46, u 47 = x47, u 48 = x48, u 49 = x49, u 50 = x50, u 51 = x51, u 52 = x52, u 53 = x53, u 54 = x54, u 55 = x55, u 56 = x56, u 57 = x57, u 58 = x58, u 59 = x59, u 60 = x60, u 61 = x61, u 62 = x62, u 63 = x63, u 64 = x64, u 65 = x65, u 66 = x66, u 67 = x67, u 68 = x68, u 69 = x69, u 70 = x70, u 71 = x71, u 72 = x72, u 73 = x73, u 74 = x74, u 75 = x75, u 76 = x76, u 77 = x77, u 78 = x78, u 79 = x79, u 80 = x80, u 81 = x81, u 82 = x82, u 83 = x83, u 84 = x84, u 85 = x85, u 86 = x86, u 87 = x87, u 88 = x88, u 89 = x89, u 90 = x90, u 91 = x91, u 92 = x92, u 93 = x93, u 94 = x94, u 95 = x95, u 96 = x96, u 97 = x97, u 98 = x98, u 99 = x99, u 100 = x100, u 101 = x101, u 102 = x102, u 103 = x103, u 104 = x104, u 105 = x105, u 106 = x106, u 107 = x107, u 108 = x108, u 109 = x109, u 110 = x110, u 111 = x111, u 112 = x112
    clear u
    generalize topI (absF fs) = tp
    have HW := As.mk Hq.out.2
    have hw := Nat.le_of_eq HW.out
    clear Hq
    go_hide hG
    cases fs with
    | nil =>
      obtain ⟨A1, c1, rfl, _, _⟩ := (hS.rowAt 0 rfl).shape
      have z0 := (hS.cellAt 2 rfl 0).trans rfl
      have z1 := (hS.cellAt 2 rfl 1).trans rfl
      have z2 := (hS.cellAt 2 rfl 2).trans rfl
      have z3 := (hS.cellAt 2 rfl 3).trans rfl
      have z4 := (hS.cellAt 2 rfl 4).trans rfl
      have z5 := (hS.cellAt 2 rfl 5).trans rfl
      have z6 := (hS.cellAt 2 rfl 6).trans rfl
      have z7 := (hS.cellAt 2 rfl 7).trans rfl
      have z8 := (hS.cellAt 2 rfl 8).trans rfl
      have z9 := (hS.cellAt 2 rfl 9).trans rfl
      have zf0 := hS.frozenAt 2 rfl 0
      have zf1 := hS.frozenAt 2 rfl 1
      have zf2 := hS.frozenAt 2 rfl 2
      have zf3 := hS.frozenAt 2 rfl 3
      have zf4 := hS.frozenAt 2 rfl 4
      have zf5 := hS.frozenAt 2 rfl 5
      have zf6 := hS.frozenAt 2 rfl 6
      have zf7 := hS.frozenAt 2 rfl 7
      have zf8 := hS.frozenAt 2 rfl 8
      have zf9 := hS.frozenAt 2 rfl 9
      have zlt := hS.ltAt 2 rfl
      simp only [List.reverse_nil, List.length_nil]
      go_wp2_with fail
      subst hG
      rw [gj_ret]
      refine bodyPost_ret (v := .tuple #[.agg #[.int .i64 0, .int .i64 0, .int .i64 0, .string ⟨#[]⟩, .int .i64 0, .int .i64 0, .string ⟨#[]⟩, .slice none 0 0, .slice none 0 0, .slice none 0 0], .bool false]) (by simp [results, Try.results11, go_sem, z0, z1, z2, z3, z4, z5, z6, z7, z8, z9]) rfl (.inl ⟨?_, rfl, (bl_set (bl_set (bl_set (bl_set (bl_set (bl_set (bl_set (bl_set (bl_set (bl_set hS.bl hw _) hw _) hw _) hw _) hw _) hw _) hw _) hw _) hw _) hw _)⟩)
      unfold backB
      rw [HR.out]
      rfl
    | cons o r =>
      cases r with
      | nil =>
        obtain ⟨A1, c1, rfl, _, _⟩ := (hS.rowAt 0 rfl).shape
        have hn : o.i < l.length := HT.out.2 o (by simp)
        obtain ⟨y, hy⟩ : ∃ y, l[0]? = some y := ⟨_, List.getElem?_eq_getElem (show 0 < l.length by omega)⟩
        obtain ⟨b, off, cs, rfl, hbl, hcl, hK, hcell⟩ := C_lit (Kd.C_below HC.out hS.bl) (by decide) y hy
        obtain ⟨A9, c9, A10, c10, rfl, l9, g9, l10, g10⟩ := k39_open hK
        have y3 := hcell 3 _ rfl
        simp only [Nat.zero_mul, Nat.add_zero] at y3
        have hE : As (endI l 0 = y.f3) := ⟨by unfold endI; rw [hy]⟩
        have hpos : (0 : Int) < (l.length : Int) := by omega
        have hpos2 : 0 < l.length := by omega
        clear hcell hK g9 g10 l9 l10 hcl
        have z0 := (hS.cellAt 2 rfl 0).trans rfl
        have z1 := (hS.cellAt 2 rfl 1).trans rfl
        have z2 := (hS.cellAt 2 rfl 2).trans rfl
        have z3 := (hS.cellAt 2 rfl 3).trans rfl
        have z4 := (hS.cellAt 2 rfl 4).trans rfl
        have z5 := (hS.cellAt 2 rfl 5).trans rfl
        have z6 := (hS.cellAt 2 rfl 6).trans rfl
        have z7 := (hS.cellAt 2 rfl 7).trans rfl
        have z8 := (hS.cellAt 2 rfl 8).trans rfl
        have z9 := (hS.cellAt 2 rfl 9).trans rfl
        have zf0 := hS.frozenAt 2 rfl 0
        have zf1 := hS.frozenAt 2 rfl 1
        have zf2 := hS.frozenAt 2 rfl 2
        have zf3 := hS.frozenAt 2 rfl 3
        have zf4 := hS.frozenAt 2 rfl 4
        have zf5 := hS.frozenAt 2 rfl 5
        have zf6 := hS.frozenAt 2 rfl 6
        have zf7 := hS.frozenAt 2 rfl 7
        have zf8 := hS.frozenAt 2 rfl 8
        have zf9 := hS.frozenAt 2 rfl 9
        have zlt := hS.ltAt 2 rfl
        simp only [List.reverse_cons, List.reverse_nil, List.nil_append, List.length_cons, List.length_nil, Nat.zero_add]
        by_cases he : y.f3 = (l.length : Int)
        · have t0 : (y.f3 != (l.length : Int)) = false := by simpa using he
          have HB : As (backB l = some o.x) := ⟨by unfold backB; rw [HR.out]; simp only [absF, List.map]; rw [if_pos (by rw [hE.out]; exact he)]⟩
          clear he
          obtain ⟨g, e, hgl, hcell⟩ := (hS.rowAt 0 rfl).cell encF_len 0 o rfl
          obtain rfl := e
          have e1 := (hcell 1 (by omega)).1
          have e2 := (hcell 2 (by omega)).1
          have e3 := (hcell 3 (by omega)).1
          have e4 := (hcell 4 (by omega)).1
          have e5 := (hcell 5 (by omega)).1
          have e6 := (hcell 6 (by omega)).1
          have e7 := (hcell 7 (by omega)).1
          have e8 := (hcell 8 (by omega)).1
          have e9 := (hcell 9 (by omega)).1
          have e10 := (hcell 10 (by omega)).1
          simp only [encF, Nat.zero_mul, Nat.zero_add, List.getElem?_cons_zero, List.getElem?_cons_succ] at e1 e2 e3 e4 e5 e6 e7 e8 e9 e10
          have hne := hS.neGB 0 2 rfl rfl (by decide)
          have hne' := hne.symm
          clear hcell
          go_wp2_with fail
          subst hG
          rw [gj_ret]
          refine bodyPost_ret (v := .tuple #[.agg (nodC o).toArray, .bool true]) (by simp [results, Try.results11, go_sem, nodC, z0, z1, z2, z3, z4, z5, z6, z7, z8, z9]) rfl (.inr ⟨o.x, nodC o, HB.out, rfl, ?_⟩)
          have hS2 := (((((((((((hS.setBlkAt 2 rfl 0 (.int .i64 o.x.f0)).setBlkAt 2 rfl 1 (.int .i64 o.x.f1)).setBlkAt 2 rfl 2 (.int .i64 o.x.f2)).setBlkAt 2 rfl 3 (.string o.x.f3)).setBlkAt 2 rfl 4 (.int .i64 o.x.f4.f0)).setBlkAt 2 rfl 5 (.int .i64 o.x.f4.f1)).setBlkAt 2 rfl 6 (.string o.x.f4.f2)).setBlkAt 2 rfl 7 (.slice o.A o.x.f4.f3.length o.c)).setBlkAt 2 rfl 8 (.slice o.B o.x.f5.length o.d)).setBlkAt 2 rfl 9 (.slice o.C o.x.f6.length o.q)).sel [1])
          exact ((At.frs_open hS2).fold2 (fr_close o)).takes (l1 := [_])
        · have t0 : (y.f3 != (l.length : Int)) = true := by simpa using he
          have HB : As (backB l = none) := ⟨by unfold backB; rw [HR.out]; simp only [absF, List.map]; rw [if_neg (by rw [hE.out]; exact he)]⟩
          clear he
          go_wp2_with fail
          subst hG
          rw [gj_ret]
          exact bodyPost_ret (v := .tuple #[.agg #[.int .i64 0, .int .i64 0, .int .i64 0, .string ⟨#[]⟩, .int .i64 0, .int .i64 0, .string ⟨#[]⟩, .slice none 0 0, .slice none 0 0, .slice none 0 0], .bool false]) (by simp [results, Try.results11, go_sem, z0, z1, z2, z3, z4, z5, z6, z7, z8, z9]) rfl (.inl ⟨HB.out, rfl, (bl_set (bl_set (bl_set (bl_set (bl_set (bl_set (bl_set (bl_set (bl_set (bl_set hS.bl hw _) hw _) hw _) hw _) hw _) hw _) hw _) hw _) hw _) hw _)⟩)
      | cons o2 r =>
        obtain ⟨A1, c1, rfl, _, _⟩ := (hS.rowAt 0 rfl).shape
        have t0 : (((o :: o2 :: r).reverse.length : Nat) : Int) = (r.length + 2 : Nat) := by simp
        have t1 : (((r.length + 2 : Nat) : Int) != 1) = true := by simp; omega
        have HB : As (backB l = none) := ⟨by unfold backB; rw [HR.out]; rfl⟩
        have z0 := (hS.cellAt 2 rfl 0).trans rfl
        have z1 := (hS.cellAt 2 rfl 1).trans rfl
        have z2 := (hS.cellAt 2 rfl 2).trans rfl
        have z3 := (hS.cellAt 2 rfl 3).trans rfl
        have z4 := (hS.cellAt 2 rfl 4).trans rfl
        have z5 := (hS.cellAt 2 rfl 5).trans rfl
        have z6 := (hS.cellAt 2 rfl 6).trans rfl
        have z7 := (hS.cellAt 2 rfl 7).trans rfl
        have z8 := (hS.cellAt 2 rfl 8).trans rfl
        have z9 := (hS.cellAt 2 rfl 9).trans rfl
        have zf0 := hS.frozenAt 2 rfl 0
        have zf1 := hS.frozenAt 2 rfl 1
        have zf2 := hS.frozenAt 2 rfl 2
        have zf3 := hS.frozenAt 2 rfl 3
        have zf4 := hS.frozenAt 2 rfl 4
        have zf5 := hS.frozenAt 2 rfl 5
        have zf6 := hS.frozenAt 2 rfl 6
        have zf7 := hS.frozenAt 2 rfl 7
        have zf8 := hS.frozenAt 2 rfl 8
        have zf9 := hS.frozenAt 2 rfl 9
        have zlt := hS.ltAt 2 rfl
        generalize (o :: o2 :: r).reverse.length = N at *
        have t2 : ((N : Int) != 1) = true := by rw [t0]; exact t1
        clear t0 t1
        go_wp2_with fail
        subst hG
        rw [gj_ret]
        exact bodyPost_ret (v := .tuple #[.agg #[.int .i64 0, .int .i64 0, .int .i64 0, .string ⟨#[]⟩, .int .i64 0, .int .i64 0, .string ⟨#[]⟩, .slice none 0 0, .slice none 0 0, .slice none 0 0], .bool false]) (by simp [results, Try.results11, go_sem, z0, z1, z2, z3, z4, z5, z6, z7, z8, z9]) rfl (.inl ⟨HB.out, rfl, (bl_set (bl_set (bl_set (bl_set (bl_set (bl_set (bl_set (bl_set (bl_set (bl_set hS.bl hw _) hw _) hw _) hw _) hw _) hw _) hw _) hw _) hw _) hw _)⟩)
  case pX =>
    intro at_ a wr hat hst
    obtain ⟨u, fs, v, rfl, h0, h2, h4, h5, h6, h7, HR, HT, hS⟩ := hst.out
    rw [h0, h2, h4, h5, h6, h7]
    clear h0 h2 h4 h5 h6 h7 hst
    generalize u 1 = x1, u 3 = x3, u 8 = x8, u 9 = x9, u 10 = x10, u 11 = x11, u 12 = x12, u 13 = x13, u 14 = x14, u 15 = x15, u 16 = x16, u 17 = x17, u 18 = x18, u 19 = x19, u 20 = x20, u 21 = x21, u 22 = x22, u 23 = x23, u 24 = x24, u 25 = x25, u 26 = x26, u 27 = x27, u 28 = x28, u 29 = x29, u 30 = x30, u 31 = x31, u 32 = x32, u 33 = x33, u 34 = x34, u 35 = x35, u 36 = x36, u 37 = x37, u 38 = x38, u 39 = x39, u 40 = x40, u 41 = x41, u 42 = x42, u 43 = x43, u 44 = x44, u 45 = x45, u 46 = x46, u 47 = x47, u 48 = x48, u 49 = x49, u 50 = x50, u 51 = x51, u 52 = x52, u 53 = x53, u 54 = x54, u 55 = x55, u 56 = x56, u 57 = x57, u 58 = x58, u 59 = x59, u 60 = x60, u 61 = x61, u 62 = x62, u 63 = x63, u 64 = x64, u 65 = x65, u 66 = x66, u 67 = x67, u 68 = x68, u 69 = x69, u 70 = x70, u 71 = x71, u 72 = x72, u 73 = x73, u 74 = x74, u 75 = x75, u 76 = x76, u 77 = x77, u 78 = x78, u 79 = x79, u 80 = x80, u 81 = x81, u 82 = x82, u 83 = x83, u 84 = x84, u 85 = x85, u 86 = x86, u 87 = x87, u 88 = x88, u 89 = x89, u 90 = x90, u 91 = x91, u 92 = x92, u 93 = x93, u 94 = x94, u 95 = x95, u 96 = x96, u 97 = x97, u 98 = x98, u 99 = x99, u 100 = x100, u 101 = x101, u 102 = x102, u 103 = x103, u 104 = x104, u 105 = x105, u 106 = x106, u 107 = x107, u 108 = x108, u 109 = x109, u 110 = x110, u 111 = x111, u 112 = x112
    clear u
    have HW := As.mk Hq.out.2
    have hw := Nat.le_of_eq HW.out
    clear Hq
    go_hide hG
    by_cases hlt : at_ < l.length
    · have t0 : ((at_ : Int) == (l.length : Int)) = false := by simp; omega
      have hin : (at_ : Int) < (l.length : Int) := by omega
      have h1m := HL.out.1
      have hs : IntKind.i64.wrap ((at_ : Int) + 1) = (at_ : Int) + 1 := by rw [IntKind.wrap_i64]; omega
      obtain ⟨y, hy⟩ : ∃ y, l[at_]? = some y := ⟨_, List.getElem?_eq_getElem hlt⟩
      have HY := As.mk hy
      obtain ⟨b, off, cs, hAe, hbl, hcl, hK, hcell⟩ := C_lit HC.out (by decide) y hy
      obtain ⟨A9, c9, A10, c10, rfl, l9, g9, l10, g10⟩ := k39_open hK
      have HCe := As.mk (fun (V : World) (hb : Below w.heap.size w V) (j : Nat) (x : Value) (hx : w.cell? ⟨b, off + at_ * 11 + j, none⟩ = some x) => (hb.cell (p := ⟨b, off + at_ * 11 + j, none⟩) hbl).trans hx)
      subst hAe
      have HY3 := As.mk (hcell 3 _ rfl)
      have HY4 := As.mk (hcell 4 _ rfl)
      have HYA := As.mk (⟨hcell 0 _ rfl, hcell 1 _ rfl, hcell 2 _ rfl, hcell 5 _ rfl, hcell 6 _ rfl, hcell 7 _ rfl, hcell 8 _ rfl, hcell 9 _ rfl, hcell 10 _ rfl⟩ : _ ∧ _ ∧ _ ∧ _ ∧ _ ∧ _ ∧ _ ∧ _ ∧ _)
      have HK := As.mk (⟨l9, g9, l10, g10⟩ : _ ∧ _ ∧ _ ∧ _)
      clear hcell hK l9 g9 l10 g10 hcl hy hat
      have y3 := HCe.out wr hS.bl 3 _ HY3.out
      have y4 := HCe.out wr hS.bl 4 _ HY4.out
      obtain ⟨tp, htp⟩ : ∃ tp, tp = topI (absF fs) := ⟨_, rfl⟩
      rw [← htp]
      have HTP := As.mk htp
      clear htp
      go_upto_region 6 with fail
      go_cut [45] (fun vb wc => vb = .bool (bad1 l at_ y (absF fs)) ∧ wc = wr)
      case first =>
        obtain ⟨b1, e1⟩ : ∃ b, (y.f4 != tp) = b := ⟨_, rfl⟩
        obtain ⟨b2, e2⟩ : ∃ b, decide (y.f3 ≤ (at_ : Int)) = b := ⟨_, rfl⟩
        obtain ⟨b3, e3⟩ : ∃ b, decide ((l.length : Int) < y.f3) = b := ⟨_, rfl⟩
        obtain ⟨b4, e4⟩ : ∃ b, decide (tp < 0) = b := ⟨_, rfl⟩
        obtain ⟨b5, e5⟩ : ∃ b, decide (0 < at_) = b := ⟨_, rfl⟩
        have HBD : As (bad1 l at_ y (absF fs) = (b1 || (b2 || (b3 || (b4 && b5))))) := ⟨by unfold bad1; rw [← HTP.out, show decide ((0 : Int) < (at_ : Int)) = decide (0 < at_) by simp, e1, e2, e3, e4, e5]⟩
        cases b1 <;> cases b2 <;> cases b3 <;> cases b4 <;> cases b5
        all_goals (go_wp2_with fail)
        all_goals (go_meet)
        all_goals (exact ⟨by rw [HBD.out]; rfl, rfl⟩)
      case rest =>
        obtain ⟨rfl, rfl⟩ := hcut
        cases hb1 : bad1 l at_ y (absF fs) with
        | true =>
          have HN := As.mk (step_bad1 HR.out HY.out hb1)
          have z0 := (hS.cellAt 2 rfl 0).trans rfl
          have z1 := (hS.cellAt 2 rfl 1).trans rfl
          have z2 := (hS.cellAt 2 rfl 2).trans rfl
          have z3 := (hS.cellAt 2 rfl 3).trans rfl
          have z4 := (hS.cellAt 2 rfl 4).trans rfl
          have z5 := (hS.cellAt 2 rfl 5).trans rfl
          have z6 := (hS.cellAt 2 rfl 6).trans rfl
          have z7 := (hS.cellAt 2 rfl 7).trans rfl
          have z8 := (hS.cellAt 2 rfl 8).trans rfl
          have z9 := (hS.cellAt 2 rfl 9).trans rfl
          have zf0 := hS.frozenAt 2 rfl 0
          have zf1 := hS.frozenAt 2 rfl 1
          have zf2 := hS.frozenAt 2 rfl 2
          have zf3 := hS.frozenAt 2 rfl 3
          have zf4 := hS.frozenAt 2 rfl 4
          have zf5 := hS.frozenAt 2 rfl 5
          have zf6 := hS.frozenAt 2 rfl 6
          have zf7 := hS.frozenAt 2 rfl 7
          have zf8 := hS.frozenAt 2 rfl 8
          have zf9 := hS.frozenAt 2 rfl 9
          have zlt := hS.ltAt 2 rfl
          clear hb1
          go_wp2_with fail
          subst hG
          rw [gj_ret]
          exact bodyPost_ret (v := .tuple #[.agg #[.int .i64 0, .int .i64 0, .int .i64 0, .string ⟨#[]⟩, .int .i64 0, .int .i64 0, .string ⟨#[]⟩, .slice none 0 0, .slice none 0 0, .slice none 0 0], .bool false]) (by simp [results, Try.results11, go_sem, z0, z1, z2, z3, z4, z5, z6, z7, z8, z9]) rfl (.inl ⟨HN.out, rfl, (bl_set (bl_set (bl_set (bl_set (bl_set (bl_set (bl_set (bl_set (bl_set (bl_set hS.bl hw _) hw _) hw _) hw _) hw _) hw _) hw _) hw _) hw _) hw _)⟩)
        | false =>
          have HB1 := As.mk hb1
          clear hb1
          go_upto_region 8 with fail
          go_cut [61] (fun vb wc => vb = .bool (bad2 l y (absF fs)) ∧ At (fun _ => False) w wc (Hp.seps [Hp.row 48 11 encF v fs.reverse, frs fs, Hp.blk q0 #[.int .i64 0, .int .i64 0, .int .i64 0, .string ⟨#[]⟩, .int .i64 0, .int .i64 0, .string ⟨#[]⟩, .slice none 0 0, .slice none 0 0, .slice none 0 0] 27]))
          case first =>
            cases fs with
            | nil =>
              obtain rfl : tp = -1 := HTP.out
              go_quiet (fail)
              go_wp2_with fail
              go_meet
              exact ⟨rfl, hS.drewN _⟩
            | cons o r =>
              have hoi := HT.out.2 o (by simp)
              obtain ⟨yo, hyo⟩ : ∃ yo, l[o.i]? = some yo := ⟨_, List.getElem?_eq_getElem (show o.i < l.length by omega)⟩
              obtain ⟨b', off', cs', hAe', _, hcl', hK', hcell'⟩ := C_lit HC.out (by decide) yo hyo
              injection hAe' with hAe'
              injection hAe' with hA1 hA2
              subst hA1
              subst hA2
              obtain ⟨_, _, _, _, rfl, _, _, _, _⟩ := k39_open hK'
              have yo3 := (hS.bl.cell (p := ⟨b, off + o.i * 11 + 3, none⟩) hbl).trans (hcell' 3 _ rfl)
              have HB2 : As (bad2 l y (absF (o :: r)) = decide (yo.f3 < y.f3)) := ⟨by unfold bad2 endI; simp only [absF, List.map_cons, hyo]⟩
              obtain rfl : tp = (o.i : Int) := HTP.out
              have hin2 : (o.i : Int) < (l.length : Int) := by omega
              obtain ⟨b1, e1⟩ : ∃ b, decide (yo.f3 < y.f3) = b := ⟨_, rfl⟩
              rw [e1] at HB2
              clear hcell' hK' hcl' hyo
              cases b1
              all_goals
                go_quiet (fail)
                go_wp2_with fail
                go_meet
                exact ⟨by rw [HB2.out], hS.drewN _⟩
          case rest =>
            clear y3 y4 hS
            obtain ⟨rfl, hS⟩ := hcut
            cases hb2 : bad2 l y (absF fs) with
            | true =>
              have HN := As.mk (step_bad2 HR.out HY.out HB1.out hb2)
              have z0 := (hS.cellAt 2 rfl 0).trans rfl
              have z1 := (hS.cellAt 2 rfl 1).trans rfl
              have z2 := (hS.cellAt 2 rfl 2).trans rfl
              have z3 := (hS.cellAt 2 rfl 3).trans rfl
              have z4 := (hS.cellAt 2 rfl 4).trans rfl
              have z5 := (hS.cellAt 2 rfl 5).trans rfl
              have z6 := (hS.cellAt 2 rfl 6).trans rfl
              have z7 := (hS.cellAt 2 rfl 7).trans rfl
              have z8 := (hS.cellAt 2 rfl 8).trans rfl
              have z9 := (hS.cellAt 2 rfl 9).trans rfl
              have zf0 := hS.frozenAt 2 rfl 0
              have zf1 := hS.frozenAt 2 rfl 1
              have zf2 := hS.frozenAt 2 rfl 2
              have zf3 := hS.frozenAt 2 rfl 3
              have zf4 := hS.frozenAt 2 rfl 4
              have zf5 := hS.frozenAt 2 rfl 5
              have zf6 := hS.frozenAt 2 rfl 6
              have zf7 := hS.frozenAt 2 rfl 7
              have zf8 := hS.frozenAt 2 rfl 8
              have zf9 := hS.frozenAt 2 rfl 9
              have zlt := hS.ltAt 2 rfl
              clear hb2
              go_wp2_with fail
              subst hG
              rw [gj_ret]
              exact bodyPost_ret (v := .tuple #[.agg #[.int .i64 0, .int .i64 0, .int .i64 0, .string ⟨#[]⟩, .int .i64 0, .int .i64 0, .string ⟨#[]⟩, .slice none 0 0, .slice none 0 0, .slice none 0 0], .bool false]) (by simp [results, Try.results11, go_sem, z0, z1, z2, z3, z4, z5, z6, z7, z8, z9]) rfl (.inl ⟨HN.out, rfl, (bl_set (bl_set (bl_set (bl_set (bl_set (bl_set (bl_set (bl_set (bl_set (bl_set hS.bl hw _) hw _) hw _) hw _) hw _) hw _) hw _) hw _) hw _) hw _)⟩)
            | false =>
              have HRn := As.mk (step_good HR.out HY.out HB1.out hb2)
              rw [absF_len] at HRn
              clear hb2
              have y0 := HCe.out wc hS.bl 0 _ HYA.out.1
              have y1 := HCe.out wc hS.bl 1 _ HYA.out.2.1
              have y2 := HCe.out wc hS.bl 2 _ HYA.out.2.2.1
              have y3 := HCe.out wc hS.bl 3 _ HY3.out
              have y4 := HCe.out wc hS.bl 4 _ HY4.out
              have y5 := HCe.out wc hS.bl 5 _ HYA.out.2.2.2.1
              have y6 := HCe.out wc hS.bl 6 _ HYA.out.2.2.2.2.1
              have y7 := HCe.out wc hS.bl 7 _ HYA.out.2.2.2.2.2.1
              have y8 := HCe.out wc hS.bl 8 _ HYA.out.2.2.2.2.2.2.1
              have y9 := HCe.out wc hS.bl 9 _ HYA.out.2.2.2.2.2.2.2.1
              have y10 := HCe.out wc hS.bl 10 _ HYA.out.2.2.2.2.2.2.2.2
              simp only [Nat.add_zero] at y0
              go_wp2_with fail
              refine (node_all _ y A9 c9 A10 c10 (HZ.out y (List.mem_of_getElem? HY.out)).1 (HZ.out y (List.mem_of_getElem? HY.out)).2 HK.out.1 (Kd.C_below HK.out.2.1 hS.bl) HK.out.2.2.1 (Kd.C_below HK.out.2.2.2 hS.bl)).mono ?_
              rintro e w1 ⟨A', c', B', d', rfl, hb, hR1, hR2⟩
              have hS1 : At (fun _ => False) w w1 (Hp.seps [hkd k27 27 (.slice none 0 0) [], hew ⟨at_, nodeOf y, A', c', none, 0, B', d'⟩, Hp.row 48 11 encF v fs.reverse, frs fs, Hp.blk q0 #[.int .i64 0, .int .i64 0, .int .i64 0, .string ⟨#[]⟩, .int .i64 0, .int .i64 0, .string ⟨#[]⟩, .slice none 0 0, .slice none 0 0, .slice none 0 0] 27]) := At.new_kd k27 27 (At.new_ew (o := ⟨at_, nodeOf y, A', c', none, 0, B', d'⟩) hS hb hR1 hR2)
              clear hb hR1 hR2 hS y0 y1 y2 y3 y4 y5 y6 y7 y8 y9 y10
              have htl := tot_len fs
              have htt := HT.out.1
              go_wp2_with (at_builtin; refine rw_append rfl (.tmp 63) (.tmp 71) 45 48 11 encF (.agg #[.int .i64 0, .int .i64 0, .int .i64 0, .int .i64 0, .string ⟨#[]⟩, .int .i64 0, .int .i64 0, .string ⟨#[]⟩, .slice none 0 0, .slice none 0 0, .slice none 0 0]) 152 rfl Try.underlying45 infoR rfl (by decide) v fs.reverse ⟨at_, nodeOf y, A', c', none, 0, B', d'⟩ rfl _ rfl (by first | exact blk_new (by simp) | exact blk_new_drew (by simp)) ((hS1.below (by repeat (first | exact Below.refl _ _ | refine bl_drewN ?_ _ | refine Below.drew ?_ | refine bl_alloc ?_ _ | refine bl_set ?_ (by first | (simp; done) | omega | (simp; omega)) _))).rowAt 2 rfl) encF_len (one_F _) ?c1 ?c2 ?c3)
              case c1 => simp only [maxLen, List.length_reverse]; omega
              case c2 => simp only [List.length_reverse]; omega
              case c3 =>
                intro v1 w2 hA
                have hS2 := (At.appendAt 2 hA hS1 rfl (by repeat (first | exact Below.refl _ _ | refine bl_drewN ?_ _ | refine Below.drew ?_ | refine bl_alloc ?_ _ | refine bl_set ?_ (by first | (simp; done) | omega | (simp; omega)) _)))
                obtain ⟨o, ho⟩ : ∃ o : Fr, o = ⟨at_, nodeOf y, A', c', none, 0, B', d'⟩ := ⟨_, rfl⟩
                have hS3 : At (fun _ => False) w w2 (Hp.seps [hew o, hki o, frs fs, Hp.row 48 11 encF v1 (o :: fs).reverse, Hp.blk q0 #[.int .i64 0, .int .i64 0, .int .i64 0, .string ⟨#[]⟩, .int .i64 0, .int .i64 0, .string ⟨#[]⟩, .slice none 0 0, .slice none 0 0, .slice none 0 0] 27]) := by
                  rw [ho, List.reverse_cons]
                  exact hS2.sel [1, 0, 1, 0, 0]
                have hS4 := (At.frs_close hS3).sel [1, 0, 0]
                obtain ⟨PR, hPR⟩ : ∃ PR, PR = popw l (at_ + 1) (fs.length + 1) ((at_, nodeOf y) :: absF fs) := ⟨_, rfl⟩
                rw [← hPR] at HRn
                have HPR : As (popw l (at_ + 1) (fs.length + 1) (absF (o :: fs)) = PR) := ⟨by rw [hPR, ho]; rfl⟩
                have HTo : As (tot (absF (o :: fs)) ≤ at_ + 1 ∧ ∀ e ∈ o :: fs, e.i < at_ + 1) := ⟨by
                  have h1 := HT.out
                  refine ⟨?_, fun e he => ?_⟩
                  · rw [ho]; simp only [absF, List.map_cons, tot, nodeOf, List.length_nil]; have h2 := h1.1; simp only [absF] at h2; omega
                  · rcases List.mem_cons.1 he with rfl | he
                    · rw [ho]; simp
                    · have := h1.2 e he; omega⟩
                have hoi : o.i = at_ := by rw [ho]
                have HOI := As.mk hoi
                clear hA hS1 hS2 hS3 ho hPR hoi
                obtain ⟨n1, hn1⟩ : ∃ n1, n1 = at_ + 1 := ⟨_, rfl⟩
                have HN1 := As.mk hn1
                rw [← hn1] at HRn HPR HTo
                clear hn1
                go_wp2_with fail
                rw [show (at_ : Int) + 1 = (n1 : Int) by rw [HN1.out]; rfl]
                have hb1 : n1 ≤ l.length := by rw [HN1.out]; exact hlt
                go_loopg [4, 6] (fs.length + 1) (fun g0 v4 v6 wx => ∃ (t : Fr) (r : List Fr), r.length + 1 ≤ g0 ∧ v6 = .int .i64 t.i ∧ As (popw l n1 g0 (absF (t :: r)) = PR) ∧ As (tot (absF (t :: r)) ≤ n1 ∧ ∀ e ∈ t :: r, e.i < n1) ∧ At (fun _ => False) w wx (Hp.seps [Hp.row 48 11 encF v4 (t :: r).reverse, frs (t :: r), Hp.blk q0 #[.int .i64 0, .int .i64 0, .int .i64 0, .string ⟨#[]⟩, .int .i64 0, .int .i64 0, .string ⟨#[]⟩, .slice none 0 0, .slice none 0 0, .slice none 0 0] 27]))
                case atStart => exact ⟨o, fs, Nat.le_refl _, by rw [HOI.out], HPR, HTo, hS4⟩
                case round =>
                  clear hS4 HPR HTo
                  obtain ⟨t, r, hk, rfl, HP, HTt, hS⟩ := hrel
                  have HGk := As.mk hk
                  clear hk htl htt
                  have hti := HTt.out.2 t (by simp)
                  have htot := HTt.out.1
                  obtain ⟨A1, c1, rfl, _, _⟩ := (hS.rowAt 0 rfl).shape
                  cases r with
                  | nil =>
                    have HE : As (PR = absF [t]) := ⟨by
                      rw [← HP.out]
                      have hgk := HGk.out
                      obtain ⟨k0, hk0⟩ : ∃ k0, gk = k0 + 1 := ⟨gk - 1, by omega⟩
                      rw [hk0]; rfl⟩
                    simp only [List.reverse_cons, List.reverse_nil, List.nil_append, List.length_cons, List.length_nil, Nat.zero_add]
                    go_wp2_with fail
                    go_step3
                    subst hG
                    exact ⟨l.length + 1 - n1, by have := HN1.out; omega, .inl ⟨rfl, n1, hb1, by omega, bst_mk _ [t] _ rfl rfl rfl rfl rfl rfl rfl ⟨by rw [← HE.out, HN1.out]; rw [HN1.out] at HRn; exact HRn.out⟩ HTt hS⟩⟩
                  | cons b2 r =>
                    have hti2 : t.i < l.length := by omega
                    obtain ⟨yt, hyt⟩ : ∃ yt, l[t.i]? = some yt := ⟨_, List.getElem?_eq_getElem hti2⟩
                    obtain ⟨b', off', cs', hAe', _, hcl', hK', hcell'⟩ := C_lit HC.out (by decide) yt hyt
                    injection hAe' with hAe'
                    injection hAe' with hA1 hA2
                    subst hA1
                    subst hA2
                    obtain ⟨_, _, _, _, rfl, _, _, _, _⟩ := k39_open hK'
                    have yt3 := (hS.bl.cell (p := ⟨b, off + t.i * 11 + 3, none⟩) hbl).trans (hcell' 3 _ rfl)
                    have HEn : As (endI l t.i = yt.f3) := ⟨by unfold endI; rw [hyt]⟩
                    have hin2 : (t.i : Int) < (l.length : Int) := by omega
                    clear hcell' hK' hcl' hyt
                    have hrl := tot_len (t :: b2 :: r)
                    simp only [List.length_cons] at hrl
                    have HKb : As (b2.x.f5.length ≤ 1000000 ∧ r.length ≤ 1000000) := ⟨by
                      have h := htot
                      simp only [absF, List.map_cons, tot] at h
                      constructor <;> omega⟩
                    rw [rev2] at hS ⊢
                    obtain ⟨M, hM⟩ : ∃ M, M = (r.reverse ++ [b2, t]).length := ⟨_, rfl⟩
                    have hM2 : M = r.length + 2 := by rw [hM]; simp
                    rw [← hM] at hS ⊢
                    have m0 : decide (1 < M) = true := decide_eq_true (by omega)
                    have m1 : decide ((1 : Int) < (M : Int)) = true := decide_eq_true (by omega)
                    have HM2 := As.mk hM2
                    clear hM hM2 hrl
                    by_cases he : yt.f3 = (n1 : Int)
                    · have e0 : (yt.f3 == (n1 : Int)) = true := by simpa using he
                      have HP2 : As (popw l n1 (gk - 1) (absF ({ b2 with x := addK b2.x t.x } :: r)) = PR) := ⟨by
                        rw [← HP.out]
                        have hgk := HGk.out
                        obtain ⟨k0, hk0⟩ : ∃ k0, gk = k0 + 1 := ⟨gk - 1, by omega⟩
                        rw [hk0]
                        simp only [absF, List.map_cons, popw, Nat.add_sub_cancel]
                        rw [if_pos (by rw [HEn.out]; exact he)]⟩
                      clear he
                      have hS5 : At (fun _ => False) w _ (Hp.seps ([Hp.row 48 11 encF (.slice A1 M c1) (r.reverse ++ [b2, t]), hew t, hki t, hki b2] ++ [hew b2, frs r, Hp.blk q0 #[.int .i64 0, .int .i64 0, .int .i64 0, .string ⟨#[]⟩, .int .i64 0, .int .i64 0, .string ⟨#[]⟩, .slice none 0 0, .slice none 0 0, .slice none 0 0] 27])) := (At.frs_open ((At.frs_open (hS.sel [1, 0, 0])).sel [2, 0, 0, 0, 0])).sel [5, 3, 3, 1, 0, 0, 0]
                      go_wp2_with fail
                      refine (At.callL [Hp.row 48 11 encF (.slice A1 M c1) (r.reverse ++ [b2, t]), hew t, hki t, hki b2] hS5 (closed_does (.slice A1 M c1) r.reverse b2 t (by rw [List.length_reverse]; exact HKb.out.2) HKb.out.1)).mono ?_
                      rintro e w3 ⟨B0, ⟨v', B2, d2, rfl, rfl⟩, hz⟩
                      have hz2 := hz.map fun _ _ => Hp.seps_append [Hp.row 48 11 encF v' (r.reverse ++ [upd b2 B2 d2 t.x]), hki (upd b2 B2 d2 t.x)] [hew b2, frs r, Hp.blk q0 #[.int .i64 0, .int .i64 0, .int .i64 0, .string ⟨#[]⟩, .int .i64 0, .int .i64 0, .string ⟨#[]⟩, .slice none 0 0, .slice none 0 0, .slice none 0 0] 27] _
                      have hz3 : At (fun _ => False) w w3 (Hp.seps [hew (upd b2 B2 d2 t.x), hki (upd b2 B2 d2 t.x), frs r, Hp.row 48 11 encF v' (upd b2 B2 d2 t.x :: r).reverse, Hp.blk q0 #[.int .i64 0, .int .i64 0, .int .i64 0, .string ⟨#[]⟩, .int .i64 0, .int .i64 0, .string ⟨#[]⟩, .slice none 0 0, .slice none 0 0, .slice none 0 0] 27]) := by
                        rw [List.reverse_cons]
                        exact hz2.sel [2, 1, 1, 0, 0]
                      have hS6 := (At.frs_close hz3).sel [1, 0, 0]
                      clear hz hz2 hz3 hS hS5 yt3 e0 m0 m1
                      obtain ⟨A2, c2, rfl, _, _⟩ := (hS6.rowAt 0 rfl).shape
                      obtain ⟨g2, e2, hg2, hcell2⟩ := (hS6.rowAt 0 rfl).cell encF_len r.length (upd b2 B2 d2 t.x) (by rw [List.reverse_cons, List.getElem?_append_right (by simp), List.length_reverse, Nat.sub_self]; rfl)
                      subst e2
                      have q0' := (hcell2 0 (by omega)).1
                      simp only [encF, List.getElem?_cons_zero, Nat.add_zero, upd] at q0'
                      obtain ⟨M2, hM2⟩ : ∃ M2, M2 = (upd b2 B2 d2 t.x :: r).reverse.length := ⟨_, rfl⟩
                      have hM3 : M2 = r.length + 1 := by rw [hM2]; simp
                      rw [← hM2] at hS6 ⊢
                      have m2 : IntKind.i64.wrap ((M2 : Int) - 1) = (r.length : Int) := by have := HKb.out.2; rw [IntKind.wrap_i64]; omega
                      have m3 : r.length < M2 := by omega
                      have m4 : (r.length : Int) < (M2 : Int) := by omega
                      clear hM2 hM3 hcell2
                      go_wp2_with fail
                      go_roundg (gk - 1)
                      case measure => have := HGk.out; simp only [List.length_cons] at this; omega
                      case rel =>
                        refine ⟨upd b2 B2 d2 t.x, r, by have := HGk.out; simp only [List.length_cons] at this; omega, rfl, HP2, ⟨?_, ?_⟩, hS6⟩
                        · have h := HTt.out.1
                          simp only [absF, List.map_cons, tot, upd, List.length_append, List.length_singleton] at h ⊢
                          omega
                        · intro e he
                          rcases List.mem_cons.1 he with rfl | he
                          · exact HTt.out.2 b2 (by simp)
                          · exact HTt.out.2 e (by simp [he])
                    · have e0 : (yt.f3 == (n1 : Int)) = false := by simpa using he
                      have HE : As (PR = absF (t :: b2 :: r)) := ⟨by
                        rw [← HP.out]
                        have hgk := HGk.out
                        obtain ⟨k0, hk0⟩ : ∃ k0, gk = k0 + 1 := ⟨gk - 1, by omega⟩
                        rw [hk0]
                        simp only [absF, List.map_cons, popw]
                        rw [if_neg (by rw [HEn.out]; exact he)]⟩
                      clear he
                      rw [← rev2] at hS
                      go_wp2_with fail
                      go_step3
                      subst hG
                      exact ⟨l.length + 1 - n1, by have := HN1.out; omega, .inl ⟨rfl, n1, hb1, by omega, bst_mk _ (t :: b2 :: r) _ rfl rfl rfl rfl rfl rfl rfl ⟨by rw [← HE.out, HN1.out]; rw [HN1.out] at HRn; exact HRn.out⟩ HTt hS⟩⟩
    · obtain rfl : at_ = l.length := by omega
      go_wp2_with fail
      go_step3
      subst hG
      exact ⟨0, by omega, .inr ⟨rfl, rfl, bst_mk _ fs v rfl rfl rfl rfl rfl rfl rfl HR HT hS⟩⟩
end Go.Proofs.Ytfgpdpccfpilaaa.OpenFlatOrder
