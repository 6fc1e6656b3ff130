/- What the reference's in tells: nodes whose Kids are of the call's own and whose expressions are the list's. -/
import Derived.Test.YtlkkibeoobognaaTrCInlineTrees
import Derived.Test.YtlkkibeoobognaaIcWInlineTrees
import Derived.Test.YtlkkibeoobognaaRowz
set_option linter.unusedVariables false
set_option linter.unusedSimpArgs false
set_option maxRecDepth 100000
namespace Go.Proofs.Ytlkkibeoobognaa.OpenInlineTrees
open Go.RowKit Go.Deep
open Go.Proofs.YtlkkibeoobognaaW.PrintWords Go.Proofs.YtlkkibeoobognaaW.PrintLast Go.Proofs.YtlkkibeoobognaaW.PrintMore Go.Proofs.Ytlkkibeoobognaa.PInlineTrees
structure GoodX (wb : World) (o : Fr) : Prop where
  l7 : o.x.f4.f3.length ≤ o.c
  g7 : k27.C wb o.A o.x.f4.f3.length o.x.f4.f3
  l9 : o.x.f6.length ≤ o.q
  g9 : k27.C wb o.C o.x.f6.length o.x.f6
def hAll (f : Fr → Hp) : List Fr → Hp
  | [] => Hp.emp
  | k :: ks => (f k).sep (hAll f ks)
def hkN : Nat → World → Fr → Hp
  | 0, _, _ => Hp.pr False
  | n + 1, wb, o => Hp.ex fun ks : List Fr => Hp.seps [Hp.pr (ks.map (·.x) = o.x.f5 ∧ GoodX wb o), Hp.row 30 10 nodC (.slice o.B o.x.f5.length o.d) ks, hAll (hkN n wb) ks]
theorem nodC_len (o : Fr) : (nodC o).length = 10 := rfl
theorem one_nodC (o : Fr) : ∀ u ∈ nodC o, u.oneCell' = true := by
  intro u hu
  simp only [nodC, List.mem_cons, List.not_mem_nil, or_false] at hu
  rcases hu with rfl | rfl | rfl | rfl | rfl | rfl | rfl | rfl | rfl | rfl <;> rfl
theorem hAll_snoc (f : Fr → Hp) {w : World} : ∀ (ks : List Fr) (k : Fr) (F : Nat → Prop), ((hAll f ks).sep (f k)).H w F → (hAll f (ks ++ [k])).H w F
  | [], k, F, h => Hp.comm h
  | a :: ks, k, F, h => by
    have h1 := Hp.assoc h
    exact Hp.imp h1 fun F' h' => hAll_snoc f ks k F' h'
theorem hAll_each (f : Fr → Hp) {w : World} : ∀ (ks : List Fr) (F : Nat → Prop), (hAll f ks).H w F → ∀ k ∈ ks, ∃ F', (f k).H w F'
  | [], F, h, k, hk => by simp at hk
  | a :: ks, F, h, k, hk => by
    obtain ⟨F1, F2, h1, h2, _, _⟩ := h
    rcases List.mem_cons.1 hk with rfl | hk
    · exact ⟨F1, h1⟩
    · exact hAll_each f ks F2 h2 k hk
theorem row_CN {w : World} {v : Value} {ks : List Fr} (h : Rw w 30 10 nodC v ks) (hg : ∀ k ∈ ks, k30.K w k.x (nodC k)) : ∃ A c, v = .slice A ks.length c ∧ ks.length ≤ c ∧ k30.C w A (ks.map (·.x)).length (ks.map (·.x)) := by
  obtain ⟨A, c, rfl, h1, h2⟩ := h.shape
  refine ⟨A, c, rfl, h1, rfl, by rw [List.length_map]; exact h2, fun hn => ?_⟩
  rw [List.length_map] at hn
  obtain ⟨g, e, _, _⟩ := h.cell nodC_len 0 ks[0] (List.getElem?_eq_getElem hn)
  subst e
  refine ⟨_, rfl, fun j p hj => ?_⟩
  rw [List.getElem?_map] at hj
  obtain ⟨o, ho, rfl⟩ := Option.map_eq_some_iff.1 hj
  obtain ⟨g', e, _, hc⟩ := h.cell nodC_len j o ho
  injection e with e; injection e with e; subst e
  refine ⟨nodC o, rfl, hg o (List.mem_of_getElem? ho), fun i u hu => ?_⟩
  have hi : i < 10 := (List.getElem?_eq_some_iff.1 hu).1
  rw [Addr.add_lit, Nat.zero_add]
  exact (hc i hi).1.trans hu
theorem hkN_K : ∀ (n : Nat) (wb w : World) (o : Fr) (F : Nat → Prop), Below wb.heap.size wb w → (hkN n wb o).H w F → k30.K w o.x (nodC o)
  | 0, wb, w, o, F, hb, h => (h.1).elim
  | n + 1, wb, w, o, F, hb, ⟨ks, h⟩ => by
    obtain ⟨F1, F2, ⟨⟨hks, hg⟩, _⟩, ⟨F3, F4, hrow, ⟨F5, F6, hall, _, _, _⟩, _, _⟩, _, _⟩ := h
    have hK : ∀ k ∈ ks, k30.K w k.x (nodC k) := fun k hk => by
      obtain ⟨F', h'⟩ := hAll_each _ ks F5 hall k hk
      exact hkN_K n wb w k F' hb h'
    obtain ⟨A, c, he, hc, hC⟩ := row_CN hrow.1 hK
    rw [hks] at hC
    have hl : ks.length = o.x.f5.length := by rw [← hks, List.length_map]
    injection he with h1 h2 h3
    rw [hl] at hc
    have hB : k30.C w o.B o.x.f5.length o.x.f5 := by rw [h1]; exact hC
    exact k30_mk w o.x hg.l7 (Kd.C_below hg.g7 hb) (by rw [h3]; exact hc) hB hg.l9 (Kd.C_below hg.g9 hb)
theorem hAll_mono (f g : Fr → Hp) {w : World} (hfg : ∀ k F, (f k).H w F → (g k).H w F) : ∀ (ks : List Fr) (F : Nat → Prop), (hAll f ks).H w F → (hAll g ks).H w F
  | [], F, h => h
  | a :: ks, F, h => by
    obtain ⟨F1, F2, h1, h2, hd, hF⟩ := h
    exact ⟨F1, F2, hfg a F1 h1, hAll_mono f g hfg ks F2 h2, hd, hF⟩
theorem hkN_up : ∀ (n : Nat) (wb w : World) (o : Fr) (F : Nat → Prop), (hkN n wb o).H w F → (hkN (n + 1) wb o).H w F
  | 0, wb, w, o, F, h => (h.1).elim
  | n + 1, wb, w, o, F, ⟨ks, h⟩ => by
    obtain ⟨F1, F2, h1, ⟨F3, F4, h3, ⟨F5, F6, h5, h6, hd3, hF3⟩, hd2, hF2⟩, hd1, hF1⟩ := h
    exact ⟨ks, F1, F2, h1, ⟨F3, F4, h3, ⟨F5, F6, hAll_mono _ _ (fun k F h => hkN_up n wb w k F h) ks F5 h5, h6, hd3, hF3⟩, hd2, hF2⟩, hd1, hF1⟩
theorem At.new_pr {F0 : Nat → Prop} {w0 w : World} {l : List Hp} (q : Prop) (hq : q) (h : At F0 w0 w (Hp.seps l)) : At F0 w0 w (Hp.seps (Hp.pr q :: l)) := by
  obtain ⟨F, hA, hF, hE⟩ := h.out
  exact ⟨F, ⟨fun _ => False, F, ⟨hq, fun _ h => h⟩, hA, fun _ h => h.elim, fun _ => by simp⟩, hF, hE⟩
theorem rtree_evt (L : List S32) (s : ByteArray) (hl : L.length ≤ 1000000) : ∀ (j i : Nat), i + j = L.length → ∃ r : Int, puppeteerref9_tree.l0 (j + 1) L s (i : Int) = some r ∧ (((L.drop i).find? (fun t => decide (t.f0.toList = s.toList)) = none ∧ r = -1) ∨ ∃ k t, L[k]? = some t ∧ (L.drop i).find? (fun t => decide (t.f0.toList = s.toList)) = some t ∧ r = (k : Nat))
  | 0, i, hi => ⟨-1, by rw [puppeteerref9_tree.l0, if_neg (by omega)], .inl ⟨by rw [List.drop_of_length_le (by omega)]; rfl, rfl⟩⟩
  | j + 1, i, hi => by
    have hlt : i < L.length := by omega
    have hd : L.drop i = L[i] :: L.drop (i + 1) := List.drop_eq_getElem_cons hlt
    have hr : rd_T32 L (i : Int) = L[i] := by
      unfold rd_T32
      rw [Int.toNat_natCast, List.getD_eq_getElem?_getD, List.getElem?_eq_getElem hlt]
      rfl
    obtain ⟨r, h1, h2⟩ := rtree_evt L s hl j (i + 1) (by omega)
    rw [puppeteerref9_tree.l0, if_pos (by omega), if_pos (by omega), hr, hd]
    by_cases he : L[i].f0.toList = s.toList
    · rw [if_pos he]
      exact ⟨_, rfl, .inr ⟨i, L[i], List.getElem?_eq_getElem hlt, by rw [List.find?_cons, decide_eq_true he], rfl⟩⟩
    · rw [if_neg he, w64 _ (by omega) (by omega), show ((i : Int) + 1) = ((i + 1 : Nat) : Int) by omega]
      refine ⟨r, h1, ?_⟩
      rw [List.find?_cons, decide_eq_false he]
      exact h2
theorem rtree_does (w : World) (A : Option Addr) (c : Nat) (L : List S32) (s : ByteArray) (hC : k32.C w A L.length L) (hc : L.length ≤ c) (hl : L.length ≤ 1000000) :
    Calls Try.prog 36 #[.slice A L.length c, .string s] w fun e w' => ∃ r : Int, e = .returned (.int .i64 r) ∧ Below w.heap.size w w' ∧ ((findT L s = none ∧ r = -1) ∨ ∃ k t, L[k]? = some t ∧ findT L s = some t ∧ r = (k : Nat)) := by
  obtain ⟨r, h1, h2⟩ := rtree_evt L s hl L.length 0 (by omega)
  rw [List.drop_zero] at h2
  exact (puppeteerref9_tree.calls (L.length + 1) A c L s r w hC hc h1).mono fun e w' h => ⟨r, h.1, h.2.below, h2⟩
def RTold (m : Nat) (w0 : World) (A : Option Addr) (c : Nat) (L : List S32) (P : Nat) (lst : List Hp) (op : List ByteArray) (res : Res) (e : Ending) (w' : World) : Prop :=
  ∃ (o : Fr) (O : Option Addr) (oc n' : Nat), e = .returned (.agg #[.int .i64 o.x.f0, .int .i64 o.x.f1, .int .i64 o.x.f2, .string o.x.f3, .int .i64 o.x.f4.f0, .int .i64 o.x.f4.f1, .string o.x.f4.f2, .slice o.A o.x.f4.f3.length o.c, .slice o.B o.x.f5.length o.d, .slice o.C o.x.f6.length o.q]) ∧ ((∃ cd : Int, res = .err cd ∧ cd ≠ 0 ∧ At (fun _ => False) w0 w' (Hp.seps (Hp.blk P #[.slice A L.length c, .slice O op.length oc, .int .i64 n', .int .i64 cd] 63 :: Hp.row 9 1 encS (.slice O op.length oc) op :: lst))) ∨
    (res = .ok o.x n' ∧ n' ≤ 4000 ∧ At (fun _ => False) w0 w' (Hp.seps (hkN m w0 o :: Hp.blk P #[.slice A L.length c, .slice O op.length oc, .int .i64 n', .int .i64 0] 63 :: Hp.row 9 1 encS (.slice O op.length oc) op :: lst))))
def RDo (m : Nat) : Prop := ∀ (w0 : World) (A : Option Addr) (c : Nat) (L : List S32), Lr w0 A c L → L.length ≤ 1000000 → ∀ (x : S30) (A7 : Option Addr) (c7 : Nat) (A8 : Option Addr) (c8 : Nat) (A9 : Option Addr) (c9 : Nat) (d n : Nat) (op : List ByteArray) (w : World) (lst : List Hp) (O : Option Addr) (oc P : Nat), NodeIn w0 x A7 c7 A8 c8 A9 c9 → szN x ≤ 1048576 → d ≤ 41 → n ≤ 4000 → op.length + m ≤ 1000000 → nodeF L m x d op n ≠ .out →
  At (fun _ => False) w0 w (Hp.seps (Hp.blk P #[.slice A L.length c, .slice O op.length oc, .int .i64 n, .int .i64 0] 63 :: Hp.row 9 1 encS (.slice O op.length oc) op :: lst)) →
  Calls Try.prog 22 #[.pointer (some ⟨P, 0, none⟩), nodeV x A7 c7 A8 c8 A9 c9, .int .i64 d] w (RTold m w0 A c L P lst op (nodeF L m x d op n))
theorem r_snoc {w : World} {O : Option Addr} {n oc : Nat} {op : List ByteArray} {s : ByteArray} (h : Rw w 9 1 encS (.slice O n oc) (op ++ [s])) : ∃ g, O = some ⟨g, 0, none⟩ ∧ n ≤ oc := snoc_row h
set_option maxHeartbeats 6400000 in
/-- in, where an error stands already. -/
theorem rin_skip (w0 : World) (x : S30) (A7 : Option Addr) (c7 : Nat) (A8 : Option Addr) (c8 : Nat) (A9 : Option Addr) (c9 : Nat) (d : Int) (w : World) (lst : List Hp) (P : Nat) (v0 v1 v2 : Value) (cd : Int) (hcd : cd ≠ 0)
    (hS : At (fun _ => False) w0 w (Hp.seps (Hp.blk P #[v0, v1, v2, .int .i64 cd] 63 :: lst))) :
    Calls Try.prog 22 #[.pointer (some ⟨P, 0, none⟩), nodeV x A7 c7 A8 c8 A9 c9, .int .i64 d] w fun e w' => e = .returned (.agg #[.int .i64 0, .int .i64 0, .int .i64 0, .string ⟨#[]⟩, .int .i64 0, .int .i64 0, .string ⟨#[]⟩, .slice none 0 0, .slice none 0 0, .slice none 0 0]) ∧ At (fun _ => False) w0 w' (Hp.seps (Hp.blk P #[v0, v1, v2, .int .i64 cd] 63 :: lst)) := by
  unfold nodeV
  have hS := hS.alloc #[.int .i64 x.f0, .int .i64 x.f1, .int .i64 x.f2, .string x.f3, .int .i64 x.f4.f0, .int .i64 x.f4.f1, .string x.f4.f2, .slice A7 x.f4.f3.length c7, .slice A8 x.f5.length c8, .slice A9 x.f6.length c9] 30
  obtain ⟨q0, hq0⟩ : ∃ q, q = w.heap.size := ⟨_, rfl⟩
  obtain ⟨W0, hW0⟩ : ∃ V, V = w.alloc (.cells #[.int .i64 x.f0, .int .i64 x.f1, .int .i64 x.f2, .string x.f3, .int .i64 x.f4.f0, .int .i64 x.f4.f1, .string x.f4.f2, .slice A7 x.f4.f3.length c7, .slice A8 x.f5.length c8, .slice A9 x.f6.length c9] 30) := ⟨_, rfl⟩
  rw [← hq0, ← hW0] at hS
  have hS := hS.alloc #[.int .i64 0, .int .i64 0, .int .i64 0, .string ⟨#[]⟩, .int .i64 0, .int .i64 0, .string ⟨#[]⟩, .slice none 0 0, .slice none 0 0, .slice none 0 0] 30
  obtain ⟨q1, hq1⟩ : ∃ q, q = W0.heap.size := ⟨_, rfl⟩
  obtain ⟨W1, hW1⟩ : ∃ V, V = W0.alloc (.cells #[.int .i64 0, .int .i64 0, .int .i64 0, .string ⟨#[]⟩, .int .i64 0, .int .i64 0, .string ⟨#[]⟩, .slice none 0 0, .slice none 0 0, .slice none 0 0] 30) := ⟨_, rfl⟩
  rw [← hq1, ← hW1] at hS
  have Hq : As (w.alloc (.cells #[.int .i64 x.f0, .int .i64 x.f1, .int .i64 x.f2, .string x.f3, .int .i64 x.f4.f0, .int .i64 x.f4.f1, .string x.f4.f2, .slice A7 x.f4.f3.length c7, .slice A8 x.f5.length c8, .slice A9 x.f6.length c9] 30) = W0 ∧ w.heap.size = q0 ∧ W0.alloc (.cells #[.int .i64 0, .int .i64 0, .int .i64 0, .string ⟨#[]⟩, .int .i64 0, .int .i64 0, .string ⟨#[]⟩, .slice none 0 0, .slice none 0 0, .slice none 0 0] 30) = W1 ∧ q0 + 1 = q1) := ⟨hW0.symm, hq0.symm, hW1.symm, by rw [hq1, hW0, hq0]; simp⟩
  clear hq0 hW0 hq1 hW1
  have ec : (cd != 0) = true := by simpa using hcd
  clear hcd
  go_enter Try.func22, Try.ntmps22
  go_upto_region 1 with fail
  rw [Hq.out.1, Hq.out.2.1, Hq.out.2.2.1, Hq.out.2.2.2]
  clear Hq
  have p0 := (hS.cellAt 2 rfl 0).trans rfl
  have p1 := (hS.cellAt 2 rfl 1).trans rfl
  have p2 := (hS.cellAt 2 rfl 2).trans rfl
  have p3 := (hS.cellAt 2 rfl 3).trans rfl
  have pf0 := hS.frozenAt 2 rfl 0
  have pf1 := hS.frozenAt 2 rfl 1
  have pf2 := hS.frozenAt 2 rfl 2
  have pf3 := hS.frozenAt 2 rfl 3
  have plt := hS.ltAt 2 rfl
  have z0 := (hS.cellAt 0 rfl 0).trans rfl
  have z1 := (hS.cellAt 0 rfl 1).trans rfl
  have z2 := (hS.cellAt 0 rfl 2).trans rfl
  have z3 := (hS.cellAt 0 rfl 3).trans rfl
  have z4 := (hS.cellAt 0 rfl 4).trans rfl
  have z5 := (hS.cellAt 0 rfl 5).trans rfl
  have z6 := (hS.cellAt 0 rfl 6).trans rfl
  have z7 := (hS.cellAt 0 rfl 7).trans rfl
  have z8 := (hS.cellAt 0 rfl 8).trans rfl
  have z9 := (hS.cellAt 0 rfl 9).trans rfl
  have zf0 := hS.frozenAt 0 rfl 0
  have zf1 := hS.frozenAt 0 rfl 1
  have zf2 := hS.frozenAt 0 rfl 2
  have zf3 := hS.frozenAt 0 rfl 3
  have zf4 := hS.frozenAt 0 rfl 4
  have zf5 := hS.frozenAt 0 rfl 5
  have zf6 := hS.frozenAt 0 rfl 6
  have zf7 := hS.frozenAt 0 rfl 7
  have zf8 := hS.frozenAt 0 rfl 8
  have zf9 := hS.frozenAt 0 rfl 9
  have zlt := hS.ltAt 0 rfl
  go_wp2_with fail
  refine bodyPost_ret (v := .agg #[.int .i64 0, .int .i64 0, .int .i64 0, .string ⟨#[]⟩, .int .i64 0, .int .i64 0, .string ⟨#[]⟩, .slice none 0 0, .slice none 0 0, .slice none 0 0]) (by simp [results, Try.results22, go_sem, z0, z1, z2, z3, z4, z5, z6, z7, z8, z9]) rfl ⟨rfl, ?_⟩
  have hS9 := At.set10 0 (.int .i64 0) (.int .i64 0) (.int .i64 0) (.string ⟨#[]⟩) (.int .i64 0) (.int .i64 0) (.string ⟨#[]⟩) (.slice none 0 0) (.slice none 0 0) (.slice none 0 0) hS rfl
  simp only [List.set_cons_zero] at hS9
  exact hS9.tail.tail
end Go.Proofs.Ytlkkibeoobognaa.OpenInlineTrees
