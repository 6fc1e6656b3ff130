/- Contains of a row of strings; what used and node tell; used out of node. No condition but bounded sizes. -/
import Derived.Test.YtlkkibeoobognaaIn1InlineTrees
set_option linter.unusedVariables false
set_option linter.unusedSimpArgs false
set_option maxRecDepth 100000
namespace Go.Proofs.Ytlkkibeoobognaa.OpenInlineTrees
open Go.RowKit Go.Deep
open Go.Proofs.YtlkkibeoobognaaW.PrintWords Go.Proofs.YtlkkibeoobognaaW.PrintLast Go.Proofs.YtlkkibeoobognaaW.PrintMore Go.Proofs.Ytlkkibeoobognaa.PInlineTrees
theorem encS_len (s : ByteArray) : (encS s).length = 1 := rfl
theorem one_S (s : ByteArray) : ∀ u ∈ encS s, u.oneCell' = true := by
  intro u hu; simp only [encS, List.mem_cons, List.not_mem_nil, or_false] at hu; subst hu; rfl
theorem infoS : (Try.prog.info? 9).map (fun i => (i.zero, i.size, i.bytes)) = some (some (.string ⟨#[]⟩), 1, 16) := by kernel_rfl
theorem C_strs {w : World} {A : Option Addr} {n c : Nat} {l : List ByteArray} (h : Rw w 9 1 encS (.slice A n c) l) : Kd.C Kd.string w A l.length l := by
  obtain ⟨A', c', h1, h2, h3⟩ := h.shape
  injection h1 with e1 e2 e3
  subst e1; subst e2; subst e3
  refine ⟨rfl, by omega, fun h0 => ?_⟩
  obtain ⟨g, e, _, _⟩ := h.cell encS_len 0 l[0] (List.getElem?_eq_getElem h0)
  subst e
  refine ⟨_, rfl, fun j p hp => ⟨encS p, rfl, rfl, fun i u hu => ?_⟩⟩
  obtain ⟨g', e, _, hc⟩ := h.cell encS_len j p hp
  injection e with e; injection e with e; subst e
  have hi : i < 1 := (List.getElem?_eq_some_iff.1 hu).1
  rw [Addr.add_lit, Nat.zero_add]
  exact (hc i hi).1.trans hu
theorem index_evt (op : List ByteArray) (s : ByteArray) (hl : op.length ≤ 1000000) : ∀ (j i : Nat), i + j = op.length → ∃ r : Int, slices_Index_string_string.l0 (j + 1) op s (op.length : Int) (i : Int) = some r ∧ decide (r ≥ 0) = inS (op.drop i) s
  | 0, i, hi => ⟨-1, by rw [slices_Index_string_string.l0, if_neg (by omega)], by rw [List.drop_of_length_le (by omega)]; rfl⟩
  | j + 1, i, hi => by
    have hlt : i < op.length := by omega
    have hd : op.drop i = op[i] :: op.drop (i + 1) := List.drop_eq_getElem_cons hlt
    have hr : rdOf ByteArray.empty op (i : Int) = op[i] := by
      unfold rdOf
      rw [Int.toNat_natCast, List.getD_eq_getElem?_getD, List.getElem?_eq_getElem hlt]
      rfl
    obtain ⟨r, h1, h2⟩ := index_evt op s hl j (i + 1) (by omega)
    rw [slices_Index_string_string.l0, if_pos (by omega), if_pos (by omega), if_pos (by omega), hr, hd]
    by_cases he : s.toList = op[i].toList
    · rw [if_pos he]
      refine ⟨_, rfl, ?_⟩
      rw [decide_eq_true (by omega)]
      unfold inS
      rw [List.any_cons, decide_eq_true he.symm, Bool.true_or]
    · rw [if_neg he]
      have e1 : wrap64 ((i : Int) + 1) = ((i + 1 : Nat) : Int) := by unfold wrap64; omega
      rw [e1]
      refine ⟨r, h1, ?_⟩
      rw [h2]
      unfold inS
      rw [List.any_cons, decide_eq_false (fun e => he e.symm), Bool.false_or]
theorem contains_does (w : World) (O : Option Addr) (n oc : Nat) (op : List ByteArray) (s : ByteArray) (h : Rw w 9 1 encS (.slice O n oc) op) (hl : op.length ≤ 1000000) :
    Calls Try.prog 41 #[.slice O op.length oc, .string s] w fun e w' => e = .returned (.bool (inS op s)) ∧ Below w.heap.size w w' := by
  obtain ⟨r, h1, h2⟩ := index_evt op s hl op.length 0 (by omega)
  have hs := h.shape
  obtain ⟨A', c', e1, e2, e3⟩ := hs
  injection e1 with _ e1 e4
  refine (slices_Contains_string_string.calls (op.length + 1) O oc op s (inS op s) w (C_strs h) (by omega) ?_).mono fun e w' h => ⟨h.1, h.2.below⟩
  unfold slices_Contains_string_string.f slices_Index_string_string.f
  rw [show ((0 : Nat) : Int) = 0 from rfl] at h1
  rw [h1, Option.bind_some, h2, List.drop_zero]
def Told (w0 : World) (A : Option Addr) (c : Nat) (L : List S32) (P : Nat) (lst : List Hp) (op : List ByteArray) (res : Res) (e : Ending) (w' : World) : Prop :=
  ∃ (O : Option Addr) (oc n' : Nat), (∃ cd : Int, res = .err cd ∧ cd ≠ 0 ∧ e = .returned (.tuple #[.agg #[.int .i64 0, .int .i64 0, .int .i64 0, .string ⟨#[]⟩, .int .i64 0, .int .i64 0, .string ⟨#[]⟩, .slice none 0 0, .slice none 0 0, .slice none 0 0], .int .i64 cd]) ∧ At (fun _ => False) w0 w' (Hp.seps (Hp.blk P #[.slice A L.length c, .slice O op.length oc, .int .i64 n'] 59 :: Hp.row 9 1 encS (.slice O op.length oc) op :: lst))) ∨
    (∃ o : Fr, res = .ok o.x n' ∧ n' ≤ 4000 ∧ e = .returned (.tuple #[.agg #[.int .i64 o.x.f0, .int .i64 o.x.f1, .int .i64 o.x.f2, .string o.x.f3, .int .i64 o.x.f4.f0, .int .i64 o.x.f4.f1, .string o.x.f4.f2, .slice o.A o.x.f4.f3.length o.c, .slice o.B o.x.f5.length o.d, .slice o.C o.x.f6.length o.q], .int .i64 0]) ∧ At (fun _ => False) w0 w' (Hp.seps (hkm k30 o.x (nodC o) :: Hp.blk P #[.slice A L.length c, .slice O op.length oc, .int .i64 n'] 59 :: Hp.row 9 1 encS (.slice O op.length oc) op :: lst)))
structure Lr (w0 : World) (A : Option Addr) (c : Nat) (L : List S32) : Prop where
  C : k32.C w0 A L.length L
  c : L.length ≤ c
  z : ∀ t ∈ L, szN t.f1 ≤ 1048576
def UsedDo (m : Nat) : Prop := ∀ (w0 : World) (A : Option Addr) (c : Nat) (L : List S32), Lr w0 A c L → ∀ (s : ByteArray) (d n : Nat) (op : List ByteArray) (w : World) (lst : List Hp) (O : Option Addr) (oc P : Nat), d ≤ 41 → n ≤ 4000 → op.length + m + 1 ≤ 1000000 → usedG (nodeF L m) L s d op n ≠ .out →
  At (fun _ => False) w0 w (Hp.seps (Hp.blk P #[.slice A L.length c, .slice O op.length oc, .int .i64 n] 59 :: Hp.row 9 1 encS (.slice O op.length oc) op :: lst)) →
  Calls Try.prog 21 #[.pointer (some ⟨P, 0, none⟩), .string s, .int .i64 d] w (Told w0 A c L P lst op (usedG (nodeF L m) L s d op n))
def NodeDo (m : Nat) : Prop := ∀ (w0 : World) (A : Option Addr) (c : Nat) (L : List S32), Lr w0 A c L → ∀ (x : S30) (A7 : Option Addr) (c7 : Nat) (A8 : Option Addr) (c8 : Nat) (A9 : Option Addr) (c9 : Nat) (d n : Nat) (op : List ByteArray) (w : World) (lst : List Hp) (O : Option Addr) (oc P : Nat), NodeIn w0 x A7 c7 A8 c8 A9 c9 → szN x ≤ 1048576 → d ≤ 41 → n ≤ 4000 → op.length + m ≤ 1000000 → nodeF L m x d op n ≠ .out →
  At (fun _ => False) w0 w (Hp.seps (Hp.blk P #[.slice A L.length c, .slice O op.length oc, .int .i64 n] 59 :: Hp.row 9 1 encS (.slice O op.length oc) op :: lst)) →
  Calls Try.prog 42 #[.pointer (some ⟨P, 0, none⟩), nodeV x A7 c7 A8 c8 A9 c9, .int .i64 d] w (Told w0 A c L P lst op (nodeF L m x d op n))
end Go.Proofs.Ytlkkibeoobognaa.OpenInlineTrees
