/- A table in memory: its parts, its keys, the reading functions. -/
import Derived.Test.YtkebkmbfglodlaaDoorRowz
import Derived.Test.YtkebkmbfglodlaaDoorMp
import Derived.Test.YtkebkmbfglodlaaDoorGrow
import Derived.Test.YtkebkmbfglodlaaDoorProg
import Derived.Maps.Own
import Derived.DeepKeys4
import Derived.Laws.StructEq
import Derived.Deep.RegionLaw
import Derived.Deep.RegionWith
import Derived.IntWalk
set_option linter.unusedVariables false
namespace Go.Proofs.YtkebkmbfglodlaaDoor
open Go.RowKit
open Go.Maps (Keyed)
def encI (x : Int) : List Value := [.int .i64 x]
theorem encI_len (x : Int) : (encI x).length = 1 := rfl
theorem one_i (x : Int) : ∀ u ∈ encI x, u.oneCell' = true := by intro u hu; simp [encI] at hu; subst hu; rfl
def encV (v : Value) : List Value := [v]
theorem encV_len (x : Value) : (encV x).length = 1 := rfl
def encId (x : Int × Int) : List Value := [.int .i64 x.1, .int .i64 x.2]
theorem encId_len (x : Int × Int) : (encId x).length = 2 := rfl
theorem one_id (x : Int × Int) : ∀ u ∈ encId x, u.oneCell' = true := by intro u hu; simp [encId] at hu; rcases hu with rfl | rfl <;> rfl
def encK (x : Int × Int) : Value := .agg #[.int .i64 x.1, .int .i64 x.2]
def encN (n : Nat) : Value := .int .i64 (n : Nat)
theorem encK_inj (x y : Int × Int) (h : encK x = encK y) : x = y := by
  obtain ⟨a, b⟩ := x
  obtain ⟨c, d⟩ := y
  simp [encK] at h
  rw [h.1, h.2]
theorem Tryd.laidOut' : laidOutB Tryd.prog = true := by kernel_rfl
theorem Klaw : Keyed Tryd.prog 31 := Keyed.of_law (deep_law_laid Tryd.laidOut' (m := 2) (by omega) (by decide +kernel) (by kernel_rfl) (by kernel_rfl))
def okI (a : Int) : Prop := -9223372036854775808 ≤ a ∧ a ≤ 9223372036854775807
def okId (x : Int × Int) : Prop := okI x.1 ∧ okI x.2
set_option maxRecDepth 100000 in
theorem key_ok (x : Int × Int) (h : okId x) : ∃ l, keyOf Tryd.prog 31 (encK x) = some l := by
  obtain ⟨⟨h1, h2⟩, h3, h4⟩ := h
  have hts : Tryd.prog.types.size = 175 := by kernel_rfl
  have hkt : Tryd.prog.keyType 31 = true := by kernel_rfl
  have hc : Tryd.prog.cellsOf 31 = 2 := by kernel_rfl
  have hc1 : Tryd.prog.cellsOf 3 = 1 := by kernel_rfl
  have e1 : ∀ d a, okI a → Tryd.prog.keyLits (d + 1) 3 [.int .i64 a] = some [.int .i64 a] := by
    intro d a ha
    have hw : (Lit.int .i64 a).wf = true := by obtain ⟨h1, h2⟩ := ha; simp [Lit.wf, IntKind.min, IntKind.max, IntKind.bits, IntKind.signed]; omega
    simp only [Program.keyLits, Tryd.underlying3, hw]
    simp
  have e2 : ∀ a, okI a → Tryd.prog.keyLits 175 3 [.int .i64 a] = some [.int .i64 a] := e1 (175 - 1)
  unfold keyOf
  rw [Tryd.underlying31]
  simp only [hkt, Program.keyLits, Tryd.underlying31]
  simp [Value.formed, encK, Value.cells, hc, hc1, Tryd.underlying31, e2 _ ⟨h1, h2⟩, e2 _ ⟨h3, h4⟩]
/-- Where an id stands. -/
def ixF (xs : List (Int × Int)) (k : Int × Int) : Option Nat := xs.findIdx? (fun x => decide (x = k))
abbrev TRow := (Int × Int) × (Int → Int)
def colOf (R : List TRow) (c : Int) : List Int := R.map fun r => r.2 c
def idsOf (R : List TRow) : List (Int × Int) := R.map (·.1)
abbrev ColL := List (Value × List Int)
abbrev TW := Value × Value × Value × Nat × Nat × ColL
def tbV (p : Nat) (cs : List Int) (R : List TRow) (vc vk vi : Value) (b n : Nat) (L : ColL) (r : List Hp) : List Hp :=
  Hp.blk p #[vc, vk, vi, .map (some b)] 126 :: Hp.row 3 1 encI vc cs :: Hp.row 63 1 encV vk (L.map (·.1)) :: Hp.rows 3 1 encI L :: Hp.row 31 2 encId vi (idsOf R) :: Hp.mp Tryd.prog 31 b n encK encN (ixF (idsOf R)) :: r
def isTb (p : Nat) (cs : List Int) (R : List TRow) : Hp := Hp.ex fun q : {q : TW // q.2.2.2.2.2.map (·.2) = cs.map (colOf R)} => Hp.seps (tbV p cs R q.1.1 q.1.2.1 q.1.2.2.1 q.1.2.2.2.1 q.1.2.2.2.2.1 q.1.2.2.2.2.2 [])
structure TbAt (F0 : Nat → Prop) (w0 w : World) (p : Nat) (cs : List Int) (R : List TRow) (Ac : Option Addr) (cc : Nat) (Ak : Option Addr) (ck : Nat) (Ai : Option Addr) (ci b n : Nat) (L : ColL) (r : List Hp) : Prop where
  hc : cs.length ≤ cc
  hk : cs.length ≤ ck
  hi : R.length ≤ ci
  mc : cs.length ≤ 9223372036854775807
  mi : R.length ≤ 9223372036854775807
  cols : L.map (·.2) = cs.map (colOf R)
  lc : L.length = cs.length
  at_ : At F0 w0 w (Hp.seps (tbV p cs R (.slice Ac cs.length cc) (.slice Ak cs.length ck) (.slice Ai R.length ci) b n L r))
section
variable {F0 : Nat → Prop} {w0 w : World} {p : Nat} {cs : List Int} {R : List TRow} {r : List Hp}
theorem tb_open (h : At F0 w0 w (Hp.seps (isTb p cs R :: r))) : ∃ Ac cc Ak ck Ai ci b n L, TbAt F0 w0 w p cs R Ac cc Ak ck Ai ci b n L r := by
  obtain ⟨⟨⟨vc, vk, vi, b, n, L⟩, hq⟩, h⟩ := h.openAt (f := fun q : {q : TW // q.2.2.2.2.2.map (·.2) = cs.map (colOf R)} => tbV p cs R q.1.1 q.1.2.1 q.1.2.2.1 q.1.2.2.2.1 q.1.2.2.2.2.1 q.1.2.2.2.2.2 []) 0 rfl
  simp only at hq h
  have h : At F0 w0 w (Hp.seps (tbV p cs R vc vk vi b n L r)) := h
  have hl : L.length = cs.length := by simpa using congrArg List.length hq
  obtain ⟨Ac, cc, rfl, h1, h2⟩ := (h.rowAt 1 rfl).shape
  obtain ⟨Ak, ck, rfl, h3, h4⟩ := (h.rowAt 2 rfl).shape
  obtain ⟨Ai, ci, rfl, h5, h6⟩ := (h.rowAt 4 rfl).shape
  simp only [List.length_map, idsOf] at h3 h5 h6 h4
  rw [hl] at h3
  refine ⟨Ac, cc, Ak, ck, Ai, ci, b, n, L, h1, h3, h5, h2, h6, hq, hl, ?_⟩
  simp only [List.length_map, idsOf, hl] at h
  exact h
theorem tb_closeV {vc vk vi : Value} {b n : Nat} {L : ColL} (h : At F0 w0 w (Hp.seps (tbV p cs R vc vk vi b n L r))) (hq : L.map (·.2) = cs.map (colOf R)) : At F0 w0 w (Hp.seps (isTb p cs R :: r)) :=
  At.closeL (f := fun q : {q : TW // q.2.2.2.2.2.map (·.2) = cs.map (colOf R)} => tbV p cs R q.1.1 q.1.2.1 q.1.2.2.1 q.1.2.2.2.1 q.1.2.2.2.2.1 q.1.2.2.2.2.2 []) ⟨(vc, vk, vi, b, n, L), hq⟩ h
variable {Ac : Option Addr} {cc : Nat} {Ak : Option Addr} {ck : Nat} {Ai : Option Addr} {ci b n : Nat} {L : ColL}
theorem TbAt.close (h : TbAt F0 w0 w p cs R Ac cc Ak ck Ai ci b n L r) : At F0 w0 w (Hp.seps (isTb p cs R :: r)) := tb_closeV h.at_ h.cols
theorem TbAt.below {w1 : World} (h : TbAt F0 w0 w p cs R Ac cc Ak ck Ai ci b n L r) (hb : Below w.heap.size w w1) : TbAt F0 w0 w1 p cs R Ac cc Ak ck Ai ci b n L r := ⟨h.hc, h.hk, h.hi, h.mc, h.mi, h.cols, h.lc, h.at_.below hb⟩
end
theorem ret_i {k : IntKind} {a b : Int} (h : a = b) : Ending.returned (.int k a) = .returned (.int k b) := by rw [h]
def posF : List Int → Int → Nat → Int
  | [], _, _ => -1
  | y :: ys, x, k => if x = y then k else posF ys x (k + 1)
def pos (xs : List Int) (x : Int) : Int := posF xs x 0
theorem posF_spec : ∀ (xs : List Int) (x : Int) (k : Nat), (x ∉ xs ∧ posF xs x k = -1) ∨ ∃ i, posF xs x k = ((k + i : Nat) : Int) ∧ xs[i]? = some x ∧ ∀ j, j < i → xs[j]? ≠ some x
  | [], x, k => .inl ⟨by simp, rfl⟩
  | y :: ys, x, k => by
    by_cases h : x = y
    · subst h
      exact .inr ⟨0, by simp [posF], rfl, fun j hj => by omega⟩
    · rcases posF_spec ys x (k + 1) with ⟨h1, h2⟩ | ⟨i, h1, h2, h3⟩
      · exact .inl ⟨by simp [h1, h], by simp [posF, h, h2]⟩
      · refine .inr ⟨i + 1, by simp only [posF, if_neg h, h1]; omega, h2, fun j hj => ?_⟩
        cases j with
        | zero => simpa using Ne.symm h
        | succ j => exact h3 j (by omega)
theorem pos_spec (xs : List Int) (x : Int) : (x ∉ xs ∧ pos xs x = -1) ∨ ∃ i : Nat, pos xs x = (i : Int) ∧ xs[i]? = some x ∧ ∀ j, j < i → xs[j]? ≠ some x := by
  rcases posF_spec xs x 0 with h | ⟨i, h1, h2, h3⟩
  · exact .inl h
  · exact .inr ⟨i, by rw [Nat.zero_add] at h1; exact h1, h2, h3⟩
set_option maxHeartbeats 1600000 in
theorem index_does (v : Value) (xs : List Int) (a : Int) (w : World) (hd : Rd w 1 encI v xs) : Calls Tryd.prog 76 #[v, .int .i64 a] w fun e w' => e = .returned (.int .i64 (pos xs a)) ∧ Below w.heap.size w w' := by
  obtain ⟨A, c, rfl, hc, hn⟩ := hd.shape
  have HD := As.mk hd
  clear hd
  generalize hr : pos xs a = r
  have HR := As.mk hr
  clear hr
  go_enter Tryd.func76, Tryd.ntmps76
  go_wp2
  go_loopw [8] (fun iv wr => ∃ k : Nat, k ≤ xs.length ∧ iv = .int .i64 k ∧ As (posF (xs.drop k) a k = r) ∧ As (Below w.heap.size w wr)) (fun iv _ => xs.length - (intOf iv).toNat)
  case atStart => exact ⟨0, by omega, rfl, HR, ⟨Below.refl _ _⟩⟩
  case round =>
    obtain ⟨k, hk, rfl, HA, HL⟩ := hrel
    by_cases hlt : k < xs.length
    · obtain ⟨x, hx⟩ : ∃ x, xs[k]? = some x := ⟨_, List.getElem?_eq_getElem hlt⟩
      obtain ⟨b0, off, h1, h2, h3⟩ := (HD.out.below HL.out).cells _ _ _ rfl _ _ hx
      subst h1
      have c0 := h3 0 (by decide)
      simp only [encI, Nat.mul_one, Nat.add_zero, List.getElem?_cons_zero] at c0
      have hdr : xs.drop k = x :: xs.drop (k + 1) := by rw [List.drop_eq_getElem_cons hlt]; congr 1; exact (List.getElem?_eq_some_iff.1 hx).2
      have HA2 : As ((if a = x then (k : Int) else posF (xs.drop (k + 1)) a (k + 1)) = r) := ⟨by rw [← HA.out, hdr]; rfl⟩
      have HX := As.mk hx
      clear hx hdr h2 h3
      by_cases he : a = x
      · subst he
        have HA3 : As ((k : Int) = r) := ⟨by have := HA2.out; rwa [if_pos rfl] at this⟩
        go_wp2
        go_ret
        exact ⟨ret_i HA3.out, HL.out⟩
      · have HA3 : As (posF (xs.drop (k + 1)) a (k + 1) = r) := ⟨by have := HA2.out; rwa [if_neg he] at this⟩
        have t0 : (a == x) = false := by simpa using he
        go_wp2
        exact ⟨⟨k + 1, by omega, by go_num, HA3, HL⟩, by simp [intOf]; omega⟩
    · obtain rfl : k = xs.length := by omega
      have HA3 : As ((-1 : Int) = r) := ⟨by have := HA.out; simpa [posF] using this⟩
      go_wp2
      go_ret
      exact ⟨ret_i HA3.out, HL.out⟩
end Go.Proofs.YtkebkmbfglodlaaDoor
