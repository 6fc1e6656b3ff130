/- A board in memory; at. Keys whose values are whole numbers. -/
import Derived.Test.YtdbdijicicbhfaaBA
set_option linter.unusedVariables false
set_option linter.unusedSimpArgs false
namespace Go.Proofs.Ytdbdijicicbhfaa
open Go.RowKit
open Go.Maps (Keyed)
abbrev PK := (Int × Int) × ByteArray × Bool
def encP (k : PK) : Value := .agg #[.int .i64 k.1.1, .int .i64 k.1.2, .string k.2.1, .bool k.2.2]
def encC (c : Int × Int) : Value := .agg #[.int .i64 0, .int .i64 c.1, .int .i64 0, .string ⟨#[]⟩, .complex .f64 0 0, .int .i64 c.2]
theorem encP_inj (x y : PK) (h : encP x = encP y) : x = y := by
  obtain ⟨⟨a, b⟩, s, t⟩ := x
  obtain ⟨⟨c, d⟩, u, v⟩ := y
  simp [encP] at h
  obtain ⟨rfl, rfl, rfl, rfl⟩ := h
  rfl
theorem KlawP : Keyed Try.prog 57 := Keyed.of_law (deep_law_laid (by kernel_rfl : laidOutB Try.prog = true) (m := 4) (by omega) (by decide +kernel) (by kernel_rfl) (by kernel_rfl))
def okI (a : Int) : Prop := -9223372036854775808 ≤ a ∧ a ≤ 9223372036854775807
def okP (x : PK) : Prop := okI x.1.1 ∧ okI x.1.2 ∧ x.2.1.size ≤ 9223372036854775807
theorem keyP_ok (x : PK) (h : okP x) : ∃ l, keyOf Try.prog 57 (encP x) = some l := by
  obtain ⟨h1, h2, h3⟩ := h
  have hts : Try.prog.types.size = 104 := by kernel_rfl
  have hkt : Try.prog.keyType 57 = true := by kernel_rfl
  have hc : Try.prog.cellsOf 57 = 4 := by kernel_rfl
  have hc2 : Try.prog.cellsOf 23 = 2 := by kernel_rfl
  have hc1 : Try.prog.cellsOf 3 = 1 := by kernel_rfl
  have hc3 : Try.prog.cellsOf 9 = 1 := by kernel_rfl
  have hc4 : Try.prog.cellsOf 4 = 1 := by kernel_rfl
  have hw : ∀ a, okI a → (Lit.int .i64 a).wf = true := by intro a ha; obtain ⟨h1, h2⟩ := ha; simp [Lit.wf, IntKind.min, IntKind.max, IntKind.bits, IntKind.signed]; omega
  have e2 : ∀ d a b, okI a → okI b → Try.prog.keyLits (d + 2) 23 [.int .i64 a, .int .i64 b] = some [.int .i64 a, .int .i64 b] := by
    intro d a b ha hb
    simp only [Program.keyLits, Try.underlying23]
    simp [hc1, hc2, Program.keyLits, Try.underlying3, hw _ ha, hw _ hb]
  have e3 : ∀ d (s : ByteArray), s.size ≤ 9223372036854775807 → ∃ q, Try.prog.keyLits (d + 1) 9 [.string s] = some [q] := by
    intro d s hs
    simp only [Program.keyLits, Try.underlying9]
    exact ⟨_, if_pos (by simp only [maxLen]; exact hs)⟩
  have e4 : ∀ d (b : Bool), ∃ q, Try.prog.keyLits (d + 1) 4 [.bool b] = some [q] := by
    intro d b
    simp only [Program.keyLits, Try.underlying4]
    exact ⟨_, rfl⟩
  have f1 : ∀ a b, okI a → okI b → Try.prog.keyLits 104 23 [.int .i64 a, .int .i64 b] = some [.int .i64 a, .int .i64 b] := e2 (104 - 2)
  obtain ⟨q1, f2⟩ := e3 (104 - 1) x.2.1 h3
  obtain ⟨q2, f3⟩ := e4 (104 - 1) x.2.2
  unfold keyOf
  rw [Try.underlying57]
  simp only [hkt, Program.keyLits, Try.underlying57]
  simp [Value.formed, encP, Value.cells, hc, hc1, hc2, hc3, hc4, Try.underlying57, f1 _ _ h1 h2, f2, f3]

abbrev PF := PK → Option (Int × Int)
def bdV (p : Nat) (l : List KeyM) (n : Nat) (f : PF) (now : Int) (s m : Nat) (r : List Hp) : List Hp :=
  Hp.blk p #[.pointer (some ⟨s, 0, none⟩), .map (some m), .int .i64 now] 55 :: isSc s l :: Hp.mp Try.prog 57 m n encP encC f :: r
def isBd (p : Nat) (l : List KeyM) (n : Nat) (f : PF) (now : Int) : Hp := Hp.ex fun x : Nat × Nat => Hp.seps (bdV p l n f now x.1 x.2 [])
theorem bd_open {F0 : Nat → Prop} {w0 w : World} {p : Nat} {l : List KeyM} {n : Nat} {f : PF} {now : Int} {r : List Hp} (h : At F0 w0 w (Hp.seps (isBd p l n f now :: r))) : ∃ s m, At F0 w0 w (Hp.seps (bdV p l n f now s m r)) := by
  obtain ⟨⟨s, m⟩, h⟩ := h.openAt (f := fun x : Nat × Nat => bdV p l n f now x.1 x.2 []) 0 rfl
  exact ⟨s, m, h⟩
theorem bd_close {F0 : Nat → Prop} {w0 w : World} {p : Nat} {l : List KeyM} {n : Nat} {f : PF} {now : Int} {s m : Nat} {r : List Hp} (h : At F0 w0 w (Hp.seps (bdV p l n f now s m r))) : At F0 w0 w (Hp.seps (isBd p l n f now :: r)) :=
  At.closeL (f := fun x : Nat × Nat => bdV p l n f now x.1 x.2 []) (s, m) h
/-- The place of a name. -/
def plOf (k : KeyM) (id : Int × Int) (s : ByteArray) : PK := if k.f2 then ((0, 0), s, true) else (id, s, false)
def cellOf (f : PF) (k : PK) : Int × Int := (f k).getD (0, 0)
theorem lookC {m n : Nat} {f : PF} (k : PK) (hk : okP k) (W : World) (h : MapIs W Try.prog 57 m n encP encC f) : (Instr.lookup 53 (.map (some m)) (encP k) true).run Try.prog W = .ok (.tuple #[encC (cellOf f k), .bool (f k).isSome]) W := by
  obtain ⟨kl, hkl⟩ := keyP_ok k hk
  unfold cellOf
  cases hf : f k with
  | none => exact h.look_none (t := 53) KlawP encP_inj Try.underlying53 (z := encC (0, 0)) (by kernel_rfl) hkl hf true
  | some y => exact h.look_some (t := 53) KlawP encP_inj Try.underlying53 hkl hf true
end Go.Proofs.Ytdbdijicicbhfaa
