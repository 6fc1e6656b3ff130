/- A schema in memory: check, Find, Key, names. -/
import Derived.Test.YtdbdijicicbhfaaSA
set_option linter.unusedVariables false
namespace Go.Proofs.Ytdbdijicicbhfaa
open Go.RowKit
open Go.Maps (Keyed)
def encKey (x : KeyM) : List Value := [.string x.f0, .int .i64 x.f1, .bool x.f2]
theorem encKey_len (x : KeyM) : (encKey x).length = 3 := rfl
theorem one_key (x : KeyM) : ∀ u ∈ encKey x, u.oneCell' = true := by intro u hu; simp [encKey] at hu; rcases hu with rfl | rfl | rfl <;> rfl
theorem Try.info30 : (Try.prog.info? 30).map (fun i => (i.zero, i.size, i.bytes)) = some (some (.agg #[.string ⟨#[]⟩, .int .i64 0, .bool false]), 3, 32) := by kernel_rfl
def encS (s : ByteArray) : Value := .string s
def encN (n : Nat) : Value := .int .i64 (n : Nat)
theorem encS_inj (x y : ByteArray) (h : encS x = encS y) : x = y := by injection h
theorem Klaw : Keyed Try.prog 9 := Go.Maps.string_keyed Try.underlying9
theorem key_ok (s : ByteArray) (h : s.size ≤ 9223372036854775807) : ∃ l, keyOf Try.prog 9 (encS s) = some l := by
  exact ⟨.string s.data.toList, Go.WideMaps.keyOf_string_mk Try.underlying9 (by simp only [maxLen]; exact h)⟩
def atF (l : List KeyM) (s : ByteArray) : Option Nat := l.findIdx? (fun k => decide (k.f0 = s))
theorem atF_snoc (l : List KeyM) (k : KeyM) (h : atF l k.f0 = none) : atF (l ++ [k]) = fput (atF l) k.f0 (some l.length) := by
  funext s
  unfold atF at h ⊢
  unfold fput
  rw [List.findIdx?_append]
  by_cases e : s = k.f0
  · subst e
    rw [h, if_pos rfl]
    simp
  · rw [if_neg e]
    simp [Ne.symm e]
def isSc (p : Nat) (l : List KeyM) : Hp := Hp.ex fun x : Value × Nat => Hp.seps [Hp.blk p #[x.1, .map (some x.2)] 81, Hp.row 30 3 encKey x.1 l, Hp.mp Try.prog 9 x.2 l.length encS encN (atF l)]
theorem sc_openL {F0 : Nat → Prop} {w0 w : World} {p : Nat} {l : List KeyM} {r : List Hp} (h : At F0 w0 w (Hp.seps (isSc p l :: r))) : ∃ A c m, l.length ≤ c ∧ l.length ≤ 9223372036854775807 ∧ At F0 w0 w (Hp.seps (Hp.blk p #[.slice A l.length c, .map (some m)] 81 :: Hp.row 30 3 encKey (.slice A l.length c) l :: Hp.mp Try.prog 9 m l.length encS encN (atF l) :: r)) := by
  obtain ⟨⟨sv, m⟩, h⟩ := h.openAt (f := fun x : Value × Nat => [Hp.blk p #[x.1, .map (some x.2)] 81, Hp.row 30 3 encKey x.1 l, Hp.mp Try.prog 9 x.2 l.length encS encN (atF l)]) 0 rfl
  obtain ⟨A, c, rfl, h1, h2⟩ := (h.rowAt 1 rfl).shape
  exact ⟨A, c, m, h1, h2, h⟩
theorem sc_closeL {F0 : Nat → Prop} {w0 w : World} {p m : Nat} {l : List KeyM} {r : List Hp} {sv : Value} (h : At F0 w0 w (Hp.seps (Hp.blk p #[sv, .map (some m)] 81 :: Hp.row 30 3 encKey sv l :: Hp.mp Try.prog 9 m l.length encS encN (atF l) :: r))) : At F0 w0 w (Hp.seps (isSc p l :: r)) :=
  At.closeL (f := fun x : Value × Nat => [Hp.blk p #[x.1, .map (some x.2)] 81, Hp.row 30 3 encKey x.1 l, Hp.mp Try.prog 9 x.2 l.length encS encN (atF l)]) (sv, m) h
/-- Why a key can't be one more; 0: it can. -/
def chk (l : List KeyM) (k : KeyM) : Int := if nameB k.f0.data.toList = false then 5 else if k.f1 < 0 ∨ 4 < k.f1 then 7 else if (atF l k.f0).isSome then 6 else 0
theorem ret_i {k : IntKind} {a b : Int} (h : a = b) : Ending.returned (.int k a) = .returned (.int k b) := by rw [h]
set_option maxHeartbeats 3200000 in
theorem check_does (p : Nat) (l : List KeyM) (k : KeyM) (hs : k.f0.size ≤ 9223372036854775807) : Does Try.prog 27 #[.pointer (some ⟨p, 0, none⟩), .agg #[.string k.f0, .int .i64 k.f1, .bool k.f2]] (isSc p l) (fun e B => e = .returned (.int .i64 (chk l k)) ∧ B = isSc p l) := by
  refine Does.of fun w F hS => ?_
  obtain ⟨A, c, m, hc, hn, hS⟩ := sc_openL hS.toL
  obtain ⟨s, kd, sh⟩ := k
  simp only at hs ⊢
  obtain ⟨R, hR⟩ : ∃ R, chk l ⟨s, kd, sh⟩ = R := ⟨_, rfl⟩
  rw [hR]
  unfold chk at hR
  simp only at hR
  obtain ⟨kl, hkl⟩ := key_ok s hs
  have hS := hS.alloc #[.string s, .int .i64 kd, .bool sh] 30
  obtain ⟨q, hq⟩ : ∃ q, q = w.heap.size := ⟨_, rfl⟩
  obtain ⟨W, hW⟩ : ∃ W, W = w.alloc (.cells #[.string s, .int .i64 kd, .bool sh] 30) := ⟨_, rfl⟩
  rw [← hW, ← hq] at hS
  have HW := As.mk hW
  have HQ := As.mk hq
  have HN := As.mk (fun w => name_does s w hs)
  clear hW hq hc
  cases hb : nameB s.data.toList with
  | false =>
    rw [hb, if_pos rfl] at hR
    subst hR
    rw [hb] at HN
    clear hb hkl
    go_enter Try.func27, Try.ntmps27
    go_wp2_with fail
    rw [← HW.out, ← HQ.out]
    clear HW HQ
    have q0 := (hS.cellAt 0 rfl 0).trans rfl
    have q1 := (hS.cellAt 0 rfl 1).trans rfl
    have q2 := (hS.cellAt 0 rfl 2).trans rfl
    go_wp2_with fail
    refine (hS.beside (HN.out _)).mono ?_
    rintro e w1 ⟨rfl, hS1⟩
    go_wp2_with fail
    go_ret
    exact At.post (sc_closeL (hS1.sel [1, 1, 1])).ofL ⟨rfl, rfl⟩
  | true =>
    rw [hb, if_neg (by simp)] at hR
    rw [hb] at HN
    clear hb
    by_cases hk : kd < 0 ∨ 4 < kd
    · rw [if_pos hk] at hR
      subst hR
      clear hkl
      rcases hk with hk | hk
      · have t1 : decide (kd < 0) = true := decide_eq_true hk
        go_enter Try.func27, Try.ntmps27
        go_wp2_with fail
        rw [← HW.out, ← HQ.out]
        clear HW HQ
        have q0 := (hS.cellAt 0 rfl 0).trans rfl
        have q1 := (hS.cellAt 0 rfl 1).trans rfl
        have q2 := (hS.cellAt 0 rfl 2).trans rfl
        go_wp2_with fail
        refine (hS.beside (HN.out _)).mono ?_
        rintro e w1 ⟨rfl, hS1⟩
        clear q0 q1 q2
        have q0 := (hS1.cellAt 0 rfl 0).trans rfl
        have q1 := (hS1.cellAt 0 rfl 1).trans rfl
        have q2 := (hS1.cellAt 0 rfl 2).trans rfl
        go_wp2_with fail
        go_ret
        exact At.post (sc_closeL (hS1.sel [1, 1, 1])).ofL ⟨rfl, rfl⟩
      · have t1 : decide (kd < 0) = false := decide_eq_false (by omega)
        have t2 : decide (4 < kd) = true := decide_eq_true hk
        go_enter Try.func27, Try.ntmps27
        go_wp2_with fail
        rw [← HW.out, ← HQ.out]
        clear HW HQ
        have q0 := (hS.cellAt 0 rfl 0).trans rfl
        have q1 := (hS.cellAt 0 rfl 1).trans rfl
        have q2 := (hS.cellAt 0 rfl 2).trans rfl
        go_wp2_with fail
        refine (hS.beside (HN.out _)).mono ?_
        rintro e w1 ⟨rfl, hS1⟩
        clear q0 q1 q2
        have q0 := (hS1.cellAt 0 rfl 0).trans rfl
        have q1 := (hS1.cellAt 0 rfl 1).trans rfl
        have q2 := (hS1.cellAt 0 rfl 2).trans rfl
        go_wp2_with fail
        go_ret
        exact At.post (sc_closeL (hS1.sel [1, 1, 1])).ofL ⟨rfl, rfl⟩
    · rw [if_neg hk] at hR
      have t1 : decide (kd < 0) = false := decide_eq_false (by omega)
      have t2 : decide (4 < kd) = false := decide_eq_false (by omega)
      clear hk
      cases hf : atF l s with
      | none =>
        rw [hf] at hR
        obtain rfl : R = 0 := by simpa using hR.symm
        have HL := As.mk (fun W (h : MapIs W Try.prog 9 m l.length encS encN (atF l)) => h.look_none (t := 79) Klaw encS_inj Try.underlying79 (z := .int .i64 0) (by kernel_rfl) hkl hf true)
        clear hR hf hkl
        go_enter Try.func27, Try.ntmps27
        go_wp2_with fail
        rw [← HW.out, ← HQ.out]
        clear HW HQ
        have q0 := (hS.cellAt 0 rfl 0).trans rfl
        have q1 := (hS.cellAt 0 rfl 1).trans rfl
        have q2 := (hS.cellAt 0 rfl 2).trans rfl
        go_wp2_with fail
        refine (hS.beside (HN.out _)).mono ?_
        rintro e w1 ⟨rfl, hS1⟩
        clear q0 q1 q2
        have q0 := (hS1.cellAt 0 rfl 0).trans rfl
        have q1 := (hS1.cellAt 0 rfl 1).trans rfl
        have q2 := (hS1.cellAt 0 rfl 2).trans rfl
        have p0 := (hS1.cellAt 1 rfl 0).trans rfl
        have p1 := (hS1.cellAt 1 rfl 1).trans rfl
        have hl : ∀ n, (Instr.lookup 79 (.map (some m)) (.string s) true).run Try.prog (w1.drewN n) = .ok (.tuple #[.int .i64 0, .bool false]) (w1.drewN n) := fun n => HL.out _ ((hS1.mpAt 3 rfl).move rfl)
        go_wp2_with fail
        go_quiet (fail)
        go_wp2_with fail
        go_ret
        exact At.post (sc_closeL ((hS1.drewN _).sel [1, 1, 1])).ofL ⟨rfl, rfl⟩
      | some y =>
        rw [hf] at hR
        obtain rfl : R = 6 := by simpa using hR.symm
        have HL := As.mk (fun W (h : MapIs W Try.prog 9 m l.length encS encN (atF l)) => h.look_some (t := 79) Klaw encS_inj Try.underlying79 hkl hf true)
        clear hR hf hkl
        go_enter Try.func27, Try.ntmps27
        go_wp2_with fail
        rw [← HW.out, ← HQ.out]
        clear HW HQ
        have q0 := (hS.cellAt 0 rfl 0).trans rfl
        have q1 := (hS.cellAt 0 rfl 1).trans rfl
        have q2 := (hS.cellAt 0 rfl 2).trans rfl
        go_wp2_with fail
        refine (hS.beside (HN.out _)).mono ?_
        rintro e w1 ⟨rfl, hS1⟩
        clear q0 q1 q2
        have q0 := (hS1.cellAt 0 rfl 0).trans rfl
        have q1 := (hS1.cellAt 0 rfl 1).trans rfl
        have q2 := (hS1.cellAt 0 rfl 2).trans rfl
        have p0 := (hS1.cellAt 1 rfl 0).trans rfl
        have p1 := (hS1.cellAt 1 rfl 1).trans rfl
        have hl : ∀ n, (Instr.lookup 79 (.map (some m)) (.string s) true).run Try.prog (w1.drewN n) = .ok (.tuple #[.int .i64 (y : Nat), .bool true]) (w1.drewN n) := fun n => HL.out _ ((hS1.mpAt 3 rfl).move rfl)
        go_wp2_with fail
        go_quiet (fail)
        go_wp2_with fail
        go_ret
        exact At.post (sc_closeL ((hS1.drewN _).sel [1, 1, 1])).ofL ⟨rfl, rfl⟩
/-- Find. -/
def fnd (l : List KeyM) (s : ByteArray) : Int × Bool := match atF l s with
  | some y => ((y : Nat), true)
  | none => (0, false)
set_option maxHeartbeats 3200000 in
theorem find_does (p : Nat) (l : List KeyM) (s : ByteArray) (hs : s.size ≤ 9223372036854775807) : Does Try.prog 20 #[.pointer (some ⟨p, 0, none⟩), .string s] (isSc p l) (fun e B => e = .returned (.tuple #[.int .i64 (fnd l s).1, .bool (fnd l s).2]) ∧ B = isSc p l) := by
  refine Does.of fun w F hS => ?_
  obtain ⟨A, c, m, hc, hn, hS⟩ := sc_openL hS.toL
  obtain ⟨kl, hkl⟩ := key_ok s hs
  have HR : As (∀ W (h : MapIs W Try.prog 9 m l.length encS encN (atF l)), (Instr.lookup 79 (.map (some m)) (.string s) true).run Try.prog W = .ok (.tuple #[.int .i64 (fnd l s).1, .bool (fnd l s).2]) W) := ⟨fun W h => by
    unfold fnd
    cases hf : atF l s with
    | none => exact h.look_none (t := 79) Klaw encS_inj Try.underlying79 (z := .int .i64 0) (by kernel_rfl) hkl hf true
    | some y => exact h.look_some (t := 79) Klaw encS_inj Try.underlying79 hkl hf true⟩
  generalize (fnd l s).1 = a at *
  generalize (fnd l s).2 = b at *
  have p0 := (hS.cellAt 0 rfl 0).trans rfl
  have p1 := (hS.cellAt 0 rfl 1).trans rfl
  have hl := HR.out _ (hS.mpAt 2 rfl)
  clear hc hkl
  go_enter Try.func20, Try.ntmps20
  go_wp2_with fail
  go_ret2
  exact At.post (sc_closeL hS).ofL ⟨rfl, rfl⟩
end Go.Proofs.Ytdbdijicicbhfaa
