/- The reference's Inline; that fuel enough is enough; how many nodes a result has. -/
import Derived.Test.YtlkkibeoobognaaRf2InlineTrees
set_option linter.unusedVariables false
set_option linter.unusedSimpArgs false
set_option maxRecDepth 100000
namespace Go.Proofs.Ytlkkibeoobognaa.OpenInlineTrees
open Go.RowKit Go.Deep
open Go.Proofs.YtlkkibeoobognaaW.PrintWords Go.Proofs.YtlkkibeoobognaaW.PrintLast Go.Proofs.YtlkkibeoobognaaW.PrintMore Go.Proofs.Ytlkkibeoobognaa.PInlineTrees
/-! fuel -/
def frN (op : List ByteArray) : List S32 → Nat
  | [] => 0
  | t :: l => (if inS op t.f0 = true then 0 else 1) + frN op l
theorem inS_snoc (op : List ByteArray) (s r : ByteArray) : inS (op ++ [s]) r = (inS op r || decide (s.toList = r.toList)) := by
  unfold inS; rw [List.any_append]; simp
theorem frN_le (op : List ByteArray) (s : ByteArray) : ∀ l, frN (op ++ [s]) l ≤ frN op l
  | [] => Nat.le_refl _
  | t :: l => by
    have h := frN_le op s l
    rw [frN, frN, inS_snoc]
    cases inS op t.f0 <;> cases decide (s.toList = t.f0.toList) <;> simp <;> omega
theorem frN_lt (op : List ByteArray) (s : ByteArray) (t : S32) (hs : t.f0.toList = s.toList) (hf : inS op s = false) : ∀ l : List S32, t ∈ l → frN (op ++ [s]) l < frN op l
  | [], h => by simp at h
  | u :: l, h => by
    have h0 := frN_le op s l
    rw [frN, frN, inS_snoc]
    rcases List.mem_cons.1 h with e | e
    · subst e
      have h1 : inS op t.f0 = false := by rw [← hf]; unfold inS; rw [hs]
      rw [h1, decide_eq_true hs.symm]
      simp; omega
    · have h2 := frN_lt op s t hs hf l e
      cases inS op u.f0 <;> cases decide (s.toList = u.f0.toList) <;> simp <;> omega
theorem frN_len (op : List ByteArray) : ∀ l, frN op l ≤ l.length
  | [] => Nat.le_refl _
  | t :: l => by have := frN_len op l; rw [frN, List.length_cons]; split <;> omega
theorem kidsG_ne (f : S30 → Nat → Res) (hf : ∀ k n, f k n ≠ .out) : ∀ (ks done : List S30) (n : Nat), kidsG f done ks n ≠ .out
  | [], done, n => by rw [kidsG]; intro h; cases h
  | k :: ks, done, n => by
    rw [kidsG]
    cases h : f k n with
    | out => exact absurd h (hf k n)
    | err c => intro h; cases h
    | ok y n1 => exact kidsG_ne f hf ks _ _
theorem used_ne (L : List S32) (m : Nat) (s : ByteArray) (d : Nat) (op : List ByteArray) (n : Nat) (ih : ∀ t, t ∈ L → t.f0.toList = s.toList → inS op s = false → nodeF L m t.f1 d (op ++ [s]) n ≠ .out) : usedG (nodeF L m) L s d op n ≠ .out := by
  rw [usedG]
  cases h : findT L s with
  | none => intro h; cases h
  | some t =>
    simp only []
    cases hi : inS op s with
    | true => rw [if_pos rfl]; intro h; cases h
    | false =>
      rw [if_neg (by decide)]
      unfold findT at h
      exact ih t (List.mem_of_find?_eq_some h) (by simpa using List.find?_some h) hi
theorem node_ne (L : List S32) : ∀ (m : Nat) (x : S30) (d : Nat) (op : List ByteArray) (n : Nat), 42 + frN op L < m + d → d ≤ 41 → nodeF L m x d op n ≠ .out
  | 0, x, d, op, n, h, hd => by omega
  | m + 1, x, d, op, n, h, hd => by
    rw [nodeF]
    by_cases hk : x.f0 = 10
    · rw [if_pos hk]
      refine used_ne L m x.f3 d op n fun t ht hts hi => ?_
      have := frN_lt op x.f3 t hts hi L ht
      exact node_ne L m t.f1 d _ n (by omega) hd
    · rw [if_neg hk]
      by_cases h40 : 40 < d
      · rw [if_pos h40]; intro h; cases h
      · rw [if_neg h40]
        by_cases h4k : 4000 < n + 1
        · rw [if_pos h4k]; intro h; cases h
        · rw [if_neg h4k]
          have hkk := kidsG_ne (fun k n => nodeF L m k (d + 1) op n) (fun k n => node_ne L m k (d + 1) op n (by omega) (by omega)) x.f5 [] (n + 1)
          cases hg : kidsG (fun k n => nodeF L m k (d + 1) op n) [] x.f5 (n + 1) with
          | out => exact absurd hg hkk
          | err c => intro h; cases h
          | ok l n1 => intro h; cases h
theorem top_ne (L : List S32) (s : ByteArray) (hl : L.length ≤ 12) : usedG (nodeF L 60) L s 1 [] 0 ≠ .out :=
  used_ne L 60 s 1 [] 0 fun t _ _ _ => node_ne L 60 t.f1 1 _ 0 (by have := frN_len ([] ++ [s]) L; omega) (by omega)
/-! counts -/
theorem cntNs_app : ∀ (a b : List S30), cntNs (a ++ b) = cntNs a + cntNs b
  | [], b => by simp [cntNs]
  | x :: a, b => by rw [List.cons_append, cntNs, cntNs, cntNs_app a b]; omega
theorem kids_cnt (f : S30 → Nat → Res) (hf : ∀ k n y n', f k n = .ok y n' → n' = n + cntN y) : ∀ (ks done : List S30) (n : Nat) (l : List S30) (n' : Nat), kidsG f done ks n = .ok l n' → n' + cntNs done = n + cntNs l
  | [], done, n, l, n', h => by
    rw [kidsG] at h
    injection h with h1 h2
    rw [h1, h2]
  | k :: ks, done, n, l, n', h => by
    rw [kidsG] at h
    cases hk : f k n with
    | out => rw [hk] at h; cases h
    | err c => rw [hk] at h; cases h
    | ok y n1 =>
      rw [hk] at h
      have h1 := hf k n y n1 hk
      have h2 := kids_cnt f hf ks _ n1 l n' h
      rw [cntNs_app, cntNs, cntNs] at h2
      omega
theorem node_cnt (L : List S32) : ∀ (m : Nat) (x : S30) (d : Nat) (op : List ByteArray) (n : Nat) (y : S30) (n' : Nat), nodeF L m x d op n = .ok y n' → n' = n + cntN y
  | 0, x, d, op, n, y, n', h => by rw [nodeF] at h; cases h
  | m + 1, x, d, op, n, y, n', h => by
    rw [nodeF] at h
    by_cases hk : x.f0 = 10
    · rw [if_pos hk, usedG] at h
      cases hf : findT L x.f3 with
      | none => rw [hf] at h; cases h
      | some t =>
        rw [hf] at h
        simp only [] at h
        cases hi : inS op x.f3 with
        | true => rw [hi, if_pos rfl] at h; cases h
        | false => rw [hi, if_neg (by decide)] at h; exact node_cnt L m t.f1 d _ n y n' h
    · rw [if_neg hk] at h
      by_cases h40 : 40 < d
      · rw [if_pos h40] at h; cases h
      · rw [if_neg h40] at h
        by_cases h4k : 4000 < n + 1
        · rw [if_pos h4k] at h; cases h
        · rw [if_neg h4k] at h
          cases hg : kidsG (fun k n => nodeF L m k (d + 1) op n) [] x.f5 (n + 1) with
          | out => rw [hg] at h; cases h
          | err c => rw [hg] at h; cases h
          | ok l n1 =>
            rw [hg] at h
            injection h with h1 h2
            have h3 := kids_cnt _ (fun k n y n' h => node_cnt L m k (d + 1) op n y n' h) x.f5 [] (n + 1) l n1 hg
            rw [cntNs] at h3
            obtain ⟨a, b, c, e, g, ks, ws⟩ := x
            rw [← h1, cntN]
            omega
theorem top_cntN (L : List S32) (m : Nat) (s : ByteArray) (y : S30) (n' : Nat) (h : usedG (nodeF L m) L s 1 [] 0 = .ok y n') : n' = cntN y := by
  have h2 : nodeF L (m + 1) ⟨10, 0, 0, s, zE, [], []⟩ 1 [] 0 = .ok y n' := by rw [nodeF_use]; exact h
  have := node_cnt L (m + 1) _ 1 [] 0 y n' h2
  omega
set_option maxHeartbeats 25600000 in
theorem rinline_does (m : Nat) (hm : m ≤ 100000) (w : World) (A : Option Addr) (c : Nat) (L : List S32) (hL : Lr w A c L) (hLl : L.length ≤ 1000000) (s : ByteArray) (hres : usedG (nodeF L m) L s 1 [] 0 ≠ .out) :
    Calls Try.prog 11 #[.slice A L.length c, .string s] w (TreeTold w (usedG (nodeF L m) L s 1 [] 0)) := by
  have hS := At.start0 (Below.refl w.heap.size w)
  have hE := nodeF_use L m 0 0 s zE [] [] 1 [] 0
  have hS := hS.alloc #[.int .i64 0, .int .i64 0, .int .i64 0, .string ⟨#[]⟩, .int .i64 0, .int .i64 0, .string ⟨#[]⟩, .slice none 0 0, .slice none 0 0, .slice none 0 0] 30
  obtain ⟨q0, hq0⟩ : ∃ q, q = w.heap.size := ⟨_, rfl⟩
  obtain ⟨W0, hW0⟩ : ∃ V, V = w.alloc (.cells #[.int .i64 0, .int .i64 0, .int .i64 0, .string ⟨#[]⟩, .int .i64 0, .int .i64 0, .string ⟨#[]⟩, .slice none 0 0, .slice none 0 0, .slice none 0 0] 30) := ⟨_, rfl⟩
  rw [← hq0, ← hW0] at hS
  have hS := hS.alloc #[.slice A L.length c, .slice none 0 0, .int .i64 0, .int .i64 0] 63
  obtain ⟨q1, hq1⟩ : ∃ q, q = W0.heap.size := ⟨_, rfl⟩
  obtain ⟨W1, hW1⟩ : ∃ V, V = W0.alloc (.cells #[.slice A L.length c, .slice none 0 0, .int .i64 0, .int .i64 0] 63) := ⟨_, rfl⟩
  rw [← hq1, ← hW1] at hS
  have Hq : As (w.alloc (.cells #[.int .i64 0, .int .i64 0, .int .i64 0, .string ⟨#[]⟩, .int .i64 0, .int .i64 0, .string ⟨#[]⟩, .slice none 0 0, .slice none 0 0, .slice none 0 0] 30) = W0 ∧ w.heap.size = q0 ∧ W0.alloc (.cells #[.slice A L.length c, .slice none 0 0, .int .i64 0, .int .i64 0] 63) = W1 ∧ q0 + 1 = q1) := ⟨hW0.symm, hq0.symm, hW1.symm, by rw [hq1, hW0, hq0]; simp⟩
  clear hq0 hW0 hq1 hW1
  have hS0 : At (fun _ => False) w W1 (Hp.seps (Hp.blk q1 #[.slice A L.length c, .slice none 0 0, .int .i64 0, .int .i64 0] 63 :: Hp.row 9 1 encS (.slice none 0 0) ([] : List ByteArray) :: [Hp.blk q0 #[.int .i64 0, .int .i64 0, .int .i64 0, .string ⟨#[]⟩, .int .i64 0, .int .i64 0, .string ⟨#[]⟩, .slice none 0 0, .slice none 0 0, .slice none 0 0] 30])) := At.front 1 (hS.nilRow 9 1 encS) rfl
  have hCC := rin_use m (rin_all m) w A c L hL hLl ⟨10, 0, 0, s, zE, [], []⟩ none 0 none 0 none 0 1 0 [] W1 _ none 0 q1 rfl (by omega) (by omega) (by simp only [List.length_nil]; omega) (by rw [hE]; exact hres) hS0
  rw [hE] at hCC
  unfold nodeV at hCC
  simp only [zE, List.length_nil] at hCC
  have HCC := As.mk hCC
  clear hCC hS0 hE hres hLl
  go_enter Try.func11, Try.ntmps11
  go_wp2_with fail
  rw [Hq.out.1, Hq.out.2.1, Hq.out.2.2.1, Hq.out.2.2.2]
  clear Hq
  refine HCC.out.mono ?_
  clear hS HCC
  rintro e w4 ⟨o, O2, oc2, n', rfl, (⟨cd, hr, hcd, hS6⟩ | ⟨hr, hn', hS6⟩)⟩
  · have HX := As.mk (⟨hr, hcd⟩ : _ ∧ _)
    have ec : (cd != 0) = true := by simpa using hcd
    clear hr hcd
    have hS6 := hS6.alloc #[.int .i64 o.x.f0, .int .i64 o.x.f1, .int .i64 o.x.f2, .string o.x.f3, .int .i64 o.x.f4.f0, .int .i64 o.x.f4.f1, .string o.x.f4.f2, .slice o.A o.x.f4.f3.length o.c, .slice o.B o.x.f5.length o.d, .slice o.C o.x.f6.length o.q] 30
    obtain ⟨k0, hk0⟩ : ∃ q, q = w4.heap.size := ⟨_, rfl⟩
    obtain ⟨K0, hK0⟩ : ∃ V, V = w4.alloc (.cells #[.int .i64 o.x.f0, .int .i64 o.x.f1, .int .i64 o.x.f2, .string o.x.f3, .int .i64 o.x.f4.f0, .int .i64 o.x.f4.f1, .string o.x.f4.f2, .slice o.A o.x.f4.f3.length o.c, .slice o.B o.x.f5.length o.d, .slice o.C o.x.f6.length o.q] 30) := ⟨_, rfl⟩
    rw [← hk0, ← hK0] at hS6
    have Hk : As (w4.alloc (.cells #[.int .i64 o.x.f0, .int .i64 o.x.f1, .int .i64 o.x.f2, .string o.x.f3, .int .i64 o.x.f4.f0, .int .i64 o.x.f4.f1, .string o.x.f4.f2, .slice o.A o.x.f4.f3.length o.c, .slice o.B o.x.f5.length o.d, .slice o.C o.x.f6.length o.q] 30) = K0 ∧ w4.heap.size = k0) := ⟨hK0.symm, hk0.symm⟩
    clear hk0 hK0
    go_upto_region 3 with fail
    rw [Hk.out.1, Hk.out.2]
    clear Hk
    have p0 := (hS6.cellAt 1 rfl 0).trans rfl
    have p1 := (hS6.cellAt 1 rfl 1).trans rfl
    have p2 := (hS6.cellAt 1 rfl 2).trans rfl
    have p3 := (hS6.cellAt 1 rfl 3).trans rfl
    go_upto_region 4 with fail
    have z0 := (hS6.cellAt 3 rfl 0).trans rfl
    have z1 := (hS6.cellAt 3 rfl 1).trans rfl
    have z2 := (hS6.cellAt 3 rfl 2).trans rfl
    have z3 := (hS6.cellAt 3 rfl 3).trans rfl
    have z4 := (hS6.cellAt 3 rfl 4).trans rfl
    have z5 := (hS6.cellAt 3 rfl 5).trans rfl
    have z6 := (hS6.cellAt 3 rfl 6).trans rfl
    have z7 := (hS6.cellAt 3 rfl 7).trans rfl
    have z8 := (hS6.cellAt 3 rfl 8).trans rfl
    have z9 := (hS6.cellAt 3 rfl 9).trans rfl
    have zf0 := hS6.frozenAt 3 rfl 0
    have zf1 := hS6.frozenAt 3 rfl 1
    have zf2 := hS6.frozenAt 3 rfl 2
    have zf3 := hS6.frozenAt 3 rfl 3
    have zf4 := hS6.frozenAt 3 rfl 4
    have zf5 := hS6.frozenAt 3 rfl 5
    have zf6 := hS6.frozenAt 3 rfl 6
    have zf7 := hS6.frozenAt 3 rfl 7
    have zf8 := hS6.frozenAt 3 rfl 8
    have zf9 := hS6.frozenAt 3 rfl 9
    have zlt := hS6.ltAt 3 rfl
    have hqp := hS6.neBB 3 1 rfl rfl (by decide)
    have hpq := hqp.symm
    go_region_law (fail)
    all_goals (go_wp2_with fail)
    all_goals (refine bodyPost_ret (v := .tuple #[.agg #[.int .i64 0, .int .i64 0, .int .i64 0, .string ⟨#[]⟩, .int .i64 0, .int .i64 0, .string ⟨#[]⟩, .slice none 0 0, .slice none 0 0, .slice none 0 0], .int .i64 cd]) (by simp [results, Try.results11, go_sem, z0, z1, z2, z3, z4, z5, z6, z7, z8, z9]) rfl ⟨⟨0, zN, none, 0, none, 0, none, 0⟩, cd, rfl, ?_, zN_in _, .inl ⟨HX.out.2, HX.out.1, rfl⟩⟩)
    all_goals (exact ((At.set10 3 (.int .i64 0) (.int .i64 0) (.int .i64 0) (.string ⟨#[]⟩) (.int .i64 0) (.int .i64 0) (.string ⟨#[]⟩) (.slice none 0 0) (.slice none 0 0) (.slice none 0 0) hS6 rfl).drew).bl)
  · have HX := As.mk (⟨hr, hn'⟩ : _ ∧ _)
    clear hr hn'
    have hS6 := hS6.alloc #[.int .i64 o.x.f0, .int .i64 o.x.f1, .int .i64 o.x.f2, .string o.x.f3, .int .i64 o.x.f4.f0, .int .i64 o.x.f4.f1, .string o.x.f4.f2, .slice o.A o.x.f4.f3.length o.c, .slice o.B o.x.f5.length o.d, .slice o.C o.x.f6.length o.q] 30
    obtain ⟨k0, hk0⟩ : ∃ q, q = w4.heap.size := ⟨_, rfl⟩
    obtain ⟨K0, hK0⟩ : ∃ V, V = w4.alloc (.cells #[.int .i64 o.x.f0, .int .i64 o.x.f1, .int .i64 o.x.f2, .string o.x.f3, .int .i64 o.x.f4.f0, .int .i64 o.x.f4.f1, .string o.x.f4.f2, .slice o.A o.x.f4.f3.length o.c, .slice o.B o.x.f5.length o.d, .slice o.C o.x.f6.length o.q] 30) := ⟨_, rfl⟩
    rw [← hk0, ← hK0] at hS6
    have Hk : As (w4.alloc (.cells #[.int .i64 o.x.f0, .int .i64 o.x.f1, .int .i64 o.x.f2, .string o.x.f3, .int .i64 o.x.f4.f0, .int .i64 o.x.f4.f1, .string o.x.f4.f2, .slice o.A o.x.f4.f3.length o.c, .slice o.B o.x.f5.length o.d, .slice o.C o.x.f6.length o.q] 30) = K0 ∧ w4.heap.size = k0) := ⟨hK0.symm, hk0.symm⟩
    clear hk0 hK0
    go_upto_region 3 with fail
    rw [Hk.out.1, Hk.out.2]
    clear Hk
    have p0 := (hS6.cellAt 2 rfl 0).trans rfl
    have p1 := (hS6.cellAt 2 rfl 1).trans rfl
    have p2 := (hS6.cellAt 2 rfl 2).trans rfl
    have p3 := (hS6.cellAt 2 rfl 3).trans rfl
    have y0 := (hS6.cellAt 0 rfl 0).trans rfl
    have y1 := (hS6.cellAt 0 rfl 1).trans rfl
    have y2 := (hS6.cellAt 0 rfl 2).trans rfl
    have y3 := (hS6.cellAt 0 rfl 3).trans rfl
    have y4 := (hS6.cellAt 0 rfl 4).trans rfl
    have y5 := (hS6.cellAt 0 rfl 5).trans rfl
    have y6 := (hS6.cellAt 0 rfl 6).trans rfl
    have y7 := (hS6.cellAt 0 rfl 7).trans rfl
    have y8 := (hS6.cellAt 0 rfl 8).trans rfl
    have y9 := (hS6.cellAt 0 rfl 9).trans rfl
    have z0 := (hS6.cellAt 4 rfl 0).trans rfl
    have z1 := (hS6.cellAt 4 rfl 1).trans rfl
    have z2 := (hS6.cellAt 4 rfl 2).trans rfl
    have z3 := (hS6.cellAt 4 rfl 3).trans rfl
    have z4 := (hS6.cellAt 4 rfl 4).trans rfl
    have z5 := (hS6.cellAt 4 rfl 5).trans rfl
    have z6 := (hS6.cellAt 4 rfl 6).trans rfl
    have z7 := (hS6.cellAt 4 rfl 7).trans rfl
    have z8 := (hS6.cellAt 4 rfl 8).trans rfl
    have z9 := (hS6.cellAt 4 rfl 9).trans rfl
    have zf0 := hS6.frozenAt 4 rfl 0
    have zf1 := hS6.frozenAt 4 rfl 1
    have zf2 := hS6.frozenAt 4 rfl 2
    have zf3 := hS6.frozenAt 4 rfl 3
    have zf4 := hS6.frozenAt 4 rfl 4
    have zf5 := hS6.frozenAt 4 rfl 5
    have zf6 := hS6.frozenAt 4 rfl 6
    have zf7 := hS6.frozenAt 4 rfl 7
    have zf8 := hS6.frozenAt 4 rfl 8
    have zf9 := hS6.frozenAt 4 rfl 9
    have zlt := hS6.ltAt 4 rfl
    have hkq := hS6.neBB 0 4 rfl rfl (by decide)
    have hqk := hkq.symm
    go_wp2_with fail
    have hS9 := At.set10 4 (.int .i64 o.x.f0) (.int .i64 o.x.f1) (.int .i64 o.x.f2) (.string o.x.f3) (.int .i64 o.x.f4.f0) (.int .i64 o.x.f4.f1) (.string o.x.f4.f2) (.slice o.A o.x.f4.f3.length o.c) (.slice o.B o.x.f5.length o.d) (.slice o.C o.x.f6.length o.q) hS6 rfl
    refine bodyPost_ret (v := .tuple #[.agg #[.int .i64 o.x.f0, .int .i64 o.x.f1, .int .i64 o.x.f2, .string o.x.f3, .int .i64 o.x.f4.f0, .int .i64 o.x.f4.f1, .string o.x.f4.f2, .slice o.A o.x.f4.f3.length o.c, .slice o.B o.x.f5.length o.d, .slice o.C o.x.f6.length o.q], .int .i64 0]) (by simp [results, Try.results11, go_sem, z0, z1, z2, z3, z4, z5, z6, z7, z8, z9]) rfl ⟨o, 0, rfl, hS9.bl, ?_, .inr ⟨rfl, n', HX.out.2, HX.out.1⟩⟩
    obtain ⟨F, ⟨F1, F2, h1, _⟩, _⟩ := (At.front 1 hS9 rfl).out
    exact node_in (hkN_K _ _ _ _ F1 hS9.bl h1)
end Go.Proofs.Ytlkkibeoobognaa.OpenInlineTrees
