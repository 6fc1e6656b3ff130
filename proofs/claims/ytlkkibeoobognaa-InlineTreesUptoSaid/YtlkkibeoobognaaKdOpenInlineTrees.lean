/- Arguments that are trees of expressions and nodes, opened to the printed kinds; how great they are. No condition. -/
import Derived.Test.YtlkkibeoobognaaPInlineTreesx0
import Derived.Test.YtlkkibeoobognaaRows
import Derived.ProofKit
import Derived.Deep.Slices
set_option linter.unusedVariables false
set_option maxRecDepth 100000
namespace Go.Proofs.Ytlkkibeoobognaa.OpenInlineTrees
open Go.RowKit Go.ChangeShapes Go.WideShapes Go.Deep
open Go.Proofs.YtlkkibeoobognaaW.PrintWords Go.Proofs.YtlkkibeoobognaaW.PrintLast Go.Proofs.YtlkkibeoobognaaW.PrintMore Go.Proofs.Ytlkkibeoobognaa.PInlineTrees
section
variable {H : Type} {enc : TypeId × Value → H} {P : Program} {W : World} {spare : Nat → Bool} {held : Bool}
theorem bulk_one (d : DataW H) : 1 ≤ Rows.uptoBulk d := by
  cases d with
  | lit l => cases l <;> simp [Rows.uptoBulk]
  | nil => simp [Rows.uptoBulk]
  | ptr d => simp [Rows.uptoBulk]
  | slice elems spare => simp [Rows.uptoBulk]
  | agg parts => simp [Rows.uptoBulk]
  | iface t d => simp [Rows.uptoBulk]
  | map entries => simp [Rows.uptoBulk]
  | held h => simp [Rows.uptoBulk]
theorem ms_le {α : Type} {m : α → Nat} {ms : List α → Nat} (m0 : ms [] = 0) (m1 : ∀ x l, ms (x :: l) = m x + ms l) : ∀ (xs : List α) (ds : List (DataW H)), xs.length = ds.length → (∀ (i : Nat) (x : α) (d : DataW H), xs[i]? = some x → ds[i]? = some d → m x ≤ Rows.uptoBulk d) → ms xs ≤ Rows.uptoBulkAll ds
  | [], _, _, _ => by rw [m0]; exact Nat.zero_le _
  | x :: xs, [], h, _ => by simp at h
  | x :: xs, d :: ds, h, hp => by
    have h1 := ms_le m0 m1 xs ds (by simpa using h) fun i y e hy he => hp (i + 1) y e hy he
    have h2 := hp 0 x d rfl rfl
    rw [m1, Rows.uptoBulkAll]
    omega
theorem C_open {α : Type} (d : Kd α) {m : α → Nat} {ms : List α → Nat} (m0 : ms [] = 0) (m1 : ∀ x l, ms (x :: l) = m x + ms l) {t e : TypeId} {fuel : Nat} {v : Value} {x : DataW H × List MemPlace} (ht : P.underlying t = some (.slice e)) (hs : d.sz = P.cellsOf e)
    (hel : ∀ n cs' y, n < fuel → DataW.trod enc P W 0 spare held n e cs' = some y → ∃ a, d.K W a cs' ∧ m a ≤ Rows.uptoBulk y.1) (h : DataW.trod enc P W 0 spare held fuel t [v] = some x) : ∃ A c xs, v = .slice A xs.length c ∧ xs.length ≤ c ∧ d.C W A xs.length xs ∧ ms xs + 1 ≤ Rows.uptoBulk x.1 := by
  rcases DataW.trod_slice ht h with ⟨h1, rfl⟩ | ⟨a, len, cap, elems, rest, n, hf, h1, rfl, hb, hl, hm, hlen, hx, _, _⟩
  · obtain rfl : v = .slice none 0 0 := by simpa using h1
    exact ⟨none, 0, [], rfl, Nat.le_refl _, ⟨rfl, by simp, fun h => absurd h (by simp)⟩, by rw [m0]; simp [Rows.uptoBulk]⟩
  · obtain rfl : v = .slice (some a) len cap := by simpa using h1
    by_cases h0 : len = 0
    · subst h0
      exact ⟨some a, cap, [], rfl, Nat.zero_le _, ⟨rfl, by simp, fun h => absurd h (by simp)⟩, by rw [m0]; exact bulk_one _⟩
    · have key : ∀ i, i < len → ∃ y : α, (∃ c, c.length = d.sz ∧ d.K W y c ∧ ∀ j u, c[j]? = some u → W.cell? (a.add (i * d.sz + j)) = some u) ∧ ∀ z, elems[i]? = some z → m y ≤ Rows.uptoBulk z.1 := by
        intro i hi
        have h2 := hx i hi
        have he : elems[i]? = some elems[i] := List.getElem?_eq_getElem (by omega)
        rw [he, Option.bind_eq_some_iff] at h2
        obtain ⟨cs', hcs, htr⟩ := h2
        obtain ⟨y, hy, hym⟩ := hel n cs' _ (by omega) htr
        obtain ⟨_, hln, hcell⟩ := World.cells?_some hcs
        refine ⟨y, ⟨cs', by rw [hln, hs], hy, fun j u hj => ?_⟩, fun z hz => by rw [he] at hz; injection hz with hz; rw [← hz]; exact hym⟩
        have hjl : j < cs'.length := (List.getElem?_eq_some_iff.1 hj).1
        have h3 := hcell j (by omega)
        rw [hs, ← Addr.add_add, h3, hj]
      obtain ⟨y0, _⟩ := key 0 (by omega)
      haveI : Inhabited α := ⟨y0⟩
      obtain ⟨f, hf⟩ := choose_lt key
      have hln : ((List.range len).map f).length = len := by simp
      refine ⟨some a, cap, (List.range len).map f, by rw [hln], by rw [hln]; exact hl, ⟨rfl, by rw [hln]; simp only [maxLen] at hm; omega, fun _ => ⟨a, rfl, fun j p hj => ?_⟩⟩, ?_⟩
      · have hi : j < len := by have := (List.getElem?_eq_some_iff.1 hj).1; omega
        have : f j = p := by simpa [hi] using hj
        subst this
        exact (hf j hi).1
      · have h5 := ms_le m0 m1 ((List.range len).map f) (elems.map (·.1)) (by rw [hln, List.length_map, hlen]) (by
          intro i y e hy he
          have hi : i < len := by have := (List.getElem?_eq_some_iff.1 hy).1; omega
          have e1 : f i = y := by simpa [hi] using hy
          rw [List.getElem?_map] at he
          obtain ⟨z, hz, rfl⟩ := Option.map_eq_some_iff.1 he
          rw [← e1]
          exact (hf i hi).2 z hz)
        simp only [Rows.uptoBulk]
        omega
end
mutual
def szE : S27 → Nat
  | ⟨_, _, s, l⟩ => szEs l + s.size + 1
def szEs : List S27 → Nat
  | [] => 0
  | x :: l => szE x + szEs l
end
mutual
def szN : S30 → Nat
  | ⟨_, _, _, s, e, l, ws⟩ => szNs l + szEs ws + szE e + s.size + 1
def szNs : List S30 → Nat
  | [] => 0
  | x :: l => szN x + szNs l
end
theorem bulk_str {H : Type} (s : ByteArray) : Rows.uptoBulk (DataW.lit (H := H) (.string s.data.toList)) = s.size + 1 := by
  have e : s.data.toList.length = s.size := by rw [Array.length_toList]; rfl
  rw [Rows.uptoBulk, e]
section
variable {H : Type} {enc : TypeId × Value → H} {W : World} {spare : Nat → Bool} {held : Bool}
theorem cells3 : Try.prog.cellsOf 3 = 1 := by kernel_rfl
theorem cells9 : Try.prog.cellsOf 9 = 1 := by kernel_rfl
theorem cellsE : Try.prog.cellsOf 27 = 4 := by kernel_rfl
theorem cellsN : Try.prog.cellsOf 30 = 10 := by kernel_rfl
theorem cellsEs : Try.prog.cellsOf 25 = 1 := by kernel_rfl
theorem cellsNs : Try.prog.cellsOf 28 = 1 := by kernel_rfl
theorem elem_expr (n : Nat) : ∀ (cs : List Value) (y : DataW H × List MemPlace), DataW.trod enc Try.prog W 0 spare held n 27 cs = some y → ∃ x : S27, k27.K W x cs ∧ szE x ≤ Rows.uptoBulk y.1 := by
  induction n using Nat.strongRecOn with
  | _ n ih =>
    intro cs y h
    obtain ⟨xs, m, rfl, rfl, hl, hx, hf⟩ := DataW.trod_struct Try.underlying27 h
    rw [cellsE] at hl
    replace hx : xs.length = 4 := hx
    obtain ⟨x0, x1, x2, x3, rfl⟩ : ∃ a b c d, xs = [a, b, c, d] := by
      match xs, hx with
      | [a, b, c, d], _ => exact ⟨a, b, c, d, rfl⟩
    obtain ⟨c0, c1, c2, c3, rfl⟩ : ∃ a b c d, cs = [a, b, c, d] := by
      match cs, hl with
      | [a, b, c, d], _ => exact ⟨a, b, c, d, rfl⟩
    have f0 : DataW.trod enc Try.prog W 0 spare held m 3 (([c0, c1, c2, c3].drop 0).take (Try.prog.cellsOf 3)) = some x0 := by have h := hf 0 _ rfl; exact h
    have f1 : DataW.trod enc Try.prog W 0 spare held m 3 (([c0, c1, c2, c3].drop 1).take (Try.prog.cellsOf 3)) = some x1 := by have h := hf 1 _ rfl; exact h
    have f2 : DataW.trod enc Try.prog W 0 spare held m 9 (([c0, c1, c2, c3].drop 2).take (Try.prog.cellsOf 9)) = some x2 := by have h := hf 2 _ rfl; exact h
    have f3 : DataW.trod enc Try.prog W 0 spare held m 25 (([c0, c1, c2, c3].drop 3).take (Try.prog.cellsOf 25)) = some x3 := by have h := hf 3 _ rfl; exact h
    rw [cells3] at f0 f1
    rw [cells9] at f2
    rw [cellsEs] at f3
    obtain ⟨a, ha, rfl, _⟩ := DataW.trod_int Try.underlying3 f0
    obtain ⟨b, hb, rfl, _⟩ := DataW.trod_int Try.underlying3 f1
    obtain ⟨s, hs, rfl, _⟩ := DataW.trod_string Try.underlying9 f2
    obtain ⟨A, c, l, hA, hlc, hC, hsz⟩ := C_open k27 (m := szE) (ms := szEs) rfl (fun _ _ => rfl) (v := c3) Try.underlying25 (by rw [cellsE]; rfl) (fun n' cs' y' hn hy => ih n' (by omega) cs' y' hy) f3
    simp at ha hb hs
    subst ha; subst hb; subst hs; subst hA
    refine ⟨⟨a, b, s, l⟩, k27_mk W ⟨a, b, s, l⟩ hlc hC, ?_⟩
    simp only [List.map_cons, List.map_nil, Rows.uptoBulk.eq_6, Rows.uptoBulkAll, bulk_str, szE]
    omega
theorem elem_node (n : Nat) : ∀ (cs : List Value) (y : DataW H × List MemPlace), DataW.trod enc Try.prog W 0 spare held n 30 cs = some y → ∃ x : S30, k30.K W x cs ∧ szN x ≤ Rows.uptoBulk y.1 := by
  induction n using Nat.strongRecOn with
  | _ n ih =>
    intro cs y h
    obtain ⟨xs, m, rfl, rfl, hl, hx, hf⟩ := DataW.trod_struct Try.underlying30 h
    rw [cellsN] at hl
    replace hx : xs.length = 7 := hx
    obtain ⟨x0, x1, x2, x3, x4, x5, x6, rfl⟩ : ∃ a b c d e f g, xs = [a, b, c, d, e, f, g] := by
      match xs, hx with
      | [a, b, c, d, e, f, g], _ => exact ⟨a, b, c, d, e, f, g, rfl⟩
    obtain ⟨c0, c1, c2, c3, c4, c5, c6, c7, c8, c9, rfl⟩ : ∃ a b c d e f g h i j, cs = [a, b, c, d, e, f, g, h, i, j] := by
      match cs, hl with
      | [a, b, c, d, e, f, g, h, i, j], _ => exact ⟨a, b, c, d, e, f, g, h, i, j, rfl⟩
    have f0 : DataW.trod enc Try.prog W 0 spare held m 3 (([c0, c1, c2, c3, c4, c5, c6, c7, c8, c9].drop 0).take (Try.prog.cellsOf 3)) = some x0 := by have h := hf 0 _ rfl; exact h
    have f1 : DataW.trod enc Try.prog W 0 spare held m 3 (([c0, c1, c2, c3, c4, c5, c6, c7, c8, c9].drop 1).take (Try.prog.cellsOf 3)) = some x1 := by have h := hf 1 _ rfl; exact h
    have f2 : DataW.trod enc Try.prog W 0 spare held m 3 (([c0, c1, c2, c3, c4, c5, c6, c7, c8, c9].drop 2).take (Try.prog.cellsOf 3)) = some x2 := by have h := hf 2 _ rfl; exact h
    have f3 : DataW.trod enc Try.prog W 0 spare held m 9 (([c0, c1, c2, c3, c4, c5, c6, c7, c8, c9].drop 3).take (Try.prog.cellsOf 9)) = some x3 := by have h := hf 3 _ rfl; exact h
    have f4 : DataW.trod enc Try.prog W 0 spare held m 27 (([c0, c1, c2, c3, c4, c5, c6, c7, c8, c9].drop 4).take (Try.prog.cellsOf 27)) = some x4 := by have h := hf 4 _ rfl; exact h
    have f5 : DataW.trod enc Try.prog W 0 spare held m 28 (([c0, c1, c2, c3, c4, c5, c6, c7, c8, c9].drop 8).take (Try.prog.cellsOf 28)) = some x5 := by have h := hf 5 _ rfl; exact h
    have f6 : DataW.trod enc Try.prog W 0 spare held m 25 (([c0, c1, c2, c3, c4, c5, c6, c7, c8, c9].drop 9).take (Try.prog.cellsOf 25)) = some x6 := by have h := hf 6 _ rfl; exact h
    rw [cells3] at f0 f1 f2
    rw [cells9] at f3
    rw [cellsE] at f4
    rw [cellsNs] at f5
    rw [cellsEs] at f6
    obtain ⟨a, ha, rfl, _⟩ := DataW.trod_int Try.underlying3 f0
    obtain ⟨b, hb, rfl, _⟩ := DataW.trod_int Try.underlying3 f1
    obtain ⟨k, hk, rfl, _⟩ := DataW.trod_int Try.underlying3 f2
    obtain ⟨s, hs, rfl, _⟩ := DataW.trod_string Try.underlying9 f3
    obtain ⟨x, hxK, hxs⟩ := elem_expr m _ _ f4
    obtain ⟨A3, q3, hxe, hx1, hx2⟩ := k27_open hxK
    obtain ⟨A, c, l, hA, hlc, hC, hsz⟩ := C_open k30 (m := szN) (ms := szNs) rfl (fun _ _ => rfl) (v := c8) Try.underlying28 (by rw [cellsN]; rfl) (fun n' cs' y' hn hy => ih n' (by omega) cs' y' hy) f5
    obtain ⟨A2, q2, l2, hA2, hlc2, hC2, hsz2⟩ := C_open k27 (m := szE) (ms := szEs) rfl (fun _ _ => rfl) (v := c9) Try.underlying25 (by rw [cellsE]; rfl) (fun n' cs' y' hn hy => elem_expr n' cs' y' hy) f6
    simp at ha hb hk hs hxe
    obtain ⟨e4, e5, e6, e7⟩ := hxe
    subst ha; subst hb; subst hk; subst hs; subst hA; subst hA2; subst e4; subst e5; subst e6; subst e7
    refine ⟨⟨a, b, k, s, x, l, l2⟩, k30_mk W ⟨a, b, k, s, x, l, l2⟩ hx1 hx2 hlc hC hlc2 hC2, ?_⟩
    simp only [List.map_cons, List.map_nil, Rows.uptoBulk.eq_6, Rows.uptoBulkAll, bulk_str, szN]
    omega
theorem open_node {base : Nat} {v : Value} {d : DataW H} {p : List MemPlace} (hv : Value.okWide Try.prog W .any base 30 v)
    (h : DataW.Trod enc Try.prog W 0 (fun _ => true) true 30 v d p) : ∃ x : S30, ∃ cs, v = .agg cs ∧ k30.K W x cs.toList ∧ szN x ≤ Rows.uptoBulk d := by
  obtain ⟨cs, rfl, _⟩ := okWide_struct Try.underlying30 hv
  obtain ⟨fuel, hf⟩ := h
  have hf2 : DataW.trod enc Try.prog W 0 (fun _ => true) true fuel 30 cs.toList = some (d, p) := by simpa [Value.cells] using hf
  obtain ⟨x, hx, hxs⟩ := elem_node fuel _ _ hf2
  exact ⟨x, cs, rfl, hx, hxs⟩
theorem open_nodeU {base : Nat} {v : Value} {d : DataW H} {p : List MemPlace} (hv : Value.okWide Try.prog W .any base 30 v) (hb : Rows.uptoBulk d ≤ 1048576)
    (h : DataW.Trod enc Try.prog W 0 (fun _ => true) true 30 v d p) : ∃ x : S30, ∃ cs, v = .agg cs ∧ k30.K W x cs.toList ∧ szN x ≤ 1048576 := by
  obtain ⟨x, cs, h1, h2, h3⟩ := open_node hv h
  exact ⟨x, cs, h1, h2, by omega⟩
end
end Go.Proofs.Ytlkkibeoobognaa.OpenInlineTrees
