/- ChooseMore: the walk of the law. -/
import Derived.Test.YtjgeccnfdndllaaB
import Derived.Test.YtjgeccnfdndllaaOpen
namespace Go.Proofs.Ytjgeccnfdndllaa
open Go.RowKit Go.ChangeShapes Go.WideShapes Go.Deep
theorem Try.info3 : (Try.prog.info? 3).map (fun i => (i.zero, i.size, i.bytes)) = some (some (.int .i64 0), 1, 8) := by kernel_rfl
theorem one_int (p : Int) : ∀ u ∈ encInt p, u.oneCell' = true := by intro u hu; simp [encInt] at hu; subst hu; rfl
set_option maxHeartbeats 3200000 in
theorem more_walk (v : Value) (xs : List Int) (n : Int) (w : World) (h : Rd w 1 encInt v xs) : Calls Try.prog 3 #[v, .int .i64 n] w fun e w' => e = .returned (.bool true) ∧ Below w.heap.size w w' := by
  obtain ⟨A, c, rfl, hc, hn⟩ := h.shape
  have HD := As.mk h
  clear h
  go_enter Try.func3, Try.ntmps3
  go_wp2_with fail
  refine (alive_does _).mono ?_
  rintro e w1 ⟨rfl, HB⟩
  have HB := As.mk HB
  by_cases hg : 1 ≤ xs.length ∧ xs.length ≤ 50
  · obtain ⟨g1, g2⟩ := hg
    have d1 : decide ((xs.length : Int) < 1) = false := decide_eq_false (by omega)
    have d2 : decide ((50 : Int) < xs.length) = false := decide_eq_false (by omega)
    go_wp2_with fail
    have HD1 := As.mk (HD.out.below HB.out)
    refine (best_does _ xs _ HD1.out).mono ?_
    rintro e w2 ⟨⟨r, rfl, hr⟩, HB2⟩
    have HB2 := As.mk (HB.out.trans (Below.mono HB2 HB.out.size))
    have hr0 : 0 ≤ r := by
      rcases hr with ⟨h, _⟩ | ⟨h, _⟩
      · omega
      · exact h
    have hrl := hr.lt
    have d3 : decide (r < 0) = false := decide_eq_false (by omega)
    have d4 : decide ((xs.length : Int) ≤ r) = false := decide_eq_false (by omega)
    have HR := As.mk hr
    clear hr HB HD1
    obtain ⟨x, hx⟩ : ∃ x, xs[r.toNat]? = some x := ⟨_, List.getElem?_eq_getElem (by omega)⟩
    have HX := As.mk hx
    clear hx
    go_wp2_with (at_builtin; refine rw_appendL rfl _ _ 22 3 1 encInt (.int .i64 0) 8 rfl Try.underlying22 Try.info3 rfl (by decide) (.slice none 0 0) (.slice A xs.length c) [] xs rfl rfl ?c0 ?c5 encInt_len ?c1 ?c2 ?c3 ?c4)
    case c0 => exact HD.out.below HB2.out
    case c5 => exact Rw.nil _ _ _ _
    case c1 => exact one_int
    case c2 => simp [maxLen]; omega
    case c3 => simp; omega
    case c4 =>
      intro v1 w3 hA
      have hB3 := As.mk (bl_grown HB2.out hA.grown (fun k hk => by simp [Value.ownBlock] at hk))
      have hR3 := As.mk hA.row
      have hO3 : As (∀ k, v1.ownBlock = some k → w.heap.size ≤ k) := ⟨fun k hk => by
        rcases hA.lies with h | h
        · rw [h] at hk; simp [Value.ownBlock] at hk
        · rw [h] at hk; injection hk with hk; subst hk; exact HB2.out.size⟩
      clear hA HB2
      go_wp2_with (at_builtin; refine rw_append rfl _ _ 22 3 1 encInt (.int .i64 0) 8 rfl Try.underlying22 Try.info3 rfl (by decide) v1 ([] ++ xs) n rfl _ rfl ?e0 ?e5 encInt_len ?e1 ?e2 ?e3 ?e4)
      case e0 => exact blk_new (by simp)
      case e5 => exact hR3.out.alloc _
      case e1 => exact one_int n
      case e2 => simp [maxLen]; omega
      case e3 => simp; omega
      case e4 =>
        intro v2 w4 hA
        have hB4 := As.mk (bl_grown (bl_alloc hB3.out _) hA.grown hO3.out)
        have hR4 : As (Rd w4 1 encInt v2 (xs ++ [n])) := ⟨hA.row.rd encInt_len⟩
        clear hA hB3 hR3 hO3
        go_wp2_with fail
        refine (best_does _ _ _ hR4.out).mono ?_
        rintro e w5 ⟨⟨m, rfl, hm⟩, HB5⟩
        have HB5 := As.mk (hB4.out.trans (Below.mono HB5 hB4.out.size))
        have hm2 := best_more HR.out hr0 HX.out hm
        clear hm hB4 hR4
        have hc := (HD.out.below HB5.out).cells _ _ _ rfl r.toNat x HX.out
        obtain ⟨b, off, rfl, hb, hcell⟩ := hc
        have c0 := hcell 0 (by omega)
        simp only [encInt, List.getElem?_cons_zero, Nat.add_zero, Nat.mul_one] at c0
        clear hcell
        by_cases hxn : x < n
        · have d5 : decide (x < n) = true := decide_eq_true hxn
          rw [if_pos hxn] at hm2
          subst hm2
          go_wp2
          go_ret
          exact ⟨by simp, HB5.out⟩
        · have d5 : decide (x < n) = false := decide_eq_false hxn
          rw [if_neg hxn] at hm2
          subst hm2
          go_wp2
          go_ret
          exact ⟨by simp, HB5.out⟩
  · by_cases h1 : xs.length < 1
    · have d1 : decide ((xs.length : Int) < 1) = true := decide_eq_true (by omega)
      go_wp2
      go_ret
      exact ⟨rfl, HB.out⟩
    · have d1 : decide ((xs.length : Int) < 1) = false := decide_eq_false (by omega)
      have d2 : decide ((50 : Int) < xs.length) = true := decide_eq_true (by omega)
      go_wp2
      go_ret
      exact ⟨rfl, HB.out⟩
theorem elem_int {H : Type} {enc : TypeId × Value → H} {W : World} {spare : Nat → Bool} {held : Bool} (n : Nat) (cs : List Value) (y : DataW H × List MemPlace) (h : DataW.trod enc Try.prog W 0 spare held n 3 cs = some y) : ∃ a : Int, cs = encInt a ∧ True := by
  obtain ⟨a, rfl, _, _⟩ := DataW.trod_int Try.underlying3 h
  exact ⟨a, rfl, trivial⟩
theorem open_ints {H : Type} {enc : TypeId × Value → H} {W : World} {base : Nat} {v : Value} {d : DataW H} {p : List MemPlace} {ts : List TypeId} {ds : List (DataW H)} (hv : Value.okWide Try.prog W .any base 22 v)
    (_hsz : (DataW.weightsEach Try.prog ts ds).all (· ≤ reachBytes) = true) (h : DataW.Trod enc Try.prog W 0 (fun _ => true) true 22 v d p) : ∃ xs : List Int, Rd W 1 encInt v xs := by
  obtain ⟨a, len, cap, rfl⟩ := okWide_slice Try.underlying22 hv
  obtain ⟨fuel, hf⟩ := h
  have hf2 : DataW.trod enc Try.prog W 0 (fun _ => true) true fuel 22 [.slice a len cap] = some (d, p) := by simpa [Value.cells] using hf
  obtain ⟨xs, h1, _⟩ := rd_open Try.underlying22 encInt 1 (by decide) (by kernel_rfl) (fun _ => True) elem_int hf2
  exact ⟨xs, h1⟩
end Go.Proofs.Ytjgeccnfdndllaa
