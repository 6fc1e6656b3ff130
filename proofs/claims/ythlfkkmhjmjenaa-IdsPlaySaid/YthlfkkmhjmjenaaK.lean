/- The reference's places: All; SameIds. -/
import Derived.Test.YthlfkkmhjmjenaaJ
namespace Go.Proofs.Ythlfkkmhjmjenaa
open Go.RowKit
set_option maxHeartbeats 1600000 in
theorem rall_does (p : Nat) (room : Int) (slots : List (Int × Bool)) (free : List Int) (hm : slots.length ≤ 1000000) :
    Does Try.prog 18 #[.pointer (some ⟨p, 0, none⟩)] (isRef p room slots free) (fun e B => ∃ v, e = .returned v ∧ B = (Hp.row 26 2 encId v (allTo slots slots.length)).sep (isRef p room slots free)) := by
  intro w F hS
  obtain ⟨gv, lv, fv, hb, hg, hl, hf, _⟩ := id hS
  obtain ⟨gA, gc, rfl, _, hn⟩ := hg.shape
  obtain ⟨lA, lc, rfl, _, _⟩ := hl.shape
  simp only [List.length_map] at hn hb hg hl
  have hp := lt_of_blk hb
  have h1 : w.cell? ⟨p, 1, none⟩ = some (.slice gA slots.length gc) := (cell_of_blk hb 1).trans rfl
  have h2 : w.cell? ⟨p, 2, none⟩ = some (.slice lA slots.length lc) := (cell_of_blk hb 2).trans rfl
  have HS := As.mk hS
  have HRg := As.mk (hg.rd encInt_len)
  have HRl := As.mk (hl.rd encBool_len)
  have H1 := As.mk h1
  have H2 := As.mk h2
  clear hb hg hl hf hS h1 h2
  go_enter Try.func18, Try.ntmps18
  go_wp2
  go_loopw [3, 4] (fun v i wr => ∃ k : Nat, k ≤ slots.length ∧ i = .int .i64 k ∧ As (Rw wr 26 2 encId v (allTo slots k)) ∧ As (Below w.heap.size w wr) ∧ As (∀ b, v.ownBlock = some b → w.heap.size ≤ b)) (fun _ i _ => slots.length - (intOf i).toNat)
  case atStart => exact ⟨0, Nat.zero_le _, rfl, ⟨Rw.nil _ _ _ _⟩, ⟨Below.refl _ _⟩, ⟨by simp [Value.ownBlock]⟩⟩
  case round =>
    obtain ⟨k, hk, rfl, HV, HB, HN⟩ := hrel
    have h1 := (HB.out.cell (p := ⟨p, 1, none⟩) hp).trans H1.out
    have h2 := (HB.out.cell (p := ⟨p, 2, none⟩) hp).trans H2.out
    by_cases hlt : k < slots.length
    · obtain ⟨x, hx⟩ : ∃ x, slots[k]? = some x := ⟨_, List.getElem?_eq_getElem hlt⟩
      obtain ⟨b, off, rfl, hbl, hc⟩ := (HRg.out.below HB.out).cells _ _ _ rfl k _ (map1_get hx)
      obtain ⟨b2, off2, rfl, hbl2, hc2⟩ := (HRl.out.below HB.out).cells _ _ _ rfl k _ (map2_get hx)
      have c0 := hc 0 (by omega)
      have c1 := hc2 0 (by omega)
      obtain ⟨x1, x2⟩ := x
      simp only [encInt, encBool, List.getElem?_cons_zero, Nat.add_zero, Nat.mul_one] at c0 c1
      have HX := As.mk hx
      clear hc hc2 hx
      cases x2 with
      | true =>
        go_wp2_with (at_builtin; refine rw_append rfl (.tmp 21) (.tmp 31) 37 26 2 encId (.agg #[.int .i64 0, .int .i64 0]) 16 rfl Try.underlying37 Try.info26 rfl (by decide) _ (allTo slots k) (k, x1) rfl _ rfl ?c0 ?c5 encId_len ?c1 ?c2 ?c3 ?c4)
        case c0 => exact blk_new (by simp)
        case c5 => exact HV.out.alloc _
        case c1 => exact one_id _
        case c2 => have := allTo_len slots k; simp only [maxLen]; omega
        case c3 => have := allTo_len slots k; omega
        case c4 =>
          intro v1 w1 hA
          have HA := As.mk hA
          clear hA
          go_wp2
          go_roundw
          case rel =>
            refine ⟨k + 1, by omega, by go_num, ⟨?_⟩, ⟨(bl_alloc HB.out _).grown HA.out.grown (by simp [Nat.le_succ_of_le, HB.out.size]) (HN.out ·)⟩, ⟨?_⟩⟩
            · have := HA.out.row
              rw [allTo, List.getD_eq_getElem?_getD, HX.out]
              exact this
            · intro b hb
              rcases HA.out.lies with h | h
              · exact HN.out b (h ▸ hb)
              · rw [h] at hb; injection hb with hb; have := HB.out.size; simp at hb; omega
          case measure => simp [intOf]; omega
      | false =>
        go_wp2
        go_roundw
        case rel =>
          refine ⟨k + 1, by omega, by go_num, ⟨?_⟩, ⟨HB.out⟩, HN⟩
          have := HV.out
          rw [allTo, List.getD_eq_getElem?_getD, HX.out]
          simpa using this
        case measure => simp [intOf]; omega
    · obtain rfl : k = slots.length := by omega
      go_wp2
      go_ret
      refine ⟨_, fun k => F k ∨ w.heap.size ≤ k ∧ k < wr.heap.size, ⟨_, rfl, rfl⟩, ⟨fun k => w.heap.size ≤ k ∧ k < wr.heap.size, F, ⟨HV.out, fun k hk => ⟨HN.out k hk, HV.out.lt k hk⟩, fun k hk => hk.2⟩, Hp.below HS.out HB.out, fun k h1 h2 => by have := Hp.lt _ HS.out k h2; omega, fun k => or_comm⟩, Evo.of_below HB.out, fun k hk => hk.imp id (·.1)⟩

theorem eq26 (d : Nat) (w : World) (x0 y0 x1 y1 : Int) :
    (Op.equalIn (d + 2) 26 (.agg #[.int .i64 x0, .int .i64 x1]) (.agg #[.int .i64 y0, .int .i64 y1])).run Try.prog w = .ok (x0 == y0 && (x1 == y1)) w := by
  refine seq_of Try.underlying26 (by kernel_rfl) ?_
  refine seq_cons (by rfl) (by go_simp; rfl) (by go_simp; rfl) (by go_simp) ?_
  exact seq_last (by rfl) (by go_simp; rfl) (by go_simp; rfl) (by go_simp)
attribute [local go_sem high] eq26
set_option maxHeartbeats 1600000 in
/-- SameIds of two lists that are one. -/
theorem same_does (u v : Value) (xs : List (Int × Int)) (w : World) (hu : Rd w 2 encId u xs) (hv : Rd w 2 encId v xs) : Calls Try.prog 16 #[u, v] w fun e w' => e = .returned (.bool true) ∧ Below w.heap.size w w' := by
  obtain ⟨uA, uc, rfl, _, hn⟩ := hu.shape
  obtain ⟨vA, vc, rfl, _, _⟩ := hv.shape
  have HU := As.mk hu
  have HV := As.mk hv
  clear hu hv
  go_enter Try.func16, Try.ntmps16
  go_wp2
  go_loopw [5] (fun i wr => ∃ k : Nat, k ≤ xs.length ∧ i = .int .i64 k ∧ ∃ n, wr = w.drewN n) (fun i _ => xs.length - (intOf i).toNat)
  case atStart => exact ⟨0, Nat.zero_le _, rfl, 0, rfl⟩
  case round =>
    obtain ⟨k, hk, rfl, nn, rfl⟩ := hrel
    by_cases hlt : k < xs.length
    · obtain ⟨x, hx⟩ : ∃ x, xs[k]? = some x := ⟨_, List.getElem?_eq_getElem hlt⟩
      obtain ⟨b, off, rfl, _, hc⟩ := HU.out.cells _ _ _ rfl k _ hx
      obtain ⟨b2, off2, rfl, _, hc2⟩ := HV.out.cells _ _ _ rfl k _ hx
      have c0 := hc 0 (by omega)
      have c1 := hc 1 (by omega)
      have e0 := hc2 0 (by omega)
      have e1 := hc2 1 (by omega)
      obtain ⟨x1, x2⟩ := x
      simp only [encId, List.getElem?_cons_zero, List.getElem?_cons_succ, Nat.add_zero] at c0 c1 e0 e1
      clear hc hc2 hx
      go_wp2
      go_quiet (fail)
      go_wp2
      exact ⟨⟨k + 1, by omega, by go_num, _, rfl⟩, by simp [intOf]; omega⟩
    · obtain rfl : k = xs.length := by omega
      go_wp2
      go_ret
      exact ⟨rfl, (by repeat (first | exact Below.refl _ _ | refine bl_drewN ?_ _ | refine Below.drew ?_ | refine bl_alloc ?_ _ | refine bl_set ?_ (by first | (simp; done) | omega | (simp; omega)) _))⟩
end Go.Proofs.Ythlfkkmhjmjenaa
