/- The places of ids: New and All. -/
import Derived.Test.YthlfkkmhjmjenaaD
namespace Go.Proofs.Ythlfkkmhjmjenaa
open Go.RowKit
attribute [local go_sem] mx2_int mn2_int mx_two mn_two
def rm (room : Int) : Int := if 100000 < (if 0 < room then room else 0) then 100000 else (if 0 < room then room else 0)
set_option maxHeartbeats 800000 in
theorem new_does (room : Int) : Does Try.prog 7 #[.int .i64 room] Hp.emp (fun e B => ∃ p, e = .returned (.pointer (some ⟨p, 0, none⟩)) ∧ B = isIds p (rm room) [] []) := by
  intro w F hS
  have HS := As.mk hS
  clear hS
  generalize hr : rm room = r
  have HR := As.mk hr
  clear hr
  go_enter Try.func7, Try.ntmps7
  go_wp2
  all_goals go_ret
  all_goals
    have e1 : As (∀ x : Int, x = r → Post w F (fun e B => ∃ p, e = .returned (.pointer (some ⟨p, 0, none⟩)) ∧ B = isIds p r [] []) (.returned (.pointer (some ⟨w.heap.size, 0, none⟩))) (w.alloc (.cells #[.int .i64 x, .slice none 0 0, .slice none 0 0] 51))) := ⟨by
      rintro x rfl
      refine Post.new _ ⟨_, rfl, rfl⟩ ⟨.slice none 0 0, .slice none 0 0, blk_alloc_new w _, Rw.nil _ _ _ _, Rw.nil _ _ _ _, foot_new (Nat.le_refl _) (by simp), by simp [Value.ownBlock], by simp [Value.ownBlock], foot_lt (Hp.lt _ HS.out) (by simp)⟩ ((Evo.refl _ _).alloc _)⟩
    refine e1.out _ ?_
    rw [← HR.out]
    unfold rm
    split <;> (try split) <;> omega

def encId (x : Int × Int) : List Value := [.int .i64 x.1, .int .i64 x.2]
theorem encId_len (x : Int × Int) : (encId x).length = 2 := rfl
theorem one_id (x : Int × Int) : ∀ u ∈ encId x, u.oneCell' = true := by
  intro u hu
  simp only [encId, List.mem_cons, List.not_mem_nil, or_false] at hu
  rcases hu with rfl | rfl <;> rfl
/-- All entities of the first n places. -/
def allTo (slots : List (Int × Bool)) : Nat → List (Int × Int)
  | 0 => []
  | n + 1 => allTo slots n ++ (if (slots.getD n (0, false)).2 then [((n : Int), (slots.getD n (0, false)).1)] else [])
theorem allTo_len (slots : List (Int × Bool)) : ∀ n, (allTo slots n).length ≤ n
  | 0 => by simp [allTo]
  | n + 1 => by
    have := allTo_len slots n
    rw [allTo, List.length_append]
    split <;> simp <;> omega
theorem Try.info26 : (Try.prog.info? 26).map (fun i => (i.zero, i.size, i.bytes)) = some (some (.agg #[.int .i64 0, .int .i64 0]), 2, 16) := by kernel_rfl
set_option maxHeartbeats 1600000 in
theorem all_does (p : Nat) (room : Int) (slots : List (Int × Bool)) (free : List Int) (hm : slots.length ≤ 1000000) :
    Does Try.prog 17 #[.pointer (some ⟨p, 0, none⟩)] (isIds p room slots free) (fun e B => ∃ v, e = .returned v ∧ B = (Hp.row 26 2 encId v (allTo slots slots.length)).sep (isIds p room slots free)) := by
  intro w F hS
  obtain ⟨sv, fv, hb, hs, hf, hFp, hFs, hFf, hFl⟩ := id hS
  obtain ⟨sA, sc, rfl, hsc, hn⟩ := hs.shape
  have hp := lt_of_blk hb
  have h1 : w.cell? ⟨p, 1, none⟩ = some (.slice sA slots.length sc) := (cell_of_blk hb 1).trans rfl
  have HS := As.mk hS
  have HRd := As.mk (hs.rd encSlot_len)
  clear hb hs hf hFp hFs hFf hFl hS hsc
  go_enter Try.func17, Try.ntmps17
  go_wp2
  go_loopw [3, 11] (fun v i wr => ∃ k : Nat, k ≤ slots.length ∧ i = .int .i64 k ∧ As (Rw wr 26 2 encId v (allTo slots k)) ∧ As (Below w.heap.size w wr) ∧ As (∀ b, v.ownBlock = some b → w.heap.size ≤ b)) (fun _ i _ => slots.length - (intOf i).toNat)
  case atStart => exact ⟨0, Nat.zero_le _, rfl, ⟨Rw.nil _ _ _ _⟩, ⟨Below.refl _ _⟩, ⟨by simp [Value.ownBlock]⟩⟩
  case round =>
    obtain ⟨k, hk, rfl, HV, HB, HN⟩ := hrel
    by_cases hlt : k < slots.length
    · obtain ⟨x, hx⟩ : ∃ x, slots[k]? = some x := ⟨_, List.getElem?_eq_getElem hlt⟩
      obtain ⟨b, off, rfl, hbl, hc⟩ := (HRd.out.below HB.out).cells _ _ _ rfl k x hx
      have c0 := hc 0 (by omega)
      have c1 := hc 1 (by omega)
      obtain ⟨x1, x2⟩ := x
      simp only [encSlot, List.getElem?_cons_zero, List.getElem?_cons_succ, Nat.add_zero] at c0 c1
      have HX := As.mk hx
      clear hc hx
      cases x2 with
      | true =>
        go_wp2_with (at_builtin; refine rw_append rfl (.tmp 18) (.tmp 23) 37 26 2 encId (.agg #[.int .i64 0, .int .i64 0]) 16 rfl Try.underlying37 Try.info26 rfl (by decide) _ (allTo slots k) (k, x1) rfl _ rfl ?c0 ?c5 encId_len ?c1 ?c2 ?c3 ?c4)
        case c0 => exact blk_new (by simp)
        case c5 => exact (HV.out.alloc _).alloc _
        case c1 => exact one_id _
        case c2 => have := allTo_len slots k; simp only [maxLen]; omega
        case c3 => have := allTo_len slots k; omega
        case c4 =>
          intro v1 w1 hA
          have HA := As.mk hA
          clear hA
          go_wp2
          go_roundw
          case rel =>
            refine ⟨k + 1, by omega, by go_num, ⟨?_⟩, ⟨(bl_alloc (bl_alloc HB.out _) _).grown HA.out.grown (by simp [Nat.le_succ_of_le, HB.out.size]) (HN.out ·)⟩, ⟨?_⟩⟩
            · have := HA.out.row
              rw [allTo, List.getD_eq_getElem?_getD, HX.out]
              exact this
            · intro b hb
              rcases HA.out.lies with h | h
              · exact HN.out b (h ▸ hb)
              · rw [h] at hb; injection hb with hb; have := HB.out.size; simp at hb; omega
          case measure => simp [intOf]; omega
      | false =>
        go_wp2
        go_roundw
        case rel =>
          refine ⟨k + 1, by omega, by go_num, ⟨?_⟩, ⟨bl_alloc HB.out _⟩, HN⟩
          have := HV.out.alloc (.cells #[.int .i64 x1, .bool false] 53)
          rw [allTo, List.getD_eq_getElem?_getD, HX.out]
          simpa using this
        case measure => simp [intOf]; omega
    · obtain rfl : k = slots.length := by omega
      go_wp2
      go_ret
      refine ⟨_, fun k => F k ∨ w.heap.size ≤ k ∧ k < wr.heap.size, ⟨_, rfl, rfl⟩, ⟨fun k => w.heap.size ≤ k ∧ k < wr.heap.size, F, ⟨HV.out, fun k hk => ⟨HN.out k hk, HV.out.lt k hk⟩, fun k hk => hk.2⟩, Hp.below HS.out HB.out, fun k h1 h2 => by have := Hp.lt _ HS.out k h2; omega, fun k => or_comm⟩, Evo.of_below HB.out, fun k hk => hk.imp id (·.1)⟩
end Go.Proofs.Ythlfkkmhjmjenaa
