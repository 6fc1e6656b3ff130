/- The heap in memory: New, Len, Peek. -/
import Derived.Test.YthnojjlaicajhaaB
import Derived.Test.YthnojjlaicajhaaAt
namespace Go.Proofs.Ythnojjlaicajhaa
open Go.RowKit
theorem item_set {F0 : Nat → Prop} {w0 w : World} {l : List Hp} {g m c : Nat} {xs : List Item} (n : Nat) (h : At F0 w0 w (Hp.seps l)) (ha : l[n]? = some (Hp.row 32 3 encItem (.slice (some ⟨g, 0, none⟩) m c) xs)) (i : Nat) (a b : Item) (hx : xs[i]? = some a) :
    At F0 w0 (((w.setCell ⟨g, i * 3, none⟩ (.int .i64 b.key)).setCell ⟨g, i * 3 + 1, none⟩ (.int .i64 b.seq)).setCell ⟨g, i * 3 + 2, none⟩ (.int .i64 b.what)) (Hp.seps (l.set n (Hp.row 32 3 encItem (.slice (some ⟨g, 0, none⟩) m c) (xs.set i b)))) := by
  have hl : i < xs.length := (List.getElem?_eq_some_iff.1 hx).1
  have hn := At.idx_lt ha
  have h1 := h.setAt n ha encItem_len i 0 a ⟨b.key, a.seq, a.what⟩ (.int .i64 b.key) hx (by omega) rfl
  have h2 := h1.setAt n (List.getElem?_set_self hn) encItem_len i 1 ⟨b.key, a.seq, a.what⟩ ⟨b.key, b.seq, a.what⟩ (.int .i64 b.seq) (by rw [List.getElem?_set_self hl]) (by omega) rfl
  have h3 := h2.setAt n (List.getElem?_set_self (by simp; exact hn)) encItem_len i 2 ⟨b.key, b.seq, a.what⟩ b (.int .i64 b.what) (by rw [List.getElem?_set_self (by simp; exact hl)]) (by omega) rfl
  rw [List.set_set, List.set_set, List.set_set, List.set_set] at h3
  exact h3
theorem item_cells {w : World} {g m c : Nat} {xs : List Item} (h : Rw w 32 3 encItem (.slice (some ⟨g, 0, none⟩) m c) xs) (i : Nat) (a : Item) (hx : xs[i]? = some a) :
    w.cell? ⟨g, i * 3, none⟩ = some (.int .i64 a.key) ∧ w.cell? ⟨g, i * 3 + 1, none⟩ = some (.int .i64 a.seq) ∧ w.cell? ⟨g, i * 3 + 2, none⟩ = some (.int .i64 a.what) ∧
    w.frozen? ⟨g, i * 3, none⟩ = false ∧ w.frozen? ⟨g, i * 3 + 1, none⟩ = false ∧ w.frozen? ⟨g, i * 3 + 2, none⟩ = false :=
  ⟨(h.at_ encItem_len i a hx 0 (by omega)).1, (h.at_ encItem_len i a hx 1 (by omega)).1, (h.at_ encItem_len i a hx 2 (by omega)).1, (h.at_ encItem_len i a hx 0 (by omega)).2, (h.at_ encItem_len i a hx 1 (by omega)).2, (h.at_ encItem_len i a hx 2 (by omega)).2⟩
def isHp (t p : Nat) (xs : List Item) : Hp := Hp.ex fun sv => Hp.seps [Hp.blk p #[sv] t, Hp.row 32 3 encItem sv xs]
theorem hp_open {F0 : Nat → Prop} {w0 w : World} {t p : Nat} {xs : List Item} (h : At F0 w0 w (isHp t p xs)) : ∃ A c, xs.length ≤ c ∧ xs.length ≤ 9223372036854775807 ∧ At F0 w0 w (Hp.seps [Hp.blk p #[.slice A xs.length c] t, Hp.row 32 3 encItem (.slice A xs.length c) xs]) := by
  obtain ⟨sv, h⟩ := h.unex
  obtain ⟨A, c, rfl, h1, h2⟩ := (h.rowAt 1 rfl).shape
  exact ⟨A, c, h1, h2, h⟩
theorem hp_close {F0 : Nat → Prop} {w0 w : World} {t p : Nat} {xs : List Item} {sv : Value} (h : At F0 w0 w (Hp.seps [Hp.blk p #[sv] t, Hp.row 32 3 encItem sv xs])) : At F0 w0 w (isHp t p xs) := At.toex sv h
theorem row_ptr {w : World} {D : Option Addr} {n c : Nat} {xs : List Item} (h : Rw w 32 3 encItem (.slice D n c) xs) (i : Nat) (a : Item) (hx : xs[i]? = some a) : ∃ g, D = some ⟨g, 0, none⟩ ∧ g < w.heap.size := by
  obtain ⟨g, e, h, _⟩ := h.cell encItem_len i a hx
  exact ⟨g, e, h⟩
set_option maxHeartbeats 1600000 in
theorem new_does : Does Try.prog 6 #[] Hp.emp (fun e B => ∃ p, e = .returned (.pointer (some ⟨p, 0, none⟩)) ∧ B = isHp 40 p []) := by
  refine Does.of fun w F hS => ?_
  go_enter Try.func6, Try.ntmps6
  go_wp2
  go_ret
  exact At.post (hp_close (((emp_seps hS).nilRow 32 3 encItem).alloc _ _)) ⟨_, rfl, rfl⟩
set_option maxHeartbeats 1600000 in
theorem len_does (p : Nat) (xs : List Item) : Does Try.prog 10 #[.pointer (some ⟨p, 0, none⟩)] (isHp 40 p xs) (fun e B => e = .returned (.int .i64 xs.length) ∧ B = isHp 40 p xs) := by
  refine Does.of fun w F hS => ?_
  obtain ⟨sA, sc, hsc, hn, hS⟩ := hp_open hS
  have h0 := (hS.cellAt 0 rfl 0).trans rfl
  have hp := hS.ltAt 0 rfl
  go_enter Try.func10, Try.ntmps10
  go_wp2
  go_ret
  exact At.post (hp_close hS) ⟨rfl, rfl⟩
set_option maxHeartbeats 1600000 in
theorem peek_nil (p : Nat) : Does Try.prog 9 #[.pointer (some ⟨p, 0, none⟩)] (isHp 40 p []) (fun e B => e = .returned (.tuple #[.agg #[.int .i64 0, .int .i64 0, .int .i64 0], .bool false]) ∧ B = isHp 40 p []) := by
  refine Does.of fun w F hS => ?_
  obtain ⟨sA, sc, hsc, hn, hS⟩ := hp_open hS
  have h0 : w.cell? ⟨p, 0, none⟩ = some (.slice sA 0 sc) := (hS.cellAt 0 rfl 0).trans rfl
  have hp := hS.ltAt 0 rfl
  go_enter Try.func9, Try.ntmps9
  go_wp2
  refine bodyPost_ret (v := .tuple #[.agg #[.int .i64 0, .int .i64 0, .int .i64 0], .bool false]) (by simp [results, Try.results9, go_sem]) rfl ?_
  exact At.post (hp_close (hS.below (by repeat (first | exact Below.refl _ _ | refine bl_drewN ?_ _ | refine Below.drew ?_ | refine bl_alloc ?_ _ | refine bl_set ?_ (by first | (simp; done) | omega | (simp; omega)) _)))) ⟨rfl, rfl⟩
set_option maxHeartbeats 1600000 in
theorem peek_cons (p : Nat) (x : Item) (xs : List Item) : Does Try.prog 9 #[.pointer (some ⟨p, 0, none⟩)] (isHp 40 p (x :: xs)) (fun e B => e = .returned (.tuple #[x.val, .bool true]) ∧ B = isHp 40 p (x :: xs)) := by
  refine Does.of fun w F hS => ?_
  obtain ⟨sA, sc, hsc, hn, hS⟩ := hp_open hS
  obtain ⟨gs, rfl, hgs⟩ := row_ptr (hS.rowAt 1 rfl) 0 x rfl
  obtain ⟨c0, c1, c2, _⟩ := item_cells (hS.rowAt 1 rfl) 0 x rfl
  have h0 : w.cell? ⟨p, 0, none⟩ = some (.slice (some ⟨gs, 0, none⟩) (xs.length + 1) sc) := (hS.cellAt 0 rfl 0).trans rfl
  have hp := hS.ltAt 0 rfl
  obtain ⟨x1, x2, x3⟩ := x
  simp only [Nat.zero_mul, Nat.zero_add] at c0 c1 c2
  have d0 : ((((xs.length + 1 : Nat) : Int)) == 0) = false := by simp; omega
  have d1 : decide ((((xs.length + 1 : Nat) : Int)) ≤ 0) = false := decide_eq_false (by omega)
  unfold Item.val
  go_enter Try.func9, Try.ntmps9
  go_wp2
  refine bodyPost_ret (v := .tuple #[.agg #[.int .i64 x1, .int .i64 x2, .int .i64 x3], .bool true]) (by simp [results, Try.results9, go_sem]) rfl ?_
  exact At.post (hp_close (hS.below (by repeat (first | exact Below.refl _ _ | refine bl_drewN ?_ _ | refine Below.drew ?_ | refine bl_alloc ?_ _ | refine bl_set ?_ (by first | (simp; done) | omega | (simp; omega)) _)))) ⟨rfl, rfl⟩
end Go.Proofs.Ythnojjlaicajhaa
