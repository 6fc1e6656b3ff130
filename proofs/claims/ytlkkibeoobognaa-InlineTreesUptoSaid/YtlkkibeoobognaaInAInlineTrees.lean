/- alive: true. -/
import Derived.Test.YtlkkibeoobognaaInCInlineTrees
set_option linter.unusedVariables false
set_option linter.unusedSimpArgs false
set_option maxRecDepth 100000
namespace Go.Proofs.Ytlkkibeoobognaa.OpenInlineTrees
open Go.RowKit Go.Deep
open Go.Proofs.YtlkkibeoobognaaW.PrintWords Go.Proofs.YtlkkibeoobognaaW.PrintLast Go.Proofs.YtlkkibeoobognaaW.PrintMore Go.Proofs.Ytlkkibeoobognaa.PInlineTrees
theorem C_blk {α : Type} (d : Kd α) {w : World} {b t : Nat} {cs : Array Value} (h : w.heap[b]? = some (.cells cs t (0, 0))) (xs : List α) (hl : xs.length ≤ 9223372036854775807) (hk : ∀ j p, xs[j]? = some p → ∃ c, c.length = d.sz ∧ d.K w p c ∧ ∀ i u, c[i]? = some u → cs[j * d.sz + i]? = some u) : d.C w (some ⟨b, 0, none⟩) xs.length xs := by
  refine ⟨rfl, hl, fun _ => ⟨_, rfl, fun j p hj => ?_⟩⟩
  obtain ⟨c, h1, h2, h3⟩ := hk j p hj
  refine ⟨c, h1, h2, fun i u hu => ?_⟩
  rw [Addr.add_lit, Nat.zero_add]
  exact (cell_of_blk h _).trans (h3 i u hu)
def treeC (t : S32) (A7 : Option Addr) (c7 : Nat) (A8 : Option Addr) (c8 : Nat) (A9 : Option Addr) (c9 : Nat) : List Value :=
  [.string t.f0, .int .i64 t.f1.f0, .int .i64 t.f1.f1, .int .i64 t.f1.f2, .string t.f1.f3, .int .i64 t.f1.f4.f0, .int .i64 t.f1.f4.f1, .string t.f1.f4.f2, .slice A7 t.f1.f4.f3.length c7, .slice A8 t.f1.f5.length c8, .slice A9 t.f1.f6.length c9]
theorem tree_K {w : World} {t : S32} {A7 A8 A9 : Option Addr} {c7 c8 c9 : Nat} (h : NodeIn w t.f1 A7 c7 A8 c8 A9 c9) : k32.K w t (treeC t A7 c7 A8 c8 A9 c9) := k32_mk w t h.l7 h.g7 h.l8 h.g8 h.l9 h.g9
/-- A list literal of two trees. -/
theorem trees_two {w : World} {b : Nat} {cs : Array Value} (t u : S32) {A7 A8 A9 B7 B8 B9 : Option Addr} {c7 c8 c9 d7 d8 d9 : Nat} (h1 : NodeIn w t.f1 A7 c7 A8 c8 A9 c9) (h2 : NodeIn w u.f1 B7 d7 B8 d8 B9 d9) (h : w.heap[b]? = some (.cells cs 32 (0, 0)))
    (hcs : cs.toList = treeC t A7 c7 A8 c8 A9 c9 ++ treeC u B7 d7 B8 d8 B9 d9) : k32.C w (some ⟨b, 0, none⟩) 2 [t, u] := by
  refine C_blk k32 h [t, u] (by simp) fun j p hj => ?_
  have hc : ∀ i : Nat, cs[i]? = (treeC t A7 c7 A8 c8 A9 c9 ++ treeC u B7 d7 B8 d8 B9 d9)[i]? := fun i => by rw [← hcs, Array.getElem?_toList]
  match j, hj with
  | 0, hj =>
    obtain rfl : t = p := by simpa using hj
    refine ⟨_, rfl, tree_K h1, fun i v hv => ?_⟩
    rw [Nat.zero_mul, Nat.zero_add, hc, List.getElem?_append_left (List.getElem?_eq_some_iff.1 hv).1]
    exact hv
  | 1, hj =>
    obtain rfl : u = p := by simpa using hj
    refine ⟨_, rfl, tree_K h2, fun i v hv => ?_⟩
    rw [Nat.one_mul, hc, show k32.sz = (treeC t A7 c7 A8 c8 A9 c9).length from rfl, List.getElem?_append_right (by omega), Nat.add_sub_cancel_left]
    exact hv
  | j + 2, hj => simp at hj
theorem nil_in (w : World) (a b c : Int) (s : ByteArray) : NodeIn w ⟨a, b, c, s, zE, [], []⟩ none 0 none 0 none 0 := ⟨Nat.le_refl _, ⟨rfl, by simp [zE], fun h => absurd h (by simp [zE])⟩, Nat.le_refl _, ⟨rfl, by simp, fun h => absurd h (by simp)⟩, Nat.le_refl _, ⟨rfl, by simp, fun h => absurd h (by simp)⟩⟩
theorem tree_ok (m : Nat) (hm : m ≤ 100000) (w : World) (A : Option Addr) (c : Nat) (L : List S32) (hL : Lr w A c L) (s : ByteArray) (y : S30) (n : Nat) (hres : usedG (nodeF L m) L s 1 [] 0 = .ok y n) :
    Calls Try.prog 10 #[.slice A L.length c, .string s] w fun e w' => ∃ A7 c7 A8 c8 A9 c9, e = .returned (.tuple #[nodeV y A7 c7 A8 c8 A9 c9, .int .i64 0]) ∧ Below w.heap.size w w' ∧ NodeIn w' y A7 c7 A8 c8 A9 c9 := by
  refine (tree_does m hm w A c L hL s (by rw [hres]; intro h; cases h)).mono ?_
  rintro e w1 ⟨o, cd, rfl, hb, hN, h⟩
  rw [hres] at h
  rcases h with ⟨_, h2, _⟩ | ⟨rfl, _, _, h2⟩
  · cases h2
  · injection h2 with h2 _
    rw [← h2] at hN ⊢
    exact ⟨_, _, _, _, _, _, rfl, hb, hN⟩
theorem tree_err (m : Nat) (hm : m ≤ 100000) (w : World) (A : Option Addr) (c : Nat) (L : List S32) (hL : Lr w A c L) (s : ByteArray) (d : Int) (hres : usedG (nodeF L m) L s 1 [] 0 = .err d) :
    Calls Try.prog 10 #[.slice A L.length c, .string s] w fun e w' => ∃ A7 c7 A8 c8 A9 c9, e = .returned (.tuple #[nodeV zN A7 c7 A8 c8 A9 c9, .int .i64 d]) ∧ Below w.heap.size w w' ∧ NodeIn w' zN A7 c7 A8 c8 A9 c9 := by
  refine (tree_does m hm w A c L hL s (by rw [hres]; intro h; cases h)).mono ?_
  rintro e w1 ⟨o, cd, rfl, hb, hN, h⟩
  rw [hres] at h
  rcases h with ⟨_, h2, h3⟩ | ⟨_, _, _, h2⟩
  · injection h2 with h2
    subst h2
    rw [h3] at hN ⊢
    exact ⟨_, _, _, _, _, _, rfl, hb, hN⟩
  · cases h2
def aT : S32 := ⟨⟨#[97]⟩, ⟨10, 0, 0, ⟨#[98]⟩, zE, [], []⟩⟩
def bT : S32 := ⟨⟨#[98]⟩, ⟨13, 0, 0, ⟨#[]⟩, zE, [], []⟩⟩
theorem alive_res : usedG (nodeF [aT, bT] 3) [aT, bT] ⟨#[97]⟩ 1 [] 0 = .ok ⟨13, 0, 0, ⟨#[]⟩, zE, [], []⟩ 1 := by
  simp [usedG, findT, inS, nodeF, kidsG, ByteArray.toList_eq, aT, bT]
theorem szN_small (a b c : Int) (s : ByteArray) (hs : s.size ≤ 1000) : szN ⟨a, b, c, s, zE, [], []⟩ ≤ 1048576 := by
  simp only [szN, szNs, szEs, szE, zE]
  have : (⟨#[]⟩ : ByteArray).size = 0 := rfl
  omega
set_option maxHeartbeats 6400000 in
theorem alive_does (w : World) : Calls Try.prog 7 #[] w fun e w' => e = .returned (.bool true) ∧ Below w.heap.size w w' := by
  have hS := At.start0 (Below.refl w.heap.size w)
  have hS := hS.alloc #[.string ⟨#[97]⟩, .int .i64 10, .int .i64 0, .int .i64 0, .string ⟨#[98]⟩, .int .i64 0, .int .i64 0, .string ⟨#[]⟩, .slice none 0 0, .slice none 0 0, .slice none 0 0, .string ⟨#[98]⟩, .int .i64 13, .int .i64 0, .int .i64 0, .string ⟨#[]⟩, .int .i64 0, .int .i64 0, .string ⟨#[]⟩, .slice none 0 0, .slice none 0 0, .slice none 0 0] 32
  obtain ⟨q0, hq0⟩ : ∃ q, q = w.heap.size := ⟨_, rfl⟩
  obtain ⟨W0, hW0⟩ : ∃ V, V = w.alloc (.cells #[.string ⟨#[97]⟩, .int .i64 10, .int .i64 0, .int .i64 0, .string ⟨#[98]⟩, .int .i64 0, .int .i64 0, .string ⟨#[]⟩, .slice none 0 0, .slice none 0 0, .slice none 0 0, .string ⟨#[98]⟩, .int .i64 13, .int .i64 0, .int .i64 0, .string ⟨#[]⟩, .int .i64 0, .int .i64 0, .string ⟨#[]⟩, .slice none 0 0, .slice none 0 0, .slice none 0 0] 32) := ⟨_, rfl⟩
  rw [← hq0, ← hW0] at hS
  have Hq : As (w.alloc (.cells #[.string ⟨#[97]⟩, .int .i64 10, .int .i64 0, .int .i64 0, .string ⟨#[98]⟩, .int .i64 0, .int .i64 0, .string ⟨#[]⟩, .slice none 0 0, .slice none 0 0, .slice none 0 0, .string ⟨#[98]⟩, .int .i64 13, .int .i64 0, .int .i64 0, .string ⟨#[]⟩, .int .i64 0, .int .i64 0, .string ⟨#[]⟩, .slice none 0 0, .slice none 0 0, .slice none 0 0] 32) = W0 ∧ w.heap.size = q0) := ⟨hW0.symm, hq0.symm⟩
  clear hq0 hW0
  have hC : k32.C W0 (some ⟨q0, 0, none⟩) 2 [aT, bT] := trees_two aT bT (nil_in _ _ _ _ _) (nil_in _ _ _ _ _) (hS.blkAt 0 rfl) rfl
  have hT := tree_ok 3 (by omega) W0 _ 2 [aT, bT] ⟨hC, Nat.le_refl _, fun t ht => by
    rcases List.mem_cons.1 ht with rfl | ht
    · exact szN_small _ _ _ _ (by decide)
    · obtain rfl : t = bT := by simpa using ht
      exact szN_small _ _ _ _ (by decide)⟩ ⟨#[97]⟩ _ _ alive_res
  unfold nodeV at hT
  simp only [zE, List.length_nil] at hT
  have HT := As.mk hT
  have HB := As.mk hS.bl
  have hCn := fun V => count_does V ⟨13, 0, 0, ⟨#[]⟩, zE, [], []⟩ (nil_in V _ _ _ _) (by simp [cntN, cntNs])
  unfold nodeV at hCn
  simp only [zE, cntN, cntNs, List.length_nil, Nat.zero_add, show ((1 : Nat) : Int) = 1 from rfl] at hCn
  have HCn := As.mk hCn
  clear hC hT hS hCn
  go_enter Try.func7, Try.ntmps7
  go_wp2_with fail
  rw [Hq.out.1, Hq.out.2]
  clear Hq
  refine HT.out.mono ?_
  rintro e w1 ⟨A7, c7, A8, c8, A9, c9, rfl, hb, hN⟩
  have hS := At.start0 (HB.out.trans (Below.mono hb HB.out.size))
  clear hb hN HT HB
  have hS := hS.alloc #[.int .i64 13, .int .i64 0, .int .i64 0, .string ⟨#[]⟩, .int .i64 0, .int .i64 0, .string ⟨#[]⟩, .slice A7 0 c7, .slice A8 0 c8, .slice A9 0 c9] 30
  obtain ⟨k0, hk0⟩ : ∃ q, q = w1.heap.size := ⟨_, rfl⟩
  obtain ⟨K0, hK0⟩ : ∃ V, V = w1.alloc (.cells #[.int .i64 13, .int .i64 0, .int .i64 0, .string ⟨#[]⟩, .int .i64 0, .int .i64 0, .string ⟨#[]⟩, .slice A7 0 c7, .slice A8 0 c8, .slice A9 0 c9] 30) := ⟨_, rfl⟩
  rw [← hk0, ← hK0] at hS
  have Hk : As (w1.alloc (.cells #[.int .i64 13, .int .i64 0, .int .i64 0, .string ⟨#[]⟩, .int .i64 0, .int .i64 0, .string ⟨#[]⟩, .slice A7 0 c7, .slice A8 0 c8, .slice A9 0 c9] 30) = K0 ∧ w1.heap.size = k0) := ⟨hK0.symm, hk0.symm⟩
  clear hk0 hK0
  go_upto_region 2 with fail
  rw [Hk.out.1, Hk.out.2]
  clear Hk
  go_wp2_with fail
  refine (HCn.out _).mono ?_
  rintro e w2 ⟨rfl, hb⟩
  have hS2 := hS.below hb
  clear hS hb
  have z0 := (hS2.cellAt 0 rfl 0).trans rfl
  go_wp2_with fail
  refine (num_does _ _).mono ?_
  rintro e w3 ⟨rfl, hb⟩
  have hS3 := hS2.below hb
  clear hS2 hb z0
  have z0 := (hS3.cellAt 0 rfl 0).trans rfl
  go_wp2_with fail
  go_ret
  exact ⟨rfl, hS3.bl⟩
end Go.Proofs.Ytlkkibeoobognaa.OpenInlineTrees
