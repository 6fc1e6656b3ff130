/- Find tells the first tree of a name. No condition but bounded length. -/
import Derived.Test.YtlkkibeoobognaaIn0InlineTrees
set_option linter.unusedVariables false
set_option maxRecDepth 100000
namespace Go.Proofs.Ytlkkibeoobognaa.OpenInlineTrees
open Go.RowKit Go.Deep
open Go.Proofs.YtlkkibeoobognaaW.PrintWords Go.Proofs.YtlkkibeoobognaaW.PrintLast Go.Proofs.YtlkkibeoobognaaW.PrintMore Go.Proofs.Ytlkkibeoobognaa.PInlineTrees
def treeV (t : S32) (A7 : Option Addr) (c7 : Nat) (A8 : Option Addr) (c8 : Nat) (A9 : Option Addr) (c9 : Nat) : Value :=
  .agg #[.string t.f0, .int .i64 t.f1.f0, .int .i64 t.f1.f1, .int .i64 t.f1.f2, .string t.f1.f3, .int .i64 t.f1.f4.f0, .int .i64 t.f1.f4.f1, .string t.f1.f4.f2, .slice A7 t.f1.f4.f3.length c7, .slice A8 t.f1.f5.length c8, .slice A9 t.f1.f6.length c9]
/-- A tree that stands in a row. -/
theorem tree_at {w : World} {A : Option Addr} {n k : Nat} {l : List S32} (h : k32.C w A n l) (x : S32) (hx : l[k]? = some x) : ∃ b off A7 c7 A8 c8 A9 c9, A = some ⟨b, off, none⟩ ∧ b < w.heap.size ∧ NodeIn w x.f1 A7 c7 A8 c8 A9 c9 ∧
    w.cell? ⟨b, off + k * 11, none⟩ = some (.string x.f0) ∧ w.cell? ⟨b, off + k * 11 + 1, none⟩ = some (.int .i64 x.f1.f0) ∧ w.cell? ⟨b, off + k * 11 + 2, none⟩ = some (.int .i64 x.f1.f1) ∧ w.cell? ⟨b, off + k * 11 + 3, none⟩ = some (.int .i64 x.f1.f2) ∧ w.cell? ⟨b, off + k * 11 + 4, none⟩ = some (.string x.f1.f3) ∧
    w.cell? ⟨b, off + k * 11 + 5, none⟩ = some (.int .i64 x.f1.f4.f0) ∧ w.cell? ⟨b, off + k * 11 + 6, none⟩ = some (.int .i64 x.f1.f4.f1) ∧ w.cell? ⟨b, off + k * 11 + 7, none⟩ = some (.string x.f1.f4.f2) ∧ w.cell? ⟨b, off + k * 11 + 8, none⟩ = some (.slice A7 x.f1.f4.f3.length c7) ∧
    w.cell? ⟨b, off + k * 11 + 9, none⟩ = some (.slice A8 x.f1.f5.length c8) ∧ w.cell? ⟨b, off + k * 11 + 10, none⟩ = some (.slice A9 x.f1.f6.length c9) := by
  obtain ⟨b, off, cs, rfl, hbl, _, hK, hc⟩ := C_lit h (by decide) x hx
  obtain ⟨A7, c7, A8, c8, A9, c9, rfl, l7, g7, l8, g8, l9, g9⟩ := k32_open hK
  exact ⟨b, off, A7, c7, A8, c8, A9, c9, rfl, hbl, ⟨l7, g7, l8, g8, l9, g9⟩, hc 0 _ rfl, hc 1 _ rfl, hc 2 _ rfl, hc 3 _ rfl, hc 4 _ rfl, hc 5 _ rfl, hc 6 _ rfl, hc 7 _ rfl, hc 8 _ rfl, hc 9 _ rfl, hc 10 _ rfl⟩
set_option maxHeartbeats 3200000 in
theorem fn_does (w : World) (q : Nat) (s : ByteArray) (hq : w.cell? ⟨q, 0, none⟩ = some (.string s)) (hl : q < w.heap.size) (t : S32) (A7 : Option Addr) (c7 : Nat) (A8 : Option Addr) (c8 : Nat) (A9 : Option Addr) (c9 : Nat) :
    Calls Try.prog 59 #[treeV t A7 c7 A8 c8 A9 c9, .pointer (some ⟨q, 0, none⟩)] w fun e w' => e = .returned (.bool (decide (t.f0.toList = s.toList))) ∧ Below w.heap.size w w' := by
  unfold treeV
  have hB : Below w.heap.size w w := Below.refl _ _
  have e2 : (t.f0.toList == s.toList) = decide (t.f0.toList = s.toList) := by
    cases h : decide (t.f0.toList = s.toList)
    · exact beq_eq_false_iff_ne.2 (of_decide_eq_false h)
    · exact beq_iff_eq.2 (of_decide_eq_true h)
  go_enter Try.func59, Try.ntmps59
  go_wp2
  go_ret
  exact ⟨by rw [← e2]; rfl, hB.alloc hB.size _⟩
theorem findT_step (L : List S32) (s : ByteArray) (k : Nat) (x : S32) (hx : L[k]? = some x) : findT (L.drop k) s = if x.f0.toList = s.toList then some x else findT (L.drop (k + 1)) s := by
  obtain ⟨h1, h2⟩ := List.getElem?_eq_some_iff.1 hx
  have hd : L.drop k = L[k] :: L.drop (k + 1) := List.drop_eq_getElem_cons h1
  rw [hd, h2]
  unfold findT
  rw [List.find?_cons]
  by_cases h : x.f0.toList = s.toList
  · rw [decide_eq_true h, if_pos h]
  · rw [decide_eq_false h, if_neg h]
def FoundIs (L : List S32) (s : ByteArray) (r : Int) : Prop := (findT L s = none ∧ r = -1) ∨ ∃ (i : Nat) (t : S32), L[i]? = some t ∧ findT L s = some t ∧ r = (i : Int)
set_option maxHeartbeats 6400000 in
theorem index_does (w : World) (q : Nat) (s : ByteArray) (hq : w.cell? ⟨q, 0, none⟩ = some (.string s)) (hl : q < w.heap.size) (L : List S32) (A : Option Addr) (c : Nat) (hC : k32.C w A L.length L) (hc : L.length ≤ c) :
    Calls Try.prog 58 #[.slice A L.length c, .func (.func 59) #[] #[.pointer (some ⟨q, 0, none⟩)]] w fun e w' => ∃ r, e = .returned (.int .i64 r) ∧ Below w.heap.size w w' ∧ FoundIs L s r := by
  have HC := As.mk (fun (W : World) (hb : Below w.heap.size w W) => Kd.C_below hC hb)
  have HQ := As.mk (fun (W : World) (hb : Below w.heap.size w W) => (⟨(hb.cell (p := ⟨q, 0, none⟩) hl).trans hq, Nat.lt_of_lt_of_le hl hb.size⟩ : W.cell? ⟨q, 0, none⟩ = some (.string s) ∧ q < W.heap.size))
  have hll := hC.2.1
  have hB : Below w.heap.size w w := Below.refl _ _
  have hT : findT L s = findT (L.drop 0) s := by rw [List.drop_zero]
  clear hC hq
  go_enter Try.func58, Try.ntmps58
  go_wp2_with fail
  go_loopg [8] L.length (fun g0 iv wr => ∃ k : Nat, k + g0 = L.length ∧ iv = .int .i64 k ∧ As (Below w.heap.size w wr) ∧ As (findT L s = findT (L.drop k) s))
  case atStart => exact ⟨0, by omega, rfl, ⟨hB⟩, ⟨hT⟩⟩
  case round =>
    clear hB hT
    obtain ⟨k, hk, rfl, HB, HT⟩ := hrel
    by_cases hlt : k < L.length
    · obtain ⟨x, hx⟩ : ∃ x, L[k]? = some x := ⟨_, List.getElem?_eq_getElem hlt⟩
      have HX := As.mk hx
      have HK := As.mk hk
      obtain ⟨b, off, A7, c7, A8, c8, A9, c9, rfl, hbl, _, u0, u1, u2, u3, u4, u5, u6, u7, u8, u9, u10⟩ := tree_at (HC.out _ HB.out) x hx
      have hq := HQ.out _ HB.out
      have HS := As.mk (findT_step L s k x hx)
      have hCC := fn_does wr q s hq.1 hq.2 x A7 c7 A8 c8 A9 c9
      unfold treeV at hCC
      have hin : (k : Int) < (L.length : Int) := by omega
      clear hk hx hq
      by_cases he : x.f0.toList = s.toList
      · rw [decide_eq_true he] at hCC
        have HCC := As.mk hCC
        have HF : As (FoundIs L s (k : Int)) := ⟨.inr ⟨k, x, HX.out, by rw [HT.out, HS.out, if_pos he], rfl⟩⟩
        clear hCC he
        go_wp2_with (go_at_call 59; refine HCC.out.mono ?_; rintro e w1 ⟨rfl, hb⟩; have HB1 := As.mk (HB.out.trans (Below.mono hb HB.out.size)); clear hb)
        go_ret
        exact ⟨_, rfl, HB1.out, HF.out⟩
      · rw [decide_eq_false he] at hCC
        have HCC := As.mk hCC
        have HF : As (findT L s = findT (L.drop (k + 1)) s) := ⟨by rw [HT.out, HS.out, if_neg he]⟩
        clear hCC he
        go_wp2_with (go_at_call 59; refine HCC.out.mono ?_; rintro e w1 ⟨rfl, hb⟩; have HB1 := As.mk (HB.out.trans (Below.mono hb HB.out.size)); clear hb)
        go_roundg (gk - 1)
        case measure => have := HK.out; omega
        case rel => exact ⟨k + 1, by have := HK.out; omega, by go_num, HB1, HF⟩
    · obtain rfl : k = L.length := by omega
      have HF : As (FoundIs L s (-1)) := ⟨.inl ⟨by rw [HT.out, List.drop_length]; rfl, rfl⟩⟩
      go_wp2_with fail
      go_ret
      exact ⟨_, rfl, HB.out, HF.out⟩
set_option maxHeartbeats 3200000 in
theorem find_does (w : World) (s : ByteArray) (L : List S32) (A : Option Addr) (c : Nat) (hC : k32.C w A L.length L) (hc : L.length ≤ c) :
    Calls Try.prog 40 #[.slice A L.length c, .string s] w fun e w' => ∃ r, e = .returned (.int .i64 r) ∧ Below w.heap.size w w' ∧ FoundIs L s r := by
  have hB : Below w.heap.size w w := Below.refl _ _
  have hS := (At.start0 hB).alloc #[.string s] 9
  have hBA := hB.alloc hB.size (.cells #[.string s] 9)
  have HX := As.mk (index_does (w.alloc (.cells #[.string s] 9)) w.heap.size s ((hS.cellAt 0 rfl 0).trans rfl) (hS.ltAt 0 rfl) L A c (Kd.C_below hC hBA) hc)
  have HBA := As.mk hBA
  clear hS hBA hC hB
  go_enter Try.func40, Try.ntmps40
  go_wp2_with (go_at_call 58; refine HX.out.mono ?_; rintro e w1 ⟨r, rfl, hb, hr⟩; have HB1 := As.mk (HBA.out.trans (Below.mono hb HBA.out.size)); have HR := As.mk hr; clear hb hr)
  go_ret
  exact ⟨_, rfl, HB1.out, HR.out⟩
end Go.Proofs.Ytlkkibeoobognaa.OpenInlineTrees
