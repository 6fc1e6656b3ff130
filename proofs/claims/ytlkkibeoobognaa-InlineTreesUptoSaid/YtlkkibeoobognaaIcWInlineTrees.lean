/- The law InlineCounts. -/
import Derived.Test.YtlkkibeoobognaaIcPInlineTrees
set_option linter.unusedVariables false
set_option linter.unusedSimpArgs false
set_option maxRecDepth 100000
namespace Go.Proofs.Ytlkkibeoobognaa.OpenInlineTrees
open Go.RowKit Go.Deep
open Go.Proofs.YtlkkibeoobognaaW.PrintWords Go.Proofs.YtlkkibeoobognaaW.PrintLast Go.Proofs.YtlkkibeoobognaaW.PrintMore Go.Proofs.Ytlkkibeoobognaa.PInlineTrees
/-- A block that holds one element is a row of one. -/
theorem At.kd_box {α : Type} {F0 : Nat → Prop} {w0 W : World} {l : List Hp} {d : Kd α} {C : Hp} {p : α} {cs : List Value} {b : Nat} (e : Nat) (hS : At F0 w0 W (Hp.seps (Hp.blk b cs.toArray e :: C :: l))) (hC : ∀ w F, C.H w F → d.M w 0 F p cs) :
    At F0 w0 W (Hp.seps (hkd d e (.slice (some ⟨b, 0, none⟩) 1 1) [p] :: l)) := by
  refine hS.map fun w F h => ?_
  obtain ⟨F1, F2, h1, ⟨FC, FL, hC0, hL, hd2, hF2⟩, hd1, hF1⟩ := h
  have hM := hC _ _ hC0
  have hlen := d.K_len (d.K_of_M hM)
  have hCl := Hp.lt _ hC0
  have hbF : F1 b := (h1.2 b).2 rfl
  have hbl : b < w.heap.size := Hp.lt _ h1 b hbF
  have hCb : ∀ k, FC k → k ≠ b := fun k hk he => hd1 b hbF (by rw [← he]; exact (hF2 k).2 (.inl hk))
  refine ⟨fun k => FC k ∨ k = b, FL, ⟨⟨fun k hk => ?_, cs, ⟨?_, ?_⟩, ?_, ?_⟩, ?_⟩, hL, ?_, fun k => ?_⟩
  · simp only [Value.ownBlock] at hk
    injection hk with hk
    exact .inr hk.symm
  · rw [hlen]; simp
  · exact .inr ⟨b, 1, cs.toArray, rfl, Nat.zero_le _, h1.1, Nat.le_refl _, by simp [maxLen], by simp [hlen], by rw [List.length_singleton, Nat.one_mul, ← hlen]; simp⟩
  · rw [hlen]; simp
  · intro j q hj
    cases j with
    | zero =>
      obtain rfl : p = q := by simpa using hj
      rw [Nat.zero_mul, List.drop_zero, ← hlen, List.take_length]
      exact d.M_mono (fun k hk => ⟨.inl hk, fun he => by simp only [Value.ownBlock] at he; injection he with he; exact hCb k hk he⟩) hM
    | succ j => simp at hj
  · rintro k (hk | hk)
    · exact hCl k hk
    · omega
  · rintro k (hk | hk) h2
    · exact hd2 k hk h2
    · subst hk; exact hd1 _ hbF ((hF2 _).2 (.inr h2))
  · constructor
    · intro hk
      rcases (hF1 k).1 hk with hk | hk
      · exact .inl (.inr ((h1.2 k).1 hk))
      · rcases (hF2 k).1 hk with hk | hk
        · exact .inl (.inl hk)
        · exact .inr hk
    · rintro ((hk | hk) | hk)
      · exact (hF1 k).2 (.inr ((hF2 k).2 (.inl hk)))
      · subst hk; exact (hF1 _).2 (.inl hbF)
      · exact (hF1 k).2 (.inr ((hF2 k).2 (.inr hk)))
theorem At.kd_litb {α : Type} {F0 : Nat → Prop} {w0 W : World} {l : List Hp} {d : Kd α} {C : Hp} {p : α} {cs : List Value} (e b : Nat) (hb : W.heap.size = b) (hS : At F0 w0 W (Hp.seps (C :: l))) (hC : ∀ F, C.H W F → d.M W 0 F p cs) :
    At F0 w0 (W.alloc (.cells cs.toArray e)) (Hp.seps (hkd d e (.slice (some ⟨b, 0, none⟩) 1 1) [p] :: l)) := by
  subst hb
  exact At.kd_lit e hS hC
theorem arr10 {a0 a1 a2 a3 a4 a5 a6 a7 a8 a9 : Value} (b0 b1 b2 b3 b4 b5 b6 b7 b8 b9 : Value) : ((((((((((#[a0, a1, a2, a3, a4, a5, a6, a7, a8, a9].setIfInBounds 0 b0).setIfInBounds 1 b1).setIfInBounds 2 b2).setIfInBounds 3 b3).setIfInBounds 4 b4).setIfInBounds 5 b5).setIfInBounds 6 b6).setIfInBounds 7 b7).setIfInBounds 8 b8).setIfInBounds 9 b9) = #[b0, b1, b2, b3, b4, b5, b6, b7, b8, b9] := by kernel_rfl
theorem At.set10z {F0 : Nat → Prop} {w0 w : World} {l : List Hp} {g t : Nat} {a0 a1 a2 a3 a4 a5 a6 a7 a8 a9 : Value} (b0 b1 b2 b3 b4 b5 b6 b7 b8 b9 : Value) (h : At F0 w0 w (Hp.seps (Hp.blk g #[a0, a1, a2, a3, a4, a5, a6, a7, a8, a9] t :: l))) :
    At F0 w0 ((((((((((w.setCell ⟨g, 0, none⟩ b0).setCell ⟨g, 1, none⟩ b1).setCell ⟨g, 2, none⟩ b2).setCell ⟨g, 3, none⟩ b3).setCell ⟨g, 4, none⟩ b4).setCell ⟨g, 5, none⟩ b5).setCell ⟨g, 6, none⟩ b6).setCell ⟨g, 7, none⟩ b7).setCell ⟨g, 8, none⟩ b8).setCell ⟨g, 9, none⟩ b9) (Hp.seps (Hp.blk g #[b0, b1, b2, b3, b4, b5, b6, b7, b8, b9] t :: l)) := by
  have h1 := ((((((((((h.blk_set 0 b0).blk_set 1 b1).blk_set 2 b2).blk_set 3 b3).blk_set 4 b4).blk_set 5 b5).blk_set 6 b6).blk_set 7 b7).blk_set 8 b8).blk_set 9 b9)
  rw [arr10] at h1
  exact h1
/-- All ten cells of a block set anew. -/
theorem At.set10 {F0 : Nat → Prop} {w0 w : World} {l : List Hp} {g t : Nat} {a0 a1 a2 a3 a4 a5 a6 a7 a8 a9 : Value} (n : Nat) (b0 b1 b2 b3 b4 b5 b6 b7 b8 b9 : Value) (h : At F0 w0 w (Hp.seps l)) (ha : l[n]? = some (Hp.blk g #[a0, a1, a2, a3, a4, a5, a6, a7, a8, a9] t)) :
    At F0 w0 ((((((((((w.setCell ⟨g, 0, none⟩ b0).setCell ⟨g, 1, none⟩ b1).setCell ⟨g, 2, none⟩ b2).setCell ⟨g, 3, none⟩ b3).setCell ⟨g, 4, none⟩ b4).setCell ⟨g, 5, none⟩ b5).setCell ⟨g, 6, none⟩ b6).setCell ⟨g, 7, none⟩ b7).setCell ⟨g, 8, none⟩ b8).setCell ⟨g, 9, none⟩ b9) (Hp.seps (l.set n (Hp.blk g #[b0, b1, b2, b3, b4, b5, b6, b7, b8, b9] t))) := (At.set10z b0 b1 b2 b3 b4 b5 b6 b7 b8 b9 (h.pick n ha)).put (List.getElem?_eq_some_iff.1 ha).1
theorem plain_M (w : World) (F : Nat → Prop) (g a b : Int) (s : ByteArray) (B : Option Addr) (n d : Nat) (xs : List S30) (hn : n = xs.length) (h : k30.R 30 w 0 F (.slice B n d) xs) : k30.M w 0 F ⟨g, a, b, s, zE, xs, []⟩ [.int .i64 g, .int .i64 a, .int .i64 b, .string s, .int .i64 0, .int .i64 0, .string ⟨#[]⟩, .slice none 0 0, .slice B n d, .slice none 0 0] := by
  subst hn
  exact k30_mkM w 0 F ⟨g, a, b, s, zE, xs, []⟩ (Kd.R_nil k27 27 w 0 F) h (Kd.R_nil k27 27 w 0 F)
theorem plain_in {F0 : Nat → Prop} {w0 w : World} {l : List Hp} {B : Option Addr} {m d : Nat} {xs : List S30} (n : Nat) (h : At F0 w0 w (Hp.seps l)) (ha : l[n]? = some (hkd k30 30 (.slice B m d) xs)) (hn : m = xs.length) (g a b : Int) (s : ByteArray) : NodeIn w ⟨g, a, b, s, zE, xs, []⟩ none 0 B d none 0 := by
  obtain ⟨F, hR⟩ := At.kd_at n h ha
  subst hn
  exact node_in (o := ⟨0, ⟨g, a, b, s, zE, xs, []⟩, none, 0, B, d, none, 0⟩) (k30.K_of_M (plain_M w F g a b s B _ d xs rfl hR))
theorem ch_sz : ∀ m, szN (chN m) ≤ 1000 * (m + 1)
  | 0 => by
    have : (⟨#[]⟩ : ByteArray).size = 0 := rfl
    simp only [chN, szN, szNs, szEs, szE, zE]; omega
  | m + 1 => by
    have h0 : (⟨#[]⟩ : ByteArray).size = 0 := rfl
    have := ch_sz m
    simp only [chN, szN, szNs, szEs, szE, zE]; omega
theorem use_sz : szN useU ≤ 900 := by
  have h0 : (⟨#[]⟩ : ByteArray).size = 0 := rfl
  have h1 : (⟨#[117]⟩ : ByteArray).size = 1 := rfl
  simp only [useU, szN, szNs, szEs, szE, zE]
  omega
theorem rep_sz : ∀ n, szNs (List.replicate n useU) ≤ 1000 * n + 1000
  | 0 => by simp only [List.replicate_zero, szNs]; omega
  | n + 1 => by
    have := rep_sz n
    have := use_sz
    rw [List.replicate_succ, szNs]
    omega
theorem seq_sz (n : Nat) (h : n ≤ 16) : szN (seqN (List.replicate n useU)) ≤ 1048576 := by
  have h0 : (⟨#[]⟩ : ByteArray).size = 0 := rfl
  have := rep_sz n
  simp only [seqN, szN, szEs, szE, zE]
  omega
end Go.Proofs.Ytlkkibeoobognaa.OpenInlineTrees
