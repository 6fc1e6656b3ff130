/- What it is to lay a tree flat; rows that grow. Plain. -/
import Derived.Test.YtfgpdpccfpilaaaSameNFlatOrder
set_option linter.unusedVariables false
namespace Go.Proofs.Ytfgpdpccfpilaaa.OpenFlatOrder
open Go.RowKit Go.Deep
open Go.Proofs.YtfgpdpccfpilaaaW.PrintWords Go.Proofs.YtfgpdpccfpilaaaW.PrintLast Go.Proofs.YtfgpdpccfpilaaaW.PrintMore Go.Proofs.Ytfgpdpccfpilaaa.PFlatOrder
theorem infoF : (Try.prog.info? 39).map (fun i => (i.zero, i.size, i.bytes)) = some (some (.agg #[.int .i64 0, .int .i64 0, .int .i64 0, .int .i64 0, .int .i64 0, .string ⟨#[]⟩, .int .i64 0, .int .i64 0, .string ⟨#[]⟩, .slice none 0 0, .slice none 0 0]), 11, 136) := by kernel_rfl
def rowOf (x : S27) (par : Int) : S39 := ⟨x.f0, x.f1, x.f2, 0, par, x.f3, x.f4, x.f6⟩
def endAt (l : List S39) (i : Nat) : List S39 := match l[i]? with
  | some r => l.set i ⟨r.f0, r.f1, r.f2, (l.length : Int), r.f4, r.f5, r.f6, r.f7⟩
  | none => l
theorem endAt_len (l : List S39) (i : Nat) : (endAt l i).length = l.length := by
  unfold endAt
  split <;> simp
mutual
def lay : S27 → Int → List S39 → List S39
  | ⟨a0, a1, a2, s3, e, kids, ws⟩, par, l => endAt (lays kids l.length (l ++ [rowOf ⟨a0, a1, a2, s3, e, kids, ws⟩ par])) l.length
def lays : List S27 → Nat → List S39 → List S39
  | [], _, l => l
  | x :: xs, i, l => lays xs i (lay x i l)
end
mutual
def cntN : S27 → Nat
  | ⟨_, _, _, _, _, kids, _⟩ => cntNs kids + 1
def cntNs : List S27 → Nat
  | [] => 0
  | x :: xs => cntN x + cntNs xs
end
mutual
theorem lay_len : ∀ (x : S27) (par : Int) (l : List S39), (lay x par l).length = l.length + cntN x
  | ⟨a0, a1, a2, s3, e, kids, ws⟩, par, l => by
    rw [lay, endAt_len, lays_len kids, cntN, List.length_append, List.length_singleton]
    omega
theorem lays_len : ∀ (xs : List S27) (i : Nat) (l : List S39), (lays xs i l).length = l.length + cntNs xs
  | [], i, l => by rw [lays, cntNs]; rfl
  | x :: xs, i, l => by rw [lays, lays_len xs, lay_len x, cntNs]; omega
end
mutual
theorem cnt_szN : ∀ x : S27, cntN x ≤ szN x
  | ⟨a0, a1, a2, s3, e, kids, ws⟩ => by have := cnt_szNs kids; rw [cntN, szN]; omega
theorem cnt_szNs : ∀ xs : List S27, cntNs xs ≤ szNs xs
  | [] => by rw [cntNs]; exact Nat.zero_le _
  | x :: xs => by have := cnt_szN x; have := cnt_szNs xs; rw [cntNs, szNs]; omega
end
theorem lays_snoc : ∀ (xs : List S27) (x : S27) (i : Nat) (l : List S39), lays (xs ++ [x]) i l = lay x i (lays xs i l)
  | [], x, i, l => by rw [List.nil_append, lays, lays, lays]
  | y :: xs, x, i, l => by rw [List.cons_append, lays, lays_snoc xs, lays]
theorem lays_take {kids : List S27} {k : Nat} {x : S27} (h : kids[k]? = some x) (i : Nat) (l : List S39) : lays (kids.take (k + 1)) i l = lay x i (lays (kids.take k) i l) := by
  rw [take_snoc h, lays_snoc]
theorem szNs_take : ∀ (kids : List S27) (k : Nat) (x : S27), kids[k]? = some x → cntNs (kids.take k) + szN x ≤ szNs kids
  | [], k, x, h => by simp at h
  | y :: l, 0, x, h => by
    obtain rfl : y = x := by simpa using h
    simp only [List.take_zero, cntNs, szNs]; omega
  | y :: l, k + 1, x, h => by
    have := szNs_take l k x (by simpa using h)
    have := cnt_szN y
    simp only [List.take_succ_cons, cntNs, szNs]; omega
theorem gThen {a b' c : World} {row row' : Option Nat} (h : a.grownBy b' row) (k : b'.grownBy c row') (hr : ∀ j, row' = some j → a.heap.size ≤ j ∨ row = some j) : a.grownBy c row :=
  ⟨k.os.trans h.os, k.tape.trans h.tape, k.output.trans h.output, Nat.le_trans h.size k.size, fun i hi hne =>
    (k.block i (Nat.lt_of_lt_of_le hi h.size) (fun e => by
      rcases hr i e.symm with h1 | h1
      · omega
      · exact hne h1.symm)).trans (h.block i hi hne)⟩
/-- A row that has grown: what it is now; nothing else of what stood there has changed. -/
structure Grows (w w' : World) (b0 : Nat) (v v' : Value) (ys : List S39) : Prop where
  R : k39.R 39 w' b0 tt v' ys
  g : w.grownBy w' v.ownBlock
  at_ : v'.ownBlock = v.ownBlock ∨ ∃ b, v'.ownBlock = some b ∧ w.heap.size ≤ b
theorem Grows.refl {w : World} {b0 : Nat} {v : Value} {ys : List S39} (h : k39.R 39 w b0 tt v ys) : Grows w w b0 v v ys :=
  ⟨h, grown_of_below (Below.refl _ _) _, .inl rfl⟩
theorem Grows.below {w w1 : World} {b0 : Nat} {v v1 : Value} {ys : List S39} (h : Grows w w1 b0 v v1 ys) {w2 : World} (hb : Below w1.heap.size w1 w2) : Grows w w2 b0 v v1 ys :=
  ⟨Kd.R_below h.R hb, gThen h.g (grown_of_below hb none) (fun j e => by cases e), h.at_⟩
theorem Grows.from {w V w1 : World} {b0 : Nat} {v v1 : Value} {ys : List S39} (hb : Below w.heap.size w V) (h : Grows V w1 b0 v v1 ys) : Grows w w1 b0 v v1 ys :=
  ⟨h.R, gThen (grown_of_below hb v.ownBlock) h.g (fun j e => .inr e), h.at_.imp id fun ⟨b, e, hl⟩ => ⟨b, e, Nat.le_trans hb.size hl⟩⟩
theorem Grows.trans {w w1 w2 : World} {b0 : Nat} {v v1 v2 : Value} {ys zs : List S39} (h : Grows w w1 b0 v v1 ys) (k : Grows w1 w2 b0 v1 v2 zs) : Grows w w2 b0 v v2 zs := by
  refine ⟨k.R, gThen h.g k.g (fun j e => ?_), ?_⟩
  · rcases h.at_ with h1 | ⟨b, h1, h2⟩
    · exact .inr (h1.symm.trans e)
    · rw [e] at h1; injection h1 with h1; exact .inl (by omega)
  · rcases k.at_ with k1 | ⟨b, k1, k2⟩
    · rw [k1]; exact h.at_
    · exact .inr ⟨b, k1, Nat.le_trans h.g.size k2⟩
theorem Grows.bl {w0 w w1 : World} {v v1 : Value} {xs ys : List S39} (h : Grows w w1 w0.heap.size v v1 ys) (hb : Below w0.heap.size w0 w) (hr : k39.R 39 w w0.heap.size tt v xs) : Below w0.heap.size w0 w1 :=
  pw_below_grown hb v.ownBlock hb.size h.g (fun k e => Kd.R_base hr k e)
/-- A block of the call's own stays. -/
theorem Grows.keeps {w w1 : World} {b0 : Nat} {v v1 : Value} {ys : List S39} {p : Nat} (h : Grows w w1 b0 v v1 ys) (hp : p < w.heap.size) (hne : some p ≠ v.ownBlock) : w1.heap[p]? = w.heap[p]? ∧ some p ≠ v1.ownBlock := by
  refine ⟨h.g.block p hp hne, fun e => ?_⟩
  rcases h.at_ with h1 | ⟨b, h1, h2⟩
  · rw [h1] at e; exact hne e
  · rw [h1] at e; injection e with e; omega
theorem none_or {v : Value} {k : Nat} (h : ∀ j, v.ownBlock = some j → j < k) : some k ≠ v.ownBlock := fun e => Nat.lt_irrefl _ (h k e.symm)
/-- The End of an element is set. -/
theorem end_set {w : World} {b0 g n cap : Nat} {l : List S39} (h : k39.R 39 w b0 tt (.slice (some ⟨g, 0, none⟩) n cap) l) (i : Nat) (hi : i < l.length) : (∃ u, w.cell? ⟨g, i * 11 + 3, none⟩ = some u) ∧ w.frozen? ⟨g, i * 11 + 3, none⟩ = false ∧
    Grows w (w.setCell ⟨g, i * 11 + 3, none⟩ (.int .i64 l.length)) b0 (.slice (some ⟨g, 0, none⟩) n cap) (.slice (some ⟨g, 0, none⟩) n cap) (endAt l i) := by
  have hn := (Kd.R_reads' h).1
  obtain ⟨c, hcl, hM, hc, hf⟩ := Kd.R_elem h z39 (i : Int) (by omega) (by omega)
  have hM2 := hM
  have e1 : l.getD ((i : Int)).toNat z39 = l[i] := by
    rw [Int.toNat_natCast, List.getD_eq_getElem?_getD, List.getElem?_eq_getElem hi]
    rfl
  rw [e1] at hM
  obtain ⟨v9, v10, rfl, g9, g10⟩ := k39_openM hM
  have hs := Kd.R_seg h (i : Int) (by omega) (by omega) (seg := [.int .i64 l.length]) (j := 3) (x' := ⟨l[i].f0, l[i].f1, l[i].f2, (l.length : Int), l[i].f4, l[i].f5, l[i].f6, l[i].f7⟩) (okp := fun k => tt k ∧ k ≠ g) hcl hc (by show 3 + 1 ≤ 11; omega)
    (k39_mkM w b0 (fun k => tt k ∧ k ≠ g) ⟨l[i].f0, l[i].f1, l[i].f2, (l.length : Int), l[i].f4, l[i].f5, l[i].f6, l[i].f7⟩ g9 g10) (fun k hk => hk)
  rw [Int.toNat_natCast, show k39.sz = 11 from rfl] at hs hc hf
  refine ⟨⟨_, hc 3 _ rfl⟩, hf 3, ?_, hs.2, .inl rfl⟩
  have e2 : endAt l i = l.set i ⟨l[i].f0, l[i].f1, l[i].f2, (l.length : Int), l[i].f4, l[i].f5, l[i].f6, l[i].f7⟩ := by
    unfold endAt
    rw [List.getElem?_eq_getElem hi]
  rw [e2]
  exact hs.1
end Go.Proofs.Ytfgpdpccfpilaaa.OpenFlatOrder
