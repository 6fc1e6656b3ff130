/- closed: the last open node becomes a Kid of the one ahead. -/
import Derived.Test.YtfgpdpccfpilaaaBk0FlatOrder
set_option linter.unusedVariables false
set_option linter.unusedSimpArgs false
namespace Go.Proofs.Ytfgpdpccfpilaaa.OpenFlatOrder
open Go.RowKit Go.Deep
open Go.Proofs.YtfgpdpccfpilaaaW.PrintWords Go.Proofs.YtfgpdpccfpilaaaW.PrintLast Go.Proofs.YtfgpdpccfpilaaaW.PrintMore Go.Proofs.Ytfgpdpccfpilaaa.PFlatOrder
def upd (b : Fr) (B : Option Addr) (d : Nat) (t : S27) : Fr := { b with x := { b.x with f5 := b.x.f5 ++ [t] }, B := B, d := d }
theorem raw_at {F0 : Nat → Prop} {w0 w : World} {l : List Hp} {L : List Fr} {g N c m K : Nat} {b t : Fr} (n : Nat) (h : At F0 w0 w (Hp.seps l)) (ha : l[n]? = some (Hp.row 48 11 encF (.slice (some ⟨g, 0, none⟩) N c) L)) (hb : L[m]? = some b) (ht : L[K]? = some t) :
    g < w.heap.size ∧ w.cell? ⟨g, m * 11 + 9, none⟩ = some (.slice b.B b.x.f5.length b.d) ∧ w.frozen? ⟨g, m * 11 + 9, none⟩ = false ∧
    w.cell? ⟨g, K * 11 + 1, none⟩ = some (.int .i64 t.x.f0) ∧ w.cell? ⟨g, K * 11 + 2, none⟩ = some (.int .i64 t.x.f1) ∧ w.cell? ⟨g, K * 11 + 3, none⟩ = some (.int .i64 t.x.f2) ∧ w.cell? ⟨g, K * 11 + 4, none⟩ = some (.string t.x.f3) ∧
    w.cell? ⟨g, K * 11 + 5, none⟩ = some (.int .i64 t.x.f4.f0) ∧ w.cell? ⟨g, K * 11 + 6, none⟩ = some (.int .i64 t.x.f4.f1) ∧ w.cell? ⟨g, K * 11 + 7, none⟩ = some (.string t.x.f4.f2) ∧
    w.cell? ⟨g, K * 11 + 8, none⟩ = some (.slice t.A t.x.f4.f3.length t.c) ∧ w.cell? ⟨g, K * 11 + 9, none⟩ = some (.slice t.B t.x.f5.length t.d) ∧ w.cell? ⟨g, K * 11 + 10, none⟩ = some (.slice t.C t.x.f6.length t.q) := by
  obtain ⟨g1, e1, h1, hc1⟩ := (h.rowAt n ha).cell encF_len m b hb
  obtain ⟨g2, e2, h2, hc2⟩ := (h.rowAt n ha).cell encF_len K t ht
  injection e1 with e1; injection e1 with e1; subst e1
  injection e2 with e2; injection e2 with e2; subst e2
  exact ⟨h1, (hc1 9 (by omega)).1, (hc1 9 (by omega)).2, (hc2 1 (by omega)).1, (hc2 2 (by omega)).1, (hc2 3 (by omega)).1, (hc2 4 (by omega)).1, (hc2 5 (by omega)).1, (hc2 6 (by omega)).1, (hc2 7 (by omega)).1, (hc2 8 (by omega)).1, (hc2 9 (by omega)).1, (hc2 10 (by omega)).1⟩
def zN : S27 := ⟨0, 0, 0, ⟨#[]⟩, ⟨0, 0, ⟨#[]⟩, []⟩, [], []⟩
theorem zN_M (w : World) (ok : Nat → Prop) : k27.M w 0 ok zN [.int .i64 0, .int .i64 0, .int .i64 0, .string ⟨#[]⟩, .int .i64 0, .int .i64 0, .string ⟨#[]⟩, .slice none 0 0, .slice none 0 0, .slice none 0 0] :=
  k27_mkM w 0 ok zN (Kd.R_nil k24 24 w 0 ok) (Kd.R_nil k27 27 w 0 ok) (Kd.R_nil k24 24 w 0 ok)
theorem info27 : (Try.prog.info? 27).map (fun i => (i.zero, i.size, i.bytes)) = some (some (.agg #[.int .i64 0, .int .i64 0, .int .i64 0, .string ⟨#[]⟩, .int .i64 0, .int .i64 0, .string ⟨#[]⟩, .slice none 0 0, .slice none 0 0, .slice none 0 0]), 10, 144) := by kernel_rfl
theorem last_at {F0 : Nat → Prop} {w0 w : World} {l : List Hp} {g n d : Nat} {xs : List S27} {z : S27} (h : At F0 w0 w (Hp.seps (hkd k27 27 (.slice (some ⟨g, 0, none⟩) (n + 1) d) (xs ++ [z]) :: l))) (hn : xs.length = n) :
    ∀ j, j < 10 → (∃ u, w.cell? ⟨g, n * 10 + j, none⟩ = some u) ∧ w.frozen? ⟨g, n * 10 + j, none⟩ = false := by
  intro j hj
  obtain ⟨F, hR⟩ := At.kd_at 0 h rfl
  obtain ⟨c, hcl, _, hc, hf⟩ := Kd.R_elem hR z (n : Int) (by omega) (by omega)
  rw [Int.toNat_natCast, show k27.sz = 10 from rfl] at hc hf
  have hcl : c.length = 10 := hcl
  exact ⟨⟨_, hc j _ (List.getElem?_eq_getElem (by omega))⟩, hf j⟩
set_option maxRecDepth 100000 in
set_option maxHeartbeats 25600000 in
theorem closed_does (v : Value) (rs : List Fr) (b t : Fr) (hr : rs.length ≤ 1000000) (hk : b.x.f5.length ≤ 1000000) :
    Does Try.prog 21 #[v] (Hp.seps [Hp.row 48 11 encF v (rs ++ [b, t]), hew t, hki t, hki b])
      (fun e B => ∃ v' B' d', e = .returned v' ∧ B = Hp.seps [Hp.row 48 11 encF v' (rs ++ [upd b B' d' t.x]), hki (upd b B' d' t.x)]) := by
  refine Does.of fun w F hS0 => ?_
  obtain ⟨A, c, rfl, hc, hn⟩ := (hS0.rowAt 0 rfl).shape
  obtain ⟨L, hL⟩ : ∃ L, L = rs ++ [b, t] := ⟨_, rfl⟩
  obtain ⟨m, hm⟩ : ∃ m, m = rs.length := ⟨_, rfl⟩
  have hLl : L.length = m + 2 := by rw [hL, hm]; simp
  have hLb : L[m]? = some b := by rw [hL, hm]; simp
  have hLt : L[m + 1]? = some t := by rw [hL, hm]; simp
  have hLu : As (∀ b', (L.set m b').take (m + 1) = rs ++ [b']) := ⟨fun b' => by
    rw [hL, hm, List.set_append_right _ _ (Nat.le_refl _), Nat.sub_self, List.set_cons_zero, show rs ++ [b', t] = (rs ++ [b']) ++ [t] by simp, List.take_left' (by simp)]⟩
  rw [← hL] at hS0 hc hn ⊢
  rw [hLl] at hS0 hc hn ⊢
  have hS : At F w w (Hp.seps [hki b, hkm k27 t.x (nodC t), Hp.row 48 11 encF (.slice A (m + 2) c) L]) := ((hS0.sel [1, 1, 1, 0]).fold2 (fr_close t)).sel [1, 0, 0]
  clear hS0 hL
  obtain ⟨g, rfl, hgl, hcell⟩ := (hS.rowAt 2 rfl).cell encF_len m b hLb
  clear hcell
  rw [← hm] at hr
  clear hm
  obtain ⟨K, hK⟩ : ∃ K, K = m + 1 := ⟨_, rfl⟩
  obtain ⟨N, hN⟩ : ∃ N, N = m + 2 := ⟨_, rfl⟩
  rw [← hK] at hLt hLu
  rw [← hN] at hS hc hn hLl ⊢
  have s0 : IntKind.i64.wrap ((N : Int) - 1) = (K : Int) := by rw [IntKind.wrap_i64]; omega
  have s1 : IntKind.i64.wrap ((K : Int) - 1) = (m : Int) := by rw [IntKind.wrap_i64]; omega
  have n0 : (K : Int) < (N : Int) := by omega
  have n1 : (m : Int) < (N : Int) := by omega
  have n2 : K < N := by omega
  have n3 : m < N := by omega
  have n4 : K ≤ N := by omega
  have n5 : K ≤ c := by omega
  have HB := As.mk (⟨hr, hk⟩ : _ ∧ _)
  clear hK hN hr hk
  go_enter Try.func21, Try.ntmps21
  go_upto_region 2 with fail
  go_cut [8] (fun v8 wc => (v8 = .bool true ∨ v8 = .bool false) ∧ At F w wc (Hp.seps [hki b, hkm k27 t.x (nodC t), Hp.row 48 11 encF (.slice (some ⟨g, 0, none⟩) N c) L]))
  case first =>
    go_region_with (fail)
    all_goals (go_wp2_with fail)
    all_goals (go_meet)
    all_goals (first | exact ⟨.inl rfl, hS.below (by repeat (first | exact Below.refl _ _ | refine bl_drewN ?_ _ | refine Below.drew ?_ | refine bl_alloc ?_ _ | refine bl_set ?_ (by first | (simp; done) | omega | (simp; omega)) _))⟩ | exact ⟨.inr rfl, hS.below (by repeat (first | exact Below.refl _ _ | refine bl_drewN ?_ _ | refine Below.drew ?_ | refine bl_alloc ?_ _ | refine bl_set ?_ (by first | (simp; done) | omega | (simp; omega)) _))⟩)
  case rest =>
    clear hS
    obtain ⟨h8, hS⟩ := hcut
    clear hgl
    obtain ⟨hgl, b9, bf, t1, t2, t3, t4, t5, t6, t7, t8, t9, t10⟩ := raw_at 2 hS rfl hLb hLt
    rcases h8 with rfl | rfl
    · go_upto_region 3 with fail
      go_cut [23, 24, 26] (fun v23 v24 v26 wz => v23 = .agg #[.int .i64 t.x.f0, .int .i64 t.x.f1, .int .i64 t.x.f2, .string t.x.f3, .int .i64 t.x.f4.f0, .int .i64 t.x.f4.f1, .string t.x.f4.f2, .slice t.A t.x.f4.f3.length t.c, .slice t.B t.x.f5.length t.d, .slice t.C t.x.f6.length t.q] ∧ v24 = .int .i64 b.x.f5.length ∧ ∃ g' d', v26 = .slice (some ⟨g', 0, none⟩) (b.x.f5.length + 1) d' ∧ At F w wz (Hp.seps [hkd k27 27 (.slice (some ⟨g', 0, none⟩) (b.x.f5.length + 1) d') (b.x.f5 ++ [zN]), hkm k27 t.x (nodC t), Hp.row 48 11 encF (.slice (some ⟨g, 0, none⟩) N c) (L.set m (upd b (some ⟨g', 0, none⟩) d' t.x))]))
      case first =>
        have hSz : At F w wc.drew (Hp.seps [hkd k27 27 (.slice b.B b.x.f5.length b.d) b.x.f5, Hp.emp, hkm k27 t.x (nodC t), Hp.row 48 11 encF (.slice (some ⟨g, 0, none⟩) N c) L]) := At.withEmp hS.drew
        go_region_law (refine At.kd_append_step (d := k27) (e := 27) (xs := b.x.f5) (p := zN) (cs := [.int .i64 0, .int .i64 0, .int .i64 0, .string ⟨#[]⟩, .int .i64 0, .int .i64 0, .string ⟨#[]⟩, .slice none 0 0, .slice none 0 0, .slice none 0 0]) hSz (fun F _ => zN_M _ F) rfl (.tmp 18) (.tmp 25) 25 (.agg #[.int .i64 0, .int .i64 0, .int .i64 0, .string ⟨#[]⟩, .int .i64 0, .int .i64 0, .string ⟨#[]⟩, .slice none 0 0, .slice none 0 0, .slice none 0 0]) 144 rfl Try.underlying25 info27 rfl (by decide) (by decide) (by simp [Act.eval, Act.put]) (by simp [Act.eval, Act.put]) ?_ ?_; (have := HB.out.2; omega); intro v1 w2 hA; obtain ⟨FR, hR⟩ := At.kd_at 0 hA rfl; obtain ⟨g2, d2, rfl, _⟩ := Kd.R_form hR (by simp); clear hR; rw [show (b.x.f5 ++ [zN]).length = b.x.f5.length + 1 by simp] at hA; obtain ⟨hgl, b9, bf, t1, t2, t3, t4, t5, t6, t7, t8, t9, t10⟩ := raw_at 2 hA rfl hLb hLt)
        all_goals (go_wp2_with fail)
        all_goals (go_meet)
        all_goals (exact ⟨rfl, rfl, g2, d2, rfl, hA.setAt 2 rfl encF_len m 9 b (upd b (some ⟨g2, 0, none⟩) d2 t.x) (.slice (some ⟨g2, 0, none⟩) (b.x.f5.length + 1) d2) hLb (by omega) (by simp [encF, upd])⟩)
      case rest =>
        obtain ⟨rfl, rfl, g', d', rfl, hS2⟩ := hcut
        clear hS hgl b9 bf t1 t2 t3 t4 t5 t6 t7 t8 t9 t10
        have hS3 := At.kd_seg (p := t.x) (cs := nodC t) (z := zN) hS2 (fun F h => h.1) rfl
        have hla := last_at hS2 rfl
        obtain ⟨⟨u0, k0⟩, f0⟩ := hla 0 (by omega)
        obtain ⟨⟨u1, k1⟩, f1⟩ := hla 1 (by omega)
        obtain ⟨⟨u2, k2⟩, f2⟩ := hla 2 (by omega)
        obtain ⟨⟨u3, k3⟩, f3⟩ := hla 3 (by omega)
        obtain ⟨⟨u4, k4⟩, f4⟩ := hla 4 (by omega)
        obtain ⟨⟨u5, k5⟩, f5⟩ := hla 5 (by omega)
        obtain ⟨⟨u6, k6⟩, f6⟩ := hla 6 (by omega)
        obtain ⟨⟨u7, k7⟩, f7⟩ := hla 7 (by omega)
        obtain ⟨⟨u8, k8⟩, f8⟩ := hla 8 (by omega)
        obtain ⟨⟨u9, k9⟩, f9⟩ := hla 9 (by omega)
        simp only [Nat.add_zero] at k0 f0
        clear hla hS2
        have hS4 := hS3.takeAt 1 K rfl encF_len (by rw [List.length_set]; omega)
        rw [hLu.out] at hS4
        go_wp2_with fail
        go_ret
        refine At.post (hS4.sel [1, 0]) ⟨_, some ⟨g', 0, none⟩, d', rfl, ?_⟩
        have hx : (upd b (some ⟨g', 0, none⟩) d' t.x).x.f5.length = b.x.f5.length + 1 := by simp [upd]
        unfold hki
        rw [hx]
        rfl
    · go_upto_region 5 with fail
      go_cut [] (fun wz => ∃ g' d', At F w wz (Hp.seps [hkd k27 27 (.slice (some ⟨g', 0, none⟩) (b.x.f5.length + 1) d') (b.x.f5 ++ [t.x]), Hp.row 48 11 encF (.slice (some ⟨g, 0, none⟩) N c) (L.set m (upd b (some ⟨g', 0, none⟩) d' t.x))]))
      case first =>
        have hSz : At F w wc.drew (Hp.seps [hkd k27 27 (.slice b.B b.x.f5.length b.d) b.x.f5, hkm k27 t.x (nodC t), Hp.row 48 11 encF (.slice (some ⟨g, 0, none⟩) N c) L]) := hS.drew
        go_region_law (refine At.kd_append_step (d := k27) (e := 27) (xs := b.x.f5) (p := t.x) (cs := [.int .i64 t.x.f0, .int .i64 t.x.f1, .int .i64 t.x.f2, .string t.x.f3, .int .i64 t.x.f4.f0, .int .i64 t.x.f4.f1, .string t.x.f4.f2, .slice t.A t.x.f4.f3.length t.c, .slice t.B t.x.f5.length t.d, .slice t.C t.x.f6.length t.q]) hSz (fun F h => h.1) rfl (.tmp 40) (.tmp 46) 25 (.agg #[.int .i64 0, .int .i64 0, .int .i64 0, .string ⟨#[]⟩, .int .i64 0, .int .i64 0, .string ⟨#[]⟩, .slice none 0 0, .slice none 0 0, .slice none 0 0]) 144 rfl Try.underlying25 info27 rfl (by decide) (by decide) (by simp [Act.eval, Act.put]) (by simp [Act.eval, Act.put]) ?_ ?_; (have := HB.out.2; omega); intro v1 w2 hA; obtain ⟨FR, hR⟩ := At.kd_at 0 hA rfl; obtain ⟨g2, d2, rfl, _⟩ := Kd.R_form hR (by simp); clear hR; rw [show (b.x.f5 ++ [t.x]).length = b.x.f5.length + 1 by simp] at hA; obtain ⟨hgl, b9, bf, t1, t2, t3, t4, t5, t6, t7, t8, t9, t10⟩ := raw_at 1 hA rfl hLb hLt)
        all_goals (go_wp2_with fail)
        all_goals (go_meet)
        all_goals (exact ⟨g2, d2, hA.setAt 1 rfl encF_len m 9 b (upd b (some ⟨g2, 0, none⟩) d2 t.x) (.slice (some ⟨g2, 0, none⟩) (b.x.f5.length + 1) d2) hLb (by omega) (by simp [encF, upd])⟩)
      case rest =>
        obtain ⟨g', d', hS2⟩ := hcut
        clear hS hgl b9 bf t1 t2 t3 t4 t5 t6 t7 t8 t9 t10
        have hS3 := hS2.takeAt 1 K rfl encF_len (by rw [List.length_set]; omega)
        rw [hLu.out] at hS3
        go_wp2_with fail
        go_ret
        refine At.post (hS3.sel [1, 0]) ⟨_, some ⟨g', 0, none⟩, d', rfl, ?_⟩
        have hx : (upd b (some ⟨g', 0, none⟩) d' t.x).x.f5.length = b.x.f5.length + 1 := by simp [upd]
        unfold hki
        rw [hx]
        rfl
end Go.Proofs.Ytfgpdpccfpilaaa.OpenFlatOrder
