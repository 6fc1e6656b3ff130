/- A table: New. -/
import Derived.Test.YtkebkmbfglodlaaDoorTz
import Derived.Deep.OwnRows
set_option linter.unusedVariables false
set_option maxRecDepth 100000
namespace Go.Proofs.YtkebkmbfglodlaaDoor
open Go.RowKit
open Go.Maps (Keyed)
theorem rw_rep {α : Type} (w : World) (e : TypeId) (z : Value) (n : Nat) (enc : α → List Value) (x : α) (hx : enc x = [z]) (hn : n ≤ maxLen) :
    Rw (w.alloc (.cells (madeCells #[z] n) e)) e 1 enc (.slice (some ⟨w.heap.size, 0, none⟩) n n) (List.replicate n x) := by
  have e1 : (List.replicate n x).flatMap enc = List.replicate n z := by
    induction n with
    | zero => rfl
    | succ n ih => rw [List.replicate_succ, List.flatMap_cons, ih (by omega), hx]; rfl
  refine ⟨by rw [e1]; simp, .inr ⟨w.heap.size, n, _, by simp, Nat.zero_le _, heap_alloc_new w _, by simp, hn, by simp [madeCells], ?_⟩⟩
  rw [e1, List.length_replicate]
  apply List.ext_getElem?
  intro i
  simp only [madeCells]
  by_cases hi : i < n
  · rw [List.getElem?_take, if_pos (by omega)]
    simp [hi, Nat.mod_one]
  · rw [List.getElem?_eq_none (by simp; omega), List.getElem?_eq_none (by simp; omega)]
theorem Tryd.infoS : (Tryd.prog.info? 63).map (fun i => (i.zero, i.size, i.bytes)) = some (some (.slice none 0 0), 1, 24) := by kernel_rfl
theorem ixF_nil : ixF [] = fun _ => none := rfl
theorem replicate_fst (n : Nat) : (List.replicate n ((.slice none 0 0, []) : Value × List Int)).map (·.1) = List.replicate n (.slice none 0 0) := by simp
set_option maxHeartbeats 12800000 in
theorem new_does (w : World) (hT : GTab w) (m : Nat) (hm : m < 65536) : Calls Tryd.prog 59 #[.int .u16 (m : Nat)] w fun e w' => ∃ p, e = .returned (.pointer (some ⟨p, 0, none⟩)) ∧ At (fun _ => False) w w' (Hp.seps [isTb p (bitsN m) []]) := by
  have hS0 := (At.start0 (Below.refl w.heap.size w)).mpNew Tryd.prog 31 encK encN
  obtain ⟨b, hb⟩ : ∃ b, b = w.heap.size := ⟨_, rfl⟩
  obtain ⟨W0, hW0⟩ : ∃ W0, W0 = w.alloc (.map #[] 0) := ⟨_, rfl⟩
  rw [← hb, ← hW0] at hS0
  have hS1 := (hS0.nilRow 3 1 encI).alloc #[.slice none 0 0, .slice none 0 0, .slice none 0 0, .map (some b)] 126
  obtain ⟨p, hp⟩ : ∃ p, p = W0.heap.size := ⟨_, rfl⟩
  obtain ⟨W1, hW1⟩ : ∃ W1, W1 = W0.alloc (.cells #[.slice none 0 0, .slice none 0 0, .slice none 0 0, .map (some b)] 126) := ⟨_, rfl⟩
  rw [← hp, ← hW1] at hS1
  have HE : As (w.alloc (.map #[] 0) = W0 ∧ w.heap.size = b ∧ b + 1 = p ∧ W0.alloc (.cells #[.slice none 0 0, .slice none 0 0, .slice none 0 0, .map (some b)] 126) = W1) := ⟨hW0.symm, hb.symm, by rw [hp, hW0, hb]; simp, hW1.symm⟩
  have HT := As.mk hT
  have hmk := fun w => run_makeMap (P := Tryd.prog) 124 w
  have HB : As (([] : List Int) ++ bitsN m = bitsN m) := ⟨rfl⟩
  clear hb hW0 hp hW1 hS0 hT
  go_enter Tryd.func59, Tryd.ntmps59
  go_wp2_with fail
  rw [HE.out.2.1, HE.out.1, HE.out.2.2.1, HE.out.2.2.2]
  clear hmk HE
  go_loopg [4] m (fun g0 mv wr => ∃ (xs : List Int) (vc : Value), g0 ≤ m ∧ mv = .int .u16 (g0 : Nat) ∧ As (xs ++ bitsN g0 = bitsN m) ∧ At (fun _ => False) w wr (Hp.seps [Hp.blk p #[vc, .slice none 0 0, .slice none 0 0, .map (some b)] 126, Hp.row 3 1 encI vc xs, Hp.mp Tryd.prog 31 b 0 encK encN (fun _ => none)]))
  case atStart => exact ⟨[], .slice none 0 0, Nat.le_refl _, rfl, HB, hS1⟩
  case round =>
    clear hS1 HB
    obtain ⟨xs, vc, hg, rfl, HB, hS⟩ := hrel
    obtain ⟨Ac, nc, cc, rfl⟩ := (hS.rowAt 1 rfl).slice
    obtain ⟨g, hgg⟩ : ∃ g : Nat, g = gk := ⟨_, rfl⟩
    have hlen := bitsN_len m
    rw [← HB.out, List.length_append] at hlen
    have HLn : As (xs.length ≤ 16) := ⟨by omega⟩
    have HGk := As.mk hgg
    rw [← hgg] at HB hg ⊢
    have HTW := As.mk (HT.out.below hS.bl)
    by_cases h0 : g = 0
    · have HB2 : As (xs = bitsN m) := ⟨by rw [← HB.out, h0, bitsN_zero, List.append_nil]⟩
      subst h0
      obtain rfl := HB2.out
      clear hgg HB hlen HB2
      have hnl : nc = (bitsN m).length := by obtain ⟨A', c', h1, _, _⟩ := (hS.rowAt 1 rfl).shape; injection h1
      subst hnl
      obtain ⟨N, hN⟩ : ∃ N, N = (bitsN m).length := ⟨_, rfl⟩
      have hN16 := HLn.out
      rw [← hN] at hS hN16
      have hmk2 := run_make_row' (P := Tryd.prog) 123 63 (.slice none 0 0) 24 Tryd.underlying123 Tryd.infoS rfl .i64 .i64 N (by omega) (by omega)
      have hS2 := hS.newRow (w1 := wr.alloc (.cells (madeCells #[.slice none 0 0] N) 63)) (by repeat (first | exact Below.refl _ _ | refine bl_drewN ?_ _ | refine Below.drew ?_ | refine bl_alloc ?_ _ | refine bl_set ?_ (by first | (simp; done) | omega | (simp; omega)) _)) (rw_rep wr 63 (.slice none 0 0) N encV (.slice none 0 0) rfl (by simp only [maxLen]; omega)) (by simp [Value.ownBlock])
      obtain ⟨gd, hgd⟩ : ∃ gd, gd = wr.heap.size := ⟨_, rfl⟩
      obtain ⟨W2, hW2⟩ : ∃ W2, W2 = wr.alloc (.cells (madeCells #[.slice none 0 0] N) 63) := ⟨_, rfl⟩
      rw [← hgd, ← hW2] at hS2
      have HW2 := As.mk hW2
      have HGd := As.mk hgd
      have HNb := As.mk hN
      have p0 := (hS.cellAt 0 rfl 0).trans rfl
      have p1 := (hS.cellAt 0 rfl 1).trans rfl
      have p2 := (hS.cellAt 0 rfl 2).trans rfl
      have p3 := (hS.cellAt 0 rfl 3).trans rfl
      have pf1 := hS.frozenAt 0 rfl 1
      have plt := hS.ltAt 0 rfl
      have hS3 := ((hS2.setBlkAt 1 rfl 1 (.slice (some ⟨gd, 0, none⟩) N N)).rowsNil 3 1 encI N).nilRow 31 2 encId
      have HS3 := As.mk (hS3.sel [3, 3, 2, 1, 0, 0])
      clear hW2 hgd hN hS2 hS hS3
      go_wp2_with fail
      rw [← World.setCell_alloc_past (w := wr) (.cells (madeCells #[.slice none 0 0] N) 63) p 1 _ plt, ← HW2.out, ← HGd.out]
      go_ret
      refine ⟨p, rfl, tb_closeV (vc := .slice Ac N cc) (vk := .slice (some ⟨gd, 0, none⟩) N N) (vi := .slice none 0 0) (b := b) (n := 0) (L := List.replicate N (.slice none 0 0, [])) (HS3.out.as _ ?_) ?_⟩
      · unfold tbV
        rw [replicate_fst]
        rfl
      · apply List.ext_getElem?
        intro j
        simp only [List.getElem?_map, List.getElem?_replicate]
        by_cases hj : j < N
        · rw [if_pos hj, List.getElem?_eq_getElem (by rw [← HNb.out]; exact hj)]
          rfl
        · rw [if_neg hj, List.getElem?_eq_none (by rw [← HNb.out]; omega)]
          rfl
    · have t0 : ((g : Int) != 0) = true := by simp; omega
      have t1 : ((g : Int) == 0) = false := by simp; omega
      have HTZ := As.mk (fun W (hW : GTab W) => tz_does W hW g (by omega) h0)
      have HB2 : As ((xs ++ [(tzN g : Int)]) ++ bitsN (rest g) = bitsN m) := ⟨by rw [← HB.out, bitsN_step g (by omega) h0]; simp⟩
      have hrl := rest_lt g h0
      obtain ⟨d, hd⟩ : ∃ d : Nat, d = g - 1 := ⟨_, rfl⟩
      obtain ⟨rs, hrs⟩ : ∃ rs : Nat, rs = rest g := ⟨_, rfl⟩
      obtain ⟨tz, htz⟩ : ∃ tz : Nat, tz = tzN g := ⟨_, rfl⟩
      have e1 : IntKind.u16.wrap ((g : Int) - 1) = (d : Int) := by rw [u16_pred g (by omega) h0, hd]
      have e2 : bits .and .u16 (g : Int) (d : Int) = (rs : Int) := by rw [u16_and_nat g d (by omega) (by omega), hrs, hd]; rfl
      rw [← htz] at HTZ HB2
      rw [← hrs] at HB2 hrl
      have HRl : As (rs < gk ∧ rs ≤ m) := ⟨by omega⟩
      clear hd hrs htz h0 hgg hrl hlen HB
      have p0 := (hS.cellAt 0 rfl 0).trans rfl
      have p1 := (hS.cellAt 0 rfl 1).trans rfl
      have p2 := (hS.cellAt 0 rfl 2).trans rfl
      have p3 := (hS.cellAt 0 rfl 3).trans rfl
      have plt := hS.ltAt 0 rfl
      go_wp2_with fail
      go_region_law (first | (refine rw_append_step rfl (.tmp 19) (.tmp 22) 63 3 1 encI (.int .i64 0) 8 rfl Tryd.underlying63 Tryd.infoI rfl (by decide) (.slice Ac nc cc) xs (tz : Int) rfl _ rfl (by first | exact blk_new (by simp) | exact blk_new_drew (by simp) | exact (blk_new_drewN (by simp))) ((hS.below (by repeat (first | exact Below.refl _ _ | refine bl_drewN ?_ _ | refine Below.drew ?_ | refine bl_alloc ?_ _ | refine bl_set ?_ (by first | (simp; done) | omega | (simp; omega)) _))).rowAt 1 rfl) encI_len (one_i _) ?_ ?_ ?_; (have := HLn.out; simp only [maxLen]; omega); (have := HLn.out; omega); intro v1 w2 hA; obtain ⟨A2, n2, c2, rfl⟩ := hA.row.slice; have hS3 := At.appendAt 1 hA hS rfl (by repeat (first | exact Below.refl _ _ | refine bl_drewN ?_ _ | refine Below.drew ?_ | refine bl_alloc ?_ _ | refine bl_set ?_ (by first | (simp; done) | omega | (simp; omega)) _)); clear hA; have z0 := (hS3.cellAt 0 rfl 0).trans rfl; have zf := hS3.frozenAt 0 rfl 0; have zlt := hS3.ltAt 0 rfl) | (refine rw_call_step rfl 71 #[.int .u16 (g : Nat)] (by go_simp) (HTZ.out _ (HTW.out.below (by repeat (first | exact Below.refl _ _ | refine bl_drewN ?_ _ | refine Below.drew ?_ | refine bl_alloc ?_ _ | refine bl_set ?_ (by first | (simp; done) | omega | (simp; omega)) _)))) ?_; rintro w9 rfl))
      all_goals
        have hS4 := hS3.setBlkAt 0 rfl 0 (.slice A2 n2 c2)
        clear hS hS3 z0 zf zlt p0 p1 p2 p3 plt
        go_wp2_with fail
        go_roundg rs
        case measure => exact HRl.out.1
        case rel => exact ⟨_, _, HRl.out.2, rfl, HB2, hS4⟩
end Go.Proofs.YtkebkmbfglodlaaDoor
