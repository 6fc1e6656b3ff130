/- alive: true. -/
import Derived.Test.YtfgpdpccfpilaaaNodeFlatOrder
import Derived.Test.YtfgpdpccfpilaaaMakeFlatOrder
set_option linter.unusedVariables false
namespace Go.Proofs.Ytfgpdpccfpilaaa.OpenFlatOrder
open Go.RowKit Go.Deep
open Go.Proofs.YtfgpdpccfpilaaaW.PrintWords Go.Proofs.YtfgpdpccfpilaaaW.PrintLast Go.Proofs.YtfgpdpccfpilaaaW.PrintMore Go.Proofs.Ytfgpdpccfpilaaa.PFlatOrder
def okN : S27 := ⟨13, 0, 0, ⟨#[]⟩, ⟨0, 0, ⟨#[]⟩, []⟩, [], []⟩
theorem lay_ok : lay okN (-1) [] = [⟨13, 0, 0, 1, -1, ⟨#[]⟩, ⟨0, 0, ⟨#[]⟩, []⟩, []⟩] := by
  simp [okN, lay, lays, endAt, rowOf]
theorem C_nil' {α : Type} (d : Kd α) (w : World) : d.C w none 0 [] := ⟨rfl, by simp, fun h => absurd h (by simp)⟩
set_option maxRecDepth 100000 in
set_option maxHeartbeats 6400000 in
theorem alive_does (w : World) : Calls Try.prog 7 #[] w fun e w' => e = .returned (.bool true) ∧ Below w.heap.size w w' := by
  have hM := make_does w okN none 0 none 0 none 0 (by simp [okN, szN, szNs, szEs, szE, ByteArray.size]) ⟨Nat.le_refl _, C_nil' _ _, Nat.le_refl _, C_nil' _ _, Nat.le_refl _, C_nil' _ _⟩
  rw [lay_ok] at hM
  unfold nodeV okN at hM
  simp only [List.length_nil, List.length_cons] at hM
  have HM := As.mk hM
  clear hM
  go_enter Try.func7, Try.ntmps7
  go_wp2_with fail
  refine HM.out.mono ?_
  rintro e w1 ⟨A, c, rfl, hR, hb⟩
  have HB := As.mk hb
  obtain ⟨hn1, hn2, hC⟩ := Kd.R_reads' hR
  have HBk := As.mk (back_one node_all w1 A c 13 0 0 ⟨#[]⟩ ⟨0, 0, ⟨#[]⟩, []⟩ [] (by simp [szEs, szE, ByteArray.size]) (by simp [szEs]) (by simpa using hn2) hC)
  obtain ⟨b, off, cs, rfl, hbl, hcl, hK, hcell⟩ := C_lit hC (by decide) _ rfl (k := 0)
  obtain ⟨A9, c9, A10, c10, rfl, _, _, _, _⟩ := k39_open hK
  have u3 := hcell 3 _ rfl
  have u4 := hcell 4 _ rfl
  simp only [Nat.zero_mul] at u3 u4
  simp only [List.length_nil] at HBk
  have HU := As.mk (⟨u3, u4⟩ : _ ∧ _)
  clear hb hR hn1 hn2 hC hcl hK hcell u3 u4
  go_wp2_with fail
  refine HBk.out.mono ?_
  rintro e w2 ⟨⟨A', c', B', d', rfl⟩, hb⟩
  have HB2 := As.mk (HB.out.trans (Below.mono hb HB.out.size))
  have v3 := (hb.cell (p := ⟨b, off + 3, none⟩) hbl).trans HU.out.1
  have v4 := (hb.cell (p := ⟨b, off + 4, none⟩) hbl).trans HU.out.2
  have hbl2 : b < w2.heap.size := Nat.lt_of_lt_of_le hbl hb.size
  clear hb
  go_wp2_with fail
  go_ret
  exact ⟨rfl, HB2.out.alloc HB2.out.size _⟩
end Go.Proofs.Ytfgpdpccfpilaaa.OpenFlatOrder
