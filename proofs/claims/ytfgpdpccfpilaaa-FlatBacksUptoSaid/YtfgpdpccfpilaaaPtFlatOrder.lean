/- FlatParts: the law's walk. -/
import Derived.Test.YtfgpdpccfpilaaaMkFlatOrder
set_option linter.unusedVariables false
set_option linter.unusedSimpArgs false
namespace Go.Proofs.Ytfgpdpccfpilaaa.OpenFlatOrder
open Go.RowKit Go.Deep
open Go.Proofs.YtfgpdpccfpilaaaW.PrintWords Go.Proofs.YtfgpdpccfpilaaaW.PrintLast Go.Proofs.YtfgpdpccfpilaaaW.PrintMore Go.Proofs.Ytfgpdpccfpilaaa.PFlatOrder
instance : Inhabited Fw := ⟨⟨⟨0, 0, 0, 0, 0, ⟨#[]⟩, ⟨0, 0, ⟨#[]⟩, []⟩, []⟩, none, 0, none, 0⟩⟩
theorem raw_of_C {w : World} {A : Option Addr} {c : Nat} {L : List S39} (h : k39.C w A L.length L) (hc : L.length ≤ c) : ∃ rs : List Fw, rs.map (·.y) = L ∧ (∀ o ∈ rs, GoodW w o) ∧ Rd w 11 encW (.slice A L.length c) rs := by
  by_cases h0 : L.length = 0
  · obtain rfl : L = [] := List.length_eq_zero_iff.1 h0
    exact ⟨[], rfl, fun o ho => by simp at ho, ⟨⟨A, c, rfl, hc, by simp⟩, fun A n c _ i x hx => by simp at hx⟩⟩
  · obtain ⟨b, off, _, rfl, hbl, _⟩ := C_lit h (by decide) L[0] (List.getElem?_eq_getElem (by omega))
    have key : ∀ i, i < L.length → ∃ o : Fw, L[i]? = some o.y ∧ GoodW w o ∧ ∀ j, j < 11 → w.cell? ⟨b, off + i * 11 + j, none⟩ = (encW o)[j]? := by
      intro i hi
      obtain ⟨b', off', cs, e, _, hcl, hK, hcell⟩ := C_lit h (by decide) L[i] (List.getElem?_eq_getElem hi)
      injection e with e; injection e with e1 e2; subst e1; subst e2
      obtain ⟨A9, c9, A10, c10, rfl, l9, g9, l10, g10⟩ := k39_open hK
      refine ⟨⟨L[i], A9, c9, A10, c10⟩, List.getElem?_eq_getElem hi, ⟨l9, g9, l10, g10⟩, fun j hj => ?_⟩
      have hlt : j < (encW ⟨L[i], A9, c9, A10, c10⟩).length := hj
      rw [List.getElem?_eq_getElem hlt]
      exact hcell j _ (List.getElem?_eq_getElem hlt)
    obtain ⟨f, hf⟩ := choose_lt key
    have hlen : ((List.range L.length).map f).length = L.length := by simp
    have hget : ∀ i x, ((List.range L.length).map f)[i]? = some x → i < L.length ∧ x = f i := by
      intro i x hx
      have hi : i < L.length := by have := (List.getElem?_eq_some_iff.1 hx).1; omega
      rw [List.getElem?_map, List.getElem?_range hi] at hx
      exact ⟨hi, (Option.some.inj hx).symm⟩
    refine ⟨(List.range L.length).map f, ?_, fun o ho => ?_, ⟨⟨some ⟨b, off, none⟩, c, by rw [hlen], by rw [hlen]; exact hc, by rw [hlen]; exact h.2.1⟩, fun A n c hv i x hx => ?_⟩⟩
    · apply List.ext_getElem?
      intro i
      rw [List.getElem?_map, List.getElem?_map]
      by_cases hi : i < L.length
      · rw [List.getElem?_range hi]
        exact ((hf i hi).1).symm
      · rw [List.getElem?_eq_none (by simp; omega), List.getElem?_eq_none (by omega)]; rfl
    · obtain ⟨i, hi⟩ := List.getElem?_of_mem ho
      obtain ⟨h1, rfl⟩ := hget i o hi
      exact (hf i h1).2.1
    · injection hv with hA _ _
      obtain ⟨h1, rfl⟩ := hget i x hx
      exact ⟨b, off, hA.symm, hbl, (hf i h1).2.2⟩
mutual
theorem fl_bd : ∀ (x : S27) (p : Int) (b : Nat) (y : S39), y ∈ fl x p b → (y.f4 = p ∨ ((b : Int) ≤ y.f4 ∧ y.f4 < ((b + cntN x : Nat) : Int))) ∧ (b : Int) < y.f3 ∧ y.f3 ≤ ((b + cntN x : Nat) : Int)
  | ⟨a0, a1, a2, s3, e, kids, ws⟩, p, b, y, h => by
    rw [fl, List.mem_cons] at h
    rw [cntN]
    rcases h with rfl | h
    · simp only
      exact ⟨.inl (by simp), by omega, by omega⟩
    · obtain ⟨h1, h2, h3⟩ := fls_bd kids b (b + 1) y h
      refine ⟨.inr ?_, by omega, by omega⟩
      rcases h1 with h1 | h1
      · rw [h1]; omega
      · omega
theorem fls_bd : ∀ (xs : List S27) (p b : Nat) (y : S39), y ∈ fls xs p b → (y.f4 = (p : Int) ∨ ((b : Int) ≤ y.f4 ∧ y.f4 < ((b + cntNs xs : Nat) : Int))) ∧ (b : Int) < y.f3 ∧ y.f3 ≤ ((b + cntNs xs : Nat) : Int)
  | [], p, b, y, h => by rw [fls] at h; simp at h
  | x :: xs, p, b, y, h => by
    rw [fls, List.mem_append] at h
    rw [cntNs]
    rcases h with h | h
    · obtain ⟨h1, h2, h3⟩ := fl_bd x (p : Int) b y h
      refine ⟨?_, by omega, by omega⟩
      rcases h1 with h1 | h1
      · exact .inl h1
      · exact .inr (by omega)
    · obtain ⟨h1, h2, h3⟩ := fls_bd xs p _ y h
      refine ⟨?_, by omega, by omega⟩
      rcases h1 with h1 | h1
      · exact .inl h1
      · exact .inr (by omega)
end
def eW (o : Fw) (e : Int) : Fw := { o with y := { o.y with f3 := e } }
def pW (o : Fw) (e : Int) : Fw := { o with y := { o.y with f4 := e } }
def shW (d : Int) (o : Fw) : Fw := { o with y := shf d o.y }
def rtW : List Fw → List Fw
  | [] => []
  | o :: r => pW o (-1) :: r
theorem rtW_map (r : List Fw) : (rtW r).map (·.y) = rooted (r.map (·.y)) := by cases r <;> rfl
/-- The first k are shifted. -/
def upK (d : Int) (rs : List Fw) (k : Nat) : List Fw := (rs.take k).map (shW d) ++ rs.drop k
theorem upK_at (d : Int) (rs : List Fw) (k : Nat) (o : Fw) (h : rs[k]? = some o) : (upK d rs k)[k]? = some o ∧ (upK d rs k).set k (shW d o) = upK d rs (k + 1) := by
  have hk := (List.getElem?_eq_some_iff.1 h).1
  have hl : ((rs.take k).map (shW d)).length = k := by rw [List.length_map, List.length_take]; omega
  unfold upK
  constructor
  · rw [List.getElem?_append_right (by omega), hl, Nat.sub_self, List.getElem?_drop, Nat.add_zero, h]
  · rw [List.set_append_right _ _ (by omega), hl, Nat.sub_self, List.drop_eq_getElem_cons hk, (List.getElem?_eq_some_iff.1 h).2, List.set_cons_zero, List.take_succ_eq_append_getElem hk, List.map_append, (List.getElem?_eq_some_iff.1 h).2, List.append_assoc]
    rfl
theorem upK_len (d : Int) (rs : List Fw) (k : Nat) : (upK d rs k).length = rs.length := by
  unfold upK
  rw [List.length_append, List.length_map, List.length_take, List.length_drop]
  omega
theorem part_values (x y : S27) (q : Int) (j : Nat) (L : List S39) (rs : List Fw) (hL : L = fl x (-1) 0) (hrs : rs.map (·.y) = L) (hp : (L.drop j).take (cntN y) = fl y q j) :
    (rtW (((rs.drop j).take (cntN y)).map (shW j))).map (·.y) = fl y (-1) 0 := by
  have h1 : ((rs.drop j).take (cntN y)).map (·.y) = fl y q j := by rw [List.map_take, List.map_drop, hrs, hp]
  rw [rtW_map, List.map_map, show (fun o : Fw => o.y) ∘ shW (j : Int) = shf j ∘ (fun o : Fw => o.y) from rfl, ← List.map_map, h1]
  have h2 := shf_fl y q 0 j
  rw [Nat.zero_add] at h2
  rw [h2]
  exact rooted_fl y _ 0
set_option maxRecDepth 100000 in
set_option maxHeartbeats 25600000 in
theorem parts_walk (v : Value) (x : S27) (a1 : Int) (w : World) (h : ∃ cs, v = .agg cs ∧ k27.K w x cs.toList ∧ szN x ≤ 1048576) : Calls Try.prog 4 #[v, .int .i64 a1] w fun e w' => e = .returned (.bool true) ∧ Below w.heap.size w w' := by
  obtain ⟨cs, rfl, hK, hs⟩ := h
  obtain ⟨A7, c7, A8, c8, A9, c9, he, l7, g7, l8, g8, l9, g9⟩ := k27_open hK
  obtain ⟨csl⟩ := cs
  simp only at he
  subst he
  have hN : NodeIn w x A7 c7 A8 c8 A9 c9 := ⟨l7, g7, l8, g8, l9, g9⟩
  obtain ⟨W, hW⟩ : ∃ W, W = w.alloc (.cells #[.int .i64 x.f0, .int .i64 x.f1, .int .i64 x.f2, .string x.f3, .int .i64 x.f4.f0, .int .i64 x.f4.f1, .string x.f4.f2, .slice A7 x.f4.f3.length c7, .slice A8 x.f5.length c8, .slice A9 x.f6.length c9] 27) := ⟨_, rfl⟩
  obtain ⟨p, hp⟩ : ∃ p, p = w.heap.size := ⟨_, rfl⟩
  have hbW : Below w.heap.size w W := by rw [hW]; exact (Below.refl _ _).alloc (Nat.le_refl _) _
  have hpb : W.heap[p]? = some (.cells #[.int .i64 x.f0, .int .i64 x.f1, .int .i64 x.f2, .string x.f3, .int .i64 x.f4.f0, .int .i64 x.f4.f1, .string x.f4.f2, .slice A7 x.f4.f3.length c7, .slice A8 x.f5.length c8, .slice A9 x.f6.length c9] 27 (0, 0)) := by rw [hW, hp]; exact ((At.start0 (Below.refl w.heap.size w)).alloc _ 27).blkAt 0 rfl
  have hpl := blk_lt hpb
  have HPb := As.mk (fun (V : World) (hb : Below W.heap.size W V) => pcells ((hb.block p hpl).trans hpb))
  have HBW := As.mk hbW
  have HNV := As.mk (fun (V : World) (hb : Below W.heap.size W V) => hN.below (hbW.trans (Below.mono hb hbW.size)))
  have HBig := As.mk (fun (V : World) (hb : Below W.heap.size W V) => big_does x hs A7 c7 A8 c8 A9 c9 V (HNV.out V hb))
  have HCnt := As.mk (fun (V : World) (hb : Below W.heap.size W V) => count_does x hs A7 c7 A8 c8 A9 c9 V (HNV.out V hb))
  have HMk := As.mk (fun (V : World) (hb : Below W.heap.size W V) => make_does V x A7 c7 A8 c8 A9 c9 (by omega) (HNV.out V hb))
  obtain ⟨L, hL⟩ : ∃ L, L = lay x (-1) [] := ⟨_, rfl⟩
  have hll : L.length = cntN x := by rw [hL, lay_len]; simp
  have hLf : L = fl x (-1) 0 := by rw [hL, lay_eq]; rfl
  have HLf := As.mk hLf
  have HSx := As.mk hs
  have HLc0 := As.mk hll
  have hcs := cnt_szN x
  have HLn : As (L.length ≤ 1048576) := ⟨by omega⟩
  rw [← hL] at HMk
  rw [← hll] at HCnt
  obtain ⟨bg, hbg⟩ : ∃ bg, bg = bigN x 0 := ⟨_, rfl⟩
  rw [← hbg] at HBig
  have HW := As.mk (⟨hW.symm, hp.symm⟩ : _ ∧ _)
  unfold nodeV at HBig HCnt HMk
  obtain ⟨p0, p1, p2, p3, p4, p5, p6, p7, p8, p9⟩ := HPb.out W (Below.refl _ _)
  clear hK hs l7 g7 l8 g8 l9 g9 hN hW hp hbW hpb hpl hL hll hcs hbg HNV hLf
  go_enter Try.func4, Try.ntmps4
  go_upto_region 1 with fail
  rw [HW.out.1, HW.out.2]
  clear HW
  go_wp2_with fail
  refine (alive_does _).mono ?_
  rintro e w1 ⟨rfl, hb⟩
  have HB1 := As.mk hb
  clear hb p0 p1 p2 p3 p4 p5 p6 p7 p8 p9
  obtain ⟨p0, p1, p2, p3, p4, p5, p6, p7, p8, p9⟩ := HPb.out w1 HB1.out
  go_wp2_with fail
  refine (HBig.out w1 HB1.out).mono ?_
  rintro e w2 ⟨rfl, hb⟩
  have HB2 := As.mk (HB1.out.trans (Below.mono hb HB1.out.size))
  clear hb p0 p1 p2 p3 p4 p5 p6 p7 p8 p9
  obtain ⟨p0, p1, p2, p3, p4, p5, p6, p7, p8, p9⟩ := HPb.out w2 HB2.out
  cases bg with
  | true =>
    go_wp2_with fail
    go_ret
    exact ⟨rfl, HBW.out.trans (Below.mono HB2.out HBW.out.size)⟩
  | false =>
    go_wp2_with fail
    refine (HCnt.out w2 HB2.out).mono ?_
    rintro e w3 ⟨rfl, hb⟩
    have HB3 := As.mk (HB2.out.trans (Below.mono hb HB2.out.size))
    clear hb p0 p1 p2 p3 p4 p5 p6 p7 p8 p9
    obtain ⟨p0, p1, p2, p3, p4, p5, p6, p7, p8, p9⟩ := HPb.out w3 HB3.out
    by_cases h300 : (300 : Int) < (L.length : Int)
    · go_wp2_with fail
      go_ret
      exact ⟨rfl, HBW.out.trans (Below.mono HB3.out HBW.out.size)⟩
    · by_cases hneg : a1 < 0
      · have d0 : decide (a1 < 0) = true := decide_eq_true hneg
        go_wp2_with fail
        go_ret
        exact ⟨rfl, HBW.out.trans (Below.mono HB3.out HBW.out.size)⟩
      · have d0 : decide (a1 < 0) = false := decide_eq_false hneg
        obtain ⟨k1, rfl⟩ : ∃ k1 : Nat, a1 = (k1 : Int) := ⟨a1.toNat, by omega⟩
        have H300 := As.mk h300
        go_wp2_with fail
        refine (HMk.out w3 HB3.out).mono ?_
        rintro e w4 ⟨A, c, rfl, hR, hb⟩
        have HB4 := As.mk (HBW.out.trans (Below.mono (HB3.out.trans (Below.mono hb HB3.out.size)) HBW.out.size))
        clear hb p0 p1 p2 p3 p4 p5 p6 p7 p8 p9
        obtain ⟨hn1, hn2, hC⟩ := Kd.R_reads' hR
        obtain ⟨rs, hrs, hgs, hrd⟩ := raw_of_C hC hn2
        have hpos : 0 < L.length := by have := HLc0.out; have := cntN_pos x; omega
        obtain ⟨J, hJ⟩ : ∃ J, J = k1 % L.length := ⟨_, rfl⟩
        have hJl : J < L.length := by rw [hJ]; exact Nat.mod_lt _ hpos
        have e0 : ((L.length : Int) == 0) = false := beq_eq_false_iff_ne.2 (by omega)
        clear hR hn1 h300 hneg
        go_upto_region 8 with fail
        go_cut [1] (fun v wc => v = .int .i64 (J : Nat) ∧ wc = w4)
        case first =>
          go_wp2_with fail
          go_meet
          exact ⟨by rw [hJ]; first | rfl | (simp; done), rfl⟩
        case rest =>
          obtain ⟨rfl, hwc⟩ := hcut
          obtain rfl : w4 = _ := hwc.symm
          have hLf := HLf.out
          have hJc : J < cntN x := by have := HLc0.out; omega
          obtain ⟨y, q, hpart, hple, hpsz⟩ := part_fl x (-1) 0 J hJc
          rw [Nat.zero_add, ← hLf] at hpart
          have hcy := cntN_pos y
          have hvals := part_values x y q J L rs hLf hrs hpart
          obtain ⟨o, ho⟩ : ∃ o, rs[J]? = some o := ⟨_, List.getElem?_eq_getElem (by have h := congrArg List.length hrs; rw [List.length_map] at h; omega)⟩
          obtain ⟨e, he⟩ : ∃ e, e = J + cntN y := ⟨_, rfl⟩
          have hof : o.y.f3 = (e : Int) := by
            have h1 : L[J]? = some o.y := by rw [← hrs, List.getElem?_map, ho]; rfl
            have h2 : ((L.drop J).take (cntN y))[0]? = some o.y := by rw [List.getElem?_take_of_lt (by omega), List.getElem?_drop, Nat.add_zero]; exact h1
            rw [hpart] at h2
            obtain ⟨b0, b1, b2, b3, b4, kids, ws⟩ := y
            rw [fl, List.getElem?_cons_zero] at h2
            rw [← Option.some.inj h2, he, cntN]
          obtain ⟨b, off, rfl, hbl, hcell⟩ := hrd.cells _ _ _ rfl J o ho
          have y3 := hcell 3 (by omega)
          simp only [encW, List.getElem?_cons_zero, List.getElem?_cons_succ] at y3
          rw [hof] at y3
          have heL : e ≤ L.length := by have := HLc0.out; omega
          have hJe : J < e := by omega
          have i0 : (J : Int) < (L.length : Int) := by omega
          have i1 : decide ((e : Int) ≤ (J : Int)) = false := decide_eq_false (by omega)
          have i2 : decide ((L.length : Int) < (e : Int)) = false := decide_eq_false (by omega)
          have i3 : (J : Int) ≤ (e : Int) := by omega
          have i4 : (e : Int) ≤ (c : Int) := by omega
          have i5 : ¬ c = J := by omega
          have i6 : e ≤ c := by omega
          have i7 : J ≤ e := by omega
          obtain ⟨PT, hPT⟩ : ∃ PT, PT = (rs.drop J).take (cntN y) := ⟨_, rfl⟩
          rw [← hPT] at hvals
          have hrl : rs.length = L.length := by rw [← hrs, List.length_map]
          have hPTl : PT.length = e - J := by rw [hPT, List.length_take, List.length_drop, hrl]; omega
          have hPTe : (rs.take e).drop J = PT := by rw [hPT, List.drop_take, he, Nat.add_sub_cancel_left]
          have HPR := As.mk (fun (V : World) (hb : Below w4.heap.size w4 V) => by
            have h := ((hrd.take e (by omega)).drop J (by rw [List.length_take]; omega)).below hb
            rw [hPTe] at h
            exact h)
          have HGd : As (∀ o ∈ PT, GoodW w4 o ∧ ((-1 : Int) ≤ o.y.f4 ∧ o.y.f4 ≤ 300) ∧ ((0 : Int) ≤ o.y.f3 ∧ o.y.f3 ≤ 300)) := ⟨fun u hu => by
            have hm : u ∈ rs := List.mem_of_mem_drop (List.mem_of_mem_take (by rw [← hPT]; exact hu))
            have hml : u.y ∈ fl x (-1) 0 := by rw [← hLf, ← hrs]; exact List.mem_map_of_mem hm
            have hbd := fl_bd x (-1) 0 u.y hml
            have hlc := HLc0.out
            have h3 := H300.out
            refine ⟨hgs u hm, ?_, by omega⟩
            rcases hbd.1 with h | h
            · omega
            · omega⟩
          have HV := As.mk hvals
          have HSy : As (szN y ≤ 1048576) := ⟨by have := HSx.out; omega⟩
          have HJn : As (J ≤ 300) := ⟨by have := H300.out; omega⟩
          have HPl := As.mk hPTl
          have HCy : As (e - J = cntN y) := ⟨by omega⟩
          have hNp : 0 < e - J := by omega
          have hS := (At.start0 (Below.refl w4.heap.size w4)).nilRow 39 11 encW
          clear hLf hJc hpart hple hpsz hcy hvals ho hof hcell hrs hgs hrd hC hPT hPTe hrl he HMk HCnt HBig hJ
          go_wp2_with (at_builtin; refine rw_appendL rfl (.const (.slice none 0 0)) (.tmp 63) 31 39 11 encW (.agg #[.int .i64 0, .int .i64 0, .int .i64 0, .int .i64 0, .int .i64 0, .string ⟨#[]⟩, .int .i64 0, .int .i64 0, .string ⟨#[]⟩, .slice none 0 0, .slice none 0 0]) 136 rfl Try.underlying31 infoF rfl (by decide) (.slice none 0 0) (.slice (some ⟨b, off + J * 11, none⟩) (e - J) (c - J)) ([] : List Fw) PT rfl rfl (HPR.out _ (by repeat (first | exact Below.refl _ _ | refine bl_drewN ?_ _ | refine Below.drew ?_ | refine bl_alloc ?_ _ | refine bl_set ?_ (by first | (simp; done) | omega | (simp; omega)) _))) (Rw.nil _ _ _ _) encW_len one_W ?c1 ?c2 ?c3)
          case c1 => have := HPl.out; have := H300.out; simp only [maxLen, List.length_nil]; omega
          case c2 => have := HPl.out; have := H300.out; (try simp only [List.length_nil]); omega
          case c3 =>
            intro v1 w5 hA
            have hS2 := At.appendLAt 0 hA hS rfl (by repeat (first | exact Below.refl _ _ | refine bl_drewN ?_ _ | refine Below.drew ?_ | refine bl_alloc ?_ _ | refine bl_set ?_ (by first | (simp; done) | omega | (simp; omega)) _))
            rw [List.nil_append] at hS2
            clear hA hS
            obtain ⟨N, hN⟩ : ∃ N, N = e - J := ⟨_, rfl⟩
            have HNe := As.mk hN
            have hPN : PT.length = N := by rw [hN]; exact HPl.out
            obtain ⟨A5, c5, rfl, hc5, _⟩ := (hS2.rowAt 0 rfl).shape
            obtain ⟨o0, ho0⟩ : ∃ o0, PT[0]? = some o0 := ⟨_, List.getElem?_eq_getElem (by omega)⟩
            obtain ⟨g, rfl, _, _⟩ := (hS2.rowAt 0 rfl).cell encW_len 0 o0 ho0
            rw [hPN] at hS2 hc5 ⊢
            have HO0 := As.mk ho0
            have HPN := As.mk hPN
            have hS3 : At (fun _ => False) w4 w5 (Hp.seps [Hp.row 39 11 encW (.slice (some ⟨g, 0, none⟩) N c5) (upK J PT 0)]) := by
              have h0 : upK (J : Int) PT 0 = PT := by simp [upK]
              rw [h0]
              exact hS2
            have hJ3 := HJn.out
            have hN3 : N ≤ 300 := by have := H300.out; omega
            have HNy : As (N = cntN y ∧ 0 < N) := ⟨by have := HCy.out; omega⟩
            clear hS2 hN hPN ho0 y3 i0 i1 i2 i3 i4 i5 i6 i7 heL hJe hNp
            go_wp2_with fail
            go_loopg [9] N (fun g0 iv wr => ∃ i : Nat, i + g0 = N ∧ iv = .int .i64 i ∧ At (fun _ => False) w4 wr (Hp.seps [Hp.row 39 11 encW (.slice (some ⟨g, 0, none⟩) N c5) (upK J PT i)]))
            case atStart => exact ⟨0, by omega, rfl, hS3⟩
            case round =>
              clear hS3
              obtain ⟨i, hi, rfl, hS⟩ := hrel
              have HI := As.mk hi
              by_cases hlt : i < N
              · obtain ⟨o, ho⟩ : ∃ o, PT[i]? = some o := ⟨_, List.getElem?_eq_getElem (by rw [HPN.out]; exact hlt)⟩
                obtain ⟨hu1, hu2⟩ := upK_at J PT i o ho
                obtain ⟨_, hb4, hb3⟩ := HGd.out o (List.mem_of_getElem? ho)
                obtain ⟨g', e', _, hcell⟩ := (hS.rowAt 0 rfl).cell encW_len i o hu1
                injection e' with e'; injection e' with e'; subst e'
                have u3 := (hcell 3 (by omega)).1
                have f3 := (hcell 3 (by omega)).2
                have u4 := (hcell 4 (by omega)).1
                have f4 := (hcell 4 (by omega)).2
                simp only [encW, List.getElem?_cons_zero, List.getElem?_cons_succ] at u3 u4
                have s3 : IntKind.i64.wrap (o.y.f3 - (J : Int)) = o.y.f3 - (J : Int) := by rw [IntKind.wrap_i64]; omega
                have s4 : IntKind.i64.wrap (o.y.f4 - (J : Int)) = o.y.f4 - (J : Int) := by rw [IntKind.wrap_i64]; omega
                have hS4 : At (fun _ => False) w4 _ (Hp.seps [Hp.row 39 11 encW (.slice (some ⟨g, 0, none⟩) N c5) (((upK J PT i).set i (eW o (o.y.f3 - (J : Int)))).set i (shW J o))]) := (hS.setAt 0 rfl encW_len i 3 o (eW o (o.y.f3 - (J : Int))) (.int .i64 (o.y.f3 - (J : Int))) hu1 (by omega) rfl).setAt 0 rfl encW_len i 4 (eW o (o.y.f3 - (J : Int))) (shW J o) (.int .i64 (o.y.f4 - (J : Int))) (by rw [List.getElem?_set_self (by rw [upK_len, HPN.out]; exact hlt)]) (by omega) rfl
                rw [List.set_set, hu2] at hS4
                have hS5 := hS4
                have hin : (i : Int) < (N : Int) := by omega
                clear hu1 hu2 hS4 hcell ho hi hb4 hb3
                go_wp2_with fail
                go_roundg (gk - 1)
                case measure => have := HI.out; omega
                case rel => exact ⟨i + 1, by have := HI.out; omega, by go_num, hS5⟩
              · obtain rfl : i = N := by omega
                have hR0 : upK (J : Int) PT i = PT.map (shW J) := by unfold upK; rw [List.take_of_length_le (by rw [HPN.out]; exact Nat.le_refl _), List.drop_of_length_le (by rw [HPN.out]; exact Nat.le_refl _), List.append_nil]
                rw [hR0] at hS
                obtain ⟨o, PR, hPR⟩ : ∃ o PR, PT.map (shW (J : Int)) = o :: PR := by
                  cases hq : PT with
                  | nil => have h1 := HPN.out; have h2 := HNy.out.2; rw [hq] at h1; simp at h1; omega
                  | cons a b => exact ⟨_, _, rfl⟩
                have hP2 : rtW (PT.map (shW (J : Int))) = (pW o (-1)) :: PR := by rw [hPR]; rfl
                have HV2 := As.mk (HV.out)
                have HGr : As (∀ u ∈ rtW (PT.map (shW (J : Int))), GoodW w4 u) := ⟨fun u hu => by
                  have key : ∀ u ∈ PT.map (shW (J : Int)), GoodW w4 u := fun u hu => by
                    obtain ⟨u0, h0, rfl⟩ := List.mem_map.1 hu
                    have h1 := (HGd.out u0 h0).1
                    exact ⟨h1.l9, h1.g9, h1.l10, h1.g10⟩
                  rw [hP2, List.mem_cons] at hu
                  rcases hu with rfl | hu
                  · have h1 := key o (by rw [hPR]; simp)
                    exact ⟨h1.l9, h1.g9, h1.l10, h1.g10⟩
                  · exact key u (by rw [hPR]; simp [hu])⟩
                have hlr : (rtW (PT.map (shW (J : Int)))).length = i := by rw [hP2, List.length_cons]; have h1 := HPN.out; have h2 := congrArg List.length hPR; rw [List.length_map, List.length_cons] at h2; omega
                have HLr := As.mk hlr
                rw [hPR] at hS
                obtain ⟨g', e', _, hcell⟩ := (hS.rowAt 0 rfl).cell encW_len 0 o rfl
                injection e' with e'; injection e' with e'; subst e'
                have u4 := (hcell 4 (by omega)).1
                have f4 := (hcell 4 (by omega)).2
                simp only [encW, List.getElem?_cons_zero, List.getElem?_cons_succ, Nat.zero_mul, Nat.zero_add] at u4 f4
                have hS4 : At (fun _ => False) w4 _ (Hp.seps [Hp.row 39 11 encW (.slice (some ⟨g, 0, none⟩) i c5) ((pW o (-1)) :: PR)]) := hS.setAt 0 rfl encW_len 0 4 o (pW o (-1)) (.int .i64 (-1)) rfl (by omega) rfl
                rw [← hP2] at hS4
                simp only [Nat.zero_mul, Nat.zero_add] at hS4
                have hin : (0 : Int) < (i : Int) := by have := HNy.out.2; omega
                have hin2 : 0 < i := HNy.out.2
                clear hS hR0 hPR hP2 hcell hlr hi
                go_upto_region 18 with fail
                obtain ⟨wz, hwz⟩ : ∃ wz, wz = wr.setCell ⟨g, 4, none⟩ (.int .i64 (-1)) := ⟨_, rfl⟩
                rw [← hwz] at hS4 ⊢
                clear hwz u4 f4
                obtain ⟨P, hP⟩ : ∃ P, P = fl y (-1) 0 := ⟨_, rfl⟩
                have hil : i = P.length := by rw [hP, fl_len]; exact HNy.out.1
                obtain ⟨A', c', he, hcP, hCP⟩ := fw_C (hS4.rowAt 0 rfl) (fun u hu => (HGr.out u hu).below hS4.bl)
                rw [HV2.out, ← hP] at hCP
                rw [HLr.out] at he hcP
                injection he with he1 he2 he3
                subst he1; subst he3
                have hback : backB P = some y := by rw [hP]; exact back_lay y
                have hszP : ∀ u ∈ P, szE u.f6 ≤ 2097152 ∧ szEs u.f7 ≤ 2097152 := fun u hu => by
                  rw [hP] at hu
                  have := fl_sz y (-1) 0 u hu
                  have := HSy.out
                  omega
                have hBd := back_does wz (some ⟨g, 0, none⟩) c5 P (by omega) (by omega) hCP hszP
                have HCp := As.mk (fun (V : World) (hb : Below wz.heap.size wz V) => Kd.C_below hCP hb)
                have HLay : As (lay y (-1) [] = P) := ⟨by rw [hP, lay_eq]; rfl⟩
                have HPc := As.mk (⟨hil, hcP⟩ : i = P.length ∧ i ≤ c5)
                have HBk := As.mk hback
                unfold BackPost at hBd
                rw [hback] at hBd
                rw [← hil] at hBd
                have HBd := As.mk hBd
                have HBz := As.mk (HB4.out.trans (Below.mono hS4.bl HB4.out.size))
                clear hS4 hP hil hcP hCP hback hszP hBd hJ3 hN3
                go_wp2_with fail
                refine HBd.out.mono ?_
                rintro e w7 (⟨hbad, _, _⟩ | ⟨x', cm, hx', rfl, hS5⟩)
                · cases hbad
                · obtain rfl := Option.some.inj hx'
                  clear hx'
                  obtain ⟨Fm, hA, _, _⟩ := hS5.out
                  obtain ⟨F1, F2, hM, _, _, _⟩ := hA
                  obtain ⟨B7, d7, B8, d8, B9, d9, hcm, m7, k7, m8, k8, m9, k9⟩ := k27_open (k27.K_of_M hM.1)
                  have HMy := As.mk (fun (V : World) (hb : Below w7.heap.size w7 V) => make_does V y B7 d7 B8 d8 B9 d9 (by have := HSy.out; omega) (NodeIn.below (⟨m7, k7, m8, k8, m9, k9⟩ : NodeIn w7 y B7 d7 B8 d8 B9 d9) hb))
                  rw [HLay.out] at HMy
                  subst hcm
                  have HB7 := As.mk hS5.bl
                  clear hM hS5 m7 k7 m8 k8 m9 k9
                  unfold nodeV at HMy
                  obtain ⟨z0, z1, z2, z3, ⟨z4, z5, z6, z7⟩, z8, z9⟩ := y
                  simp only at HMy
                  have hS := (At.start0 (Below.refl w7.heap.size w7))
                  have hS := hS.alloc #[.int .i64 z0, .int .i64 z1, .int .i64 z2, .string z3, .int .i64 z4, .int .i64 z5, .string z6, .slice B7 z7.length d7, .slice B8 z8.length d8, .slice B9 z9.length d9] 27
                  obtain ⟨q0, hq0⟩ : ∃ q, q = w7.heap.size := ⟨_, rfl⟩
                  obtain ⟨V0, hV0⟩ : ∃ V, V = w7.alloc (.cells #[.int .i64 z0, .int .i64 z1, .int .i64 z2, .string z3, .int .i64 z4, .int .i64 z5, .string z6, .slice B7 z7.length d7, .slice B8 z8.length d8, .slice B9 z9.length d9] 27) := ⟨_, rfl⟩
                  rw [← hq0, ← hV0] at hS
                  have Hq : As (w7.alloc (.cells #[.int .i64 z0, .int .i64 z1, .int .i64 z2, .string z3, .int .i64 z4, .int .i64 z5, .string z6, .slice B7 z7.length d7, .slice B8 z8.length d8, .slice B9 z9.length d9] 27) = V0 ∧ w7.heap.size = q0) := ⟨hV0.symm, hq0.symm⟩
                  clear hq0 hV0
                  go_upto_region 19 with fail
                  rw [Hq.out.1, Hq.out.2]
                  clear Hq
                  have q0 := (hS.cellAt 0 rfl 0).trans rfl
                  have q1 := (hS.cellAt 0 rfl 1).trans rfl
                  have q2 := (hS.cellAt 0 rfl 2).trans rfl
                  have q3 := (hS.cellAt 0 rfl 3).trans rfl
                  have q4 := (hS.cellAt 0 rfl 4).trans rfl
                  have q5 := (hS.cellAt 0 rfl 5).trans rfl
                  have q6 := (hS.cellAt 0 rfl 6).trans rfl
                  have q7 := (hS.cellAt 0 rfl 7).trans rfl
                  have q8 := (hS.cellAt 0 rfl 8).trans rfl
                  have q9 := (hS.cellAt 0 rfl 9).trans rfl
                  go_wp2_with fail
                  refine (HMy.out V0 hS.bl).mono ?_
                  rintro e w8 ⟨A2, c2, rfl, hR, hb⟩
                  obtain ⟨hn1, hn2, hC⟩ := Kd.R_reads' hR
                  have hS8 := hS.below hb
                  have hSf := samef_does P (by have h1 := HPc.out.1; have h2 := HNy.out; have h3 := H300.out; have h4 := HPN.out; omega) A2 (some ⟨g, 0, none⟩) c2 c5 w8 hC (HCp.out w8 (HB7.out.trans (Below.mono hS8.bl HB7.out.size))) hn2 (by have := HPc.out; omega)
                  rw [← HPc.out.1] at hSf ⊢
                  have HSf := As.mk hSf
                  have HB8 := As.mk (HBz.out.trans (Below.mono (HB7.out.trans (Below.mono hS8.bl HB7.out.size)) HBz.out.size))
                  clear hR hb hn1 hn2 hC hS8 hSf hS q0 q1 q2 q3 q4 q5 q6 q7 q8 q9
                  go_wp2_with fail
                  refine HSf.out.mono ?_
                  rintro e w9 ⟨rfl, hb⟩
                  have HB9 := As.mk (HB8.out.trans (Below.mono hb HB8.out.size))
                  clear hb
                  go_wp2_with fail
                  go_ret
                  exact ⟨rfl, HB9.out⟩
end Go.Proofs.Ytfgpdpccfpilaaa.OpenFlatOrder
