/- A store: Query. No condition but bounded sizes. -/
import Derived.Test.YtkebkmbfglodlaaDoorEs12
set_option linter.unusedVariables false
set_option linter.unusedSimpArgs false
set_option maxRecDepth 100000
namespace Go.Proofs.YtkebkmbfglodlaaDoor
open Go.RowKit
def idsAt : List TD → Nat → List (Int × Int)
  | [], _ => []
  | d :: D, m => if d.1 = m then idsOf d.2.2 else idsAt D m
theorem idsAt_at {D : List TD} (hn : (masksOf D).Nodup) {i m p : Nat} {R : List TRow} (h : D[i]? = some (m, p, R)) : idsAt D m = idsOf R := by
  induction D generalizing i with
  | nil => simp at h
  | cons d D ih =>
    unfold idsAt
    cases i with
    | zero =>
      simp at h
      subst h
      rw [if_pos rfl]
    | succ i =>
      simp at h
      have hm : m ∈ masksOf D := List.mem_map.2 ⟨_, List.mem_of_getElem? h, rfl⟩
      have hn' : d.1 ∉ masksOf D ∧ (masksOf D).Nodup := by simpa [masksOf] using hn
      rw [if_neg (by intro e; rw [e] at hn'; exact hn'.1 hm)]
      exact ih hn'.2 h
def takes (all none : Nat) (x : Int) : Bool := decide (x.toNat &&& all = all) && decide (x.toNat &&& none = 0)
def queryF (D : List TD) (all none : Nat) (ss : List Int) : List (Int × Int) := ss.flatMap fun x => if takes all none x then idsAt D x.toNat else []
theorem queryF_take {D : List TD} {all none : Nat} {ss : List Int} {k : Nat} {x : Int} (h : ss[k]? = some x) : queryF D all none (ss.take (k + 1)) = queryF D all none (ss.take k) ++ (if takes all none x then idsAt D x.toNat else []) := by
  unfold queryF
  rw [List.take_add_one, h, Option.toList_some, List.flatMap_append]
  simp
theorem queryF_len {D : List TD} {all none n : Nat} (hD : ∀ m, (idsAt D m).length ≤ n) : ∀ ss : List Int, (queryF D all none ss).length ≤ ss.length * n
  | [] => by simp [queryF]
  | x :: ss => by
    have ih := queryF_len (all := all) (none := none) hD ss
    have h1 : (if takes all none x then idsAt D x.toNat else []).length ≤ n := by split; exact hD _; exact Nat.zero_le _
    have e : queryF D all none (x :: ss) = (if takes all none x then idsAt D x.toNat else []) ++ queryF D all none ss := rfl
    rw [e, List.length_append, List.length_cons, Nat.add_mul, Nat.one_mul]
    omega
theorem idsAt_len {D : List TD} {n : Nat} (h : ∀ (i m p : Nat) (R : List TRow), D[i]? = some (m, p, R) → R.length ≤ n) : ∀ m, (idsAt D m).length ≤ n := by
  intro m
  induction D with
  | nil => exact Nat.zero_le _
  | cons d D ih =>
    unfold idsAt
    split
    · have := h 0 d.1 d.2.1 d.2.2 rfl
      simpa [idsOf] using this
    · exact ih fun i m p R hi => h (i + 1) m p R (by simpa using hi)
theorem keys_len {D : List TD} (hn : (masksOf D).Nodup) {ss : List Int} (h : KeysOf (tf D) ss) : ss.length = D.length := by
  have hp : ss.Perm ((masksOf D).map fun m : Nat => (m : Int)) := by
    refine (List.perm_ext_iff_of_nodup ?_ ?_).2 fun x => ?_
    · exact List.nodup_iff_pairwise_ne.2 (h.1.imp fun h => by omega)
    · exact List.nodup_iff_pairwise_ne.2 (List.pairwise_map.2 ((List.nodup_iff_pairwise_ne.1 hn).imp fun h => by omega))
    · rw [h.2 x, List.mem_map]
      constructor
      · rintro ⟨m, rfl, hm⟩
        refine ⟨m, ?_, rfl⟩
        apply Classical.byContradiction
        intro hx
        rw [tf_none.2 hx] at hm
        cases hm
      · rintro ⟨m, hm, rfl⟩
        refine ⟨m, rfl, ?_⟩
        cases hf : tf D m with
        | none => exact absurd hm (tf_none.1 hf)
        | some p => rfl
  have := hp.length_eq
  simpa [masksOf] using this
section
variable {w0 w : World} {q pi bt bm : Nat} {most room : Int} {nm : Nat} {sl : List (Int × Bool)} {fr : List Int} {D : List TD} {M : Int × Int → Option Nat} {r : List Hp}
set_option maxHeartbeats 25600000 in
theorem query_does {K n : Nat} (HK : SortsUpto K) (h64 : K ≤ 64) (hDK : D.length ≤ K) (hWF : WF sl D M n) (hn : n ≤ 100000) (all none : Nat) (ha : all < 65536) (hno : none < 65536) (hS : At (fun _ => False) w0 w (Hp.seps (stL q pi bt bm most room nm sl fr D M r))) :
    Calls Tryd.prog 23 #[.pointer (some ⟨q, 0, Option.none⟩), .int .u16 (all : Nat), .int .u16 (none : Nat)] w fun e w' => ∃ v ss, e = .returned v ∧ As (KeysOf (tf D) ss) ∧ At (fun _ => False) w0 w' (Hp.seps (Hp.row 31 2 encId v (queryF D all none ss) :: stL q pi bt bm most room nm sl fr D M r)) := by
  have HC := As.mk (masks_does HK h64 0 2 q bt D.length (.pointer (some ⟨pi, 0, Option.none⟩)) (.int .i64 most) (.map (some bm)) (tf D) hDK hS rfl rfl)
  have HW := As.mk hWF
  have HAl := As.mk (⟨ha, hno⟩ : _ ∧ _)
  have HLn := As.mk (idsAt_len hWF.len)
  clear hS hWF ha hno
  go_enter Tryd.func23, Tryd.ntmps23
  go_wp2_with fail
  refine HC.out.mono ?_
  rintro e w1 ⟨v, ss, rfl, HS, hS⟩
  clear HC
  obtain ⟨Dv, cv, rfl, hcv, hmv⟩ := (hS.rowAt 0 rfl).shape
  have hS1 := (hS.stIn.nilRow 31 2 encId).stIn
  have hlen : ss.length ≤ 64 := by rw [keys_len HW.out.nd HS.out]; omega
  clear hS
  go_wp2_with fail
  go_loopg [7, 13] ss.length (fun g0 ov iv wr => ∃ (k : Nat), k + g0 = ss.length ∧ iv = .int .i64 (k : Nat) ∧ At (fun _ => False) w0 wr (Hp.seps (stL q pi bt bm most room nm sl fr D M (Hp.row 31 2 encId ov (queryF D all none (ss.take k)) :: Hp.row 35 1 encH (.slice Dv ss.length cv) ss :: r))))
  case atStart => exact ⟨0, by omega, rfl, hS1⟩
  case round =>
    clear hS1
    obtain ⟨k, hk, rfl, hS⟩ := hrel
    by_cases hlt : k < ss.length
    · obtain ⟨x, hx⟩ : ∃ x, ss[k]? = some x := ⟨_, List.getElem?_eq_getElem hlt⟩
      obtain ⟨m, rfl, hm⟩ := (HS.out.2 x).1 (List.mem_of_getElem? hx)
      obtain ⟨p, hp⟩ := Option.isSome_iff_exists.1 hm
      obtain ⟨i, R, hi⟩ := tf_some hp
      have hml : m < 65536 := HW.out.lt m (List.mem_map.2 ⟨_, List.mem_of_getElem? hi, rfl⟩)
      obtain ⟨A1, c1, hA1, _, _⟩ := (hS.rowAt 6 rfl).shape
      injection hA1 with e1 _ e2
      subst e1; subst e2
      obtain ⟨gs, rfl, _, hcell⟩ := (hS.rowAt 6 rfl).cell encH_len k _ hx
      have c0 := (hcell 0 (by decide)).1
      simp only [encH, Nat.mul_one, Nat.add_zero, List.getElem?_cons_zero] at c0
      obtain ⟨an, han⟩ : ∃ an, an = m &&& all := ⟨_, rfl⟩
      obtain ⟨bn, hbn⟩ : ∃ bn, bn = m &&& none := ⟨_, rfl⟩
      have a0 : bits .and .u16 (m : Int) (all : Int) = (an : Int) := by rw [u16_and_nat m all hml HAl.out.1, han]
      have b0 : bits .and .u16 (m : Int) (none : Int) = (bn : Int) := by rw [u16_and_nat m none hml HAl.out.2, hbn]
      have HQ := As.mk (queryF_take (D := D) (all := all) (none := none) hx)
      have hkn : (k : Int) < (ss.length : Int) := by omega
      have HT := As.mk (⟨hk, hi, han, hbn, hml, hp⟩ : _ ∧ _ ∧ _ ∧ _ ∧ _ ∧ _)
      have s1 : IntKind.i64.wrap ((k : Int) + 1) = ((k + 1 : Nat) : Int) := by rw [IntKind.wrap_i64]; omega
      have q2 : wr.cell? ⟨q, 2, Option.none⟩ = some (.map (some bt)) := (hS.cellAt 0 rfl 2).trans rfl
      have hl := look_tab (hS.mpAt 2 rfl) hml 0
      rw [hp] at hl
      have hl : (Instr.lookup 67 (.map (some bt)) (.int .u16 (m : Nat)) false).run Tryd.prog wr = .ok (.pointer (some ⟨p, 0, Option.none⟩)) wr := hl
      clear hcell hx hm hp hi hk han hbn hml
      by_cases hA : an = all
      · have d1 : ((an : Int) == (all : Int)) = true := by rw [beq_iff_eq, hA]
        by_cases hB : bn = 0
        · have d2 : ((bn : Int) == 0) = true := by rw [beq_iff_eq, hB]; rfl
          have HE : As (queryF D all none (ss.take (k + 1)) = queryF D all none (ss.take k) ++ idsOf R) := ⟨by
            rw [HQ.out]
            have : takes all none (m : Int) = true := by
              unfold takes
              rw [Int.toNat_natCast, ← HT.out.2.2.1, ← HT.out.2.2.2.1, hA, hB]
              simp
            rw [if_pos this, Int.toNat_natCast, idsAt_at HW.out.nd HT.out.2.1]⟩
          have HC1 := As.mk (At.tabCallX hS i m p R HT.out.2.1 (ids_does p (bitsN m) R (by have := HW.out.len i m p R HT.out.2.1; omega)) R (fun e A => ∃ v, e = .returned v ∧ A = [Hp.row 31 2 encId v (idsOf R)]) (fun e B h => by
            obtain ⟨v, h1, h2⟩ := h
            exact ⟨_, ⟨v, h1, rfl⟩, fun W F hh => by rw [h2] at hh; exact hh⟩))
          rw [set_same' HT.out.2.1] at HC1
          have HL1 : As ((queryF D all none (ss.take k)).length + (idsOf R).length ≤ 7000000) := ⟨by
            have h1 := queryF_len (all := all) (none := none) HLn.out (ss.take k)
            have h2 : (idsOf R).length ≤ n := by have := HW.out.len i m p R HT.out.2.1; simpa [idsOf] using this
            have h3 : (ss.take k).length ≤ 63 := by rw [List.length_take]; omega
            have h4 : (ss.take k).length * n ≤ 63 * 100000 := Nat.mul_le_mul h3 hn
            omega⟩
          clear hS hA hB
          go_wp2_with fail
          refine HC1.out.mono ?_
          rintro e w2 ⟨A, ⟨v2, rfl, rfl⟩, hS⟩
          clear HC1 hl q2 c0
          obtain ⟨D2, n2, c2, rfl⟩ := (hS.rowAt 5 rfl).slice
          obtain ⟨D3, n3, c3, rfl⟩ := (hS.rowAt 6 rfl).slice
          have HS2 := As.mk hS
          clear hS
          go_wp2_with (at_builtin; refine rw_appendL rfl (.tmp 28) (.tmp 35) 26 31 2 encId (.agg #[.int .i64 0, .int .i64 0]) 16 rfl Tryd.underlying26 Tryd.infoD rfl (by decide) (.slice D3 n3 c3) (.slice D2 n2 c2) (queryF D all none (ss.take k)) (idsOf R) rfl rfl ?c0 ?c5 encId_len ?c1 ?c2 ?c3 ?c4)
          case c0 => exact ((HS2.out.below (by repeat (first | exact Below.refl _ _ | refine bl_drewN ?_ _ | refine Below.drew ?_ | refine bl_alloc ?_ _ | refine bl_set ?_ (by first | (simp; done) | omega | (simp; omega)) _))).rowAt 5 rfl).rd encId_len
          case c5 => exact (HS2.out.below (by repeat (first | exact Below.refl _ _ | refine bl_drewN ?_ _ | refine Below.drew ?_ | refine bl_alloc ?_ _ | refine bl_set ?_ (by first | (simp; done) | omega | (simp; omega)) _))).rowAt 6 rfl
          case c1 => exact one_id
          case c2 => have := HL1.out; simp only [maxLen]; omega
          case c3 => have := HL1.out; omega
          case c4 =>
            intro v1 w3 hA
            have hS3 := At.appendLAt 6 hA HS2.out rfl (by repeat (first | exact Below.refl _ _ | refine bl_drewN ?_ _ | refine Below.drew ?_ | refine bl_alloc ?_ _ | refine bl_set ?_ (by first | (simp; done) | omega | (simp; omega)) _))
            rw [← HE.out] at hS3
            clear hA HS2
            go_wp2_with fail
            go_roundg (ss.length - (k + 1))
            case measure => have := HT.out.1; omega
            case rel => exact ⟨k + 1, by have := HT.out.1; omega, rfl, At.stDrop hS3⟩
        · have d2 : ((bn : Int) == 0) = false := by rw [beq_eq_false_iff_ne]; omega
          have HE : As (queryF D all none (ss.take (k + 1)) = queryF D all none (ss.take k)) := ⟨by
            rw [HQ.out]
            have : takes all none (m : Int) = false := by
              unfold takes
              rw [Int.toNat_natCast, ← HT.out.2.2.2.1]
              simp [hB]
            rw [this]; simp⟩
          rw [← HE.out] at hS
          clear hA hB hl q2
          go_wp2_with fail
          go_roundg (ss.length - (k + 1))
          case measure => have := HT.out.1; omega
          case rel => exact ⟨k + 1, by have := HT.out.1; omega, rfl, hS⟩
      · have d1 : ((an : Int) == (all : Int)) = false := by rw [beq_eq_false_iff_ne]; omega
        have HE : As (queryF D all none (ss.take (k + 1)) = queryF D all none (ss.take k)) := ⟨by
          rw [HQ.out]
          have : takes all none (m : Int) = false := by
            unfold takes
            rw [Int.toNat_natCast, ← HT.out.2.2.1]
            simp [hA]
          rw [this]; simp⟩
        rw [← HE.out] at hS
        clear hA hl q2
        go_wp2_with fail
        go_roundg (ss.length - (k + 1))
        case measure => have := HT.out.1; omega
        case rel => exact ⟨k + 1, by have := HT.out.1; omega, rfl, hS⟩
    · obtain rfl : k = ss.length := by omega
      rw [List.take_length] at hS
      clear hk
      go_wp2_with fail
      go_ret
      refine ⟨_, ss, rfl, HS, ?_⟩
      have h2 := hS.dropAt 6 (by simp [stL])
      exact h2.perm (List.perm_middle (l₁ := [Hp.blk q #[.pointer (some ⟨pi, 0, Option.none⟩), .int .i64 most, .map (some bt), .map (some bm)] 70, I.isIds pi room sl fr, Hp.mp Tryd.prog 35 bt D.length encM evP (tf D), Hp.mp Tryd.prog 31 bm nm encK encM M, Hp.many tbH D]))
end
end Go.Proofs.YtkebkmbfglodlaaDoor
