/- The law of ecs: the example of the document. No condition but the laid table. -/
import Derived.Test.YtkebkmbfglodlaaDoorEs15
set_option linter.unusedVariables false
set_option linter.unusedSimpArgs false
set_option maxRecDepth 100000
namespace Go.Proofs.YtkebkmbfglodlaaDoor
open Go.RowKit
theorem queryF_nil (all none : Nat) : ∀ ss : List Int, queryF [] all none ss = []
  | [] => rfl
  | x :: ss => by
    have e : queryF [] all none (x :: ss) = (if takes all none x then idsAt [] x.toNat else []) ++ queryF [] all none ss := rfl
    rw [e, queryF_nil all none ss]
    simp [idsAt]
theorem wf0 : WF [] [] noM 0 := WT.empty.wf (fun id => by
  have : hasI [] id = false := by unfold hasI I.hasB; simp
  rw [this]; rfl)
set_option maxHeartbeats 25600000 in
theorem alive_does (w : World) (hT : GTab w) : Calls Tryd.prog 8 #[] w fun e w' => e = .returned (.bool true) ∧ Below w.heap.size w w' := by
  have HT := As.mk hT
  have HC := As.mk (snew_does (At.start0 (w0 := w) (w := w) (Below.refl _ _)) 5 5)
  clear hT
  go_enter Tryd.func8, Tryd.ntmps8
  go_wp2_with fail
  refine HC.out.mono ?_
  rintro e w1 ⟨q, pi, bt, bm, rfl, hS⟩
  clear HC
  have HQ := As.mk (query_does sorts12 (by decide) (by decide) wf0 (by decide) 0 0 (by decide) (by decide) hS)
  clear hS
  go_wp2_with fail
  refine HQ.out.mono ?_
  rintro e w2 ⟨v, ss, rfl, _, hS⟩
  clear HQ
  rw [queryF_nil] at hS
  obtain ⟨A, n, c, rfl⟩ := (hS.rowAt 0 rfl).slice
  obtain rfl : n = 0 := ((hS.rowAt 0 rfl).rd encId_len).len.1
  have hS1 := ((hS.stIn.alloc #[.int .i64 1, .int .i64 7] 33).rowOfBlk1 2 encId ((1 : Int), (7 : Int)) rfl).stIn
  have HI : As (∃ id sl' fr', MkOk pi (I.rm 5) [] [] id sl' fr' ∧ True) := ⟨by
    obtain ⟨id, sl', fr', h, _⟩ := mk_ok (I.Inv.start (I.rm 5) (by decide)) (by decide) (by decide) (by decide) pi
    exact ⟨id, sl', fr', h, trivial⟩⟩
  have HSp := As.mk (spawn_does (cells := [((1 : Int), (7 : Int))]) False (fun _ _ _ => True) HT.out wf0 (by decide) (.inl HI.out) (.slice (some ⟨w2.heap.size, 0, none⟩) 1 1) (by decide) (fun w' L' h => (h.rowAt L'.length (by rw [List.getElem?_append_right (Nat.le_refl _), Nat.sub_self]; rfl)).rd encId_len) hS1)
  clear hS hS1
  go_wp2_with fail
  refine HSp.out.mono ?_
  rintro e w3 (⟨e0, h0, rfl, hS⟩ | ⟨m, id, sl', fr', D', hm, hfu, hmk, _, hP, rfl, hS⟩)
  · exfalso
    rcases h0 with ⟨h0, _⟩ | ⟨m, h0, _, h1 | h1⟩
    · exact absurd h0 (by decide)
    · have : m = 2 := by
        have : maskC [((1 : Int), (7 : Int))] = some 2 := by decide
        rw [this] at h0
        injection h0 with h0
        exact h0.symm
      subst this
      exact absurd h1 (by decide)
    · exact h1
  · have hm2 : m = 2 := by
      have : maskC [((1 : Int), (7 : Int))] = some 2 := by decide
      rw [this] at hm
      injection hm with hm
      exact hm.symm
    subst hm2
    clear HSp HI
    obtain ⟨f, hE, hf⟩ := Ent.putN hP
    have hWT := WT.empty.put (by decide) hmk.ok rfl hP
    have hA : ∀ id', (fput noM id (some 2) id').isSome = hasI sl' id' := fun id' => by
      rw [hmk.alive id']
      unfold fput
      by_cases e : id' = id
      · rw [if_pos e]; simp [e]
      · rw [if_neg e]
        have : hasI [] id' = false := by unfold hasI I.hasB; simp
        simp [e, this, noM]
    obtain ⟨i, p, k, R, hi, hk⟩ := hE.at_
    have hf1 : f ((1 : Nat) : Int) = 7 := by rw [hf ((1 : Nat) : Int) (by decide)]; decide
    obtain ⟨a1, a2⟩ := id
    have hS2 := (hS.alloc #[.int .i64 a1, .int .i64 a2] 31).stIn
    have HG := As.mk (get_yes hS2 hWT.nd (a1, a2) hmk.ok 1 2 (by decide) (by decide) (by rw [← hA]; unfold fput; simp) (by unfold fput; simp) (by decide) i p k R f hi hk (hWT.rnd i 2 p R hi))
    rw [hf1] at HG
    clear hS hS2 hi hk hE hP hmk hWT hA hf hm hfu hf1
    go_wp2_with fail
    refine HG.out.mono ?_
    rintro e w4 ⟨rfl, hS⟩
    clear HG
    have HB := As.mk hS.bl
    clear hS
    go_wp2_with fail
    refine (num_does 0 _).mono ?_
    rintro e w5 ⟨rfl, rfl⟩
    go_wp2_with fail
    refine (num_does 0 _).mono ?_
    rintro e w6 ⟨rfl, rfl⟩
    go_wp2_with fail
    go_ret
    exact ⟨rfl, HB.out⟩
end Go.Proofs.YtkebkmbfglodlaaDoor
