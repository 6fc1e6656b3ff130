/- Forget; New. -/
import Derived.Test.YtdbdijicicbhfaaBE
set_option linter.unusedVariables false
set_option linter.unusedSimpArgs false
namespace Go.Proofs.Ytdbdijicicbhfaa
open Go.RowKit
def forF (f : PF) (id : Int × Int) (names : List ByteArray) : PF := names.foldl (fun g s => fput g (id, s, false) none) f
theorem forF_snoc (f : PF) (id : Int × Int) (l : List ByteArray) (s : ByteArray) : forF f id (l ++ [s]) = fput (forF f id l) (id, s, false) none := by simp [forF]
set_option maxRecDepth 100000 in
set_option maxHeartbeats 6400000 in
theorem forget_does (p : Nat) (l : List KeyM) (n : Nat) (f : PF) (now : Int) (id : Int × Int) (hid : okI id.1 ∧ okI id.2) (hl : l.length ≤ 200) (hsz : ∀ s ∈ nms false l, s.size ≤ 9223372036854775807) :
    Does Try.prog 13 #[.pointer (some ⟨p, 0, none⟩), .agg #[.int .i64 id.1, .int .i64 id.2]] (isBd p l n f now) (fun e B => e = .returned (.tuple #[]) ∧ B = isBd p l n (forF f id (nms false l)) now) := by
  refine Does.of fun w F hS => ?_
  obtain ⟨sp, m, hS⟩ := bd_open hS.toL
  unfold bdV at hS
  have HO := As.mk (own_does sp l hl)
  obtain ⟨N, hN⟩ : ∃ N, N = nms false l := ⟨_, rfl⟩
  have hNl : N.length ≤ 200 := by rw [hN]; exact Nat.le_trans (nms_len _ _) hl
  rw [← hN] at HO hsz ⊢
  have HK := As.mk (fun s (h : s ∈ N) => keyP_ok (id, s, false) ⟨hid.1, hid.2, hsz s h⟩)
  obtain ⟨a, b⟩ := id
  clear hN hsz hid hl
  have hS := hS.alloc #[.int .i64 a, .int .i64 b] 23
  obtain ⟨q0, hq0⟩ : ∃ q, q = w.heap.size := ⟨_, rfl⟩
  obtain ⟨W0, hW0⟩ : ∃ V, V = w.alloc (.cells #[.int .i64 a, .int .i64 b] 23) := ⟨_, rfl⟩
  rw [← hq0, ← hW0] at hS
  have Hq : As (w.alloc (.cells #[.int .i64 a, .int .i64 b] 23) = W0 ∧ w.heap.size = q0) := ⟨hW0.symm, hq0.symm⟩
  clear hq0 hW0
  have p0 := (hS.cellAt 1 rfl 0).trans rfl
  have p1 := (hS.cellAt 1 rfl 1).trans rfl
  have p2 := (hS.cellAt 1 rfl 2).trans rfl
  go_enter Try.func13, Try.ntmps13
  go_upto_region 1 with fail
  rw [Hq.out.1, Hq.out.2]
  clear Hq
  go_wp2_with fail
  refine (hS.callAt 2 rfl HO.out).mono ?_
  rintro e w1 ⟨B, ⟨v, rfl, rfl⟩, hS1⟩
  have hS2 : At F w w1 (Hp.seps [Hp.row 9 1 encSt v N, isSc sp l, Hp.blk q0 #[.int .i64 a, .int .i64 b] 23, Hp.blk p #[.pointer (some ⟨sp, 0, none⟩), .map (some m), .int .i64 now] 55, Hp.mp Try.prog 57 m n encP encC f]) := hS1.flats (l' := [_, _]) 2 rfl
  obtain ⟨A, c, rfl, hc1, hc2⟩ := (hS2.rowAt 0 rfl).shape
  clear hS hS1 p0 p1 p2 HO hc1
  go_wp2_with fail
  go_loopg [12] N.length (fun g0 iv wr => ∃ i : Nat, i + g0 = N.length ∧ iv = .int .i64 i ∧ At F w wr (Hp.seps [Hp.row 9 1 encSt (.slice A N.length c) N, isSc sp l, Hp.blk q0 #[.int .i64 a, .int .i64 b] 23, Hp.blk p #[.pointer (some ⟨sp, 0, none⟩), .map (some m), .int .i64 now] 55, Hp.mp Try.prog 57 m n encP encC (forF f (a, b) (N.take i))]))
  case atStart => exact ⟨0, by omega, rfl, hS2⟩
  case round =>
    clear hS2
    obtain ⟨i, hi, rfl, hS⟩ := hrel
    by_cases hlt : i < N.length
    · have HI := As.mk hi
      obtain ⟨s, hs⟩ : ∃ s, N[i]? = some s := ⟨_, List.getElem?_eq_getElem hlt⟩
      obtain ⟨g, rfl, hgl, hcell⟩ := (hS.rowAt 0 rfl).cell encSt_len i s hs
      have c0 := (hcell 0 (by omega)).1
      simp only [encSt, List.getElem?_cons_zero, Nat.add_zero, Nat.mul_one] at c0
      obtain ⟨kl, hkl⟩ := HK.out s (List.mem_of_getElem? hs)
      have HKl := As.mk hkl
      have HT : As (forF f (a, b) (N.take (i + 1)) = fput (forF f (a, b) (N.take i)) ((a, b), s, false) none) := ⟨by rw [take_snoc hs, forF_snoc]⟩
      have q0 := (hS.cellAt 2 rfl 0).trans rfl
      have q1 := (hS.cellAt 2 rfl 1).trans rfl
      have p0 := (hS.cellAt 3 rfl 0).trans rfl
      have p1 := (hS.cellAt 3 rfl 1).trans rfl
      have p2 := (hS.cellAt 3 rfl 2).trans rfl
      clear hi hcell hs hkl
      go_upto_region 4 with fail
      go_still_tail 7, (by kernel_rfl)
      refine rw_mapDelete rfl (.tmp 19) (.tmp 22) 53 rfl 59 KlawP encP_inj Try.underlying53 rfl (hS.drew.mpAt 4 rfl) ((a, b), s, false) _ rfl HKl.out ?c1
      case c1 =>
        intro w2 hm2 hg2
        have hS3 := hS.drew.mpGrown 4 rfl hm2 hg2
        rw [← HT.out] at hS3
        clear hm2 hg2 hS q0 q1 p0 p1 p2 c0
        go_wp2_with fail
        go_roundg (gk - 1)
        case measure => have := HI.out; omega
        case rel => exact ⟨i + 1, by have := HI.out; omega, by go_num, hS3⟩
    · obtain rfl : i = N.length := by omega
      rw [List.take_length] at hS
      go_wp2_with fail
      go_end0
      exact At.post (bd_close (hS.sel [3, 1, 2])).ofL ⟨rfl, rfl⟩
set_option maxRecDepth 100000 in
set_option maxHeartbeats 6400000 in
theorem bnew_does (v : Value) (l : List KeyM) (w : World) (hd : Rd w 3 encKey v l) (hsz : ∀ x ∈ l, x.f0.size ≤ 9223372036854775807) (hE : newE l = 0) : Calls Try.prog 7 #[v] w fun e w' =>
    ∃ p, e = .returned (.tuple #[.pointer (some ⟨p, 0, none⟩), .int .i64 0]) ∧ At (fun _ => False) w w' (Hp.seps [isBd p l 0 (fun _ => none) 0]) := by
  have HN := As.mk (new_does v l w hd hsz)
  rw [hE] at HN
  have HI : As (∀ u B, isNew u l B → ∃ p, u = .pointer (some ⟨p, 0, none⟩) ∧ B = [isSc p l]) := ⟨fun u B h => by
    rcases h with ⟨_, h⟩ | ⟨h, _⟩
    · exact h
    · exact absurd hE h⟩
  obtain ⟨A, c, rfl, _, _⟩ := hd.shape
  clear hd hsz hE
  have hmk := fun w => run_makeMap (P := Try.prog) 53 w
  go_enter Try.func7, Try.ntmps7
  go_wp2_with fail
  refine HN.out.mono ?_
  rintro e w1 ⟨u, B, rfl, hI, hS⟩
  obtain ⟨sp, rfl, rfl⟩ := HI.out _ _ hI
  clear hI HN HI
  have hS1 := hS.mpNew Try.prog 57 encP encC
  obtain ⟨m, hm⟩ : ∃ m, m = w1.heap.size := ⟨_, rfl⟩
  obtain ⟨W0, hW0⟩ : ∃ W0, W0 = w1.alloc (.map #[] 0) := ⟨_, rfl⟩
  rw [← hm, ← hW0] at hS1
  have hS2 := hS1.alloc #[.pointer (some ⟨sp, 0, none⟩), .map (some m), .int .i64 0] 55
  obtain ⟨p, hp⟩ : ∃ p, p = W0.heap.size := ⟨_, rfl⟩
  obtain ⟨W1, hW1⟩ : ∃ W1, W1 = W0.alloc (.cells #[.pointer (some ⟨sp, 0, none⟩), .map (some m), .int .i64 0] 55) := ⟨_, rfl⟩
  rw [← hp, ← hW1] at hS2
  have HE : As (w1.alloc (.map #[] 0) = W0 ∧ w1.heap.size = m ∧ m + 1 = p ∧ W0.alloc (.cells #[.pointer (some ⟨sp, 0, none⟩), .map (some m), .int .i64 0] 55) = W1) := ⟨hW0.symm, hm.symm, by rw [hp, hW0, hm]; simp, hW1.symm⟩
  have hS3 := bd_close (s := sp) (m := m) (f := fun _ => none) (r := []) (hS2.sel [0, 1, 0])
  clear hm hW0 hp hW1 hS hS1 hS2
  go_wp2_with fail
  rw [HE.out.2.1, HE.out.1, HE.out.2.2.1, HE.out.2.2.2]
  clear hmk HE
  go_wp2_with fail
  go_ret2
  exact ⟨p, rfl, hS3⟩
end Go.Proofs.Ytdbdijicicbhfaa
