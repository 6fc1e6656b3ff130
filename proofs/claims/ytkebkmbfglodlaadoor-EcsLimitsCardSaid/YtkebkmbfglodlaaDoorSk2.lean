/- The keys of the map of tables, collected, said over what a map holds. No condition. -/
import Derived.Test.YtkebkmbfglodlaaDoorSk1
import Derived.Test.YtkebkmbfglodlaaDoorAt
set_option linter.unusedVariables false
set_option linter.unusedSimpArgs false
set_option maxRecDepth 100000
namespace Go.Proofs.YtkebkmbfglodlaaDoor
open Go.RowKit Go.Maps Go.Sort Go.Shelf
open Go.WideElems (Fit rd rg pl rd_val elemAt rg_of)
def encM (m : Nat) : Value := .int .u16 (m : Nat)
theorem encM_inj (x y : Nat) (h : encM x = encM y) : x = y := by
  simp [encM] at h
  omega
def evP (p : Nat) : Value := .pointer (some ⟨p, 0, none⟩)
def encH (x : Int) : List Value := [.int .u16 x]
theorem encH_len (x : Int) : (encH x).length = 1 := rfl
theorem flat_encH (xs : List Int) : xs.flatMap encH = xs.map encU := by
  induction xs with
  | nil => rfl
  | cons x xs ih => rw [List.flatMap_cons, ih]; rfl
theorem KlawU : Keyed Tryd.prog 35 := int_keyed Tryd.underlying35
theorem keyU_ok (m : Nat) (h : m < 65536) : ∃ l, keyOf Tryd.prog 35 (encM m) = some l := by
  have hw : (Lit.int .u16 (m : Nat)).wf = true := by simp [Lit.wf, IntKind.min, IntKind.max, IntKind.bits, IntKind.signed]; omega
  exact ⟨_, keyOf_int_mk Tryd.underlying35 hw⟩
/-- A map, read as the kit reads it: by its keys alone. -/
theorem MapIs.owns {w : World} {b n : Nat} {f : Nat → Option Nat} (h : MapIs w Tryd.prog 35 b n encM evP f) (hn : n ≤ 1000000) :
    ∃ D0 : DataW Unit, w.ownsMap Tryd.prog 35 (fun _ => some (.nil, [])) b n D0 ∧ (∀ x : Int, x ∈ keysU D0 ↔ ∃ m : Nat, x = (m : Int) ∧ (f m).isSome = true) ∧ (keysU D0).Nodup ∧ Maps.size D0 ≤ n := by
  obtain ⟨es, clock, hb, hsz, hk, hst, h1, h2⟩ := h
  have hr : ∀ x ∈ es.toList, ∃ m : Nat, x.key = encM m ∧ (f m).isSome = true ∧ rd Tryd.prog 35 (fun _ => some ((.nil : DataW Unit), ([] : List MemPlace))) x = some (.int .u16 (m : Nat), .nil) := by
    intro x hx
    obtain ⟨m, y, a1, a2, a3⟩ := h1 x hx
    obtain ⟨l, hl⟩ := hk x hx
    obtain ⟨z, e1, e2, _⟩ := keyOf_u16 Tryd.underlying35 hl
    have e3 : z = (m : Nat) := by rw [a1] at e1; simp [encM, encU] at e1; exact e1.symm
    subst e3
    exact ⟨m, a1, by rw [a3]; rfl, by unfold rd; rw [hl, e2]; rfl⟩
  have F : Fit Tryd.prog 35 (fun _ => some ((.nil : DataW Unit), ([] : List MemPlace))) es clock := ⟨by simp only [maxLen]; omega, hst, fun x hx => by obtain ⟨m, _, _, e⟩ := hr x hx; exact ⟨_, e⟩⟩
  have hown : w.ownsMap Tryd.prog 35 (fun _ => some ((.nil : DataW Unit), ([] : List MemPlace))) b n (.map ((es.toList.map (rg Tryd.prog 35 (fun _ => some ((.nil : DataW Unit), ([] : List MemPlace))))).foldr DataW.insert [])) := ⟨es, clock, hb, F, hsz, rfl⟩
  refine ⟨_, hown, ?_, ?_, ?_⟩
  · intro x
    show x ∈ (List.map (fun p : Lit × DataW Unit => numOf p.1) _) ↔ _
    rw [List.mem_map]
    constructor
    · rintro ⟨p, hp, rfl⟩
      obtain ⟨e, he, rfl⟩ := List.mem_map.1 (mem_sorted.1 hp)
      obtain ⟨m, _, hm, hd⟩ := hr e he
      exact ⟨m, by rw [rg_of hd]; rfl, hm⟩
    · rintro ⟨m, rfl, hm⟩
      obtain ⟨y, hy⟩ := Option.isSome_iff_exists.1 hm
      obtain ⟨e, he, ek, _⟩ := h2 m y hy
      obtain ⟨m', ek', _, hd⟩ := hr e he
      have : m' = m := encM_inj _ _ (ek'.symm.trans ek)
      subst this
      exact ⟨_, mem_sorted.2 (List.mem_map.2 ⟨e, he, rfl⟩), by rw [rg_of hd]; rfl⟩
  · obtain ⟨es', hD, hp, _⟩ := hown.entries KlawU
    obtain ⟨es2, hD', hko⟩ := hown.keysOf
    obtain rfl : es' = es2 := by rw [hD] at hD'; simpa using hD'
    rw [hD]
    show (es'.map fun p => numOf p.1).Nodup
    refine List.pairwise_map.2 (hp.imp_of_mem fun {p q} hp' hq' hne e => hne ?_)
    obtain ⟨v, hv⟩ := hko p hp'
    obtain ⟨v', hv'⟩ := hko q hq'
    obtain ⟨a, _, ha, _⟩ := keyOf_u16 Tryd.underlying35 hv
    obtain ⟨b, _, hb, _⟩ := keyOf_u16 Tryd.underlying35 hv'
    rw [ha, hb] at e ⊢
    exact congrArg _ e
  · show List.length _ ≤ n
    rw [(Go.WideShapes.sorted_perm _).length_eq, List.length_map]
    simpa using hsz
/-- slices.Collect(maps.Keys(m)): the keys, each once, in some order, in a row of the call's own. -/
theorem collect_does {w : World} {b n Bm : Nat} {f : Nat → Option Nat} (h : MapIs w Tryd.prog 35 b n encM evP f) (hn : n ≤ 1000000) (hm : w.cell? ⟨Bm, 0, none⟩ = some (.map (some b))) :
    Calls Tryd.prog 68 #[.func (.func 70) #[] #[.pointer (some ⟨Bm, 0, none⟩)]] w fun e w' => ∃ (v : Value) (ss : List Int), e = .returned v ∧ As (ss.Nodup ∧ ss.length ≤ n ∧ ∀ x : Int, x ∈ ss ↔ ∃ m : Nat, x = (m : Int) ∧ (f m).isSome = true) ∧ Rw w' 35 1 encH v ss ∧ (∀ k, v.ownBlock = some k → w.heap.size ≤ k) ∧ Below w.heap.size w w' := by
  obtain ⟨D0, hown, hk, hnd, hsz⟩ := h.owns hn
  have hBm : Bm < w.heap.size := World.block_lt_of_cell? (a := ⟨Bm, 0, none⟩) w hm
  refine callsIn_wide.1 ((Sk.collect_in Fence.wide 8 trivial trivial rfl (by decide) 70 #[.pointer (some ⟨Bm, 0, none⟩)] trivial (enters_of Tryd.func70 (by kernel_rfl) rfl) (fun ss => ss.Perm (keysU D0)) (Maps.size D0) (by simp only [maxLen]; omega) (by omega) w (Sk.keys_gives Fence.wide 6 trivial rfl (by decide) Bm b n D0 w hBm hm hown)).mono ?_)
  rintro e w' ⟨v, ss, rfl, hp, hrow, _, hb⟩
  refine ⟨v, ss, rfl, ⟨hp.nodup_iff.2 hnd, ?_, fun x => by rw [hp.mem_iff, hk x]⟩, ?_, fun k hk => (hrow.lt k hk).1, hb⟩
  · rw [hp.length_eq]
    exact Nat.le_trans (by cases D0 <;> simp [keysU, Maps.size]) hsz
  · unfold Rw
    rw [flat_encH]
    exact ownsRow_base_a hrow (Nat.zero_le _)
end Go.Proofs.YtkebkmbfglodlaaDoor
