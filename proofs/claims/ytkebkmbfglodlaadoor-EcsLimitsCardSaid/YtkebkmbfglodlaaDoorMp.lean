/- Maps of the call's own, by what they hold: a function from keys to values; beside the other memory. No condition; plain definitions and lemmas. -/
import Derived.Test.YtkebkmbfglodlaaDoorAt
import Derived.Maps.Own
import Derived.Maps.OwnSet
set_option linter.unusedVariables false
namespace Go.Proofs.YtkebkmbfglodlaaDoor
open Go.RowKit
open Go.Maps (Keyed)
open Go.ChangeMaps (setBlock heap_setBlock_same heap_setBlock_other modify_eq_set)
section
variable {κ β : Type}
def fput [DecidableEq κ] (f : κ → Option β) (x : κ) (y : Option β) : κ → Option β := fun z => if z = x then y else f z
/-- Block b is a map of at most n entries that holds f. -/
def MapIs (w : World) (P : Program) (k : TypeId) (b n : Nat) (enc : κ → Value) (ev : β → Value) (f : κ → Option β) : Prop :=
  ∃ es clock, w.heap[b]? = some (.map es clock) ∧ es.size ≤ n ∧ (∀ e ∈ es.toList, ∃ l, keyOf P k e.key = some l) ∧ MapKept.Stamped es clock ∧
    (∀ e ∈ es.toList, ∃ x y, e.key = enc x ∧ e.val = ev y ∧ f x = some y) ∧ ∀ x y, f x = some y → ∃ e ∈ es.toList, e.key = enc x ∧ e.val = ev y
variable {P : Program} {k : TypeId} {b n : Nat} {enc : κ → Value} {ev : β → Value} {f : κ → Option β} {w : World}
theorem MapIs.made (w : World) (P : Program) (k : TypeId) (enc : κ → Value) (ev : β → Value) : MapIs (w.alloc (.map #[] 0)) P k w.heap.size 0 enc ev (fun _ => none) :=
  ⟨#[], 0, heap_alloc_new w _, Nat.le_refl _, by simp, MapKept.stamped_empty 0, by simp, by simp⟩
theorem MapIs.lt (h : MapIs w P k b n enc ev f) : b < w.heap.size := by
  obtain ⟨es, clock, hb, _⟩ := h
  exact (Array.getElem?_eq_some_iff.1 hb).1
theorem MapIs.move {w' : World} (h : MapIs w P k b n enc ev f) (hm : w'.heap[b]? = w.heap[b]?) : MapIs w' P k b n enc ev f := by
  obtain ⟨es, clock, hb, r⟩ := h
  exact ⟨es, clock, hm.trans hb, r⟩
theorem MapIs.room (h : MapIs w P k b n enc ev f) {m : Nat} (hm : n ≤ m) : MapIs w P k b m enc ev f := by
  obtain ⟨es, clock, hb, hs, r⟩ := h
  exact ⟨es, clock, hb, Nat.le_trans hs hm, r⟩
theorem MapIs.look_some {t e : TypeId} (h : MapIs w P k b n enc ev f) (K : Keyed P k) (inj : ∀ x y, enc x = enc y → x = y) (ht : P.underlying t = some (.map k e)) {x : κ} {y : β} {kl : Lit} (hkey : keyOf P k (enc x) = some kl) (hf : f x = some y) (c : Bool) :
    (Instr.lookup t (.map (some b)) (enc x) c).run P w = .ok (if c then .tuple #[ev y, .bool true] else ev y) w := by
  obtain ⟨es, clock, hb, _, hk, hd, h1, h2⟩ := h
  rcases K.find w hkey es.toList hk with ⟨hr, hn⟩ | ⟨j, e0, hr, hj, he⟩
  · obtain ⟨e0, hm, he, _⟩ := h2 x y hf
    exact absurd he (hn e0 hm)
  · obtain ⟨x', y', a1, a2, a3⟩ := h1 e0 (List.mem_of_getElem? hj)
    obtain rfl : x' = x := inj _ _ (a1.symm.trans he)
    rw [hf] at a3
    injection a3 with a3
    subst a3
    rw [a2] at hr
    cases c <;> simp [Instr.lookup, run_underlying ht, MapKept.run_getObj_map hb, K.check w _ hkey, hr, Result.andThen]
theorem MapIs.look_none {t e : TypeId} (h : MapIs w P k b n enc ev f) (K : Keyed P k) (inj : ∀ x y, enc x = enc y → x = y) (ht : P.underlying t = some (.map k e)) {z : Value} (hz : (zeroValue e).run P w = .ok z w) {x : κ} {kl : Lit} (hkey : keyOf P k (enc x) = some kl) (hf : f x = none) (c : Bool) :
    (Instr.lookup t (.map (some b)) (enc x) c).run P w = .ok (if c then .tuple #[z, .bool false] else z) w := by
  obtain ⟨es, clock, hb, _, hk, hd, h1, h2⟩ := h
  rcases K.find w hkey es.toList hk with ⟨hr, hn⟩ | ⟨j, e0, hr, hj, he⟩
  · cases c <;> simp [Instr.lookup, run_underlying ht, MapKept.run_getObj_map hb, K.check w _ hkey, hr, hz, Result.andThen]
  · obtain ⟨x', y', a1, a2, a3⟩ := h1 e0 (List.mem_of_getElem? hj)
    obtain rfl : x' = x := inj _ _ (a1.symm.trans he)
    rw [hf] at a3
    cases a3
variable [DecidableEq κ]
theorem grownBy_setBlock (w : World) (b : Nat) (o : Obj) {es : Array MapEntry} {clock : Nat} (hb : w.heap[b]? = some (.map es clock)) : w.grownBy (setBlock w b o) (some b) :=
  ⟨rfl, rfl, rfl, by simp [setBlock], fun i _ hi => heap_setBlock_other hb _ (fun e => hi (by rw [e]))⟩
theorem MapIs.update {t e : TypeId} (h : MapIs w P k b n enc ev f) (K : Keyed P k) (inj : ∀ x y, enc x = enc y → x = y) (ht : P.underlying t = some (.map k e)) {x : κ} {y : β} {kl : Lit} (hkey : keyOf P k (enc x) = some kl) :
    ∃ w', (Instr.mapUpdate t (.map (some b)) (enc x) (ev y)).run P w = .ok () w' ∧ MapIs w' P k b (n + 1) enc ev (fput f x (some y)) ∧ w.grownBy w' (some b) := by
  obtain ⟨es, clock, hb, hsz, hk, hst, h1, h2⟩ := h
  have hd := ((MapKept.stamped_iff es clock).1 hst).2.2
  rcases K.find w hkey es.toList hk with ⟨hr, hn⟩ | ⟨j, e0, hr, hj, he⟩
  · refine ⟨setBlock w b (.map (es.push ⟨enc x, ev y, clock⟩) (clock + 1)), by simp [Instr.mapUpdate, run_underlying ht, MapKept.run_getObj_map hb, K.check w false hkey, hr, MapKept.run_setObj_map _ hb, Result.andThen, setBlock], ?_, grownBy_setBlock w b _ hb⟩
    refine ⟨_, _, heap_setBlock_same hb _, by simp; omega, ?_, ?_, ?_, ?_⟩
    · intro e' he'
      simp only [Array.toList_push, List.mem_append, List.mem_singleton] at he'
      rcases he' with he' | rfl
      · exact hk e' he'
      · exact ⟨kl, hkey⟩
    · exact MapKept.stamped_push hst hn
    · intro e' he'
      simp only [Array.toList_push, List.mem_append, List.mem_singleton] at he'
      rcases he' with he' | rfl
      · obtain ⟨x', y', a1, a2, a3⟩ := h1 e' he'
        refine ⟨x', y', a1, a2, ?_⟩
        have hne : x' ≠ x := fun e => hn e' he' (by rw [a1, e])
        simp [fput, hne, a3]
      · exact ⟨x, y, rfl, rfl, by simp [fput]⟩
    · intro x' y' hf
      by_cases hx : x' = x
      · subst hx
        simp [fput] at hf
        subst hf
        exact ⟨⟨enc x', ev y, clock⟩, by simp, rfl, rfl⟩
      · simp [fput, hx] at hf
        obtain ⟨e', m1, m2, m3⟩ := h2 x' y' hf
        exact ⟨e', by simp [m1], m2, m3⟩
  · have hj' : es[j]? = some e0 := by simpa using hj
    have hjl : j < es.toList.length := (List.getElem?_eq_some_iff.1 hj).1
    have hlist : (es.modify j (fun e' => { e' with key := enc x, val := ev y })).toList = es.toList.set j { e0 with key := enc x, val := ev y } := by rw [Array.toList_modify, modify_eq_set _ _ _ _ hj]
    have who : ∀ z ∈ es.toList.set j { e0 with key := enc x, val := ev y }, z = { e0 with key := enc x, val := ev y } ∨ (z ∈ es.toList ∧ z.key ≠ enc x) := by
      intro z hz
      obtain ⟨i, hi, ex⟩ := List.getElem_of_mem hz
      rw [List.getElem_set] at ex
      split at ex
      · exact Or.inl ex.symm
      · rename_i hne
        have hi' : i < es.toList.length := by simpa using hi
        refine Or.inr ⟨ex ▸ List.getElem_mem hi', ?_⟩
        rw [← he, ← ex]
        rcases Nat.lt_or_gt_of_ne hne with hlt | hlt
        · have := List.pairwise_iff_getElem.1 hd j i hjl hi' hlt
          rw [(List.getElem?_eq_some_iff.1 hj).2] at this
          exact fun e => this e.symm
        · have := List.pairwise_iff_getElem.1 hd i j hi' hjl hlt
          rw [(List.getElem?_eq_some_iff.1 hj).2] at this
          exact this
    refine ⟨setBlock w b (.map (es.modify j (fun e' => { e' with key := enc x, val := ev y })) clock), by simp [Instr.mapUpdate, run_underlying ht, MapKept.run_getObj_map hb, K.check w false hkey, hr, hj', he, K.stays w hkey, MapKept.run_setObj_map _ hb, Result.andThen, setBlock], ?_, grownBy_setBlock w b _ hb⟩
    refine ⟨_, _, heap_setBlock_same hb _, by rw [Array.size_modify]; omega, ?_, ?_, ?_, ?_⟩
    · intro e' he'
      rw [hlist] at he'
      rcases who e' he' with rfl | ⟨m, _⟩
      · exact ⟨kl, hkey⟩
      · exact hk e' m
    · exact MapKept.stamped_modify hst j _ (fun _ _ => rfl) (fun e1 _ h => by rw [hj'] at h; injection h with h; subst h; exact he.symm)
    · intro e' he'
      rw [hlist] at he'
      rcases who e' he' with rfl | ⟨m, hne⟩
      · exact ⟨x, y, rfl, rfl, by simp [fput]⟩
      · obtain ⟨x', y', a1, a2, a3⟩ := h1 e' m
        have hx : x' ≠ x := fun e => hne (by rw [a1, e])
        exact ⟨x', y', a1, a2, by simp [fput, hx, a3]⟩
    · intro x' y' hf
      rw [hlist]
      by_cases hx : x' = x
      · subst hx
        simp [fput] at hf
        subst hf
        exact ⟨_, List.mem_set hjl _, rfl, rfl⟩
      · simp [fput, hx] at hf
        obtain ⟨e', m1, m2, m3⟩ := h2 x' y' hf
        obtain ⟨i, hi, ei⟩ := List.getElem_of_mem m1
        have hne : j ≠ i := by
          rintro rfl
          rw [(List.getElem?_eq_some_iff.1 hj).2] at ei
          rw [← ei, he] at m2
          exact hx (inj _ _ m2.symm)
        exact ⟨e', by
          rw [List.mem_iff_getElem]
          exact ⟨i, by rw [List.length_set]; exact hi, by rw [List.getElem_set, if_neg hne]; exact ei⟩, m2, m3⟩
theorem MapIs.delete {t e ty : TypeId} (h : MapIs w P k b n enc ev f) (K : Keyed P k) (inj : ∀ x y, enc x = enc y → x = y) (ht : P.underlying t = some (.map k e)) {x : κ} {kl : Lit} (hkey : keyOf P k (enc x) = some kl) :
    ∃ w', (Builtin.delete_ #[t, k] ty #[.map (some b), enc x]).run P w = .ok (.tuple #[]) w' ∧ MapIs w' P k b n enc ev (fput f x none) ∧ w.grownBy w' (some b) := by
  obtain ⟨es, clock, hb, hsz, hk, hst, h1, h2⟩ := h
  have hd := ((MapKept.stamped_iff es clock).1 hst).2.2
  rcases K.find w hkey es.toList hk with ⟨hr, hn⟩ | ⟨j, e0, hr, hj, he⟩
  · refine ⟨setBlock w b (.map es clock), by simp [Builtin.delete_, run_underlying ht, MapKept.run_getObj_map hb, K.check w _ hkey, hr, MapKept.run_setObj_map _ hb, Result.andThen, setBlock], ?_, grownBy_setBlock w b _ hb⟩
    refine ⟨_, _, heap_setBlock_same hb _, hsz, hk, hst, ?_, ?_⟩
    · intro e' he'
      obtain ⟨x', y', a1, a2, a3⟩ := h1 e' he'
      have hne : x' ≠ x := fun e => hn e' he' (by rw [a1, e])
      exact ⟨x', y', a1, a2, by simp [fput, hne, a3]⟩
    · intro x' y' hf
      by_cases hx : x' = x
      · subst hx; simp [fput] at hf
      · simp [fput, hx] at hf
        exact h2 x' y' hf
  · have hjl : j < es.toList.length := (List.getElem?_eq_some_iff.1 hj).1
    have hjs : j < es.size := by simpa using hjl
    have hsub : (es.eraseIdxIfInBounds j).toList = es.toList.eraseIdx j := by
      unfold Array.eraseIdxIfInBounds
      rw [dif_pos hjs]
      simp
    have e0j : es.toList[j] = e0 := (List.getElem?_eq_some_iff.1 hj).2
    refine ⟨setBlock w b (.map (es.eraseIdxIfInBounds j) clock), by simp [Builtin.delete_, run_underlying ht, MapKept.run_getObj_map hb, K.check w _ hkey, hr, MapKept.run_setObj_map _ hb, Result.andThen, setBlock], ?_, grownBy_setBlock w b _ hb⟩
    refine ⟨_, _, heap_setBlock_same hb _, Nat.le_trans (MapFrom.size_erase es j) hsz, ?_, ?_, ?_, ?_⟩
    · intro e' he'
      rw [hsub] at he'
      exact hk e' ((List.eraseIdx_sublist _ _).subset he')
    · exact MapKept.stamped_erase hst j
    · intro e' he'
      rw [hsub] at he'
      rw [List.mem_eraseIdx_iff_getElem] at he'
      obtain ⟨i, hi, hne, rfl⟩ := he'
      obtain ⟨x', y', a1, a2, a3⟩ := h1 _ (List.getElem_mem hi)
      have hx : x' ≠ x := by
        rintro rfl
        rw [← he, ← e0j] at a1
        rcases Nat.lt_or_gt_of_ne hne with hlt | hlt
        · exact List.pairwise_iff_getElem.1 hd i j hi hjl hlt a1
        · exact List.pairwise_iff_getElem.1 hd j i hjl hi hlt a1.symm
      exact ⟨x', y', a1, a2, by simp [fput, hx, a3]⟩
    · intro x' y' hf
      by_cases hx : x' = x
      · subst hx; simp [fput] at hf
      · simp [fput, hx] at hf
        obtain ⟨e', m1, m2, m3⟩ := h2 x' y' hf
        obtain ⟨i, hi, ei⟩ := List.getElem_of_mem m1
        have hne : i ≠ j := by
          rintro rfl
          rw [e0j] at ei
          rw [← ei, he] at m2
          exact hx (inj _ _ m2.symm)
        exact ⟨e', by rw [hsub, List.mem_eraseIdx_iff_getElem]; exact ⟨i, hi, hne, ei⟩, m2, m3⟩
end
/-! as an assertion -/
def Hp.mp {κ β : Type} (P : Program) (k : TypeId) (b n : Nat) (enc : κ → Value) (ev : β → Value) (f : κ → Option β) : Hp where
  H w F := MapIs w P k b n enc ev f ∧ ∀ k, F k ↔ k = b
  lt h k hk := by rw [(h.2 k).1 hk]; exact h.1.lt
  move h hm := ⟨h.1.move (hm b ((h.2 b).2 rfl)), h.2⟩
namespace At
variable {F0 : Nat → Prop} {w0 w w1 : World} {A B R : Hp} {l : List Hp} {κ β : Type} {P : Program} {k : TypeId} {b n : Nat} {enc : κ → Value} {ev : β → Value} {f g : κ → Option β}
theorem mpNew (h : At F0 w0 w (Hp.seps l)) (P : Program) (k : TypeId) (enc : κ → Value) (ev : β → Value) : At F0 w0 (w.alloc (.map #[] 0)) (Hp.seps (Hp.mp P k w.heap.size 0 enc ev (fun _ => none) :: l)) := by
  obtain ⟨F, hA, hF, hB⟩ := h.out
  refine ⟨fun k => k = w.heap.size ∨ F k, ⟨fun k => k = w.heap.size, F, ⟨MapIs.made w P k enc ev, fun _ => Iff.rfl⟩, Hp.below hA ((Below.refl _ _).alloc (Nat.le_refl _) _), fun k h1 h2 => by have := Hp.lt _ hA k h2; omega, fun _ => Iff.rfl⟩, ?_, hB.alloc _⟩
  rintro k (h1 | h1)
  · rw [h1]; exact .inr hB.size
  · exact hF k h1
theorem mpAt (m : Nat) (h : At F0 w0 w (Hp.seps l)) (ha : l[m]? = some (Hp.mp P k b n enc ev f)) : MapIs w P k b n enc ev f := by
  obtain ⟨F, hA, hF, hB⟩ := (h.one m ha).out
  exact hA.1
theorem mpLt (m : Nat) (h : At F0 w0 w (Hp.seps l)) (ha : l[m]? = some (Hp.mp P k b n enc ev f)) : b < w.heap.size := (h.mpAt m ha).lt
theorem mpGrown {n' : Nat} (m : Nat) (h : At F0 w0 w (Hp.seps l)) (ha : l[m]? = some (Hp.mp P k b n enc ev f)) (hr : MapIs w1 P k b n' enc ev g) (hg : w.grownBy w1 (some b)) : At F0 w0 w1 (Hp.seps (l.set m (Hp.mp P k b n' enc ev g))) := by
  refine At.put ?_ (idx_lt ha)
  obtain ⟨F, ⟨FA, FR, ⟨_, hv⟩, hR, hd, hF0⟩, hF, hB⟩ := (h.pick m ha).out
  have hb : FA b := (hv b).2 rfl
  refine ⟨F, ⟨FA, FR, ⟨hr, hv⟩, Hp.move _ hR fun k hk => hg.block k (Hp.lt _ hR k hk) (fun e => hd k ((hv k).2 (by injection e)) hk), hd, hF0⟩, hF, hB.grown hg fun k hk => ?_⟩
  injection hk with hk
  subst hk
  exact hF _ ((hF0 _).2 (.inl hb))
theorem neMB {gb t : Nat} {cs : Array Value} (m m' : Nat) (h : At F0 w0 w (Hp.seps l)) (ha : l[m]? = some (Hp.mp P k b n enc ev f)) (hb : l[m']? = some (Hp.blk gb cs t)) (hn : m ≠ m') : b ≠ gb := by
  obtain ⟨FA, FB, h1, h2, h3⟩ := h.disj m m' ha hb hn
  rintro rfl
  exact h3 b ((h1.2 b).2 rfl) ((h2.2 b).2 rfl)
theorem neMR {α : Type} {e size gb q c : Nat} {encA : α → List Value} {xs : List α} (m m' : Nat) (h : At F0 w0 w (Hp.seps l)) (ha : l[m]? = some (Hp.mp P k b n enc ev f)) (hb : l[m']? = some (Hp.row e size encA (.slice (some ⟨gb, 0, none⟩) q c) xs)) (hn : m ≠ m') : b ≠ gb := by
  obtain ⟨FA, FB, h1, h2, h3⟩ := h.disj m m' ha hb hn
  rintro rfl
  exact h3 b ((h1.2 b).2 rfl) (h2.2.1 b rfl)
end At
section
variable {P : Program} {ops : Array Oper} {rest : List Oper} {o : Oper} {a : Act} {Q : Exit → Act → World → Prop} {K' : Act → World → Prop} {V : World} {κ β : Type} [DecidableEq κ] {k : TypeId} {b n : Nat} {enc : κ → Value} {ev : β → Value} {f : κ → Option β} {E : Prop}
theorem rw_mapUpdate_wp (m x v : Operand) (t : TypeId) (hop : o.op = Op.mapUpdate t m x v) (e : TypeId) (K : Keyed P k) (inj : ∀ x y, enc x = enc y → x = y) (ht : P.underlying t = some (.map k e))
    (hm : a.eval m = .map (some b)) (h : MapIs V P k b n enc ev f) (key : κ) (y : β) (kl : Lit) (hx : a.eval x = enc key) (hv : a.eval v = ev y) (hkey : keyOf P k (enc key) = some kl)
    (hK : ∀ w', MapIs w' P k b (n + 1) enc ev (fput f key (some y)) → V.grownBy w' (some b) → K' (a.put o.dst undef) w') : o.wp P a V K' Q := by
  obtain ⟨w', hrun, r1, r2⟩ := h.update K inj ht (y := y) hkey
  unfold Oper.wp
  simp [execOp, hop, hm, hx, hv, hrun, Result.andThen]
  exact hK w' r1 r2
theorem rw_mapUpdate (hg : o.guard = none) (m x v : Operand) (t : TypeId) (hop : o.op = Op.mapUpdate t m x v) (e : TypeId) (K : Keyed P k) (inj : ∀ x y, enc x = enc y → x = y) (ht : P.underlying t = some (.map k e))
    (hm : a.eval m = .map (some b)) (h : MapIs V P k b n enc ev f) (key : κ) (y : β) (kl : Lit) (hx : a.eval x = enc key) (hv : a.eval v = ev y) (hkey : keyOf P k (enc key) = some kl)
    (hK : ∀ w', MapIs w' P k b (n + 1) enc ev (fput f key (some y)) → V.grownBy w' (some b) → wpList P ops Q rest (a.put o.dst undef) w') : wpList P ops Q (o :: rest) a V :=
  wpList_plain hg fun _ hk => rw_mapUpdate_wp m x v t hop e K inj ht hm h key y kl hx hv hkey fun w' h1 h2 => hk _ _ (hK w' h1 h2)
theorem rw_mapUpdate_step (hg : o.guard = none) (m x v : Operand) (t : TypeId) (hop : o.op = Op.mapUpdate t m x v) (e : TypeId) (K : Keyed P k) (inj : ∀ x y, enc x = enc y → x = y) (ht : P.underlying t = some (.map k e))
    (hm : a.eval m = .map (some b)) (h : MapIs V P k b n enc ev f) (key : κ) (y : β) (kl : Lit) (hx : a.eval x = enc key) (hv : a.eval v = ev y) (hkey : keyOf P k (enc key) = some kl)
    (hK : ∀ w', MapIs w' P k b (n + 1) enc ev (fput f key (some y)) → V.grownBy w' (some b) → K' (a.put o.dst undef) w') : if Region.wanted o (yielded ops a.tmps) = true then o.wp P a V K' Q else E := by
  rw [if_pos (by simp [Region.wanted, hg])]
  exact rw_mapUpdate_wp m x v t hop e K inj ht hm h key y kl hx hv hkey hK
theorem rw_mapDelete (hg : o.guard = none) (m x : Operand) (t : TypeId) (hop : o.op = Op.call { callee := .builtin .delete, args := #[m, x], argTypes := #[t, k] }) (e : TypeId) (K : Keyed P k) (inj : ∀ x y, enc x = enc y → x = y) (ht : P.underlying t = some (.map k e))
    (hm : a.eval m = .map (some b)) (h : MapIs V P k b n enc ev f) (key : κ) (kl : Lit) (hx : a.eval x = enc key) (hkey : keyOf P k (enc key) = some kl)
    (hK : ∀ w', MapIs w' P k b n enc ev (fput f key none) → V.grownBy w' (some b) → wpList P ops Q rest (a.put o.dst (.tuple #[])) w') : wpList P ops Q (o :: rest) a V :=
  wpList_plain hg fun _ hk => by
    obtain ⟨w', hrun, r1, r2⟩ := h.delete (ty := o.type) K inj ht hkey
    unfold Oper.wp execOp
    simp only [hop, resolve, invoke, builtin, Sem.run_bind, Sem.run_pure, Result.andThen_ok, List.map_toArray, List.map_cons, List.map_nil, hm, hx, hrun]
    exact hk _ _ (hK w' r1 r2)
end
end Go.Proofs.YtkebkmbfglodlaaDoor
