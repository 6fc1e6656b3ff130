/- Merging in place: all rows (given the step). NOT BUILT until SoH is clean. -/
import Derived.Test.YtjgeccnfdndllaaSoH
set_option linter.unusedVariables false
set_option linter.unusedSimpArgs false
namespace Go.Proofs.Ytjgeccnfdndllaa
open Go.RowKit
theorem sm_all : ∀ K, SMDo K
  | 0 => fun w0 bx A cA ws hR w lst g c a m b N P L1 L2 Q hs h1 h2 hK => by
    have := List.length_pos_iff.2 h1
    omega
  | K + 1 => fun w0 bx A cA ws hR w lst g c a m b N P L1 L2 Q hs h1 h2 hK ha hm hb hN hNb hS => by
    have p1 := List.length_pos_iff.2 h1
    have p2 := List.length_pos_iff.2 h2
    by_cases e1 : L1.length = 1
    · obtain ⟨x, rfl⟩ := List.length_eq_one_iff.1 e1
      exact sm_left bx A cA ws hR g c a m b N P x L2 Q hs ha hm hb hN hNb hS
    · by_cases e2 : L2.length = 1
      · obtain ⟨y, rfl⟩ := List.length_eq_one_iff.1 e2
        exact sm_right bx A cA ws hR g c a m b N P y L1 Q hs e1 ha hm hb hN hNb hS
      · exact sm_main K (sm_all K) w0 bx A cA ws hR w lst g c a m b N P L1 L2 Q hs (by omega) (by omega) hK ha hm hb hN hNb hS
end Go.Proofs.Ytjgeccnfdndllaa
