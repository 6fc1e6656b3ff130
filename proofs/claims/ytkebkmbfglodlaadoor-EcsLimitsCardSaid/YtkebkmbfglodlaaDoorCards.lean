/-
  DERIVED. GIVEN WITH THE SEED: THE CARDS: each row of YtkebkmbfglodlaaDoorRows.lean that lists a variable, with what it lists TIED to the program's text (the seventh form; the later family's looks); each row that meets fmt, with fmt's text TOLD by the authors' own Lean function (tested against real Go, not proved from fmt's source: count such statements apart). THE CARD IS WHAT COUNTS. Prove the row's statement (the work); the ties are given (YtkebkmbfglodlaaDoorTie.lean); close each card by the builder's one call (the guide's Derived/Test/ToyasCard.lean, 'card_holds'). Laid BY PROGRAM, IN A SANDBOX (cutbox-door.mjs). By AI agents, Wed Nov 11 2026. No macro, syntax, notation, axiom, sorry.
-/
import Derived.Test.YtkebkmbfglodlaaDoorRows
import GoSem.ClaimSeven
namespace Go.Proofs.YtkebkmbfglodlaaDoor
namespace Rows

/-- THE TIED CARD OF 'puppeteerlaw5.EcsMaps'. -/
def ecsMapsCard : Claim7 := { stood := { row := ecsMapsRow, standIns := [], harness := (true, "b05bd89a2dd92ffe191a59aaa3d0703521f77c2f6e4722d8327f0c94c88b9187"), looks := false }, kinds := [], alts := [], laidByText := true, laidKinds := [.data], laidTests := true, laidLooks := .later }
def EcsMapsCardSaid : Prop := Claim7.holds Tryd.pinned (.plain (OpenSpec.ofChange ecsMapsSpec)) ecsMapsCard

/-- THE TIED CARD OF 'puppeteerlaw5.EcsPlays'. -/
def ecsPlaysCard : Claim7 := { stood := { row := ecsPlaysRow, standIns := [], harness := (true, "b05bd89a2dd92ffe191a59aaa3d0703521f77c2f6e4722d8327f0c94c88b9187"), looks := false }, kinds := [], alts := [], laidByText := true, laidKinds := [.data], laidTests := true, laidLooks := .later }
def EcsPlaysCardSaid : Prop := Claim7.holds Tryd.pinned (.plain (OpenSpec.ofChange ecsPlaysSpec)) ecsPlaysCard

/-- THE TIED CARD OF 'puppeteerlaw5.EcsQueries'. -/
def ecsQueriesCard : Claim7 := { stood := { row := ecsQueriesRow, standIns := [], harness := (true, "b05bd89a2dd92ffe191a59aaa3d0703521f77c2f6e4722d8327f0c94c88b9187"), looks := false }, kinds := [], alts := [], laidByText := true, laidKinds := [.data], laidTests := true, laidLooks := .later }
def EcsQueriesCardSaid : Prop := Claim7.holds Tryd.pinned (.plain (OpenSpec.ofChange ecsQueriesSpec)) ecsQueriesCard

/-- THE TIED CARD OF 'puppeteerlaw5.EcsLimits'. -/
def ecsLimitsCard : Claim7 := { stood := { row := ecsLimitsRow, standIns := [], harness := (true, "b05bd89a2dd92ffe191a59aaa3d0703521f77c2f6e4722d8327f0c94c88b9187"), looks := false }, kinds := [], alts := [], laidByText := true, laidKinds := [.data], laidTests := true, laidLooks := .later }
def EcsLimitsCardSaid : Prop := Claim7.holds Tryd.pinned (.plain (OpenSpec.ofChange ecsLimitsSpec)) ecsLimitsCard

/-- THE TIED CARD OF 'puppeteerlaw5.EcsRows'. -/
def ecsRowsCard : Claim7 := { stood := { row := ecsRowsRow, standIns := [], harness := (true, "b05bd89a2dd92ffe191a59aaa3d0703521f77c2f6e4722d8327f0c94c88b9187"), looks := false }, kinds := [], alts := [], laidByText := true, laidKinds := [.data], laidTests := true, laidLooks := .later }
def EcsRowsCardSaid : Prop := Claim7.holds Tryd.pinned (.plain (OpenSpec.ofChange ecsRowsSpec)) ecsRowsCard

/-- THE SECOND FORM's CARD OF 'puppeteerlaw5.EcsMaps'. -/
def ecsMapsUptoCard : Claim7 := { stood := { row := ecsMapsUptoRow, standIns := [], harness := (true, "b05bd89a2dd92ffe191a59aaa3d0703521f77c2f6e4722d8327f0c94c88b9187"), looks := false }, kinds := [], alts := [], laidByText := true, laidKinds := [.data], laidTests := true, laidLooks := .later }
def EcsMapsUptoCardSaid : Prop := Claim7.holds Tryd.pinned (.plain (OpenSpec.upto ecsMapsSpec)) ecsMapsUptoCard

/-- THE SECOND FORM's CARD OF 'puppeteerlaw5.EcsPlays'. -/
def ecsPlaysUptoCard : Claim7 := { stood := { row := ecsPlaysUptoRow, standIns := [], harness := (true, "b05bd89a2dd92ffe191a59aaa3d0703521f77c2f6e4722d8327f0c94c88b9187"), looks := false }, kinds := [], alts := [], laidByText := true, laidKinds := [.data], laidTests := true, laidLooks := .later }
def EcsPlaysUptoCardSaid : Prop := Claim7.holds Tryd.pinned (.plain (OpenSpec.upto ecsPlaysSpec)) ecsPlaysUptoCard

/-- THE SECOND FORM's CARD OF 'puppeteerlaw5.EcsQueries'. -/
def ecsQueriesUptoCard : Claim7 := { stood := { row := ecsQueriesUptoRow, standIns := [], harness := (true, "b05bd89a2dd92ffe191a59aaa3d0703521f77c2f6e4722d8327f0c94c88b9187"), looks := false }, kinds := [], alts := [], laidByText := true, laidKinds := [.data], laidTests := true, laidLooks := .later }
def EcsQueriesUptoCardSaid : Prop := Claim7.holds Tryd.pinned (.plain (OpenSpec.upto ecsQueriesSpec)) ecsQueriesUptoCard

/-- THE SECOND FORM's CARD OF 'puppeteerlaw5.EcsLimits'. -/
def ecsLimitsUptoCard : Claim7 := { stood := { row := ecsLimitsUptoRow, standIns := [], harness := (true, "b05bd89a2dd92ffe191a59aaa3d0703521f77c2f6e4722d8327f0c94c88b9187"), looks := false }, kinds := [], alts := [], laidByText := true, laidKinds := [.data], laidTests := true, laidLooks := .later }
def EcsLimitsUptoCardSaid : Prop := Claim7.holds Tryd.pinned (.plain (OpenSpec.upto ecsLimitsSpec)) ecsLimitsUptoCard

/-- THE SECOND FORM's CARD OF 'puppeteerlaw5.EcsRows'. -/
def ecsRowsUptoCard : Claim7 := { stood := { row := ecsRowsUptoRow, standIns := [], harness := (true, "b05bd89a2dd92ffe191a59aaa3d0703521f77c2f6e4722d8327f0c94c88b9187"), looks := false }, kinds := [], alts := [], laidByText := true, laidKinds := [.data], laidTests := true, laidLooks := .later }
def EcsRowsUptoCardSaid : Prop := Claim7.holds Tryd.pinned (.plain (OpenSpec.upto ecsRowsSpec)) ecsRowsUptoCard
end Rows
end Go.Proofs.YtkebkmbfglodlaaDoor
