/-
  DERIVED. GIVEN WITH THE SEED: THE CARDS: each row of YthbmfinaoejheaaDoorRows.lean that lists a variable, with what it lists TIED to the program's text (the seventh form; the later family's looks); each row that meets fmt, with fmt's text TOLD by the authors' own Lean function (tested against real Go, not proved from fmt's source: count such statements apart). THE CARD IS WHAT COUNTS. Prove the row's statement (the work); the ties are given (YthbmfinaoejheaaDoorTie.lean); close each card by the builder's one call (the guide's Derived/Test/ToyasCard.lean, 'card_holds'). Laid BY PROGRAM, IN A SANDBOX (cutbox-door.mjs). By AI agents, Wed Nov 11 2026. No macro, syntax, notation, axiom, sorry.
-/
import Derived.Test.YthbmfinaoejheaaDoorRows
import GoSem.ClaimSeven
namespace Go.Proofs.YthbmfinaoejheaaDoor
namespace Rows

/-- THE TIED CARD OF 'puppeteerlaw4.TableCells'. -/
def tableCellsCard : Claim7 := { stood := { row := tableCellsRow, standIns := [], harness := (true, "1b496573e9fe13784e1b3224fc27dd8002b0867d3589a47aa7d6695e3d8337bf"), looks := false }, kinds := [], alts := [], laidByText := true, laidKinds := [.data], laidTests := true, laidLooks := .later }
def TableCellsCardSaid : Prop := Claim7.holds Tryd.pinned (.plain (OpenSpec.ofChange tableCellsSpec)) tableCellsCard

/-- THE TIED CARD OF 'puppeteerlaw4.TableMoves'. -/
def tableMovesCard : Claim7 := { stood := { row := tableMovesRow, standIns := [], harness := (true, "1b496573e9fe13784e1b3224fc27dd8002b0867d3589a47aa7d6695e3d8337bf"), looks := false }, kinds := [], alts := [], laidByText := true, laidKinds := [.data], laidTests := true, laidLooks := .later }
def TableMovesCardSaid : Prop := Claim7.holds Tryd.pinned (.plain (OpenSpec.ofChange tableMovesSpec)) tableMovesCard

/-- THE TIED CARD OF 'puppeteerlaw4.TablePlays'. -/
def tablePlaysCard : Claim7 := { stood := { row := tablePlaysRow, standIns := [], harness := (true, "1b496573e9fe13784e1b3224fc27dd8002b0867d3589a47aa7d6695e3d8337bf"), looks := false }, kinds := [], alts := [], laidByText := true, laidKinds := [.data], laidTests := true, laidLooks := .later }
def TablePlaysCardSaid : Prop := Claim7.holds Tryd.pinned (.plain (OpenSpec.ofChange tablePlaysSpec)) tablePlaysCard

/-- THE SECOND FORM's CARD OF 'puppeteerlaw4.TableCells'. -/
def tableCellsUptoCard : Claim7 := { stood := { row := tableCellsUptoRow, standIns := [], harness := (true, "1b496573e9fe13784e1b3224fc27dd8002b0867d3589a47aa7d6695e3d8337bf"), looks := false }, kinds := [], alts := [], laidByText := true, laidKinds := [.data], laidTests := true, laidLooks := .later }
def TableCellsUptoCardSaid : Prop := Claim7.holds Tryd.pinned (.plain (OpenSpec.upto tableCellsSpec)) tableCellsUptoCard

/-- THE SECOND FORM's CARD OF 'puppeteerlaw4.TableMoves'. -/
def tableMovesUptoCard : Claim7 := { stood := { row := tableMovesUptoRow, standIns := [], harness := (true, "1b496573e9fe13784e1b3224fc27dd8002b0867d3589a47aa7d6695e3d8337bf"), looks := false }, kinds := [], alts := [], laidByText := true, laidKinds := [.data], laidTests := true, laidLooks := .later }
def TableMovesUptoCardSaid : Prop := Claim7.holds Tryd.pinned (.plain (OpenSpec.upto tableMovesSpec)) tableMovesUptoCard

/-- THE SECOND FORM's CARD OF 'puppeteerlaw4.TablePlays'. -/
def tablePlaysUptoCard : Claim7 := { stood := { row := tablePlaysUptoRow, standIns := [], harness := (true, "1b496573e9fe13784e1b3224fc27dd8002b0867d3589a47aa7d6695e3d8337bf"), looks := false }, kinds := [], alts := [], laidByText := true, laidKinds := [.data], laidTests := true, laidLooks := .later }
def TablePlaysUptoCardSaid : Prop := Claim7.holds Tryd.pinned (.plain (OpenSpec.upto tablePlaysSpec)) tablePlaysUptoCard
end Rows
end Go.Proofs.YthbmfinaoejheaaDoor
