/-
  No cell of these rows narrows 'for every input' (looked for: loops, veiled, ifaces, maps, wideKeys, modest, calm, conditions, laid).
  DERIVED. THE GIVEN ROWS OF THIS SEAT. 3 by the template 'for every input the law returns true; each argument reads behind the call as it read before'; 0 by the template 'total and deterministic' (their statements: YtdbdijicicbhfaaTotals.lean).
  GIVEN WITH THE SEED: the statements are not yours to turn. If you find one false, say at which input.
  Laid BY PROGRAM, IN A SANDBOX (cutbox-rows.mjs): the forced cells as the released guide's own fill.sh prints them over the translation 45565a3d2291e565… (all of the seat's roots in one cut). By AI agents, Wed Nov 11 2026. No macro, syntax, notation, axiom, sorry.
-/
import Derived.Test.YtdbdijicicbhfaaChecked
import GoSem.Claim
import GoSem.ClaimJoined
import GoSem.ClaimMapViews
import Derived.JoinedTies
import Derived.KernelRfl
namespace Go.Proofs.Ytdbdijicicbhfaa
/- THE CELL 'sum', in the pinned program and in every row, IS THE sha256 OF THE DUMP (.gsa) THAT YtdbdijicicbhfaaProg.lean LOADS. Nothing in Lean hashes anything: it is a label: what it is worth is what the hold of that sum in a sandbox is worth. -/
noncomputable def Try.pinned : Pinned := { name := "ytdbdijicicbhfaa", sum := "45565a3d2291e56540b42aa6f9af54319ac945c684f4355d8c10cb4e49cb57a9", checked := Try.checked }
namespace Rows
def none {H : Type} : Left H := { results := [], args := [] }

/-- 'puppeteerlaw8.BoardScopes': WHATEVER THE INPUT: true; the input reads as it did. -/
def boardScopesSpec : ChangeSpec := { name := "boardScopes", fn := fun _ => fun
  | [d1, d2, d3, d4, d5] => { results := [.lit (.bool true)], args := [d1, d2, d3, d4, d5] }
  | _ => none }
def boardScopesRow : OpenClaim := { program := "ytdbdijicicbhfaa", sum := "45565a3d2291e56540b42aa6f9af54319ac945c684f4355d8c10cb4e49cb57a9", func := "puppeteer/puppeteerlaw8.BoardScopes", spec := "boardScopes", inPlace := ["math.Float64bits"], plainKeys := false, apart := false }
def BoardScopesSaid : Prop := boardScopesRow.holds Try.pinned (OpenSpec.ofChange boardScopesSpec)

/-- ITS FALSE NEIGHBOUR: 'it returns false'. Refute it at one input. -/
def boardScopesWrong : ChangeSpec := { name := "boardScopes", fn := fun _ => fun
  | [d1, d2, d3, d4, d5] => { results := [.lit (.bool false)], args := [d1, d2, d3, d4, d5] }
  | _ => none }
def BoardScopesWrongFalsely : Prop := boardScopesRow.holds Try.pinned (OpenSpec.ofChange boardScopesWrong)

/-- 'puppeteerlaw8.BoardStamps': WHATEVER THE INPUT: true; the input reads as it did. -/
def boardStampsSpec : ChangeSpec := { name := "boardStamps", fn := fun _ => fun
  | [d] => { results := [.lit (.bool true)], args := [d] }
  | _ => none }
def boardStampsRow : OpenClaim := { program := "ytdbdijicicbhfaa", sum := "45565a3d2291e56540b42aa6f9af54319ac945c684f4355d8c10cb4e49cb57a9", func := "puppeteer/puppeteerlaw8.BoardStamps", spec := "boardStamps", inPlace := ["math.Float64bits"], plainKeys := false, apart := false }
def BoardStampsSaid : Prop := boardStampsRow.holds Try.pinned (OpenSpec.ofChange boardStampsSpec)

/-- ITS FALSE NEIGHBOUR: 'it returns false'. Refute it at one input. -/
def boardStampsWrong : ChangeSpec := { name := "boardStamps", fn := fun _ => fun
  | [d] => { results := [.lit (.bool false)], args := [d] }
  | _ => none }
def BoardStampsWrongFalsely : Prop := boardStampsRow.holds Try.pinned (OpenSpec.ofChange boardStampsWrong)

/-- 'puppeteerlaw8.BoardForgets': WHATEVER THE INPUT: true; the input reads as it did. -/
def boardForgetsSpec : ChangeSpec := { name := "boardForgets", fn := fun _ => fun
  | [d1, d2, d3] => { results := [.lit (.bool true)], args := [d1, d2, d3] }
  | _ => none }
def boardForgetsRow : OpenClaim := { program := "ytdbdijicicbhfaa", sum := "45565a3d2291e56540b42aa6f9af54319ac945c684f4355d8c10cb4e49cb57a9", func := "puppeteer/puppeteerlaw8.BoardForgets", spec := "boardForgets", inPlace := ["math.Float64bits"], plainKeys := false, apart := false }
def BoardForgetsSaid : Prop := boardForgetsRow.holds Try.pinned (OpenSpec.ofChange boardForgetsSpec)

/-- ITS FALSE NEIGHBOUR: 'it returns false'. Refute it at one input. -/
def boardForgetsWrong : ChangeSpec := { name := "boardForgets", fn := fun _ => fun
  | [d1, d2, d3] => { results := [.lit (.bool false)], args := [d1, d2, d3] }
  | _ => none }
def BoardForgetsWrongFalsely : Prop := boardForgetsRow.holds Try.pinned (OpenSpec.ofChange boardForgetsWrong)

/- THE SECOND FORM. 'bulk': how many values and letters a reading holds, each counted each time it is reached (what is shared counts as often as it is met; a slice's spare places count too). A statement '..UptoSaid' is the law's where the arguments, and the package variables that the reading takes, are together of bulk at most 1048576: NARROWER than '..Said'. Prove '..Said' where nothing that the law and all that it calls make is longer than what came in: it says more and counts as full. Else prove '..UptoSaid'. A law counts once. -/
mutual
def uptoBulk {H : Type} : DataW H → Nat
  | .lit (.string bytes) => bytes.length + 1
  | .lit _ => 1
  | .nil => 1
  | .ptr d => uptoBulk d + 1
  | .slice elems spare => uptoBulkAll elems + uptoBulkAll spare + 1
  | .agg parts => uptoBulkAll parts + 1
  | .iface _ d => uptoBulk d + 1
  | .map entries => uptoBulkEntries entries + 1
  | .held _ => 1
def uptoBulkAll {H : Type} : List (DataW H) → Nat
  | [] => 0
  | d :: r => uptoBulk d + uptoBulkAll r
def uptoBulkEntries {H : Type} : List (Lit × DataW H) → Nat
  | [] => 0
  | x :: r => uptoBulkEntry x + uptoBulkEntries r
def uptoBulkEntry {H : Type} : Lit × DataW H → Nat
  | (.string bytes, d) => bytes.length + uptoBulk d + 1
  | (_, d) => uptoBulk d + 1
 end
def uptoSmall : (H : Type) → List (DataW H) → Bool := fun _ ds => decide (uptoBulkAll ds ≤ 1048576)
def OpenSpec.upto (s : _root_.Go.ChangeSpec) : _root_.Go.OpenSpec := { _root_.Go.OpenSpec.ofChange s with cond := some uptoSmall }

/-- 'puppeteerlaw8.BoardScopes', WHERE WHAT IT READS IS OF BULK AT MOST 1048576: true; the input reads as it did. -/
def boardScopesUptoRow : OpenClaim := { program := "ytdbdijicicbhfaa", sum := "45565a3d2291e56540b42aa6f9af54319ac945c684f4355d8c10cb4e49cb57a9", func := "puppeteer/puppeteerlaw8.BoardScopes", spec := "boardScopes", inPlace := ["math.Float64bits"], plainKeys := false, apart := false, narrowed := true }
def BoardScopesUptoSaid : Prop := boardScopesUptoRow.holds Try.pinned (OpenSpec.upto boardScopesSpec)

/-- 'puppeteerlaw8.BoardStamps', WHERE WHAT IT READS IS OF BULK AT MOST 1048576: true; the input reads as it did. -/
def boardStampsUptoRow : OpenClaim := { program := "ytdbdijicicbhfaa", sum := "45565a3d2291e56540b42aa6f9af54319ac945c684f4355d8c10cb4e49cb57a9", func := "puppeteer/puppeteerlaw8.BoardStamps", spec := "boardStamps", inPlace := ["math.Float64bits"], plainKeys := false, apart := false, narrowed := true }
def BoardStampsUptoSaid : Prop := boardStampsUptoRow.holds Try.pinned (OpenSpec.upto boardStampsSpec)

/-- 'puppeteerlaw8.BoardForgets', WHERE WHAT IT READS IS OF BULK AT MOST 1048576: true; the input reads as it did. -/
def boardForgetsUptoRow : OpenClaim := { program := "ytdbdijicicbhfaa", sum := "45565a3d2291e56540b42aa6f9af54319ac945c684f4355d8c10cb4e49cb57a9", func := "puppeteer/puppeteerlaw8.BoardForgets", spec := "boardForgets", inPlace := ["math.Float64bits"], plainKeys := false, apart := false, narrowed := true }
def BoardForgetsUptoSaid : Prop := boardForgetsUptoRow.holds Try.pinned (OpenSpec.upto boardForgetsSpec)

end Rows
end Go.Proofs.Ytdbdijicicbhfaa
