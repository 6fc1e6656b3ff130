/-
  No cell of these rows narrows 'for every input' (looked for: loops, veiled, ifaces, maps, wideKeys, modest, calm, conditions, laid).
  DERIVED. THE GIVEN ROWS OF THIS SEAT. 5 by the template 'for every input the law returns true; each argument reads behind the call as it read before'; 0 by the template 'total and deterministic' (their statements: YtfmhhlcdggomgaaTotals.lean).
  GIVEN WITH THE SEED: the statements are not yours to turn. If you find one false, say at which input.
  Laid BY PROGRAM, IN A SANDBOX (cutbox-rows.mjs): the forced cells as the released guide's own fill.sh prints them over the translation c611c39973679931… (all of the seat's roots in one cut). By AI agents, Wed Nov 11 2026. No macro, syntax, notation, axiom, sorry.
-/
import Derived.Test.YtfmhhlcdggomgaaChecked
import GoSem.Claim
import GoSem.ClaimJoined
import GoSem.ClaimMapViews
import Derived.JoinedTies
import Derived.KernelRfl
namespace Go.Proofs.Ytfmhhlcdggomgaa
/- THE CELL 'sum', in the pinned program and in every row, IS THE sha256 OF THE DUMP (.gsa) THAT YtfmhhlcdggomgaaProg.lean LOADS. Nothing in Lean hashes anything: it is a label: what it is worth is what the hold of that sum in a sandbox is worth. -/
noncomputable def Try.pinned : Pinned := { name := "ytfmhhlcdggomgaa", sum := "c611c39973679931e9b242b19a20457fa3471325e4aee1eb741eb36ee2db59cb", checked := Try.checked }
namespace Rows
def none {H : Type} : Left H := { results := [], args := [] }

/-- 'puppeteerlaw1.ClampWithin': WHATEVER THE INPUT: true; the input reads as it did. -/
def clampWithinSpec : ChangeSpec := { name := "clampWithin", fn := fun _ => fun
  | [d1, d2, d3] => { results := [.lit (.bool true)], args := [d1, d2, d3] }
  | _ => none }
def clampWithinRow : OpenClaim := { program := "ytfmhhlcdggomgaa", sum := "c611c39973679931e9b242b19a20457fa3471325e4aee1eb741eb36ee2db59cb", func := "puppeteer/puppeteerlaw1.ClampWithin", spec := "clampWithin", apart := false }
def ClampWithinSaid : Prop := clampWithinRow.holds Try.pinned (OpenSpec.ofChange clampWithinSpec)

/-- ITS FALSE NEIGHBOUR: 'it returns false'. Refute it at one input. -/
def clampWithinWrong : ChangeSpec := { name := "clampWithin", fn := fun _ => fun
  | [d1, d2, d3] => { results := [.lit (.bool false)], args := [d1, d2, d3] }
  | _ => none }
def ClampWithinWrongFalsely : Prop := clampWithinRow.holds Try.pinned (OpenSpec.ofChange clampWithinWrong)

/-- 'puppeteerlaw1.ClampReckons': WHATEVER THE INPUT: true; the input reads as it did. -/
def clampReckonsSpec : ChangeSpec := { name := "clampReckons", fn := fun _ => fun
  | [d1, d2] => { results := [.lit (.bool true)], args := [d1, d2] }
  | _ => none }
def clampReckonsRow : OpenClaim := { program := "ytfmhhlcdggomgaa", sum := "c611c39973679931e9b242b19a20457fa3471325e4aee1eb741eb36ee2db59cb", func := "puppeteer/puppeteerlaw1.ClampReckons", spec := "clampReckons", apart := false }
def ClampReckonsSaid : Prop := clampReckonsRow.holds Try.pinned (OpenSpec.ofChange clampReckonsSpec)

/-- ITS FALSE NEIGHBOUR: 'it returns false'. Refute it at one input. -/
def clampReckonsWrong : ChangeSpec := { name := "clampReckons", fn := fun _ => fun
  | [d1, d2] => { results := [.lit (.bool false)], args := [d1, d2] }
  | _ => none }
def ClampReckonsWrongFalsely : Prop := clampReckonsRow.holds Try.pinned (OpenSpec.ofChange clampReckonsWrong)

/-- 'puppeteerlaw1.ClampOrder': WHATEVER THE INPUT: true; the input reads as it did. -/
def clampOrderSpec : ChangeSpec := { name := "clampOrder", fn := fun _ => fun
  | [d1, d2, d3] => { results := [.lit (.bool true)], args := [d1, d2, d3] }
  | _ => none }
def clampOrderRow : OpenClaim := { program := "ytfmhhlcdggomgaa", sum := "c611c39973679931e9b242b19a20457fa3471325e4aee1eb741eb36ee2db59cb", func := "puppeteer/puppeteerlaw1.ClampOrder", spec := "clampOrder", apart := false }
def ClampOrderSaid : Prop := clampOrderRow.holds Try.pinned (OpenSpec.ofChange clampOrderSpec)

/-- ITS FALSE NEIGHBOUR: 'it returns false'. Refute it at one input. -/
def clampOrderWrong : ChangeSpec := { name := "clampOrder", fn := fun _ => fun
  | [d1, d2, d3] => { results := [.lit (.bool false)], args := [d1, d2, d3] }
  | _ => none }
def ClampOrderWrongFalsely : Prop := clampOrderRow.holds Try.pinned (OpenSpec.ofChange clampOrderWrong)

/-- 'puppeteerlaw1.ClampEnds': WHATEVER THE INPUT: true; the input reads as it did. -/
def clampEndsSpec : ChangeSpec := { name := "clampEnds", fn := fun _ => fun
  | [d] => { results := [.lit (.bool true)], args := [d] }
  | _ => none }
def clampEndsRow : OpenClaim := { program := "ytfmhhlcdggomgaa", sum := "c611c39973679931e9b242b19a20457fa3471325e4aee1eb741eb36ee2db59cb", func := "puppeteer/puppeteerlaw1.ClampEnds", spec := "clampEnds", apart := false }
def ClampEndsSaid : Prop := clampEndsRow.holds Try.pinned (OpenSpec.ofChange clampEndsSpec)

/-- ITS FALSE NEIGHBOUR: 'it returns false'. Refute it at one input. -/
def clampEndsWrong : ChangeSpec := { name := "clampEnds", fn := fun _ => fun
  | [d] => { results := [.lit (.bool false)], args := [d] }
  | _ => none }
def ClampEndsWrongFalsely : Prop := clampEndsRow.holds Try.pinned (OpenSpec.ofChange clampEndsWrong)

/-- 'puppeteerlaw1.ClampParts': WHATEVER THE INPUT: true; the input reads as it did. -/
def clampPartsSpec : ChangeSpec := { name := "clampParts", fn := fun _ => fun
  | [d1, d2] => { results := [.lit (.bool true)], args := [d1, d2] }
  | _ => none }
def clampPartsRow : OpenClaim := { program := "ytfmhhlcdggomgaa", sum := "c611c39973679931e9b242b19a20457fa3471325e4aee1eb741eb36ee2db59cb", func := "puppeteer/puppeteerlaw1.ClampParts", spec := "clampParts", apart := false }
def ClampPartsSaid : Prop := clampPartsRow.holds Try.pinned (OpenSpec.ofChange clampPartsSpec)

/-- ITS FALSE NEIGHBOUR: 'it returns false'. Refute it at one input. -/
def clampPartsWrong : ChangeSpec := { name := "clampParts", fn := fun _ => fun
  | [d1, d2] => { results := [.lit (.bool false)], args := [d1, d2] }
  | _ => none }
def ClampPartsWrongFalsely : Prop := clampPartsRow.holds Try.pinned (OpenSpec.ofChange clampPartsWrong)

/- THE SECOND FORM. 'bulk': how many values and letters a reading holds, each counted each time it is reached (what is shared counts as often as it is met; a slice's spare places count too). A statement '..UptoSaid' is the law's where the arguments, and the package variables that the reading takes, are together of bulk at most 1048576: NARROWER than '..Said'. Prove '..Said' where nothing that the law and all that it calls make is longer than what came in: it says more and counts as full. Else prove '..UptoSaid'. A law counts once. -/
mutual
def uptoBulk {H : Type} : DataW H → Nat
  | .lit (.string bytes) => bytes.length + 1
  | .lit _ => 1
  | .nil => 1
  | .ptr d => uptoBulk d + 1
  | .slice elems spare => uptoBulkAll elems + uptoBulkAll spare + 1
  | .agg parts => uptoBulkAll parts + 1
  | .iface _ d => uptoBulk d + 1
  | .map entries => uptoBulkEntries entries + 1
  | .held _ => 1
def uptoBulkAll {H : Type} : List (DataW H) → Nat
  | [] => 0
  | d :: r => uptoBulk d + uptoBulkAll r
def uptoBulkEntries {H : Type} : List (Lit × DataW H) → Nat
  | [] => 0
  | x :: r => uptoBulkEntry x + uptoBulkEntries r
def uptoBulkEntry {H : Type} : Lit × DataW H → Nat
  | (.string bytes, d) => bytes.length + uptoBulk d + 1
  | (_, d) => uptoBulk d + 1
 end
def uptoSmall : (H : Type) → List (DataW H) → Bool := fun _ ds => decide (uptoBulkAll ds ≤ 1048576)
def OpenSpec.upto (s : _root_.Go.ChangeSpec) : _root_.Go.OpenSpec := { _root_.Go.OpenSpec.ofChange s with cond := some uptoSmall }

/-- 'puppeteerlaw1.ClampWithin', WHERE WHAT IT READS IS OF BULK AT MOST 1048576: true; the input reads as it did. -/
def clampWithinUptoRow : OpenClaim := { program := "ytfmhhlcdggomgaa", sum := "c611c39973679931e9b242b19a20457fa3471325e4aee1eb741eb36ee2db59cb", func := "puppeteer/puppeteerlaw1.ClampWithin", spec := "clampWithin", apart := false, narrowed := true }
def ClampWithinUptoSaid : Prop := clampWithinUptoRow.holds Try.pinned (OpenSpec.upto clampWithinSpec)

/-- 'puppeteerlaw1.ClampReckons', WHERE WHAT IT READS IS OF BULK AT MOST 1048576: true; the input reads as it did. -/
def clampReckonsUptoRow : OpenClaim := { program := "ytfmhhlcdggomgaa", sum := "c611c39973679931e9b242b19a20457fa3471325e4aee1eb741eb36ee2db59cb", func := "puppeteer/puppeteerlaw1.ClampReckons", spec := "clampReckons", apart := false, narrowed := true }
def ClampReckonsUptoSaid : Prop := clampReckonsUptoRow.holds Try.pinned (OpenSpec.upto clampReckonsSpec)

/-- 'puppeteerlaw1.ClampOrder', WHERE WHAT IT READS IS OF BULK AT MOST 1048576: true; the input reads as it did. -/
def clampOrderUptoRow : OpenClaim := { program := "ytfmhhlcdggomgaa", sum := "c611c39973679931e9b242b19a20457fa3471325e4aee1eb741eb36ee2db59cb", func := "puppeteer/puppeteerlaw1.ClampOrder", spec := "clampOrder", apart := false, narrowed := true }
def ClampOrderUptoSaid : Prop := clampOrderUptoRow.holds Try.pinned (OpenSpec.upto clampOrderSpec)

/-- 'puppeteerlaw1.ClampEnds', WHERE WHAT IT READS IS OF BULK AT MOST 1048576: true; the input reads as it did. -/
def clampEndsUptoRow : OpenClaim := { program := "ytfmhhlcdggomgaa", sum := "c611c39973679931e9b242b19a20457fa3471325e4aee1eb741eb36ee2db59cb", func := "puppeteer/puppeteerlaw1.ClampEnds", spec := "clampEnds", apart := false, narrowed := true }
def ClampEndsUptoSaid : Prop := clampEndsUptoRow.holds Try.pinned (OpenSpec.upto clampEndsSpec)

/-- 'puppeteerlaw1.ClampParts', WHERE WHAT IT READS IS OF BULK AT MOST 1048576: true; the input reads as it did. -/
def clampPartsUptoRow : OpenClaim := { program := "ytfmhhlcdggomgaa", sum := "c611c39973679931e9b242b19a20457fa3471325e4aee1eb741eb36ee2db59cb", func := "puppeteer/puppeteerlaw1.ClampParts", spec := "clampParts", apart := false, narrowed := true }
def ClampPartsUptoSaid : Prop := clampPartsUptoRow.holds Try.pinned (OpenSpec.upto clampPartsSpec)

end Rows
end Go.Proofs.Ytfmhhlcdggomgaa
