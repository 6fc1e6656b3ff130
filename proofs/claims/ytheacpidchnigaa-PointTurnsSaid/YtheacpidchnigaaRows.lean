/-
  No cell of these rows narrows 'for every input' (looked for: loops, veiled, ifaces, maps, wideKeys, modest, calm, conditions, laid).
  DERIVED. THE GIVEN ROWS OF THIS SEAT. 6 by the template 'for every input the law returns true; each argument reads behind the call as it read before'; 0 by the template 'total and deterministic' (their statements: YtheacpidchnigaaTotals.lean).
  GIVEN WITH THE SEED: the statements are not yours to turn. If you find one false, say at which input.
  Laid BY PROGRAM, IN A SANDBOX (cutbox-rows.mjs): the forced cells as the released guide's own fill.sh prints them over the translation ee4467ab1ccb5151… (all of the seat's roots in one cut). By AI agents, Wed Nov 11 2026. No macro, syntax, notation, axiom, sorry.
-/
import Derived.Test.YtheacpidchnigaaChecked
import GoSem.Claim
import GoSem.ClaimJoined
import GoSem.ClaimMapViews
import Derived.JoinedTies
import Derived.KernelRfl
namespace Go.Proofs.Ytheacpidchnigaa
/- THE CELL 'sum', in the pinned program and in every row, IS THE sha256 OF THE DUMP (.gsa) THAT YtheacpidchnigaaProg.lean LOADS. Nothing in Lean hashes anything: it is a label: what it is worth is what the hold of that sum in a sandbox is worth. -/
noncomputable def Try.pinned : Pinned := { name := "ytheacpidchnigaa", sum := "ee4467ab1ccb515192fb72e14ae58b8347cabd76e7e87875bcd4d37ecfc50f27", checked := Try.checked }
namespace Rows
def none {H : Type} : Left H := { results := [], args := [] }

/-- 'puppeteerlaw2.PointFar': WHATEVER THE INPUT: true; the input reads as it did. -/
def pointFarSpec : ChangeSpec := { name := "pointFar", fn := fun _ => fun
  | [d1, d2, d3, d4, d5, d6] => { results := [.lit (.bool true)], args := [d1, d2, d3, d4, d5, d6] }
  | _ => none }
def pointFarRow : OpenClaim := { program := "ytheacpidchnigaa", sum := "ee4467ab1ccb515192fb72e14ae58b8347cabd76e7e87875bcd4d37ecfc50f27", func := "puppeteer/puppeteerlaw2.PointFar", spec := "pointFar", unfollowed := true, recurses := true, apart := false }
def PointFarSaid : Prop := pointFarRow.holds Try.pinned (OpenSpec.ofChange pointFarSpec)

/-- ITS FALSE NEIGHBOUR: 'it returns false'. Refute it at one input. -/
def pointFarWrong : ChangeSpec := { name := "pointFar", fn := fun _ => fun
  | [d1, d2, d3, d4, d5, d6] => { results := [.lit (.bool false)], args := [d1, d2, d3, d4, d5, d6] }
  | _ => none }
def PointFarWrongFalsely : Prop := pointFarRow.holds Try.pinned (OpenSpec.ofChange pointFarWrong)

/-- 'puppeteerlaw2.PointTurns': WHATEVER THE INPUT: true; the input reads as it did. -/
def pointTurnsSpec : ChangeSpec := { name := "pointTurns", fn := fun _ => fun
  | [d1, d2, d3, d4, d5, d6] => { results := [.lit (.bool true)], args := [d1, d2, d3, d4, d5, d6] }
  | _ => none }
def pointTurnsRow : OpenClaim := { program := "ytheacpidchnigaa", sum := "ee4467ab1ccb515192fb72e14ae58b8347cabd76e7e87875bcd4d37ecfc50f27", func := "puppeteer/puppeteerlaw2.PointTurns", spec := "pointTurns", unfollowed := true, recurses := true, apart := false }
def PointTurnsSaid : Prop := pointTurnsRow.holds Try.pinned (OpenSpec.ofChange pointTurnsSpec)

/-- ITS FALSE NEIGHBOUR: 'it returns false'. Refute it at one input. -/
def pointTurnsWrong : ChangeSpec := { name := "pointTurns", fn := fun _ => fun
  | [d1, d2, d3, d4, d5, d6] => { results := [.lit (.bool false)], args := [d1, d2, d3, d4, d5, d6] }
  | _ => none }
def PointTurnsWrongFalsely : Prop := pointTurnsRow.holds Try.pinned (OpenSpec.ofChange pointTurnsWrong)

/-- 'puppeteerlaw2.PointProduct': WHATEVER THE INPUT: true; the input reads as it did. -/
def pointProductSpec : ChangeSpec := { name := "pointProduct", fn := fun _ => fun
  | [d1, d2] => { results := [.lit (.bool true)], args := [d1, d2] }
  | _ => none }
def pointProductRow : OpenClaim := { program := "ytheacpidchnigaa", sum := "ee4467ab1ccb515192fb72e14ae58b8347cabd76e7e87875bcd4d37ecfc50f27", func := "puppeteer/puppeteerlaw2.PointProduct", spec := "pointProduct", unfollowed := true, recurses := true, apart := false }
def PointProductSaid : Prop := pointProductRow.holds Try.pinned (OpenSpec.ofChange pointProductSpec)

/-- ITS FALSE NEIGHBOUR: 'it returns false'. Refute it at one input. -/
def pointProductWrong : ChangeSpec := { name := "pointProduct", fn := fun _ => fun
  | [d1, d2] => { results := [.lit (.bool false)], args := [d1, d2] }
  | _ => none }
def PointProductWrongFalsely : Prop := pointProductRow.holds Try.pinned (OpenSpec.ofChange pointProductWrong)

/-- 'puppeteerlaw2.PointSteps': WHATEVER THE INPUT: true; the input reads as it did. -/
def pointStepsSpec : ChangeSpec := { name := "pointSteps", fn := fun _ => fun
  | [d1, d2, d3, d4] => { results := [.lit (.bool true)], args := [d1, d2, d3, d4] }
  | _ => none }
def pointStepsRow : OpenClaim := { program := "ytheacpidchnigaa", sum := "ee4467ab1ccb515192fb72e14ae58b8347cabd76e7e87875bcd4d37ecfc50f27", func := "puppeteer/puppeteerlaw2.PointSteps", spec := "pointSteps", unfollowed := true, recurses := true, apart := false }
def PointStepsSaid : Prop := pointStepsRow.holds Try.pinned (OpenSpec.ofChange pointStepsSpec)

/-- ITS FALSE NEIGHBOUR: 'it returns false'. Refute it at one input. -/
def pointStepsWrong : ChangeSpec := { name := "pointSteps", fn := fun _ => fun
  | [d1, d2, d3, d4] => { results := [.lit (.bool false)], args := [d1, d2, d3, d4] }
  | _ => none }
def PointStepsWrongFalsely : Prop := pointStepsRow.holds Try.pinned (OpenSpec.ofChange pointStepsWrong)

/-- 'puppeteerlaw2.PointNear': WHATEVER THE INPUT: true; the input reads as it did. -/
def pointNearSpec : ChangeSpec := { name := "pointNear", fn := fun _ => fun
  | [d1, d2, d3, d4] => { results := [.lit (.bool true)], args := [d1, d2, d3, d4] }
  | _ => none }
def pointNearRow : OpenClaim := { program := "ytheacpidchnigaa", sum := "ee4467ab1ccb515192fb72e14ae58b8347cabd76e7e87875bcd4d37ecfc50f27", func := "puppeteer/puppeteerlaw2.PointNear", spec := "pointNear", unfollowed := true, recurses := true, apart := false }
def PointNearSaid : Prop := pointNearRow.holds Try.pinned (OpenSpec.ofChange pointNearSpec)

/-- ITS FALSE NEIGHBOUR: 'it returns false'. Refute it at one input. -/
def pointNearWrong : ChangeSpec := { name := "pointNear", fn := fun _ => fun
  | [d1, d2, d3, d4] => { results := [.lit (.bool false)], args := [d1, d2, d3, d4] }
  | _ => none }
def PointNearWrongFalsely : Prop := pointNearRow.holds Try.pinned (OpenSpec.ofChange pointNearWrong)

/-- 'puppeteerlaw2.PointSums': WHATEVER THE INPUT: true; the input reads as it did. -/
def pointSumsSpec : ChangeSpec := { name := "pointSums", fn := fun _ => fun
  | [d1, d2, d3, d4] => { results := [.lit (.bool true)], args := [d1, d2, d3, d4] }
  | _ => none }
def pointSumsRow : OpenClaim := { program := "ytheacpidchnigaa", sum := "ee4467ab1ccb515192fb72e14ae58b8347cabd76e7e87875bcd4d37ecfc50f27", func := "puppeteer/puppeteerlaw2.PointSums", spec := "pointSums", unfollowed := true, recurses := true, apart := false }
def PointSumsSaid : Prop := pointSumsRow.holds Try.pinned (OpenSpec.ofChange pointSumsSpec)

/-- ITS FALSE NEIGHBOUR: 'it returns false'. Refute it at one input. -/
def pointSumsWrong : ChangeSpec := { name := "pointSums", fn := fun _ => fun
  | [d1, d2, d3, d4] => { results := [.lit (.bool false)], args := [d1, d2, d3, d4] }
  | _ => none }
def PointSumsWrongFalsely : Prop := pointSumsRow.holds Try.pinned (OpenSpec.ofChange pointSumsWrong)

/- THE SECOND FORM. 'bulk': how many values and letters a reading holds, each counted each time it is reached (what is shared counts as often as it is met; a slice's spare places count too). A statement '..UptoSaid' is the law's where the arguments, and the package variables that the reading takes, are together of bulk at most 1048576: NARROWER than '..Said'. Prove '..Said' where nothing that the law and all that it calls make is longer than what came in: it says more and counts as full. Else prove '..UptoSaid'. A law counts once. -/
mutual
def uptoBulk {H : Type} : DataW H → Nat
  | .lit (.string bytes) => bytes.length + 1
  | .lit _ => 1
  | .nil => 1
  | .ptr d => uptoBulk d + 1
  | .slice elems spare => uptoBulkAll elems + uptoBulkAll spare + 1
  | .agg parts => uptoBulkAll parts + 1
  | .iface _ d => uptoBulk d + 1
  | .map entries => uptoBulkEntries entries + 1
  | .held _ => 1
def uptoBulkAll {H : Type} : List (DataW H) → Nat
  | [] => 0
  | d :: r => uptoBulk d + uptoBulkAll r
def uptoBulkEntries {H : Type} : List (Lit × DataW H) → Nat
  | [] => 0
  | x :: r => uptoBulkEntry x + uptoBulkEntries r
def uptoBulkEntry {H : Type} : Lit × DataW H → Nat
  | (.string bytes, d) => bytes.length + uptoBulk d + 1
  | (_, d) => uptoBulk d + 1
 end
def uptoSmall : (H : Type) → List (DataW H) → Bool := fun _ ds => decide (uptoBulkAll ds ≤ 1048576)
def OpenSpec.upto (s : _root_.Go.ChangeSpec) : _root_.Go.OpenSpec := { _root_.Go.OpenSpec.ofChange s with cond := some uptoSmall }

/-- 'puppeteerlaw2.PointFar', WHERE WHAT IT READS IS OF BULK AT MOST 1048576: true; the input reads as it did. -/
def pointFarUptoRow : OpenClaim := { program := "ytheacpidchnigaa", sum := "ee4467ab1ccb515192fb72e14ae58b8347cabd76e7e87875bcd4d37ecfc50f27", func := "puppeteer/puppeteerlaw2.PointFar", spec := "pointFar", unfollowed := true, recurses := true, apart := false, narrowed := true }
def PointFarUptoSaid : Prop := pointFarUptoRow.holds Try.pinned (OpenSpec.upto pointFarSpec)

/-- 'puppeteerlaw2.PointTurns', WHERE WHAT IT READS IS OF BULK AT MOST 1048576: true; the input reads as it did. -/
def pointTurnsUptoRow : OpenClaim := { program := "ytheacpidchnigaa", sum := "ee4467ab1ccb515192fb72e14ae58b8347cabd76e7e87875bcd4d37ecfc50f27", func := "puppeteer/puppeteerlaw2.PointTurns", spec := "pointTurns", unfollowed := true, recurses := true, apart := false, narrowed := true }
def PointTurnsUptoSaid : Prop := pointTurnsUptoRow.holds Try.pinned (OpenSpec.upto pointTurnsSpec)

/-- 'puppeteerlaw2.PointProduct', WHERE WHAT IT READS IS OF BULK AT MOST 1048576: true; the input reads as it did. -/
def pointProductUptoRow : OpenClaim := { program := "ytheacpidchnigaa", sum := "ee4467ab1ccb515192fb72e14ae58b8347cabd76e7e87875bcd4d37ecfc50f27", func := "puppeteer/puppeteerlaw2.PointProduct", spec := "pointProduct", unfollowed := true, recurses := true, apart := false, narrowed := true }
def PointProductUptoSaid : Prop := pointProductUptoRow.holds Try.pinned (OpenSpec.upto pointProductSpec)

/-- 'puppeteerlaw2.PointSteps', WHERE WHAT IT READS IS OF BULK AT MOST 1048576: true; the input reads as it did. -/
def pointStepsUptoRow : OpenClaim := { program := "ytheacpidchnigaa", sum := "ee4467ab1ccb515192fb72e14ae58b8347cabd76e7e87875bcd4d37ecfc50f27", func := "puppeteer/puppeteerlaw2.PointSteps", spec := "pointSteps", unfollowed := true, recurses := true, apart := false, narrowed := true }
def PointStepsUptoSaid : Prop := pointStepsUptoRow.holds Try.pinned (OpenSpec.upto pointStepsSpec)

/-- 'puppeteerlaw2.PointNear', WHERE WHAT IT READS IS OF BULK AT MOST 1048576: true; the input reads as it did. -/
def pointNearUptoRow : OpenClaim := { program := "ytheacpidchnigaa", sum := "ee4467ab1ccb515192fb72e14ae58b8347cabd76e7e87875bcd4d37ecfc50f27", func := "puppeteer/puppeteerlaw2.PointNear", spec := "pointNear", unfollowed := true, recurses := true, apart := false, narrowed := true }
def PointNearUptoSaid : Prop := pointNearUptoRow.holds Try.pinned (OpenSpec.upto pointNearSpec)

/-- 'puppeteerlaw2.PointSums', WHERE WHAT IT READS IS OF BULK AT MOST 1048576: true; the input reads as it did. -/
def pointSumsUptoRow : OpenClaim := { program := "ytheacpidchnigaa", sum := "ee4467ab1ccb515192fb72e14ae58b8347cabd76e7e87875bcd4d37ecfc50f27", func := "puppeteer/puppeteerlaw2.PointSums", spec := "pointSums", unfollowed := true, recurses := true, apart := false, narrowed := true }
def PointSumsUptoSaid : Prop := pointSumsUptoRow.holds Try.pinned (OpenSpec.upto pointSumsSpec)

end Rows
end Go.Proofs.Ytheacpidchnigaa
