/-
  NARROWER THAN 'FOR EVERY INPUT', by the rows' own cells (each row's printed sentence says how): FlatMakes: loops · FlatParts: loops · FlatBacks: loops · FlatOrder: loops.
  DERIVED. THE GIVEN ROWS OF THIS SEAT. 4 by the template 'for every input the law returns true; each argument reads behind the call as it read before'; 0 by the template 'total and deterministic' (their statements: YtfgpdpccfpilaaaTotals.lean).
  GIVEN WITH THE SEED: the statements are not yours to turn. If you find one false, say at which input.
  Laid BY PROGRAM, IN A SANDBOX (cutbox-rows.mjs): the forced cells as the released guide's own fill.sh prints them over the translation 95ab4fc870cfcc9a… (all of the seat's roots in one cut). By AI agents, Wed Nov 11 2026. No macro, syntax, notation, axiom, sorry.
-/
import Derived.Test.YtfgpdpccfpilaaaChecked
import GoSem.Claim
import GoSem.ClaimJoined
import GoSem.ClaimMapViews
import Derived.JoinedTies
import Derived.KernelRfl
namespace Go.Proofs.Ytfgpdpccfpilaaa
/- THE CELL 'sum', in the pinned program and in every row, IS THE sha256 OF THE DUMP (.gsa) THAT YtfgpdpccfpilaaaProg.lean LOADS. Nothing in Lean hashes anything: it is a label: what it is worth is what the hold of that sum in a sandbox is worth. -/
noncomputable def Try.pinned : Pinned := { name := "ytfgpdpccfpilaaa", sum := "95ab4fc870cfcc9a96a235f6b793164198c7898bd4723f631657ef24b6df7c24", checked := Try.checked }
namespace Rows
def none {H : Type} : Left H := { results := [], args := [] }

/-- 'puppeteerlaw15.FlatMakes': WHATEVER THE INPUT: true; the input reads as it did. -/
def flatMakesSpec : ChangeSpec := { name := "flatMakes", fn := fun _ => fun
  | [d] => { results := [.lit (.bool true)], args := [d] }
  | _ => none }
def flatMakesRow : OpenClaim := { program := "ytfgpdpccfpilaaa", sum := "95ab4fc870cfcc9a96a235f6b793164198c7898bd4723f631657ef24b6df7c24", func := "puppeteer/puppeteerlaw15.FlatMakes", spec := "flatMakes", recurses := true, loops := true, apart := false }
def FlatMakesSaid : Prop := flatMakesRow.holds Try.pinned (OpenSpec.ofChange flatMakesSpec)

/-- ITS FALSE NEIGHBOUR: 'it returns false'. Refute it at one input. -/
def flatMakesWrong : ChangeSpec := { name := "flatMakes", fn := fun _ => fun
  | [d] => { results := [.lit (.bool false)], args := [d] }
  | _ => none }
def FlatMakesWrongFalsely : Prop := flatMakesRow.holds Try.pinned (OpenSpec.ofChange flatMakesWrong)

/-- 'puppeteerlaw15.FlatParts': WHATEVER THE INPUT: true; the input reads as it did. -/
def flatPartsSpec : ChangeSpec := { name := "flatParts", fn := fun _ => fun
  | [d1, d2] => { results := [.lit (.bool true)], args := [d1, d2] }
  | _ => none }
def flatPartsRow : OpenClaim := { program := "ytfgpdpccfpilaaa", sum := "95ab4fc870cfcc9a96a235f6b793164198c7898bd4723f631657ef24b6df7c24", func := "puppeteer/puppeteerlaw15.FlatParts", spec := "flatParts", recurses := true, loops := true, apart := false }
def FlatPartsSaid : Prop := flatPartsRow.holds Try.pinned (OpenSpec.ofChange flatPartsSpec)

/-- ITS FALSE NEIGHBOUR: 'it returns false'. Refute it at one input. -/
def flatPartsWrong : ChangeSpec := { name := "flatParts", fn := fun _ => fun
  | [d1, d2] => { results := [.lit (.bool false)], args := [d1, d2] }
  | _ => none }
def FlatPartsWrongFalsely : Prop := flatPartsRow.holds Try.pinned (OpenSpec.ofChange flatPartsWrong)

/-- 'puppeteerlaw15.FlatBacks': WHATEVER THE INPUT: true; the input reads as it did. -/
def flatBacksSpec : ChangeSpec := { name := "flatBacks", fn := fun _ => fun
  | [d1, d2] => { results := [.lit (.bool true)], args := [d1, d2] }
  | _ => none }
def flatBacksRow : OpenClaim := { program := "ytfgpdpccfpilaaa", sum := "95ab4fc870cfcc9a96a235f6b793164198c7898bd4723f631657ef24b6df7c24", func := "puppeteer/puppeteerlaw15.FlatBacks", spec := "flatBacks", recurses := true, loops := true, apart := false }
def FlatBacksSaid : Prop := flatBacksRow.holds Try.pinned (OpenSpec.ofChange flatBacksSpec)

/-- ITS FALSE NEIGHBOUR: 'it returns false'. Refute it at one input. -/
def flatBacksWrong : ChangeSpec := { name := "flatBacks", fn := fun _ => fun
  | [d1, d2] => { results := [.lit (.bool false)], args := [d1, d2] }
  | _ => none }
def FlatBacksWrongFalsely : Prop := flatBacksRow.holds Try.pinned (OpenSpec.ofChange flatBacksWrong)

/-- 'puppeteerlaw15.FlatOrder': WHATEVER THE INPUT: true; the input reads as it did. -/
def flatOrderSpec : ChangeSpec := { name := "flatOrder", fn := fun _ => fun
  | [d] => { results := [.lit (.bool true)], args := [d] }
  | _ => none }
def flatOrderRow : OpenClaim := { program := "ytfgpdpccfpilaaa", sum := "95ab4fc870cfcc9a96a235f6b793164198c7898bd4723f631657ef24b6df7c24", func := "puppeteer/puppeteerlaw15.FlatOrder", spec := "flatOrder", recurses := true, loops := true, apart := false }
def FlatOrderSaid : Prop := flatOrderRow.holds Try.pinned (OpenSpec.ofChange flatOrderSpec)

/-- ITS FALSE NEIGHBOUR: 'it returns false'. Refute it at one input. -/
def flatOrderWrong : ChangeSpec := { name := "flatOrder", fn := fun _ => fun
  | [d] => { results := [.lit (.bool false)], args := [d] }
  | _ => none }
def FlatOrderWrongFalsely : Prop := flatOrderRow.holds Try.pinned (OpenSpec.ofChange flatOrderWrong)

/- THE SECOND FORM. 'bulk': how many values and letters a reading holds, each counted each time it is reached (what is shared counts as often as it is met; a slice's spare places count too). A statement '..UptoSaid' is the law's where the arguments, and the package variables that the reading takes, are together of bulk at most 1048576: NARROWER than '..Said'. Prove '..Said' where nothing that the law and all that it calls make is longer than what came in: it says more and counts as full. Else prove '..UptoSaid'. A law counts once. -/
mutual
def uptoBulk {H : Type} : DataW H → Nat
  | .lit (.string bytes) => bytes.length + 1
  | .lit _ => 1
  | .nil => 1
  | .ptr d => uptoBulk d + 1
  | .slice elems spare => uptoBulkAll elems + uptoBulkAll spare + 1
  | .agg parts => uptoBulkAll parts + 1
  | .iface _ d => uptoBulk d + 1
  | .map entries => uptoBulkEntries entries + 1
  | .held _ => 1
def uptoBulkAll {H : Type} : List (DataW H) → Nat
  | [] => 0
  | d :: r => uptoBulk d + uptoBulkAll r
def uptoBulkEntries {H : Type} : List (Lit × DataW H) → Nat
  | [] => 0
  | x :: r => uptoBulkEntry x + uptoBulkEntries r
def uptoBulkEntry {H : Type} : Lit × DataW H → Nat
  | (.string bytes, d) => bytes.length + uptoBulk d + 1
  | (_, d) => uptoBulk d + 1
 end
def uptoSmall : (H : Type) → List (DataW H) → Bool := fun _ ds => decide (uptoBulkAll ds ≤ 1048576)
def OpenSpec.upto (s : _root_.Go.ChangeSpec) : _root_.Go.OpenSpec := { _root_.Go.OpenSpec.ofChange s with cond := some uptoSmall }

/-- 'puppeteerlaw15.FlatMakes', WHERE WHAT IT READS IS OF BULK AT MOST 1048576: true; the input reads as it did. -/
def flatMakesUptoRow : OpenClaim := { program := "ytfgpdpccfpilaaa", sum := "95ab4fc870cfcc9a96a235f6b793164198c7898bd4723f631657ef24b6df7c24", func := "puppeteer/puppeteerlaw15.FlatMakes", spec := "flatMakes", recurses := true, loops := true, apart := false, narrowed := true }
def FlatMakesUptoSaid : Prop := flatMakesUptoRow.holds Try.pinned (OpenSpec.upto flatMakesSpec)

/-- 'puppeteerlaw15.FlatParts', WHERE WHAT IT READS IS OF BULK AT MOST 1048576: true; the input reads as it did. -/
def flatPartsUptoRow : OpenClaim := { program := "ytfgpdpccfpilaaa", sum := "95ab4fc870cfcc9a96a235f6b793164198c7898bd4723f631657ef24b6df7c24", func := "puppeteer/puppeteerlaw15.FlatParts", spec := "flatParts", recurses := true, loops := true, apart := false, narrowed := true }
def FlatPartsUptoSaid : Prop := flatPartsUptoRow.holds Try.pinned (OpenSpec.upto flatPartsSpec)

/-- 'puppeteerlaw15.FlatBacks', WHERE WHAT IT READS IS OF BULK AT MOST 1048576: true; the input reads as it did. -/
def flatBacksUptoRow : OpenClaim := { program := "ytfgpdpccfpilaaa", sum := "95ab4fc870cfcc9a96a235f6b793164198c7898bd4723f631657ef24b6df7c24", func := "puppeteer/puppeteerlaw15.FlatBacks", spec := "flatBacks", recurses := true, loops := true, apart := false, narrowed := true }
def FlatBacksUptoSaid : Prop := flatBacksUptoRow.holds Try.pinned (OpenSpec.upto flatBacksSpec)

/-- 'puppeteerlaw15.FlatOrder', WHERE WHAT IT READS IS OF BULK AT MOST 1048576: true; the input reads as it did. -/
def flatOrderUptoRow : OpenClaim := { program := "ytfgpdpccfpilaaa", sum := "95ab4fc870cfcc9a96a235f6b793164198c7898bd4723f631657ef24b6df7c24", func := "puppeteer/puppeteerlaw15.FlatOrder", spec := "flatOrder", recurses := true, loops := true, apart := false, narrowed := true }
def FlatOrderUptoSaid : Prop := flatOrderUptoRow.holds Try.pinned (OpenSpec.upto flatOrderSpec)

end Rows
end Go.Proofs.Ytfgpdpccfpilaaa
