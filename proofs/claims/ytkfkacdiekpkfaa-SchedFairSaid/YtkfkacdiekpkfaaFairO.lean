/- SchedFair: the walk and the opened arguments, together. -/
import Derived.Test.YtkfkacdiekpkfaaFair
import Derived.Test.YtkfkacdiekpkfaaSharesO
namespace Go.Proofs.Ytkfkacdiekpkfaa
end Go.Proofs.Ytkfkacdiekpkfaa
