/- Learned weights: from uses to weights; the law WeightLearns. -/
import Derived.Test.YtpcfkflhnkfjjaaWc
set_option linter.unusedVariables false
set_option linter.unusedSimpArgs false
namespace Go.Proofs.Ytpcfkflhnkfjjaa
open Go Go.RowKit

def symAt (l : La) (k : Nat) : Int := ((l.rules[k]?).getD zeroR).symbol
end Go.Proofs.Ytpcfkflhnkfjjaa
