/- Learned weights by both texts; the law WeightLearns. -/
import Derived.Test.YtpcfkflhnkfjjaaWb
set_option linter.unusedVariables false
set_option linter.unusedSimpArgs false
namespace Go.Proofs.Ytpcfkflhnkfjjaa
open Go Go.RowKit

def zeroR : Ru := Ru.mk 0 0 0 zeroV ⟨#[]⟩ []
end Go.Proofs.Ytpcfkflhnkfjjaa
