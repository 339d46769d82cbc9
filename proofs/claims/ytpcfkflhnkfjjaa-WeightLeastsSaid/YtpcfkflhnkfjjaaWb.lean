/- Costs of terms by both texts; the law WeightCosts. -/
import Derived.Test.YtpcfkflhnkfjjaaWa
import Derived.Test.YtpcfkflhnkfjjaaTc
set_option linter.unusedVariables false
set_option linter.unusedSimpArgs false
namespace Go.Proofs.Ytpcfkflhnkfjjaa
open Go Go.RowKit

end Go.Proofs.Ytpcfkflhnkfjjaa
