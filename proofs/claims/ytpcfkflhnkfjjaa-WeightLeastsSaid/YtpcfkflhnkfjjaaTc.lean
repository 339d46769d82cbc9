/- Terms: sizes, rules, arities, and the order, by both texts. -/
import Derived.Test.YtpcfkflhnkfjjaaGt
set_option linter.unusedVariables false
set_option linter.unusedSimpArgs false
namespace Go.Proofs.Ytpcfkflhnkfjjaa
open Go Go.RowKit

end Go.Proofs.Ytpcfkflhnkfjjaa
