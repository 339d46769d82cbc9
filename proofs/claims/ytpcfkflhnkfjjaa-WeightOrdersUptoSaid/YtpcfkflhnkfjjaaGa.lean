/- Languages, checked by both texts: names, inputs, symbols. -/
import Derived.Test.YtpcfkflhnkfjjaaVd
set_option linter.unusedVariables false
set_option linter.unusedSimpArgs false
namespace Go.Proofs.Ytpcfkflhnkfjjaa
open Go Go.RowKit

/-! maps -/
end Go.Proofs.Ytpcfkflhnkfjjaa
/- Operators: both texts have the same table. -/
set_option linter.unusedVariables false
set_option linter.unusedSimpArgs false
set_option maxRecDepth 100000
namespace Go.Proofs.Ytpcfkflhnkfjjaa
open Go Go.RowKit

end Go.Proofs.Ytpcfkflhnkfjjaa
/- Languages, checked by both texts: rules, and the whole. -/
set_option linter.unusedVariables false
set_option linter.unusedSimpArgs false
namespace Go.Proofs.Ytpcfkflhnkfjjaa
open Go Go.RowKit

end Go.Proofs.Ytpcfkflhnkfjjaa
/- Languages, checked by both texts: the whole. -/
set_option linter.unusedVariables false
set_option linter.unusedSimpArgs false
namespace Go.Proofs.Ytpcfkflhnkfjjaa
open Go Go.RowKit

end Go.Proofs.Ytpcfkflhnkfjjaa
