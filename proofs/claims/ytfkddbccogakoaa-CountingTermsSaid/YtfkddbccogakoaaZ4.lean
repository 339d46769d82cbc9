/- Typed programs and what computes them. -/
import Derived.Test.YtfkddbccogakoaaZ3
set_option linter.unusedVariables false
set_option linter.unusedSimpArgs false
set_option maxRecDepth 100000
namespace Go.Proofs.Ytfkddbccogakoaa
open Go Go.RowKit Go.Proofs
attribute [local irreducible] NStep StepA EStep LeSt
end Go.Proofs.Ytfkddbccogakoaa
