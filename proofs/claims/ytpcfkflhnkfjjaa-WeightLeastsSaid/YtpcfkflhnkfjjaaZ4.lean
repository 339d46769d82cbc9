/- Typed programs and what computes them. -/
import Derived.Test.YtpcfkflhnkfjjaaZ3
set_option linter.unusedVariables false
set_option linter.unusedSimpArgs false
set_option maxRecDepth 100000
namespace Go.Proofs.Ytpcfkflhnkfjjaa
open Go Go.RowKit Go.Proofs
attribute [local irreducible] NStep StepA EStep LeSt
end Go.Proofs.Ytpcfkflhnkfjjaa
