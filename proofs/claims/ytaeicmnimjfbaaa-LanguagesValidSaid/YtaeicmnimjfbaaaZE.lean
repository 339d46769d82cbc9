/- All of them. -/
import Derived.Test.YtaeicmnimjfbaaaZ3
set_option linter.unusedVariables false
set_option linter.unusedSimpArgs false
set_option maxRecDepth 100000
namespace Go.Proofs.Ytaeicmnimjfbaaa
open Go Go.RowKit Go.Proofs
attribute [local irreducible] NStep StepA EStep LeSt
end Go.Proofs.Ytaeicmnimjfbaaa
