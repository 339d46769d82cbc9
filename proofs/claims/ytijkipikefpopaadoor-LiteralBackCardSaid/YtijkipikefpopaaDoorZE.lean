/- All of them. -/
import Derived.Test.YtijkipikefpopaaDoorZ3
set_option linter.unusedVariables false
set_option linter.unusedSimpArgs false
set_option maxRecDepth 100000
namespace Go.Proofs.YtijkipikefpopaaDoor
open Go Go.RowKit Go.Proofs
attribute [local irreducible] NStep StepA EStep LeSt
end Go.Proofs.YtijkipikefpopaaDoor
