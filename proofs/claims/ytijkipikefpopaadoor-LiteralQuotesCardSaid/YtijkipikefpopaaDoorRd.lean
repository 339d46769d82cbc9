/- LiteralParses, LiteralFaults. -/
import Derived.Test.YtijkipikefpopaaDoorRc
set_option linter.unusedVariables false
set_option linter.unusedSimpArgs false
set_option maxRecDepth 10000
namespace Go.Proofs.YtijkipikefpopaaDoor
open Go Go.RowKit

end Go.Proofs.YtijkipikefpopaaDoor
