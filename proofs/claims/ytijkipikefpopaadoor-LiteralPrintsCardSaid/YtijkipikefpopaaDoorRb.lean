/- What the program reads and what the reference reads is what one reader reads: lists, rows, values. -/
import Derived.Test.YtijkipikefpopaaDoorRa
set_option linter.unusedVariables false
set_option linter.unusedSimpArgs false
set_option maxRecDepth 10000
namespace Go.Proofs.YtijkipikefpopaaDoor
open Go Go.RowKit

/-! lists -/
/-! rows -/
/-! what is read is well shaped -/
end Go.Proofs.YtijkipikefpopaaDoor
