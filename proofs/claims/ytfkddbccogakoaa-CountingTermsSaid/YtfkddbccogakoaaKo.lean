/- Whether a term is one of a symbol, by both texts (under way: the law CountingIndexes). -/
import Derived.Test.YtfkddbccogakoaaKm
set_option linter.unusedVariables false
set_option linter.unusedSimpArgs false
namespace Go.Proofs.Ytfkddbccogakoaa
open Go Go.RowKit

end Go.Proofs.Ytfkddbccogakoaa
set_option linter.unusedVariables false
set_option linter.unusedSimpArgs false
namespace Go.Proofs.Ytfkddbccogakoaa
open Go Go.RowKit

end Go.Proofs.Ytfkddbccogakoaa
