/- Terms and languages of any size: sizes, depths, the check of a term by both texts. -/
import Derived.Test.YtpcfkflhnkfjjaaGu
import Derived.Test.YtpcfkflhnkfjjaaLo
set_option linter.unusedVariables false
set_option linter.unusedSimpArgs false
namespace Go.Proofs.Ytpcfkflhnkfjjaa
open Go Go.RowKit

/-! values: Small -/
/- The law TermChecks. -/

end Go.Proofs.Ytpcfkflhnkfjjaa
