/- The closed facts. -/
import Derived.ChangeMaps5
import Derived.JoinedOf
import Derived.Test.YtpcfkflhnkfjjaaRows
import Derived.Test.YtpcfkflhnkfjjaaMem
set_option linter.unusedVariables false
set_option linter.unusedSimpArgs false
set_option maxRecDepth 100000
namespace Go.Proofs.Ytpcfkflhnkfjjaa
open Go Go.RowKit Go.ChangeShapes Go.WideShapes
theorem c_mayEnter : Try.checked.prog.mayEnter = true := by as_aux_lemma => kernel_rfl
end Go.Proofs.Ytpcfkflhnkfjjaa
