/- The closed facts. -/
import Derived.ChangeMaps5
import Derived.JoinedOf
import Derived.Test.YtpcfkflhnkfjjaaRows
import Derived.Test.YtpcfkflhnkfjjaaMem
set_option linter.unusedVariables false
set_option linter.unusedSimpArgs false
set_option maxRecDepth 100000
namespace Go.Proofs.Ytpcfkflhnkfjjaa
open Go Go.RowKit Go.ChangeShapes Go.WideShapes
theorem c_laid : laidOutB Try.checked.prog = true := by as_aux_lemma => kernel_rfl
theorem c_rowed : mapsRowed Try.checked.prog = true := by as_aux_lemma => kernel_rfl
theorem c_heard : Try.checked.prog.stopsHeard = true := by as_aux_lemma => kernel_rfl
end Go.Proofs.Ytpcfkflhnkfjjaa
