/- The closed facts. -/
import Derived.ChangeMaps5
import Derived.JoinedOf
import Derived.Test.YtijkipikefpopaaDoorRows
import Derived.Test.YtijkipikefpopaaDoorMem
set_option linter.unusedVariables false
set_option linter.unusedSimpArgs false
set_option maxRecDepth 100000
namespace Go.Proofs.YtijkipikefpopaaDoor
open Go Go.RowKit Go.ChangeShapes Go.WideShapes
theorem c_laid : laidOutB Tryd.checked.prog = true := by as_aux_lemma => kernel_rfl
theorem c_rowed : mapsRowed Tryd.checked.prog = true := by as_aux_lemma => kernel_rfl
theorem c_heard : Tryd.checked.prog.stopsHeard = true := by as_aux_lemma => kernel_rfl
end Go.Proofs.YtijkipikefpopaaDoor
