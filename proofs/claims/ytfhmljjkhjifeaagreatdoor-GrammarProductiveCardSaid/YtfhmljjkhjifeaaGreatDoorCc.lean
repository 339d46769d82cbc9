/- The closed facts. -/
import Derived.ChangeMaps5
import Derived.JoinedOf
import Derived.Test.YtfhmljjkhjifeaaGreatDoorRows
import Derived.Test.YtfhmljjkhjifeaaGreatDoorMem
set_option linter.unusedVariables false
set_option linter.unusedSimpArgs false
set_option maxRecDepth 100000
namespace Go.Proofs.YtfhmljjkhjifeaaGreatDoor
open Go Go.RowKit Go.ChangeShapes Go.WideShapes
theorem c_make : Tryz.checked.prog.make = some .cut := by as_aux_lemma => kernel_rfl
end Go.Proofs.YtfhmljjkhjifeaaGreatDoor
