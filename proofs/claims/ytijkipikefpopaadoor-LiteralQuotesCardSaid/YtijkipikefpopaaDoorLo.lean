/- Loops over lists as runs over lists. -/
import Derived.Test.YtijkipikefpopaaDoorPl
import Derived.Test.YtijkipikefpopaaDoorOpo
set_option linter.unusedVariables false
set_option linter.unusedSimpArgs false
namespace Go.Proofs.YtijkipikefpopaaDoor
open Go Go.RowKit

theorem lt_len {n i : Nat} (h : i < n) : decide ((i : Int) < (n : Int)) = true := decide_eq_true (by omega)
end Go.Proofs.YtijkipikefpopaaDoor
