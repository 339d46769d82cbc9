/- Values that came in, as data. -/
import Derived.Test.YtijkipikefpopaaDoorLaw
import Derived.Test.YtijkipikefpopaaDoorFin
import Derived.Test.YtijkipikefpopaaDoorVr
import Derived.Deep.Fields
set_option linter.unusedVariables false
set_option linter.unusedSimpArgs false
set_option maxRecDepth 100000
namespace Go.Proofs.YtijkipikefpopaaDoor
open Go Go.RowKit Go.ChangeShapes Go.WideShapes Go.ChangeAt

section
variable {H : Type} {enc : TypeId × Value → H} {w : World} {base : Nat} {spare : Nat → Bool} {held : Bool}

end
section
variable {w : World}

end
section
variable {H : Type} {enc : TypeId × Value → H} {w : World} {base : Nat} {spare : Nat → Bool} {held : Bool}
end
end Go.Proofs.YtijkipikefpopaaDoor
