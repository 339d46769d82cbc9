/- Functions that defer a closure which asks for what was recovered. -/
import Derived.Test.YtfhmljjkhjifeaaGreatDoorOpi
import Derived.Recover
set_option linter.unusedVariables false
set_option linter.unusedSimpArgs false
namespace Go.Proofs.YtfhmljjkhjifeaaGreatDoor
open Go Go.RowKit

section
variable {P : Program} {F S0 : Nat → Prop} {N0 : Nat} {w w' : World} {S S' : Nat → Prop} {ψ ψ' : Env} {T : List (TypeId × TD)} {st : St} {ids : List Nat} {a : Act}

end
end Go.Proofs.YtfhmljjkhjifeaaGreatDoor
