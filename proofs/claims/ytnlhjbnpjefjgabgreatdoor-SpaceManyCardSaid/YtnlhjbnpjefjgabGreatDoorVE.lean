import Derived.Test.YtnlhjbnpjefjgabGreatDoorV0
set_option linter.all false
set_option maxRecDepth 100000
namespace Go.Proofs.YtnlhjbnpjefjgabGreatDoor
open Go Go.RowKit Go.Proofs Go.Proofs.Tryz
set_option maxHeartbeats 2000000
attribute [local irreducible] NStep StepA kgd kin LeSt
set_option linter.unusedSectionVars false
variable [Dr]
end Go.Proofs.YtnlhjbnpjefjgabGreatDoor
