import Derived.Test.YtnlhjbnpjefjgaaGreatDoorV0
set_option linter.all false
set_option maxRecDepth 100000
namespace Go.Proofs.YtnlhjbnpjefjgaaGreatDoor
open Go Go.RowKit Go.Proofs Go.Proofs.Tryz
set_option maxHeartbeats 2000000
attribute [local irreducible] NStep StepA kjd kk7 LeSt
set_option linter.unusedSectionVars false
variable [Dr]
end Go.Proofs.YtnlhjbnpjefjgaaGreatDoor
