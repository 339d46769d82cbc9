import Derived.Test.YtjpkdegjcilndaaGreatDoorV3
set_option linter.all false
set_option maxRecDepth 100000
namespace Go.Proofs.YtjpkdegjcilndaaGreatDoor
open Go Go.RowKit Go.Proofs Go.Proofs.Tryz
set_option maxHeartbeats 2000000
attribute [local irreducible] NStep StepA kgr kiu LeSt
set_option linter.unusedSectionVars false
variable [Dr]
end Go.Proofs.YtjpkdegjcilndaaGreatDoor
