import Derived.Test.YtjpkdegjcilndaaGreatDoorRj
import Derived.Test.YtjpkdegjcilndaaGreatDoorEE
set_option linter.all false
set_option maxRecDepth 100000
namespace Go.Proofs.YtjpkdegjcilndaaGreatDoor
open Go Go.RowKit Go.Proofs
set_option maxHeartbeats 2000000
attribute [local irreducible] NStep StepA kgr kiu LeSt
end Go.Proofs.YtjpkdegjcilndaaGreatDoor
