import Derived.Test.YtdnfbjahbkpibaaGreatDoorW0
set_option linter.all false
set_option maxRecDepth 100000
namespace Go.Proofs.YtdnfbjahbkpibaaGreatDoor
open Go Go.RowKit Go.Proofs Go.Proofs.Tryz
set_option maxHeartbeats 2000000
attribute [local irreducible] NStep StepA kfw kiq LeSt
end Go.Proofs.YtdnfbjahbkpibaaGreatDoor
