import Derived.Test.YtgebfaidgikieaaGreatDoorV3
set_option linter.all false
set_option maxRecDepth 100000
namespace Go.Proofs.YtgebfaidgikieaaGreatDoor
open Go Go.RowKit Go.Proofs Go.Proofs.Tryz
set_option maxHeartbeats 2000000
attribute [local irreducible] NStep StepA kju kjo LeSt
end Go.Proofs.YtgebfaidgikieaaGreatDoor
