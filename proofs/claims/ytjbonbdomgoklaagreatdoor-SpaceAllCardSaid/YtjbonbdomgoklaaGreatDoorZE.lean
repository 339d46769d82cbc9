import Derived.Test.YtjbonbdomgoklaaGreatDoorZ12
set_option linter.all false
set_option maxRecDepth 100000
namespace Go.Proofs.YtjbonbdomgoklaaGreatDoor
open Go Go.RowKit Go.Proofs Go.Proofs.Tryz
set_option maxHeartbeats 2000000
attribute [local irreducible] NStep StepA kk5 LeSt
end Go.Proofs.YtjbonbdomgoklaaGreatDoor
