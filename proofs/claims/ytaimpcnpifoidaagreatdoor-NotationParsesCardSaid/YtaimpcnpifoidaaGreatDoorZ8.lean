import Derived.Test.YtaimpcnpifoidaaGreatDoorZ7
set_option linter.all false
set_option maxRecDepth 100000
namespace Go.Proofs.YtaimpcnpifoidaaGreatDoor
open Go Go.RowKit Go.Proofs
set_option maxHeartbeats 2000000
attribute [local irreducible] NStep kcx kos LeSt
end Go.Proofs.YtaimpcnpifoidaaGreatDoor
