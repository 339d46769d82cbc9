import Derived.Test.YtchjomeomabamaaGreatDoorZ8
set_option linter.all false
set_option maxRecDepth 100000
namespace Go.Proofs.YtchjomeomabamaaGreatDoor
open Go Go.RowKit Go.Proofs Go.Proofs.Tryz
set_option maxHeartbeats 2000000
attribute [local irreducible] NStep kau kkz LeSt
end Go.Proofs.YtchjomeomabamaaGreatDoor
