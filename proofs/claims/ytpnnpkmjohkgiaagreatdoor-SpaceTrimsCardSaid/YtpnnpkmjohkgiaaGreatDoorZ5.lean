import Derived.Test.YtpnnpkmjohkgiaaGreatDoorZ4
set_option linter.all false
set_option maxRecDepth 100000
namespace Go.Proofs.YtpnnpkmjohkgiaaGreatDoor
open Go Go.RowKit Go.Proofs
set_option maxHeartbeats 2000000
attribute [local irreducible] NStep StepA kfg LeSt
end Go.Proofs.YtpnnpkmjohkgiaaGreatDoor
