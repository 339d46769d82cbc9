import Derived.Test.YtjpkdegjcilndaaGreatDoorZ3
set_option linter.unusedVariables false
namespace Go.Proofs.YtjpkdegjcilndaaGreatDoor
open Go Go.RowKit
end Go.Proofs.YtjpkdegjcilndaaGreatDoor
