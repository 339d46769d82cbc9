import Derived.Test.YtpcfkflhnkfjjaaGreatZ6
set_option linter.all false
set_option maxRecDepth 100000
namespace Go.Proofs.YtpcfkflhnkfjjaaGreat
open Go Go.RowKit Go.Proofs
set_option maxHeartbeats 2000000
attribute [local irreducible] NStep StepA kor LeSt
end Go.Proofs.YtpcfkflhnkfjjaaGreat
