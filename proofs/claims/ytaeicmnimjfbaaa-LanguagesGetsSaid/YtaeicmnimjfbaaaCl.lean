/- The closed facts. -/
import Derived.Test.YtaeicmnimjfbaaaCa
import Derived.Test.YtaeicmnimjfbaaaCb
import Derived.Test.YtaeicmnimjfbaaaCc
import Derived.Test.YtaeicmnimjfbaaaCd
set_option linter.unusedVariables false
set_option linter.unusedSimpArgs false
set_option maxRecDepth 100000
namespace Go.Proofs.Ytaeicmnimjfbaaa
open Go Go.RowKit Go.ChangeShapes Go.WideShapes Go.ChangeAt
end Go.Proofs.Ytaeicmnimjfbaaa
