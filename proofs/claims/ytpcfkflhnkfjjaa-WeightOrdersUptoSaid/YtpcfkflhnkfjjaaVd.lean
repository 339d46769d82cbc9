/- Values: the order and the check of both texts are one. -/
import Derived.Test.YtpcfkflhnkfjjaaPl
import Derived.Test.YtpcfkflhnkfjjaaZE
set_option linter.unusedVariables false
set_option linter.unusedSimpArgs false
namespace Go.Proofs.Ytpcfkflhnkfjjaa
open Go Go.RowKit

mutual
def wideV (B : Nat) : Va → Prop
  | .mk _ _ _ l => l.length ≤ B ∧ wideVs B l
def wideVs (B : Nat) : List Va → Prop
  | [] => True
  | x :: l => wideV B x ∧ wideVs B l
end
/-- values that both texts take -/
def okV (v : Va) : Prop := depV v ≤ 1000000 ∧ wideV 9223372036854775807 v
mutual
def shortV : Va → Prop
  | .mk _ _ s l => s.size ≤ 9223372036854775807 ∧ shortVs l
def shortVs : List Va → Prop
  | [] => True
  | x :: l => shortV x ∧ shortVs l
end
end Go.Proofs.Ytpcfkflhnkfjjaa
/- Values: the check of both texts is one. -/
set_option linter.unusedVariables false
set_option linter.unusedSimpArgs false
namespace Go.Proofs.Ytpcfkflhnkfjjaa
open Go Go.RowKit

end Go.Proofs.Ytpcfkflhnkfjjaa
