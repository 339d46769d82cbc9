/- Weights: the check, the uniform weights; the law WeightChecks. -/
import Derived.Test.YtpcfkflhnkfjjaaGt
set_option linter.unusedVariables false
set_option linter.unusedSimpArgs false
namespace Go.Proofs.Ytpcfkflhnkfjjaa
open Go Go.RowKit

set_option maxRecDepth 100000 in
theorem awake38 : synthesislaw38_awake = some true := by kernel_rfl
/-- a number that is no weight -/
def badW (x : Int) : Bool := decide (x < 0) || decide (1000 < x)
theorem valid_eq (x : Int) : weight_valid x = some (!badW x) ∧ weight_valid_h x = some (!badW x) := by
  unfold weight_valid weight_valid_h badW
  by_cases h0 : 0 ≤ x
  · rw [decide_eq_true h0, decide_eq_false (show ¬ x < 0 by omega)]
    by_cases h1 : x ≤ 1000
    · rw [decide_eq_true h1, decide_eq_false (show ¬ 1000 < x by omega)]; exact ⟨rfl, rfl⟩
    · rw [decide_eq_false h1, decide_eq_true (show 1000 < x by omega)]; exact ⟨rfl, rfl⟩
  · rw [decide_eq_false h0, decide_eq_true (show x < 0 by omega)]; exact ⟨rfl, rfl⟩
end Go.Proofs.Ytpcfkflhnkfjjaa
