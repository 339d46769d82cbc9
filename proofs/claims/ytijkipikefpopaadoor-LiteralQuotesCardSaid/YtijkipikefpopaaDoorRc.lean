/- The program's values and the reference's are one reader's values; the law of parsing. -/
import Derived.Test.YtijkipikefpopaaDoorRb
set_option linter.unusedVariables false
set_option linter.unusedSimpArgs false
set_option maxRecDepth 10000
namespace Go.Proofs.YtijkipikefpopaaDoor
open Go Go.RowKit

/-! the program's values -/
theorem ext_list (s : ByteArray) (a b : Nat) : (s.extract a b).data.toList = (s.data.toList.take b).drop a := by
  simp [ByteArray.data_extract, Array.toList_extract, List.drop_take]
/-! the law -/
theorem awake02 : synthesislaw02_awake_h = some true := by kernel_rfl
end Go.Proofs.YtijkipikefpopaaDoor
