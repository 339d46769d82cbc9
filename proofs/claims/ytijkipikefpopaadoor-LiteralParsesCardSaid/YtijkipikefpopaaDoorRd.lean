/- LiteralParses, LiteralFaults. -/
import Derived.Test.YtijkipikefpopaaDoorRc
set_option linter.unusedVariables false
set_option linter.unusedSimpArgs false
set_option maxRecDepth 10000
namespace Go.Proofs.YtijkipikefpopaaDoor
open Go Go.RowKit

theorem Equal_self {v : Va} (h : okV v) : synthesisref01_Equal v v = some true := by rw [ref_Equal_eq h h, eqV_self]
theorem law_LiteralParses (a0 : ByteArray) (h0 : a0.size ≤ 9223372036854775807) : synthesislaw02_LiteralParses_h a0 = some true := by
  unfold synthesislaw02_LiteralParses_h
  rw [awake02]
  by_cases h : 1500 < a0.size
  · rw [decide_eq_true (show (1500 : Int) < (a0.size : Int) by omega)]; rfl
  · rw [decide_eq_false (show ¬ (1500 : Int) < (a0.size : Int) by omega), cond_false, Parse_eq (by omega), rParse_eq (by omega)]
    simp only [Option.bind_some, Equal_self (prV_ok a0), cond_true, beq_self_eq_true]
end Go.Proofs.YtijkipikefpopaaDoor
