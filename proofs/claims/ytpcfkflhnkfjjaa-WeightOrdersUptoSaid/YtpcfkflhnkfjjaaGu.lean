/- Languages of any size, checked by both texts. -/
import Derived.Test.YtpcfkflhnkfjjaaGa
set_option linter.unusedVariables false
set_option linter.unusedSimpArgs false
namespace Go.Proofs.Ytpcfkflhnkfjjaa
open Go Go.RowKit

/-! a value beside the zero value -/
/-! the check of a value: how deep it goes its type says -/
def inV (x : Va) : Prop := wideV 9223372036854775807 x ∧ shortV x
/-! rules -/
def wideR (r : Ru) : Prop := r.args.length ≤ 9223372036854775807 ∧ inV r.const
/-- what is true of a rule of a valid language -/
structure GoodR (l : La) (r : Ru) : Prop where
  sym0 : 0 ≤ r.symbol
  sym1 : r.symbol < (l.symbols.length : Int)
  kind : r.kind = 1 ∨ r.kind = 2 ∨ r.kind = 3
  noargs : r.kind ≠ 3 → r.args = []
  args : ∀ a ∈ r.args, 0 ≤ a ∧ a < (l.symbols.length : Int)
  few : r.args.length ≤ 5
  fine : okV r.const
/-! languages -/
structure wideL (l : La) : Prop where
  name : l.name.size ≤ 9223372036854775807
  inputs : l.inputs.length ≤ 9223372036854775807
  symbols : l.symbols.length ≤ 9223372036854775807
  rules : l.rules.length ≤ 9223372036854775807
  names : ∀ x ∈ l.symbols, x.name.size ≤ 9223372036854775807
  wide : ∀ r ∈ l.rules, wideR r
/-- what is true of a valid language -/
structure GoodL (l : La) : Prop where
  inputs : l.inputs.length ≤ 4
  sym1 : 1 ≤ l.symbols.length
  sym16 : l.symbols.length ≤ 16
  rules : l.rules.length ≤ 96
  good : ∀ r ∈ l.rules, GoodR l r
end Go.Proofs.Ytpcfkflhnkfjjaa
