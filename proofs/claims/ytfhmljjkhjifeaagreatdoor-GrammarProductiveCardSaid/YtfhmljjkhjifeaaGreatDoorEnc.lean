/- The program's data types as abstract values. -/
import Derived.Test.YtfhmljjkhjifeaaGreatDoorTy
import Derived.Test.YtfhmljjkhjifeaaGreatDoorLang
import Derived.Test.YtfhmljjkhjifeaaGreatDoorTm
set_option linter.unusedVariables false
set_option linter.unusedSimpArgs false
namespace Go.Proofs.YtfhmljjkhjifeaaGreatDoor
open Go Go.RowKit

mutual
def eVaR : Va → FV
  | .mk t n s l => .agg [eI t, eI n, eS s, .lst 4 l.length (eVaRs l)]
def eVaRs : List Va → List FV
  | [] => []
  | x :: l => eVaR x :: eVaRs l
end
def eVa (x : Va) : FV := .agg [eI x.type, eI x.num, eS x.text, eL 4 eVaR x.items]
theorem eVaRs_eq : ∀ l : List Va, eVaRs l = l.map eVaR
  | [] => by simp [eVaRs]
  | x :: l => by simp [eVaRs, eVaRs_eq l]
theorem eVaR_eq (x : Va) : eVaR x = eVa x := by
  cases x; simp [eVaR, eVa, eVaRs_eq, eL, Va.type, Va.num, Va.text, Va.items]
theorem cells_eVaR (x : Va) : (eVaR x).cells = (eVa x).cells := by rw [eVaR_eq]
theorem len_eVaR (x : Va) : (eVaR x).cells.length = 4 := by rw [eVaR_eq]; rfl

mutual
def eTmR : Tm → FV
  | .mk r l => .agg [eI r, .lst 2 l.length (eTmRs l)]
def eTmRs : List Tm → List FV
  | [] => []
  | x :: l => eTmR x :: eTmRs l
end
def eSy (x : Sy) : FV := .agg [eS x.name, eI x.type]
def eRu (x : Ru) : FV := .agg [eI x.symbol, eI x.kind, eI x.input, eI x.const.type, eI x.const.num, eS x.const.text, eL 4 eVaR x.const.items, eS x.op, eL 1 eI x.args]
def eLa (x : La) : FV := .agg [eS x.name, eL 1 eI x.inputs, eL 2 eSy x.symbols, eL 9 eRu x.rules]
end Go.Proofs.YtfhmljjkhjifeaaGreatDoor
