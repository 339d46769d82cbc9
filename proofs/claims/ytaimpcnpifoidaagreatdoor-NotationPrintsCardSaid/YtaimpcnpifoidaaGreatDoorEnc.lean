import Derived.Test.YtaimpcnpifoidaaGreatDoorTy
import Derived.Test.YtaimpcnpifoidaaGreatDoorLang
import Derived.Test.YtaimpcnpifoidaaGreatDoorTm
set_option linter.unusedVariables false
set_option linter.unusedSimpArgs false
namespace Go.Proofs.YtaimpcnpifoidaaGreatDoor
open Go Go.RowKit
mutual
def eVaR : Va → FV
 | .mk t n s l => .agg [eI t, eI n, eS s, .lst 4 l.length (ksj l)]
def ksj : List Va → List FV
 | [] => []
 | x :: l => eVaR x :: ksj l
end
def eVa (x : Va) : FV := .agg [eI x.type, eI x.num, eS x.text, eL 4 eVaR x.items]
theorem kvi : ∀ l : List Va, ksj l = l.map eVaR
 | [] => by simp [ksj]
 | x :: l => by simp [ksj, kvi l]
theorem kkk (x : Va) : eVaR x = eVa x := by
 cases x; simp [eVaR, eVa, kvi, eL, Va.type, Va.num, Va.text, Va.items]
theorem kwl (x : Va) : (eVaR x).cells = (eVa x).cells := by rw [kkk]
theorem kzh (x : Va) : (eVaR x).cells.length = 4 := by rw [kkk]; rfl
mutual
def eTmR : Tm → FV
 | .mk r l => .agg [eI r, .lst 2 l.length (kr9 l)]
def kr9 : List Tm → List FV
 | [] => []
 | x :: l => eTmR x :: kr9 l
end
def eTm (x : Tm) : FV := .agg [eI x.rule, eL 2 eTmR x.args]
theorem ku8 : ∀ l : List Tm, kr9 l = l.map eTmR
 | [] => by simp [kr9]
 | x :: l => by simp [kr9, ku8 l]
theorem kmp (x : Tm) : eTmR x = eTm x := by
 cases x; simp [eTmR, eTm, ku8, eL, Tm.rule, Tm.args]
theorem k4q (x : Tm) : (eTmR x).cells = (eTm x).cells := by rw [kmp]
theorem k7u (x : Tm) : (eTmR x).cells.length = 2 := by rw [kmp]; rfl
def eSy (x : Sy) : FV := .agg [eS x.name, eI x.type]
def eRu (x : Ru) : FV := .agg [eI x.symbol, eI x.kind, eI x.input, eI x.const.type, eI x.const.num, eS x.const.text, eL 4 eVaR x.const.items, eS x.op, eL 1 eI x.args]
def eLa (x : La) : FV := .agg [eS x.name, eL 1 eI x.inputs, eL 2 eSy x.symbols, eL 9 eRu x.rules]
end Go.Proofs.YtaimpcnpifoidaaGreatDoor
