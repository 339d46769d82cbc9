/- Values: the order and the checks, without the program's own comparison. -/
import Derived.Test.YtijkipikefpopaaDoorPl
import Derived.Test.YtijkipikefpopaaDoorZE
import Derived.Test.YtijkipikefpopaaDoorOpo
set_option linter.unusedVariables false
set_option linter.unusedSimpArgs false
namespace Go.Proofs.YtijkipikefpopaaDoor
open Go Go.RowKit
mutual
def wideV (B : Nat) : Va → Prop
  | .mk _ _ _ l => l.length ≤ B ∧ wideVs B l
def wideVs (B : Nat) : List Va → Prop
  | [] => True
  | x :: l => wideV B x ∧ wideVs B l
end
theorem byt_list (s : ByteArray) (n : Nat) : byt s (n : Int) = (s.data.toList[n]?).map fun c => (c.toNat : Int) := by
  rw [byt_nat]
  congr 1
  by_cases h : n < s.size
  · rw [getElem?_pos s n h]
    have h' : n < s.data.size := h
    rw [Array.getElem?_toList, Array.getElem?_eq_getElem h']
    rfl
  · rw [getElem?_neg s n h]
    have h' : ¬ n < s.data.size := h
    rw [Array.getElem?_toList, Array.getElem?_eq_none (by omega)]
theorem size_list (s : ByteArray) : s.size = s.data.toList.length := by rw [Array.length_toList]; rfl
mutual
def shortV : Va → Prop
  | .mk _ _ s l => s.size ≤ 9223372036854775807 ∧ shortVs l
def shortVs : List Va → Prop
  | [] => True
  | x :: l => shortV x ∧ shortVs l
end
end Go.Proofs.YtijkipikefpopaaDoor
