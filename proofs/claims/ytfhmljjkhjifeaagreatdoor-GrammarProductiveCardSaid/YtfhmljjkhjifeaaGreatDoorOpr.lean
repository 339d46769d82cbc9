/- Windows of an own row; copies into an own row. -/
import Derived.Test.YtfhmljjkhjifeaaGreatDoorOpo
import Derived.Laws.CopyRow
import Derived.Laws.IdiomCopy
set_option linter.unusedVariables false
set_option linter.unusedSimpArgs false
namespace Go.Proofs.YtfhmljjkhjifeaaGreatDoor
open Go Go.RowKit

section
variable {P : Program} {F S0 : Nat → Prop} {N0 : Nat} {w w' : World} {S S' : Nat → Prop} {ψ : Env} {K : Nat → Prop} {T : List (TypeId × TD)} {o : Oper} {a : Act} {st : St} {t : TypeId} {d : TD} {id : Nat}
end
end Go.Proofs.YtfhmljjkhjifeaaGreatDoor
/- Rows of rows of the call's own: made, read, written, given up as data; data that is lent for one call; other numbers for objects. -/
set_option linter.unusedVariables false
set_option linter.unusedSimpArgs false
namespace Go.Proofs.YtfhmljjkhjifeaaGreatDoor
open Go Go.RowKit

/-- a row of rows as data -/
def tabF (rows : List (List Value)) : FV := .lst 1 rows.length (rows.map fun r => .lst 1 r.length (r.map .atom))
section
variable {P : Program} {F S0 : Nat → Prop} {N0 : Nat} {w w' : World} {S S' : Nat → Prop} {ψ ψ' : Env} {K : Nat → Prop} {T : List (TypeId × TD)} {o : Oper} {a : Act} {st : St} {t : TypeId} {d : TD} {id : Nat} {ids : List Nat} {heap : List (Nat × AObj)}

end
end Go.Proofs.YtfhmljjkhjifeaaGreatDoor
/- Rows of rows of the call's own: written, given up as data; data that is lent for one call; other numbers for objects. -/
set_option linter.unusedVariables false
set_option linter.unusedSimpArgs false
namespace Go.Proofs.YtfhmljjkhjifeaaGreatDoor
open Go Go.RowKit

section
variable {P : Program} {F S0 : Nat → Prop} {N0 : Nat} {w w' : World} {S S' : Nat → Prop} {ψ ψ' : Env} {K : Nat → Prop} {T : List (TypeId × TD)} {o : Oper} {a : Act} {st : St} {t : TypeId} {d : TD} {id : Nat} {ids : List Nat} {heap : List (Nat × AObj)}

end
end Go.Proofs.YtfhmljjkhjifeaaGreatDoor
/- Rows of rows given up as data; data that is lent for one call; other numbers for objects; make with room; what a map has, and whether. -/
set_option linter.unusedVariables false
set_option linter.unusedSimpArgs false
namespace Go.Proofs.YtfhmljjkhjifeaaGreatDoor
open Go Go.RowKit

section
variable {P : Program} {F S0 : Nat → Prop} {N0 : Nat} {w w' : World} {S S' : Nat → Prop} {ψ ψ' : Env} {K : Nat → Prop} {T : List (TypeId × TD)} {o : Oper} {a : Act} {st : St} {t : TypeId} {d : TD} {id : Nat} {ids : List Nat} {heap : List (Nat × AObj)}

/-- data that is lent for one call: slot, what it holds -/
inductive LendI where
  | row (t id n : Nat) (e : TypeId) (size : Nat) (xs : List FV)
  | tab (t id g : Nat) (ov : Value) (eo ei : TypeId) (rows : List (List Value)) (x : FV)
  | inn (t id g : Nat) (ov : Value) (eo ei : TypeId) (rows : List (List Value)) (i : Nat) (x : FV)
def LendI.ok (st : St) : LendI → Prop
  | .row t id n e size xs => st.get t = .row id n ∧ lookO st.heap id = some (.frow e size xs) ∧ n = xs.length
  | .tab t id g ov eo ei rows x => st.get t = .fz (.atom ov) ∧ lookO st.heap id = some (.tab g ov eo ei rows) ∧ x = tabF rows
  | .inn t id g ov eo ei rows i x => st.get t = .irow id g (i + 1) ∧ lookO st.heap id = some (.tab g ov eo ei rows) ∧ ∃ r, rows[i]? = some r ∧ x = .lst 1 r.length (r.map .atom)
def LendI.slot : LendI → Nat × AV
  | .row t _ n _ size xs => (t, .fz (.lst size n xs))
  | .tab t _ _ _ _ _ _ x => (t, .fz x)
  | .inn t _ _ _ _ _ _ _ x => (t, .fz x)
end
end Go.Proofs.YtfhmljjkhjifeaaGreatDoor
