/- A row that is not changed any more, wherever a state holds it. -/
import Derived.Test.YtijkipikefpopaaDoorOpm
import Derived.MapKept
import Derived.Laws.OwnMore
set_option linter.unusedVariables false
set_option linter.unusedSimpArgs false
namespace Go.Proofs.YtijkipikefpopaaDoor
open Go Go.RowKit

section
variable {F S0 : Nat → Prop} {N0 : Nat} {w : World} {S : Nat → Prop} {ψ : Env} {K : Nat → Prop} {id n : Nat} {x : FV} {st : St}

end
end Go.Proofs.YtijkipikefpopaaDoor
/- Maps with texts as keys. -/
set_option linter.unusedVariables false
set_option linter.unusedSimpArgs false
namespace Go.Proofs.YtijkipikefpopaaDoor
open Go Go.RowKit

section
variable {P : Program} {F S0 : Nat → Prop} {N0 : Nat} {w w' : World} {S S' : Nat → Prop} {ψ : Env} {K : Nat → Prop} {T : List (TypeId × TD)} {o : Oper} {a : Act} {st : St} {t : TypeId} {d : TD} {id : Nat}

theorem TdOk.mp {k e : Nat} (h : TdOk P t d) (hk : d.kind = .map k e) : P.underlying t = some (.map k e) := by
  obtain ⟨_, e', h1, h2⟩ := h
  rw [hk] at h2
  cases e' <;> simp [kindOk] at h2
  rw [h1, h2.1, h2.2]
end
end Go.Proofs.YtijkipikefpopaaDoor
/- Calls that are lent nothing, among them those that are given a function: their result is data. -/
set_option linter.unusedVariables false
set_option linter.unusedSimpArgs false
namespace Go.Proofs.YtijkipikefpopaaDoor
open Go Go.RowKit

/- how deep a value is: as much fuel a recursion over it needs -/
mutual
def depV : Va → Nat
  | .mk _ _ _ l => depVs l + 1
def depVs : List Va → Nat
  | [] => 0
  | x :: l => Nat.max (depV x) (depVs l)
end
section
variable {P : Program} {F S0 : Nat → Prop} {N0 : Nat} {w w' : World} {S S' : Nat → Prop} {ψ : Env} {K : Nat → Prop} {T : List (TypeId × TD)} {o : Oper} {a : Act} {st : St} {t : TypeId} {d : TD}

end
end Go.Proofs.YtijkipikefpopaaDoor
/- Rows that are made at once: 'make', elements read and written. -/
set_option linter.unusedVariables false
set_option linter.unusedSimpArgs false
namespace Go.Proofs.YtijkipikefpopaaDoor
open Go Go.RowKit

section
variable {P : Program} {F S0 : Nat → Prop} {N0 : Nat} {w w' : World} {S S' : Nat → Prop} {ψ : Env} {K : Nat → Prop} {T : List (TypeId × TD)} {o : Oper} {a : Act} {st : St} {t : TypeId} {d : TD} {id : Nat}

end
/-! a row's length, written otherwise -/
end Go.Proofs.YtijkipikefpopaaDoor
