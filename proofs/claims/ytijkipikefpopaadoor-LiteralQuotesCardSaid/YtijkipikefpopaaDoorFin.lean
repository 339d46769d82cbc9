/- From a typed contract to the given statement: arguments opened as data. -/
import Derived.Test.YtijkipikefpopaaDoorLaw
import Derived.Test.YtijkipikefpopaaDoorEnc
import Derived.Test.YtijkipikefpopaaDoorTy
import Derived.ChangeMaps5
set_option linter.unusedVariables false
set_option linter.unusedSimpArgs false
namespace Go.Proofs.YtijkipikefpopaaDoor
open Go Go.RowKit Go.ChangeShapes Go.WideShapes Go.ChangeAt Go.ChangeMaps

section
variable {T : Type} {P : Program} {H : Type} {enc : TypeId × Value → H} {w : World} {base : Nat} {spare : Nat → Bool} {held : Bool}

/-- a text -/
theorem in_str {r : Reach} {b0 : Nat} {t : TypeId} {v : Value} {d : DataW H} {p : List MemPlace} (ht : P.underlying t = some .string) (hv : Value.okWide P w r b0 t v) (h : DataW.Trod enc P w base spare held t v d p) : ∃ s, RF Any w v (eS s) ∧ s.size ≤ 9223372036854775807 := by
  obtain ⟨s, rfl, _, _, hl⟩ := open_string ht hv h
  exact ⟨s, .atom rfl, by unfold maxLen at hl; exact hl⟩
end
end Go.Proofs.YtijkipikefpopaaDoor
