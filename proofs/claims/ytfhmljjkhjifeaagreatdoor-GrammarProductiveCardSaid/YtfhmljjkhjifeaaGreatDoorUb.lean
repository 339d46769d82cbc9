/- Trim, by both texts; GrammarTrims. -/
import Derived.Test.YtfhmljjkhjifeaaGreatDoorTl
import Derived.Test.YtfhmljjkhjifeaaGreatDoorEv
set_option linter.unusedVariables false
set_option linter.unusedSimpArgs false
set_option maxRecDepth 100000
namespace Go.Proofs.YtfhmljjkhjifeaaGreatDoor
open Go Go.RowKit

theorem wide_mono {B C : Nat} (h : B ≤ C) : ∀ x : Va, wideV B x → wideV C x
  | .mk t m s l => fun hw => ⟨Nat.le_trans hw.1 h, wides_mono h l hw.2⟩
where
  wides_mono {B C : Nat} (h : B ≤ C) : ∀ l : List Va, wideVs B l → wideVs C l
  | [], _ => trivial
  | x :: l, hw => ⟨wide_mono h x hw.1, wides_mono h l hw.2⟩
/-- a rule that can be compared -/
def modR (r : Ru) : Prop := r.args.length ≤ 4000000000 ∧ okV r.const
/-- a language that can be compared -/
structure ModL (l : La) : Prop where
  inputs : l.inputs.length ≤ 4000000000
  symbols : l.symbols.length ≤ 4000000000
  rules : l.rules.length ≤ 4000000000
  mods : ∀ r ∈ l.rules, modR r
end Go.Proofs.YtfhmljjkhjifeaaGreatDoor
set_option linter.unusedVariables false
set_option linter.unusedSimpArgs false
set_option maxRecDepth 100000
namespace Go.Proofs.YtfhmljjkhjifeaaGreatDoor
open Go Go.RowKit

/-- the symbols that stay; the rules that stay -/
def keepL (l : La) : List Bool := selfR true 0 (refReach (fun r => allB r (prodL l)) 0 l)
/-- the new number of a symbol -/
def rkL (l : La) (i : Nat) : Nat := (selN (mk (keepL l)) i).length
/-- the numbers that a text writes down -/
structure NumOk (l : La) (i : Nat) (num : List Int) : Prop where
  len : num.length = l.symbols.length
  val : ∀ j, j < i → mk (keepL l) j = true → num[j]? = some (rkL l j : Int)
theorem NumOk.set {l : La} {i : Nat} {num : List Int} (h : NumOk l i num) (hi : i < l.symbols.length) : NumOk l (i + 1) (num.set i (rkL l i : Int)) := by
  refine ⟨by rw [List.length_set]; exact h.len, fun j hj hk => ?_⟩
  by_cases hji : i = j
  · subst hji
    rw [List.getElem?_set_self (by rw [h.len]; exact hi)]
  · rw [List.getElem?_set_ne hji]
    exact h.val j (by omega) hk
theorem idx_mk {s : List Bool} {i : Nat} (hi : i < s.length) : idx s (i : Int) = some (mk s i) := by
  rw [idx_nat, List.getElem?_eq_getElem hi]
  simp [mk, List.getD_eq_getElem?_getD, hi]
theorem SmallL.fine {l : La} (h : SmallL l) : ∀ r ∈ l.rules, depV r.const ≤ 1000000 ∧ wideV 1000 r.const := fun r hr => by
  obtain ⟨a1, a2, a3, a4⟩ := h.2.2.2.2.2 r hr
  exact ⟨by omega, wide_mono (by omega) _ a4⟩
end Go.Proofs.YtfhmljjkhjifeaaGreatDoor
