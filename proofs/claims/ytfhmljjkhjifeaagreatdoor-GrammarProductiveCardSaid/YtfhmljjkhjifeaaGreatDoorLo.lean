/- Loops over lists as runs over lists. -/
import Derived.Test.YtfhmljjkhjifeaaGreatDoorPl
import Derived.Test.YtfhmljjkhjifeaaGreatDoorOpo
set_option linter.unusedVariables false
set_option linter.unusedSimpArgs false
namespace Go.Proofs.YtfhmljjkhjifeaaGreatDoor
open Go Go.RowKit

theorem lt_len {n i : Nat} (h : i < n) : decide ((i : Int) < (n : Int)) = true := decide_eq_true (by omega)
theorem lt_len' (n : Nat) : decide ((n : Int) < (n : Int)) = false := decide_eq_false (by omega)
theorem get_lt {α : Type} {xs : List α} {i : Nat} {x : α} (h : xs[i]? = some x) : i < xs.length := (List.getElem?_eq_some_iff.1 h).1
theorem mkL_eq {α : Type} (b : Nat) (z : α) (n : Nat) (h : (b + 1) * n ≤ 281474976710656) : mkL b z (n : Int) = some (List.replicate n z) := by
  unfold mkL
  have h2 : b * n + n ≤ 281474976710656 := by rw [Nat.add_mul, Nat.one_mul] at h; exact h
  have h3 : (b : Int) * (n : Int) = ((b * n : Nat) : Int) := (Int.natCast_mul b n).symm
  rw [if_pos ⟨by omega, by rw [h3]; omega, by omega⟩]
  simp
end Go.Proofs.YtfhmljjkhjifeaaGreatDoor
