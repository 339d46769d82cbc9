import Derived.Test.YtaimpcnpifoidaaGreatDoorPl
import Derived.Test.YtaimpcnpifoidaaGreatDoorOpo
set_option linter.unusedVariables false
set_option linter.unusedSimpArgs false
namespace Go.Proofs.YtaimpcnpifoidaaGreatDoor
open Go Go.RowKit
theorem kd3 {n i : Nat} (h : i < n) : decide ((i : Int) < (n : Int)) = true := decide_eq_true (by omega)
theorem kjg (n : Nat) : decide ((n : Int) < (n : Int)) = false := decide_eq_false (by omega)
theorem kx1 {n m : Nat} (h : n < m) (hm : m ≤ 9223372036854775807) : w64 ((n : Int) + 1) = ((n + 1 : Nat) : Int) := kbt (by omega)
end Go.Proofs.YtaimpcnpifoidaaGreatDoor
