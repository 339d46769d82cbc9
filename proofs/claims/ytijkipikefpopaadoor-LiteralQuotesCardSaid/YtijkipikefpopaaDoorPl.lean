/- The order of values. -/
import Derived.Test.YtijkipikefpopaaDoorLang
import Derived.Test.YtijkipikefpopaaDoorOpm
set_option linter.unusedVariables false
set_option linter.unusedSimpArgs false
namespace Go.Proofs.YtijkipikefpopaaDoor
open Go Go.RowKit

def lessB (a b : ByteArray) : Bool := Op.bytesLess a.toList b.toList
mutual
def cmpV : Va → Va → Int
  | .mk t n s l, .mk t' n' s' l' =>
    if t < t' then -1 else if t' < t then 1 else if n < n' then -1 else if n' < n then 1 else if lessB s s' = true then -1 else if lessB s' s = true then 1 else cmpVs l l'
def cmpVs : List Va → List Va → Int
  | [], [] => 0
  | [], _ :: _ => -1
  | _ :: _, [] => 1
  | x :: l, y :: m => if cmpV x y ≠ 0 then cmpV x y else cmpVs l m
end
theorem bytesList_inj {a b : ByteArray} (h : a.toList = b.toList) : a = b := by
  rw [ByteArray.toList_eq, ByteArray.toList_eq] at h
  obtain ⟨⟨a⟩⟩ := a
  obtain ⟨⟨b⟩⟩ := b
  simp at h
  rw [h]
end Go.Proofs.YtijkipikefpopaaDoor
/- Typed programs in plain Lean: loops, elements, appends. -/
set_option linter.unusedVariables false
set_option linter.unusedSimpArgs false
namespace Go.Proofs.YtijkipikefpopaaDoor
open Go Go.RowKit

theorem fuel_succ : fuel = 18446744073709551615 + 1 := rfl
theorem lt_fuel {n : Nat} (h : n < 18446744073709551616) : n < fuel := h
theorem w64_eq {n : Int} (h : -9223372036854775808 ≤ n) (h2 : n ≤ 9223372036854775807) : w64 n = n := by
  unfold w64 IntKind.wrap IntKind.signed IntKind.bits
  simp only
  rw [show (2 : Int) ^ 64 = 18446744073709551616 from rfl]
  by_cases h0 : 0 ≤ n
  · have : n % 18446744073709551616 = n := Int.emod_eq_of_lt h0 (by omega)
    simp [this]
    omega
  · have : n % 18446744073709551616 = n + 18446744073709551616 := by
      rw [← Int.add_emod_right, Int.emod_eq_of_lt (by omega) (by omega)]
    simp [this]
    omega
theorem w64_succ {n : Nat} (h : n ≤ 9223372036854775806) : w64 ((n : Int) + 1) = ((n + 1 : Nat) : Int) := by
  rw [w64_eq (by omega) (by omega)]; omega
theorem idx_nat {α : Type} (xs : List α) (n : Nat) : idx xs (n : Int) = xs[n]? := by
  unfold idx
  rw [if_pos (by omega)]
  simp
theorem byt_nat (s : ByteArray) (n : Nat) : byt s (n : Int) = (s[n]?).map fun c => (c.toNat : Int) := by
  unfold byt
  rw [if_pos (by omega)]
  simp
theorem app_eq {α : Type} {b : Nat} {xs ys : List α} (h : (xs.length + ys.length) * (b + 1) ≤ 140737488355328) : app b xs ys = some (xs ++ ys) := by
  unfold app
  rw [if_pos h]
theorem cat_eq {s u : ByteArray} (h : s.size + u.size ≤ 9223372036854775807) : cat s u = some (s ++ u) := by
  unfold cat
  rw [if_pos h]

section
variable {σ β : Type} {step : σ → Option (σ ⊕ β)}
end
end Go.Proofs.YtijkipikefpopaaDoor
