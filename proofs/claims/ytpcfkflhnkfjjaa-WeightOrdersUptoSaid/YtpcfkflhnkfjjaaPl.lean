/- The order of values. -/
import Derived.Test.YtpcfkflhnkfjjaaLang
import Derived.Test.YtpcfkflhnkfjjaaOpm
set_option linter.unusedVariables false
set_option linter.unusedSimpArgs false
namespace Go.Proofs.Ytpcfkflhnkfjjaa
open Go Go.RowKit

def lessB (a b : ByteArray) : Bool := Op.bytesLess a.toList b.toList
mutual
def cmpV : Va → Va → Int
  | .mk t n s l, .mk t' n' s' l' =>
    if t < t' then -1 else if t' < t then 1 else if n < n' then -1 else if n' < n then 1 else if lessB s s' = true then -1 else if lessB s' s = true then 1 else cmpVs l l'
def cmpVs : List Va → List Va → Int
  | [], [] => 0
  | [], _ :: _ => -1
  | _ :: _, [] => 1
  | x :: l, y :: m => if cmpV x y ≠ 0 then cmpV x y else cmpVs l m
end
end Go.Proofs.Ytpcfkflhnkfjjaa
/- Typed programs in plain Lean: loops, elements, appends. -/
set_option linter.unusedVariables false
set_option linter.unusedSimpArgs false
namespace Go.Proofs.Ytpcfkflhnkfjjaa
open Go Go.RowKit

theorem lt_fuel {n : Nat} (h : n < 18446744073709551616) : n < fuel := h
theorem w64_eq {n : Int} (h : -9223372036854775808 ≤ n) (h2 : n ≤ 9223372036854775807) : w64 n = n := by
  unfold w64 IntKind.wrap IntKind.signed IntKind.bits
  simp only
  rw [show (2 : Int) ^ 64 = 18446744073709551616 from rfl]
  by_cases h0 : 0 ≤ n
  · have : n % 18446744073709551616 = n := Int.emod_eq_of_lt h0 (by omega)
    simp [this]
    omega
  · have : n % 18446744073709551616 = n + 18446744073709551616 := by
      rw [← Int.add_emod_right, Int.emod_eq_of_lt (by omega) (by omega)]
    simp [this]
    omega
theorem w64_succ {n : Nat} (h : n ≤ 9223372036854775806) : w64 ((n : Int) + 1) = ((n + 1 : Nat) : Int) := by
  rw [w64_eq (by omega) (by omega)]; omega
theorem idx_nat {α : Type} (xs : List α) (n : Nat) : idx xs (n : Int) = xs[n]? := by
  unfold idx
  rw [if_pos (by omega)]
  simp
theorem app_eq {α : Type} {b : Nat} {xs ys : List α} (h : (xs.length + ys.length) * (b + 1) ≤ 140737488355328) : app b xs ys = some (xs ++ ys) := by
  unfold app
  rw [if_pos h]
section
variable {σ β : Type} {step : σ → Option (σ ⊕ β)}
/-- a loop over states in a row; what it answers from each of them on -/
theorem loop_out (n : Nat) (S : Nat → σ) (out : Nat → β) (hs : ∀ i, i < n → (step (S i) = some (.inl (S (i + 1))) ∧ out i = out (i + 1)) ∨ step (S i) = some (.inr (out i))) (he : step (S n) = some (.inr (out n))) :
    ∀ (k i : Nat), i ≤ n → n - i < k → loopN step k (S i) = some (out i)
  | 0, i, _, h => by omega
  | k + 1, i, hi, hk => by
    rw [loopN]
    by_cases h : i = n
    · subst h; rw [he]
    · rcases hs i (by omega) with ⟨h1, h2⟩ | h1
      · rw [h1, h2]
        exact loop_out n S out hs he k (i + 1) (by omega) (by omega)
      · rw [h1]
theorem loop_fuel (n : Nat) (hn : n < 18446744073709551616) (S : Nat → σ) (out : Nat → β) (hs : ∀ i, i < n → (step (S i) = some (.inl (S (i + 1))) ∧ out i = out (i + 1)) ∨ step (S i) = some (.inr (out i))) (he : step (S n) = some (.inr (out n))) :
    loopN step fuel (S 0) = some (out 0) := loop_out n S out hs he fuel 0 (Nat.zero_le _) (lt_fuel (by omega))
end
/-- two loops over as many states, each with its own -/
theorem loop_two {σ β σ' β' : Type} {step : σ → Option (σ ⊕ β)} {step' : σ' → Option (σ' ⊕ β')} (n : Nat) (hn : n < 18446744073709551616) (S : Nat → σ) (S' : Nat → σ') (Q : β → β' → Prop)
    (hs : ∀ i, i < n → (step (S i) = some (.inl (S (i + 1))) ∧ step' (S' i) = some (.inl (S' (i + 1)))) ∨ ∃ b b', step (S i) = some (.inr b) ∧ step' (S' i) = some (.inr b') ∧ Q b b')
    (he : ∃ b b', step (S n) = some (.inr b) ∧ step' (S' n) = some (.inr b') ∧ Q b b') : ∃ r r', loopN step fuel (S 0) = some r ∧ loopN step' fuel (S' 0) = some r' ∧ Q r r' := by
  have key : ∀ (k i : Nat), i ≤ n → n - i < k → ∃ r r', loopN step k (S i) = some r ∧ loopN step' k (S' i) = some r' ∧ Q r r' := by
    intro k
    induction k with
    | zero => intro i _ h; omega
    | succ k ih =>
      intro i hi hk
      rw [loopN, loopN]
      by_cases h : i = n
      · subst h
        obtain ⟨b, b', h1, h2, h3⟩ := he
        rw [h1, h2]; exact ⟨b, b', rfl, rfl, h3⟩
      · rcases hs i (by omega) with ⟨h1, h2⟩ | ⟨b, b', h1, h2, h3⟩
        · rw [h1, h2]
          exact ih (i + 1) (by omega) (by omega)
        · rw [h1, h2]; exact ⟨b, b', rfl, rfl, h3⟩
  exact key fuel 0 (Nat.zero_le _) (lt_fuel (by omega))
end Go.Proofs.Ytpcfkflhnkfjjaa
