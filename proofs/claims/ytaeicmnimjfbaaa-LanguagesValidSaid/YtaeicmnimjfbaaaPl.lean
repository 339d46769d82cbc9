/- Typed programs in plain Lean: loops, elements, appends. -/
import Derived.Test.YtaeicmnimjfbaaaOpm
import Derived.Test.YtaeicmnimjfbaaaValP
set_option linter.unusedVariables false
set_option linter.unusedSimpArgs false
namespace Go.Proofs.Ytaeicmnimjfbaaa
open Go Go.RowKit

theorem fuel_succ : fuel = 18446744073709551615 + 1 := rfl
theorem lt_fuel {n : Nat} (h : n < 18446744073709551616) : n < fuel := h
theorem w64_eq {n : Int} (h : -9223372036854775808 ≤ n) (h2 : n ≤ 9223372036854775807) : w64 n = n := by
  unfold w64 IntKind.wrap IntKind.signed IntKind.bits
  simp only
  rw [show (2 : Int) ^ 64 = 18446744073709551616 from rfl]
  by_cases h0 : 0 ≤ n
  · have : n % 18446744073709551616 = n := Int.emod_eq_of_lt h0 (by omega)
    simp [this]
    omega
  · have : n % 18446744073709551616 = n + 18446744073709551616 := by
      rw [← Int.add_emod_right, Int.emod_eq_of_lt (by omega) (by omega)]
    simp [this]
    omega
theorem w64_succ {n : Nat} (h : n ≤ 9223372036854775806) : w64 ((n : Int) + 1) = ((n + 1 : Nat) : Int) := by
  rw [w64_eq (by omega) (by omega)]; omega
theorem idx_nat {α : Type} (xs : List α) (n : Nat) : idx xs (n : Int) = xs[n]? := by
  unfold idx
  rw [if_pos (by omega)]
  simp
theorem byt_nat (s : ByteArray) (n : Nat) : byt s (n : Int) = (s[n]?).map fun c => (c.toNat : Int) := by
  unfold byt
  rw [if_pos (by omega)]
  simp
theorem app_eq {α : Type} {b : Nat} {xs ys : List α} (h : (xs.length + ys.length) * (b + 1) ≤ 140737488355328) : app b xs ys = some (xs ++ ys) := by
  unfold app
  rw [if_pos h]
theorem cat_eq {s u : ByteArray} (h : s.size + u.size ≤ 9223372036854775807) : cat s u = some (s ++ u) := by
  unfold cat
  rw [if_pos h]

section
variable {σ β : Type} {step : σ → Option (σ ⊕ β)}
/-- a loop over states in a row; what it answers from each of them on -/
theorem loop_out (n : Nat) (S : Nat → σ) (out : Nat → β) (hs : ∀ i, i < n → (step (S i) = some (.inl (S (i + 1))) ∧ out i = out (i + 1)) ∨ step (S i) = some (.inr (out i))) (he : step (S n) = some (.inr (out n))) :
    ∀ (k i : Nat), i ≤ n → n - i < k → loopN step k (S i) = some (out i)
  | 0, i, _, h => by omega
  | k + 1, i, hi, hk => by
    rw [loopN]
    by_cases h : i = n
    · subst h; rw [he]
    · rcases hs i (by omega) with ⟨h1, h2⟩ | h1
      · rw [h1, h2]
        exact loop_out n S out hs he k (i + 1) (by omega) (by omega)
      · rw [h1]
theorem loop_fuel (n : Nat) (hn : n < 18446744073709551616) (S : Nat → σ) (out : Nat → β) (hs : ∀ i, i < n → (step (S i) = some (.inl (S (i + 1))) ∧ out i = out (i + 1)) ∨ step (S i) = some (.inr (out i))) (he : step (S n) = some (.inr (out n))) :
    loopN step fuel (S 0) = some (out 0) := loop_out n S out hs he fuel 0 (Nat.zero_le _) (lt_fuel (by omega))
/-- a loop that runs to its end -/
theorem loop_end (n : Nat) (hn : n < 18446744073709551616) (S : Nat → σ) (b : β) (hs : ∀ i, i < n → step (S i) = some (.inl (S (i + 1)))) (he : step (S n) = some (.inr b)) : loopN step fuel (S 0) = some b :=
  loop_fuel n hn S (fun _ => b) (fun i hi => .inl ⟨hs i hi, rfl⟩) he
/-- two loops that do the same -/
theorem loop_same {step' : σ → Option (σ ⊕ β)} (n : Nat) (hn : n < 18446744073709551616) (S : Nat → σ) (hs : ∀ i, i < n → (step (S i) = some (.inl (S (i + 1))) ∧ step' (S i) = some (.inl (S (i + 1)))) ∨ ∃ b, step (S i) = some (.inr b) ∧ step' (S i) = some (.inr b))
    (b : β) (he : step (S n) = some (.inr b)) (he' : step' (S n) = some (.inr b)) : ∃ r, loopN step fuel (S 0) = some r ∧ loopN step' fuel (S 0) = some r := by
  have key : ∀ (k i : Nat), i ≤ n → n - i < k → ∃ r, loopN step k (S i) = some r ∧ loopN step' k (S i) = some r := by
    intro k
    induction k with
    | zero => intro i _ h; omega
    | succ k ih =>
      intro i hi hk
      rw [loopN, loopN]
      by_cases h : i = n
      · subst h; rw [he, he']; exact ⟨b, rfl, rfl⟩
      · rcases hs i (by omega) with ⟨h1, h2⟩ | ⟨c, h1, h2⟩
        · rw [h1, h2]
          exact ih (i + 1) (by omega) (by omega)
        · rw [h1, h2]; exact ⟨c, rfl, rfl⟩
  exact key fuel 0 (Nat.zero_le _) (lt_fuel (by omega))
/-- a loop that appends one for each -/
theorem loop_map {α γ : Type} {step : Int × List γ → Option ((Int × List γ) ⊕ List γ)} (xs : List α) (f : α → γ) (base : List γ) (hn : xs.length < 18446744073709551616)
    (hs : ∀ (i : Nat) (x : α), xs[i]? = some x → step ((i : Int), base ++ (xs.take i).map f) = some (.inl (((i + 1 : Nat) : Int), base ++ (xs.take i).map f ++ [f x])))
    (he : step ((xs.length : Int), base ++ xs.map f) = some (.inr (base ++ xs.map f))) : loopN step fuel (0, base) = some (base ++ xs.map f) := by
  have := loop_end (step := step) xs.length hn (fun i => ((i : Int), base ++ (xs.take i).map f)) (base ++ xs.map f) (fun i hi => by
    have h1 : xs[i]? = some xs[i] := List.getElem?_eq_getElem hi
    rw [hs i _ h1]
    have h2 : base ++ (xs.take (i + 1)).map f = base ++ (xs.take i).map f ++ [f xs[i]] := by
      rw [List.take_add_one, h1, List.map_append, List.append_assoc]; rfl
    rw [h2]) (by simpa using he)
  simpa using this
end
/-- two loops over as many states, each with its own -/
theorem loop_two {σ β σ' β' : Type} {step : σ → Option (σ ⊕ β)} {step' : σ' → Option (σ' ⊕ β')} (n : Nat) (hn : n < 18446744073709551616) (S : Nat → σ) (S' : Nat → σ') (Q : β → β' → Prop)
    (hs : ∀ i, i < n → (step (S i) = some (.inl (S (i + 1))) ∧ step' (S' i) = some (.inl (S' (i + 1)))) ∨ ∃ b b', step (S i) = some (.inr b) ∧ step' (S' i) = some (.inr b') ∧ Q b b')
    (he : ∃ b b', step (S n) = some (.inr b) ∧ step' (S' n) = some (.inr b') ∧ Q b b') : ∃ r r', loopN step fuel (S 0) = some r ∧ loopN step' fuel (S' 0) = some r' ∧ Q r r' := by
  have key : ∀ (k i : Nat), i ≤ n → n - i < k → ∃ r r', loopN step k (S i) = some r ∧ loopN step' k (S' i) = some r' ∧ Q r r' := by
    intro k
    induction k with
    | zero => intro i _ h; omega
    | succ k ih =>
      intro i hi hk
      rw [loopN, loopN]
      by_cases h : i = n
      · subst h
        obtain ⟨b, b', h1, h2, h3⟩ := he
        rw [h1, h2]; exact ⟨b, b', rfl, rfl, h3⟩
      · rcases hs i (by omega) with ⟨h1, h2⟩ | ⟨b, b', h1, h2, h3⟩
        · rw [h1, h2]
          exact ih (i + 1) (by omega) (by omega)
        · rw [h1, h2]; exact ⟨b, b', rfl, rfl, h3⟩
  exact key fuel 0 (Nat.zero_le _) (lt_fuel (by omega))
end Go.Proofs.Ytaeicmnimjfbaaa
