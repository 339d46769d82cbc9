/- A small logic over plain texts: a text has a value, and the value has a property. -/
import Derived.Test.YtfhmljjkhjifeaaGreatDoorLo
set_option linter.unusedVariables false
set_option linter.unusedSimpArgs false
set_option maxRecDepth 100000
namespace Go.Proofs.YtfhmljjkhjifeaaGreatDoor
open Go Go.RowKit

/-- x has a value, and P holds of it -/
def Ev {α : Type} (x : Option α) (P : α → Prop) : Prop := ∃ v, x = some v ∧ P v
theorem Ev.eq {α : Type} {x : Option α} {v : α} (h : Ev x (· = v)) : x = some v := by obtain ⟨u, h1, rfl⟩ := h; exact h1
theorem Ev.mono {α : Type} {x : Option α} {P Q : α → Prop} (h : Ev x P) (hp : ∀ v, P v → Q v) : Ev x Q := by obtain ⟨v, h1, h2⟩ := h; exact ⟨v, h1, hp v h2⟩
/-- a loop that counts up: I i holds of the state at round i -/
theorem ev_loop {σ β : Type} {step : σ → Option (σ ⊕ β)} {s0 : σ} {Q : β → Prop} (n : Nat) (I : Nat → σ → Prop) (hn : n < 18446744073709551616) (h0 : I 0 s0)
    (hs : ∀ i s, i < n → I i s → Ev (step s) (Sum.elim (I (i + 1)) Q)) (he : ∀ s, I n s → Ev (step s) fun r => ∃ b, r = .inr b ∧ Q b) : Ev (loopN step fuel s0) Q := by
  have key : ∀ (k m N : Nat) (s : σ), m + k = n → k < N → I m s → Ev (loopN step N s) Q := by
    intro k
    induction k with
    | zero =>
      intro m N s hm hN hI
      obtain ⟨N, rfl⟩ : ∃ j, N = j + 1 := ⟨N - 1, by omega⟩
      obtain rfl : m = n := by omega
      obtain ⟨r, h1, b, rfl, h2⟩ := he s hI
      exact ⟨b, by rw [loopN, h1], h2⟩
    | succ k ih =>
      intro m N s hm hN hI
      obtain ⟨N, rfl⟩ : ∃ j, N = j + 1 := ⟨N - 1, by omega⟩
      obtain ⟨r, h1, h2⟩ := hs m s (by omega) hI
      cases r with
      | inl s' =>
        obtain ⟨b, h3, h4⟩ := ih (m + 1) N s' (by omega) (by omega) h2
        exact ⟨b, by rw [loopN, h1]; exact h3, h4⟩
      | inr b => exact ⟨b, by rw [loopN, h1], h2⟩
  exact key n 0 fuel s0 (by omega) (lt_fuel hn) h0
theorem ev_go {σ β : Type} {x : Option (σ ⊕ β)} {s : σ} {P : σ → Prop} {Q : β → Prop} (h : x = some (.inl s)) (hp : P s) : Ev x (Sum.elim P Q) := ⟨_, h, hp⟩
theorem ev_out {σ β : Type} {x : Option (σ ⊕ β)} {b : β} {Q : β → Prop} (h : x = some (.inr b)) (hq : Q b) : Ev x fun r => ∃ b, r = .inr b ∧ Q b := ⟨_, h, b, rfl, hq⟩
/-! lists: the numbers below n that have a property -/
def selN (p : Nat → Bool) (n : Nat) : List Nat := (List.range n).filter p
end Go.Proofs.YtfhmljjkhjifeaaGreatDoor
