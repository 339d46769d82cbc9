/- A small logic over plain texts: a text has a value, and the value has a property. -/
import Derived.Test.YtfhmljjkhjifeaaGreatDoorLo
set_option linter.unusedVariables false
set_option linter.unusedSimpArgs false
set_option maxRecDepth 100000
namespace Go.Proofs.YtfhmljjkhjifeaaGreatDoor
open Go Go.RowKit

/-- x has a value, and P holds of it -/
def Ev {α : Type} (x : Option α) (P : α → Prop) : Prop := ∃ v, x = some v ∧ P v
theorem ev_some {α : Type} {v : α} {P : α → Prop} (h : P v) : Ev (some v) P := ⟨v, rfl, h⟩
theorem Ev.eq {α : Type} {x : Option α} {v : α} (h : Ev x (· = v)) : x = some v := by obtain ⟨u, h1, rfl⟩ := h; exact h1
theorem Ev.mono {α : Type} {x : Option α} {P Q : α → Prop} (h : Ev x P) (hp : ∀ v, P v → Q v) : Ev x Q := by obtain ⟨v, h1, h2⟩ := h; exact ⟨v, h1, hp v h2⟩
theorem ev_bind {α β : Type} {x : Option α} {k : α → Option β} {P : β → Prop} (h : Ev x fun v => Ev (k v) P) : Ev (Option.bind x k) P := by
  obtain ⟨v, rfl, u, h1, h2⟩ := h
  exact ⟨u, h1, h2⟩
theorem ev_if {α : Type} {c : Bool} {x y : Option α} {P : α → Prop} (h1 : c = true → Ev x P) (h0 : c = false → Ev y P) : Ev (bif c then x else y) P := by
  cases c
  · exact h0 rfl
  · exact h1 rfl
/-- a loop that counts up: I i holds of the state at round i -/
theorem ev_loop {σ β : Type} {step : σ → Option (σ ⊕ β)} {s0 : σ} {Q : β → Prop} (n : Nat) (I : Nat → σ → Prop) (hn : n < 18446744073709551616) (h0 : I 0 s0)
    (hs : ∀ i s, i < n → I i s → Ev (step s) (Sum.elim (I (i + 1)) Q)) (he : ∀ s, I n s → Ev (step s) fun r => ∃ b, r = .inr b ∧ Q b) : Ev (loopN step fuel s0) Q := by
  have key : ∀ (k m N : Nat) (s : σ), m + k = n → k < N → I m s → Ev (loopN step N s) Q := by
    intro k
    induction k with
    | zero =>
      intro m N s hm hN hI
      obtain ⟨N, rfl⟩ : ∃ j, N = j + 1 := ⟨N - 1, by omega⟩
      obtain rfl : m = n := by omega
      obtain ⟨r, h1, b, rfl, h2⟩ := he s hI
      exact ⟨b, by rw [loopN, h1], h2⟩
    | succ k ih =>
      intro m N s hm hN hI
      obtain ⟨N, rfl⟩ : ∃ j, N = j + 1 := ⟨N - 1, by omega⟩
      obtain ⟨r, h1, h2⟩ := hs m s (by omega) hI
      cases r with
      | inl s' =>
        obtain ⟨b, h3, h4⟩ := ih (m + 1) N s' (by omega) (by omega) h2
        exact ⟨b, by rw [loopN, h1]; exact h3, h4⟩
      | inr b => exact ⟨b, by rw [loopN, h1], h2⟩
  exact key n 0 fuel s0 (by omega) (lt_fuel hn) h0
theorem ev_go {σ β : Type} {x : Option (σ ⊕ β)} {s : σ} {P : σ → Prop} {Q : β → Prop} (h : x = some (.inl s)) (hp : P s) : Ev x (Sum.elim P Q) := ⟨_, h, hp⟩
theorem ev_out {σ β : Type} {x : Option (σ ⊕ β)} {b : β} {Q : β → Prop} (h : x = some (.inr b)) (hq : Q b) : Ev x fun r => ∃ b, r = .inr b ∧ Q b := ⟨_, h, b, rfl, hq⟩
/-! lists: the numbers below n that have a property -/
def selN (p : Nat → Bool) (n : Nat) : List Nat := (List.range n).filter p
theorem selN_zero (p : Nat → Bool) : selN p 0 = [] := rfl
theorem selN_yes {p : Nat → Bool} {n : Nat} (h : p n = true) : selN p (n + 1) = selN p n ++ [n] := by simp [selN, List.range_succ, List.filter_append, h]
theorem selN_no {p : Nat → Bool} {n : Nat} (h : p n = false) : selN p (n + 1) = selN p n := by simp [selN, List.range_succ, List.filter_append, h]
theorem selN_len_le (p : Nat → Bool) (n : Nat) : (selN p n).length ≤ n := by
  have := List.length_filter_le p (List.range n)
  simpa [selN] using this
theorem mem_selN {p : Nat → Bool} {n i : Nat} : i ∈ selN p n ↔ i < n ∧ p i = true := by simp [selN]
theorem selN_mono_len {p : Nat → Bool} {n m : Nat} (h : n ≤ m) : (selN p n).length ≤ (selN p m).length := by
  induction h with
  | refl => exact Nat.le_refl _
  | @step k _ ih =>
    cases hb : p k with
    | true => rw [selN_yes hb, List.length_append]; simp; omega
    | false => rw [selN_no hb]; exact ih
/-- the place of a chosen number among the chosen -/
theorem selN_at {p : Nat → Bool} {i : Nat} : ∀ {n : Nat}, i < n → p i = true → (selN p n)[(selN p i).length]? = some i := by
  intro n
  induction n with
  | zero => intro h; omega
  | succ n ih =>
    intro h hp
    by_cases he : i = n
    · subst he
      rw [selN_yes hp, List.getElem?_append_right (Nat.le_refl _), Nat.sub_self]
      rfl
    · have hlt : i < n := by omega
      have h1 := ih hlt hp
      have h2 := (List.getElem?_eq_some_iff.1 h1).1
      cases hb : p n with
      | true => rw [selN_yes hb, List.getElem?_append_left h2]; exact h1
      | false => rw [selN_no hb]; exact h1
theorem selN_lt {p : Nat → Bool} {i j : Nat} (h : i < j) (hp : p i = true) : (selN p i).length < (selN p j).length := by
  have := selN_mono_len (p := p) (show i + 1 ≤ j from h)
  rw [selN_yes hp, List.length_append] at this
  simp at this
  omega
theorem selN_inj {p : Nat → Bool} {i j : Nat} (hi : p i = true) (hj : p j = true) (h : (selN p i).length = (selN p j).length) : i = j := by
  rcases Nat.lt_trichotomy i j with h1 | h1 | h1
  · have := selN_lt h1 hi; omega
  · exact h1
  · have := selN_lt h1 hj; omega
theorem selN_all {p : Nat → Bool} {n : Nat} (h : ∀ i, i < n → p i = true) : selN p n = List.range n := by
  unfold selN
  exact List.filter_eq_self.2 fun i hi => h i (by simpa using hi)
end Go.Proofs.YtfhmljjkhjifeaaGreatDoor
