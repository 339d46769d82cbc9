/- The order of values. -/
import Derived.Test.YtfhmljjkhjifeaaGreatDoorLang
import Derived.Test.YtfhmljjkhjifeaaGreatDoorOpm
set_option linter.unusedVariables false
set_option linter.unusedSimpArgs false
namespace Go.Proofs.YtfhmljjkhjifeaaGreatDoor
open Go Go.RowKit

def lessB (a b : ByteArray) : Bool := Op.bytesLess a.toList b.toList
mutual
def cmpV : Va → Va → Int
  | .mk t n s l, .mk t' n' s' l' =>
    if t < t' then -1 else if t' < t then 1 else if n < n' then -1 else if n' < n then 1 else if lessB s s' = true then -1 else if lessB s' s = true then 1 else cmpVs l l'
def cmpVs : List Va → List Va → Int
  | [], [] => 0
  | [], _ :: _ => -1
  | _ :: _, [] => 1
  | x :: l, y :: m => if cmpV x y ≠ 0 then cmpV x y else cmpVs l m
end
def eqV (a b : Va) : Bool := decide (cmpV a b = 0)

theorem bytes_self : ∀ l : List UInt8, Op.bytesLess l l = false
  | [] => rfl
  | x :: l => by simp [Op.bytesLess, bytes_self l]
theorem bytes_eq : ∀ l m : List UInt8, Op.bytesLess l m = false → Op.bytesLess m l = false → l = m
  | [], [], _, _ => rfl
  | [], y :: m, h, _ => by simp [Op.bytesLess] at h
  | x :: l, [], _, h => by simp [Op.bytesLess] at h
  | x :: l, y :: m, h, h' => by
    simp only [Op.bytesLess, Bool.or_eq_false_iff, Bool.and_eq_false_iff, decide_eq_false_iff_not, beq_eq_false_iff_ne] at h h'
    have hxy : x = y := by
      have h1 := h.1
      have h2 := h'.1
      exact UInt8.le_antisymm (UInt8.not_lt.1 h2) (UInt8.not_lt.1 h1)
    subst hxy
    rw [bytes_eq l m (h.2.resolve_left fun h => h rfl) (h'.2.resolve_left fun h => h rfl)]
theorem bytesList_inj {a b : ByteArray} (h : a.toList = b.toList) : a = b := by
  rw [ByteArray.toList_eq, ByteArray.toList_eq] at h
  obtain ⟨⟨a⟩⟩ := a
  obtain ⟨⟨b⟩⟩ := b
  simp at h
  rw [h]
theorem lessB_self (a : ByteArray) : lessB a a = false := bytes_self _
theorem lessB_eq {a b : ByteArray} (h : lessB a b = false) (h' : lessB b a = false) : a = b := bytesList_inj (bytes_eq _ _ h h')

theorem cmpVs_self (l : List Va) (h : ∀ x ∈ l, cmpV x x = 0) : cmpVs l l = 0 := by
  induction l with
  | nil => rfl
  | cons x l ih =>
    rw [cmpVs, if_neg (by simp [h x (by simp)])]
    exact ih fun y hy => h y (by simp [hy])
theorem cmpV_self (v : Va) : cmpV v v = 0 := by
  induction v using Va.ind with
  | h t n s l ih =>
    rw [cmpV, if_neg (by omega), if_neg (by omega), if_neg (by omega), if_neg (by omega), lessB_self]
    simp only [Bool.false_eq_true, if_false]
    exact cmpVs_self l ih
theorem cmpVs_eq : ∀ (l m : List Va), (∀ x ∈ l, ∀ y, cmpV x y = 0 → x = y) → cmpVs l m = 0 → l = m
  | [], [], _, _ => rfl
  | [], _ :: _, _, h => by simp [cmpVs] at h
  | _ :: _, [], _, h => by simp [cmpVs] at h
  | x :: l, y :: m, ih, h => by
    rw [cmpVs] at h
    split at h
    · rename_i h1; exact absurd h h1
    · rename_i h1
      have h1 : cmpV x y = 0 := by omega
      rw [ih x (by simp) y h1, cmpVs_eq l m (fun z hz => ih z (by simp [hz])) h]
theorem cmpV_eq (v : Va) : ∀ u, cmpV v u = 0 → v = u := by
  induction v using Va.ind with
  | h t n s l ih =>
    rintro ⟨t', n', s', l'⟩ h
    rw [cmpV] at h
    repeat' split at h
    all_goals try (exfalso; omega)
    rename_i h1 h2 h3 h4 h5 h6
    obtain rfl : t = t' := by omega
    obtain rfl : n = n' := by omega
    obtain rfl : s = s' := lessB_eq (by simpa using h5) (by simpa using h6)
    rw [cmpVs_eq l l' ih h]
theorem eqV_self (v : Va) : eqV v v = true := by unfold eqV; rw [cmpV_self]; rfl
end Go.Proofs.YtfhmljjkhjifeaaGreatDoor
/- Typed programs in plain Lean: loops, elements, appends. -/
set_option linter.unusedVariables false
set_option linter.unusedSimpArgs false
namespace Go.Proofs.YtfhmljjkhjifeaaGreatDoor
open Go Go.RowKit

theorem fuel_succ : fuel = 18446744073709551615 + 1 := rfl
theorem lt_fuel {n : Nat} (h : n < 18446744073709551616) : n < fuel := h
theorem w64_eq {n : Int} (h : -9223372036854775808 ≤ n) (h2 : n ≤ 9223372036854775807) : w64 n = n := by
  unfold w64 IntKind.wrap IntKind.signed IntKind.bits
  simp only
  rw [show (2 : Int) ^ 64 = 18446744073709551616 from rfl]
  by_cases h0 : 0 ≤ n
  · have : n % 18446744073709551616 = n := Int.emod_eq_of_lt h0 (by omega)
    simp [this]
    omega
  · have : n % 18446744073709551616 = n + 18446744073709551616 := by
      rw [← Int.add_emod_right, Int.emod_eq_of_lt (by omega) (by omega)]
    simp [this]
    omega
theorem w64_succ {n : Nat} (h : n ≤ 9223372036854775806) : w64 ((n : Int) + 1) = ((n + 1 : Nat) : Int) := by
  rw [w64_eq (by omega) (by omega)]; omega
theorem idx_nat {α : Type} (xs : List α) (n : Nat) : idx xs (n : Int) = xs[n]? := by
  unfold idx
  rw [if_pos (by omega)]
  simp
theorem byt_nat (s : ByteArray) (n : Nat) : byt s (n : Int) = (s[n]?).map fun c => (c.toNat : Int) := by
  unfold byt
  rw [if_pos (by omega)]
  simp
section
variable {σ β : Type} {step : σ → Option (σ ⊕ β)}
/-- a loop over states in a row; what it answers from each of them on -/
theorem loop_out (n : Nat) (S : Nat → σ) (out : Nat → β) (hs : ∀ i, i < n → (step (S i) = some (.inl (S (i + 1))) ∧ out i = out (i + 1)) ∨ step (S i) = some (.inr (out i))) (he : step (S n) = some (.inr (out n))) :
    ∀ (k i : Nat), i ≤ n → n - i < k → loopN step k (S i) = some (out i)
  | 0, i, _, h => by omega
  | k + 1, i, hi, hk => by
    rw [loopN]
    by_cases h : i = n
    · subst h; rw [he]
    · rcases hs i (by omega) with ⟨h1, h2⟩ | h1
      · rw [h1, h2]
        exact loop_out n S out hs he k (i + 1) (by omega) (by omega)
      · rw [h1]
theorem loop_fuel (n : Nat) (hn : n < 18446744073709551616) (S : Nat → σ) (out : Nat → β) (hs : ∀ i, i < n → (step (S i) = some (.inl (S (i + 1))) ∧ out i = out (i + 1)) ∨ step (S i) = some (.inr (out i))) (he : step (S n) = some (.inr (out n))) :
    loopN step fuel (S 0) = some (out 0) := loop_out n S out hs he fuel 0 (Nat.zero_le _) (lt_fuel (by omega))
/-- a loop that runs to its end -/
theorem loop_end (n : Nat) (hn : n < 18446744073709551616) (S : Nat → σ) (b : β) (hs : ∀ i, i < n → step (S i) = some (.inl (S (i + 1)))) (he : step (S n) = some (.inr b)) : loopN step fuel (S 0) = some b :=
  loop_fuel n hn S (fun _ => b) (fun i hi => .inl ⟨hs i hi, rfl⟩) he
/-- two loops that do the same -/
theorem loop_same {step' : σ → Option (σ ⊕ β)} (n : Nat) (hn : n < 18446744073709551616) (S : Nat → σ) (hs : ∀ i, i < n → (step (S i) = some (.inl (S (i + 1))) ∧ step' (S i) = some (.inl (S (i + 1)))) ∨ ∃ b, step (S i) = some (.inr b) ∧ step' (S i) = some (.inr b))
    (b : β) (he : step (S n) = some (.inr b)) (he' : step' (S n) = some (.inr b)) : ∃ r, loopN step fuel (S 0) = some r ∧ loopN step' fuel (S 0) = some r := by
  have key : ∀ (k i : Nat), i ≤ n → n - i < k → ∃ r, loopN step k (S i) = some r ∧ loopN step' k (S i) = some r := by
    intro k
    induction k with
    | zero => intro i _ h; omega
    | succ k ih =>
      intro i hi hk
      rw [loopN, loopN]
      by_cases h : i = n
      · subst h; rw [he, he']; exact ⟨b, rfl, rfl⟩
      · rcases hs i (by omega) with ⟨h1, h2⟩ | ⟨c, h1, h2⟩
        · rw [h1, h2]
          exact ih (i + 1) (by omega) (by omega)
        · rw [h1, h2]; exact ⟨c, rfl, rfl⟩
  exact key fuel 0 (Nat.zero_le _) (lt_fuel (by omega))
end
/-- two loops over as many states, each with its own -/
theorem loop_two {σ β σ' β' : Type} {step : σ → Option (σ ⊕ β)} {step' : σ' → Option (σ' ⊕ β')} (n : Nat) (hn : n < 18446744073709551616) (S : Nat → σ) (S' : Nat → σ') (Q : β → β' → Prop)
    (hs : ∀ i, i < n → (step (S i) = some (.inl (S (i + 1))) ∧ step' (S' i) = some (.inl (S' (i + 1)))) ∨ ∃ b b', step (S i) = some (.inr b) ∧ step' (S' i) = some (.inr b') ∧ Q b b')
    (he : ∃ b b', step (S n) = some (.inr b) ∧ step' (S' n) = some (.inr b') ∧ Q b b') : ∃ r r', loopN step fuel (S 0) = some r ∧ loopN step' fuel (S' 0) = some r' ∧ Q r r' := by
  have key : ∀ (k i : Nat), i ≤ n → n - i < k → ∃ r r', loopN step k (S i) = some r ∧ loopN step' k (S' i) = some r' ∧ Q r r' := by
    intro k
    induction k with
    | zero => intro i _ h; omega
    | succ k ih =>
      intro i hi hk
      rw [loopN, loopN]
      by_cases h : i = n
      · subst h
        obtain ⟨b, b', h1, h2, h3⟩ := he
        rw [h1, h2]; exact ⟨b, b', rfl, rfl, h3⟩
      · rcases hs i (by omega) with ⟨h1, h2⟩ | ⟨b, b', h1, h2, h3⟩
        · rw [h1, h2]
          exact ih (i + 1) (by omega) (by omega)
        · rw [h1, h2]; exact ⟨b, b', rfl, rfl, h3⟩
  exact key fuel 0 (Nat.zero_le _) (lt_fuel (by omega))
end Go.Proofs.YtfhmljjkhjifeaaGreatDoor
