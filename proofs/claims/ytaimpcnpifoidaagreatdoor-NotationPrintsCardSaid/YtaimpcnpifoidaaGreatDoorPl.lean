import Derived.Test.YtaimpcnpifoidaaGreatDoorLang
import Derived.Test.YtaimpcnpifoidaaGreatDoorOpm
set_option linter.unusedVariables false
set_option linter.unusedSimpArgs false
namespace Go.Proofs.YtaimpcnpifoidaaGreatDoor
open Go Go.RowKit
def kfe (a b : ByteArray) : Bool := Op.bytesLess a.toList b.toList
mutual
def cmpV : Va → Va → Int
 | .mk t n s l, .mk t' n' s' l' =>
  if t < t' then -1 else if t' < t then 1 else if n < n' then -1 else if n' < n then 1 else if kfe s s' = true then -1 else if kfe s' s = true then 1 else kge l l'
def kge : List Va → List Va → Int
 | [], [] => 0
 | [], _ :: _ => -1
 | _ :: _, [] => 1
 | x :: l, y :: m => if cmpV x y ≠ 0 then cmpV x y else kge l m
end
def eqV (a b : Va) : Bool := decide (cmpV a b = 0)
theorem kmb : ∀ l : List UInt8, Op.bytesLess l l = false
 | [] => rfl
 | x :: l => by simp [Op.bytesLess, kmb l]
theorem kr4 : ∀ l m : List UInt8, Op.bytesLess l m = false → Op.bytesLess m l = false → l = m
 | [], [], _, _ => rfl
 | [], y :: m, h, _ => by simp [Op.bytesLess] at h
 | x :: l, [], _, h => by simp [Op.bytesLess] at h
 | x :: l, y :: m, h, h' => by
  simp only [Op.bytesLess, Bool.or_eq_false_iff, Bool.and_eq_false_iff, decide_eq_false_iff_not, beq_eq_false_iff_ne] at h h'
  have hxy : x = y := by
   have h1 := h.1
   have h2 := h'.1
   exact UInt8.le_antisymm (UInt8.not_lt.1 h2) (UInt8.not_lt.1 h1)
  subst hxy
  rw [kr4 l m (h.2.resolve_left fun h => h rfl) (h'.2.resolve_left fun h => h rfl)]
theorem kjc {a b : ByteArray} (h : a.toList = b.toList) : a = b := by
 rw [ByteArray.toList_eq, ByteArray.toList_eq] at h
 obtain ⟨⟨a⟩⟩ := a
 obtain ⟨⟨b⟩⟩ := b
 simp at h
 rw [h]
theorem kv5 (a : ByteArray) : kfe a a = false := kmb _
theorem kzv {a b : ByteArray} (h : kfe a b = false) (h' : kfe b a = false) : a = b := kjc (kr4 _ _ h h')
theorem k4s (l : List Va) (h : ∀ x ∈ l, cmpV x x = 0) : kge l l = 0 := by
 induction l with
 | nil => rfl
 | cons x l ih =>
  rw [kge, if_neg (by simp [h x (by simp)])]
  exact ih fun y hy => h y (by simp [hy])
theorem k43 (v : Va) : cmpV v v = 0 := by
 induction v using Va.ind with
 | h t n s l ih =>
  rw [cmpV, if_neg (by omega), if_neg (by omega), if_neg (by omega), if_neg (by omega), kv5]
  simp only [Bool.false_eq_true, if_false]
  exact k4s l ih
theorem k0d : ∀ (l m : List Va), (∀ x ∈ l, ∀ y, cmpV x y = 0 → x = y) → kge l m = 0 → l = m
 | [], [], _, _ => rfl
 | [], _ :: _, _, h => by simp [kge] at h
 | _ :: _, [], _, h => by simp [kge] at h
 | x :: l, y :: m, ih, h => by
  rw [kge] at h
  split at h
  ·rename_i h1; exact absurd h h1
  ·rename_i h1
   have h1 : cmpV x y = 0 := by omega
   rw [ih x (by simp) y h1, k0d l m (fun z hz => ih z (by simp [hz])) h]
theorem k1o (v : Va) : ∀ u, cmpV v u = 0 → v = u := by
 induction v using Va.ind with
 | h t n s l ih =>
  rintro ⟨t', n', s', l'⟩ h
  rw [cmpV] at h
  repeat' split at h
  all_goals try (exfalso; omega)
  rename_i h1 h2 h3 h4 h5 h6
  obtain rfl : t = t' := by omega
  obtain rfl : n = n' := by omega
  obtain rfl : s = s' := kzv (by simpa using h5) (by simpa using h6)
  rw [k0d l l' ih h]
theorem kzq (v : Va) : eqV v v = true := by unfold eqV; rw [k43]; rfl
theorem k1u {v u : Va} : eqV v u = true ↔ v = u := ⟨fun h => k1o v u (of_decide_eq_true h), fun h => by rw [h, kzq]⟩
end Go.Proofs.YtaimpcnpifoidaaGreatDoor
set_option linter.unusedVariables false
set_option linter.unusedSimpArgs false
namespace Go.Proofs.YtaimpcnpifoidaaGreatDoor
open Go Go.RowKit
theorem knk : fuel = 18446744073709551615 + 1 := rfl
theorem kdk {n : Nat} (h : n < 18446744073709551616) : n < fuel := h
theorem knd {n : Int} (h : -9223372036854775808 ≤ n) (h2 : n ≤ 9223372036854775807) : w64 n = n := by
 unfold w64 IntKind.wrap IntKind.signed IntKind.bits
 simp only
 rw [show (2 : Int) ^ 64 = 18446744073709551616 from rfl]
 by_cases h0 : 0 ≤ n
 ·have : n % 18446744073709551616 = n := Int.emod_eq_of_lt h0 (by omega)
  simp [this]
  omega
 ·have : n % 18446744073709551616 = n + 18446744073709551616 := by
   rw [← Int.add_emod_right, Int.emod_eq_of_lt (by omega) (by omega)]
  simp [this]
  omega
theorem kbt {n : Nat} (h : n ≤ 9223372036854775806) : w64 ((n : Int) + 1) = ((n + 1 : Nat) : Int) := by
 rw [knd (by omega) (by omega)]; omega
theorem kan {α : Type} (xs : List α) (n : Nat) : idx xs (n : Int) = xs[n]? := by
 unfold idx
 rw [if_pos (by omega)]
 simp
theorem kaa5 (s : ByteArray) (n : Nat) : byt s (n : Int) = (s[n]?).map fun c => (c.toNat : Int) := by
 unfold byt
 rw [if_pos (by omega)]
 simp
theorem kacr {α : Type} {b : Nat} {xs ys : List α} (h : (xs.length + ys.length) * (b + 1) ≤ 140737488355328) : app b xs ys = some (xs ++ ys) := by
 unfold app
 rw [if_pos h]
theorem kacm {s u : ByteArray} (h : s.size + u.size ≤ 9223372036854775807) : cat s u = some (s ++ u) := by
 unfold cat
 rw [if_pos h]
section
variable {σ β : Type} {step : σ → Option (σ ⊕ β)}
theorem kz6 (n : Nat) (S : Nat → σ) (out : Nat → β) (hs : ∀ i, i < n → (step (S i) = some (.inl (S (i + 1))) ∧ out i = out (i + 1)) ∨ step (S i) = some (.inr (out i))) (he : step (S n) = some (.inr (out n))) :
  ∀ (k i : Nat), i ≤ n → n - i < k → kaa step k (S i) = some (out i)
 | 0, i, _, h => by omega
 | k + 1, i, hi, hk => by
  rw [kaa]
  by_cases h : i = n
  ·subst h; rw [he]
  ·rcases hs i (by omega) with ⟨h1, h2⟩ | h1
   ·rw [h1, h2]
    exact kz6 n S out hs he k (i + 1) (by omega) (by omega)
   ·rw [h1]
theorem kjz (n : Nat) (hn : n < 18446744073709551616) (S : Nat → σ) (out : Nat → β) (hs : ∀ i, i < n → (step (S i) = some (.inl (S (i + 1))) ∧ out i = out (i + 1)) ∨ step (S i) = some (.inr (out i))) (he : step (S n) = some (.inr (out n))) :
  kaa step fuel (S 0) = some (out 0) := kz6 n S out hs he fuel 0 (Nat.zero_le _) (kdk (by omega))
theorem ksb (n : Nat) (hn : n < 18446744073709551616) (S : Nat → σ) (b : β) (hs : ∀ i, i < n → step (S i) = some (.inl (S (i + 1)))) (he : step (S n) = some (.inr b)) : kaa step fuel (S 0) = some b :=
 kjz n hn S (fun _ => b) (fun i hi => .inl ⟨hs i hi, rfl⟩) he
theorem knb {step' : σ → Option (σ ⊕ β)} (n : Nat) (hn : n < 18446744073709551616) (S : Nat → σ) (hs : ∀ i, i < n → (step (S i) = some (.inl (S (i + 1))) ∧ step' (S i) = some (.inl (S (i + 1)))) ∨ ∃ b, step (S i) = some (.inr b) ∧ step' (S i) = some (.inr b))
  (b : β) (he : step (S n) = some (.inr b)) (he' : step' (S n) = some (.inr b)) : ∃ r, kaa step fuel (S 0) = some r ∧ kaa step' fuel (S 0) = some r := by
 have key : ∀ (k i : Nat), i ≤ n → n - i < k → ∃ r, kaa step k (S i) = some r ∧ kaa step' k (S i) = some r := by
  intro k
  induction k with
  | zero => intro i _ h; omega
  | succ k ih =>
   intro i hi hk
   rw [kaa, kaa]
   by_cases h : i = n
   ·subst h; rw [he, he']; exact ⟨b, rfl, rfl⟩
   ·rcases hs i (by omega) with ⟨h1, h2⟩ | ⟨c, h1, h2⟩
    ·rw [h1, h2]
     exact ih (i + 1) (by omega) (by omega)
    ·rw [h1, h2]; exact ⟨c, rfl, rfl⟩
 exact key fuel 0 (Nat.zero_le _) (kdk (by omega))
end
theorem khi {σ β σ' β' : Type} {step : σ → Option (σ ⊕ β)} {step' : σ' → Option (σ' ⊕ β')} (n : Nat) (hn : n < 18446744073709551616) (S : Nat → σ) (S' : Nat → σ') (Q : β → β' → Prop)
  (hs : ∀ i, i < n → (step (S i) = some (.inl (S (i + 1))) ∧ step' (S' i) = some (.inl (S' (i + 1)))) ∨ ∃ b b', step (S i) = some (.inr b) ∧ step' (S' i) = some (.inr b') ∧ Q b b')
  (he : ∃ b b', step (S n) = some (.inr b) ∧ step' (S' n) = some (.inr b') ∧ Q b b') : ∃ r r', kaa step fuel (S 0) = some r ∧ kaa step' fuel (S' 0) = some r' ∧ Q r r' := by
 have key : ∀ (k i : Nat), i ≤ n → n - i < k → ∃ r r', kaa step k (S i) = some r ∧ kaa step' k (S' i) = some r' ∧ Q r r' := by
  intro k
  induction k with
  | zero => intro i _ h; omega
  | succ k ih =>
   intro i hi hk
   rw [kaa, kaa]
   by_cases h : i = n
   ·subst h
    obtain ⟨b, b', h1, h2, h3⟩ := he
    rw [h1, h2]; exact ⟨b, b', rfl, rfl, h3⟩
   ·rcases hs i (by omega) with ⟨h1, h2⟩ | ⟨b, b', h1, h2, h3⟩
    ·rw [h1, h2]
     exact ih (i + 1) (by omega) (by omega)
    ·rw [h1, h2]; exact ⟨b, b', rfl, rfl, h3⟩
 exact key fuel 0 (Nat.zero_le _) (kdk (by omega))
end Go.Proofs.YtaimpcnpifoidaaGreatDoor
