/- Readers that look at one byte at a time: what a text's beginnings do. -/
import Derived.Test.YtijkipikefpopaaDoorLo
set_option linter.unusedVariables false
set_option linter.unusedSimpArgs false
namespace Go.Proofs.YtijkipikefpopaaDoor
open Go Go.RowKit

/-- the byte that is next; 0 at the end -/
def hd : List UInt8 → Int
  | [] => 0
  | c :: _ => (c.toNat : Int)
inductive Pr (α : Type) where
  | done (a : α)
  | fail
  | peek (k : Int → Pr α)
  | adv (p : Pr α)
def Pr.run {α : Type} : Pr α → List UInt8 → Option α × List UInt8
  | .done a, l => (some a, l)
  | .fail, l => (none, l)
  | .peek k, l => (k (hd l)).run l
  | .adv p, l => p.run l.tail
def Pr.bind {α β : Type} : Pr α → (α → Pr β) → Pr β
  | .done a, f => f a
  | .fail, _ => .fail
  | .peek k, f => .peek fun c => (k c).bind f
  | .adv p, f => .adv (p.bind f)
theorem run_bind {α β : Type} (f : α → Pr β) : ∀ (p : Pr α) (l : List UInt8), (p.bind f).run l = match p.run l with
    | (some a, m) => (f a).run m
    | (none, m) => (none, m)
  | .done a, l => rfl
  | .fail, l => rfl
  | .peek k, l => run_bind f (k (hd l)) l
  | .adv p, l => run_bind f p l.tail
/-! the literals -/
/-! what is written -/
def decN (n : Nat) : List UInt8 := if h : n < 10 then [UInt8.ofNat (48 + n)] else decN (n / 10) ++ [UInt8.ofNat (48 + n % 10)]
def showI (n : Int) : List UInt8 := if n < 0 then 45 :: decN n.natAbs else decN n.natAbs
def hexD (n : Nat) : UInt8 := if n < 10 then UInt8.ofNat (48 + n) else UInt8.ofNat (87 + n)
def plainB (c : UInt8) : Bool := decide (32 ≤ c.toNat) && decide (c.toNat ≤ 126)
def escB (c : UInt8) : List UInt8 := if c = 34 ∨ c = 92 then [92, c] else if plainB c = true then [c] else [92, 120, hexD (c.toNat / 16), hexD (c.toNat % 16)]
def quoteB (l : List UInt8) : List UInt8 := 34 :: (l.flatMap escB ++ [34])
def joinB : List (List UInt8) → List UInt8
  | [] => []
  | [x] => x
  | x :: y :: l => x ++ (44 :: 32 :: joinB (y :: l))
mutual
def showV : Va → List UInt8
  | .mk t n s l => if t = 1 then (if n = 1 then [116, 114, 117, 101] else [102, 97, 108, 115, 101]) else if t = 2 then showI n else if t = 4 then [48, 120, hexD (n.toNat / 16), hexD (n.toNat % 16)]
    else if t = 3 then quoteB s.data.toList else if t = 8 then 114 :: quoteB s.data.toList
    else if t = 5 then 91 :: (joinB (showVs l) ++ [93]) else if t = 6 then 123 :: (joinB (showVs l) ++ [125]) else 60 :: (joinB (showVs l) ++ [62])
def showVs : List Va → List (List UInt8)
  | [] => []
  | v :: l => showV v :: showVs l
end
/-! numbers -/
def dig (c : UInt8) : Prop := 48 ≤ (c.toNat : Int) ∧ (c.toNat : Int) ≤ 57
def valD (n : Int) (ds : List UInt8) : Int := ds.foldl (fun a c => a * 10 + ((c.toNat : Int) - 48)) n
theorem ofNat_toNat {n : Nat} (h : n < 256) : (UInt8.ofNat n).toNat = n := by simp [UInt8.toNat_ofNat, Nat.mod_eq_of_lt h]
theorem decN_ok (n : Nat) : ∃ d ds, decN n = d :: ds ∧ (∀ c ∈ d :: ds, dig c) ∧ valD ((d.toNat : Int) - 48) ds = n ∧ (0 < n → 48 < d.toNat) ∧ ∀ k, 0 < k → n < 10 ^ k → ds.length < k := by
  induction n using Nat.strongRecOn with
  | ind n ih =>
    rw [decN]
    by_cases h : n < 10
    · rw [dif_pos h]
      have e : (UInt8.ofNat (48 + n)).toNat = 48 + n := ofNat_toNat (by omega)
      refine ⟨_, [], rfl, fun c hc => ?_, ?_, fun h0 => by rw [e]; omega, fun k hk _ => hk⟩
      · rcases List.mem_cons.1 hc with rfl | hc
        · unfold dig; rw [e]; omega
        · cases hc
      · show ((UInt8.ofNat (48 + n)).toNat : Int) - 48 = n
        rw [e]; omega
    · rw [dif_neg h]
      obtain ⟨d, ds, h1, h2, h3, h4, h5⟩ := ih (n / 10) (by omega)
      have e : (UInt8.ofNat (48 + n % 10)).toNat = 48 + n % 10 := ofNat_toNat (by omega)
      refine ⟨d, ds ++ [UInt8.ofNat (48 + n % 10)], by rw [h1]; rfl, fun c hc => ?_, ?_, fun h0 => h4 (by omega), fun k hk hlt => ?_⟩
      · rw [← List.cons_append] at hc
        rcases List.mem_append.1 hc with hc | hc
        · exact h2 c hc
        · rcases List.mem_cons.1 hc with rfl | hc
          · unfold dig; rw [e]; omega
          · cases hc
      · unfold valD at h3 ⊢
        rw [List.foldl_append, h3]
        show (((n / 10 : Nat) : Int)) * 10 + (((UInt8.ofNat (48 + n % 10)).toNat : Int) - 48) = n
        rw [e]; omega
      · obtain ⟨j, rfl⟩ : ∃ j, k = j + 1 := ⟨k - 1, by omega⟩
        have hj : 0 < j := by
          rcases Nat.eq_zero_or_pos j with rfl | hj
          · simp at hlt; omega
          · exact hj
        have := h5 j hj (by rw [Nat.pow_succ] at hlt; omega)
        rw [List.length_append, List.length_singleton]; omega
/-! texts -/
theorem toBA_map (s : ByteArray) : toBA (s.data.toList.map fun c => (c.toNat : Int)) = s := by
  have key : ∀ (l : List UInt8) (r : ByteArray), (l.map fun c => (c.toNat : Int)).foldl (fun r n => r.push (UInt8.ofNat n.toNat)) r = ⟨r.data ++ l.toArray⟩ := by
    intro l
    induction l with
    | nil => intro r; simp
    | cons c l ih =>
      intro r
      rw [List.map_cons, List.foldl_cons, ih]
      simp [ByteArray.push]
  unfold toBA
  rw [key]
  cases s
  simp [ByteArray.empty, ByteArray.emptyWithCapacity]
  try rfl
/-! hexadecimal -/
/-! lists -/
/-- elements behind others: each behind a comma and a space -/
def sepsB {α : Type} (sh : α → List UInt8) (l : List α) : List UInt8 := l.flatMap fun v => 44 :: 32 :: sh v
theorem joinB_cons {α : Type} (sh : α → List UInt8) : ∀ (l : List α) (v : α), joinB ((v :: l).map sh) = sh v ++ sepsB sh l
  | [], v => by simp [joinB, sepsB]
  | w :: l, v => by
    have := joinB_cons sh l w
    rw [List.map_cons] at this
    rw [List.map_cons, List.map_cons, joinB, this]
    simp [sepsB]
section
variable {α : Type} {e : UInt8} {least : Nat} {elem : List α → Pr α} {sh : α → List UInt8} {vs : List α}
end
/-! valid values -/
def textOk (least most : Nat) (s : ByteArray) : Prop := least ≤ s.size ∧ s.size ≤ most ∧ ∀ c ∈ s.data.toList, plainB c = true
def intOk (v : Va) : Prop := ∃ n, v = Va.mk 2 n ⟨#[]⟩ [] ∧ -1000000 ≤ n ∧ n ≤ 1000000
def txtOk (v : Va) : Prop := ∃ s, v = Va.mk 3 0 s [] ∧ textOk 0 64 s
def rowOk (lo hi : Nat) (v : Va) : Prop := ∃ l, v = Va.mk 6 0 ⟨#[]⟩ l ∧ lo ≤ l.length ∧ l.length ≤ hi ∧ ∀ x ∈ l, txtOk x
def valOk (v : Va) : Prop :=
  (v = Va.mk 1 0 ⟨#[]⟩ [] ∨ v = Va.mk 1 1 ⟨#[]⟩ []) ∨ intOk v ∨ (∃ n, v = Va.mk 4 n ⟨#[]⟩ [] ∧ 0 ≤ n ∧ n ≤ 255) ∨ txtOk v ∨ (∃ s, v = Va.mk 8 0 s [] ∧ textOk 1 40 s) ∨
  (∃ l, v = Va.mk 5 0 ⟨#[]⟩ l ∧ l.length ≤ 16 ∧ ∀ x ∈ l, intOk x) ∨ rowOk 0 16 v ∨
  (∃ l, v = Va.mk 7 0 ⟨#[]⟩ l ∧ l.length ≤ 8 ∧ ∃ m, 1 ≤ m ∧ m ≤ 8 ∧ ∀ x ∈ l, rowOk m m x)
theorem showVs_map : ∀ l : List Va, showVs l = l.map showV
  | [] => rfl
  | v :: l => by rw [showVs, showVs_map l]; rfl
/-! tuples -/
/-! texts of any bytes -/
def plainI (c : Int) : Bool := decide (32 ≤ c) && decide (c ≤ 126)
end Go.Proofs.YtijkipikefpopaaDoor
