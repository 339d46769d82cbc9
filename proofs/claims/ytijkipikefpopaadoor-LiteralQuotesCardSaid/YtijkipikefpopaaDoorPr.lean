/- Readers that look at one byte at a time: what a text's beginnings do. -/
import Derived.Test.YtijkipikefpopaaDoorLo
set_option linter.unusedVariables false
set_option linter.unusedSimpArgs false
namespace Go.Proofs.YtijkipikefpopaaDoor
open Go Go.RowKit

/-- the byte that is next; 0 at the end -/
def hd : List UInt8 → Int
  | [] => 0
  | c :: _ => (c.toNat : Int)
inductive Pr (α : Type) where
  | done (a : α)
  | fail
  | peek (k : Int → Pr α)
  | adv (p : Pr α)
def Pr.run {α : Type} : Pr α → List UInt8 → Option α × List UInt8
  | .done a, l => (some a, l)
  | .fail, l => (none, l)
  | .peek k, l => (k (hd l)).run l
  | .adv p, l => p.run l.tail
def Pr.bind {α β : Type} : Pr α → (α → Pr β) → Pr β
  | .done a, f => f a
  | .fail, _ => .fail
  | .peek k, f => .peek fun c => (k c).bind f
  | .adv p, f => .adv (p.bind f)
theorem run_bind {α β : Type} (f : α → Pr β) : ∀ (p : Pr α) (l : List UInt8), (p.bind f).run l = match p.run l with
    | (some a, m) => (f a).run m
    | (none, m) => (none, m)
  | .done a, l => rfl
  | .fail, l => rfl
  | .peek k, l => run_bind f (k (hd l)) l
  | .adv p, l => run_bind f p l.tail
/-- nothing is read past the end -/
def Pr.good {α : Type} : Bool → Pr α → Prop
  | _, .done _ => True
  | _, .fail => True
  | _, .peek k => (k 0).good false ∧ ∀ c, c ≠ 0 → (k c).good true
  | b, .adv p => b = true ∧ p.good false
/-! the literals -/
def wordP : List Int → Pr Unit
  | [] => .done ()
  | x :: w => .peek fun c => if c = x then .adv (wordP w) else .fail
/-- the value of a hexadecimal digit, or -1 -/
def hexV (c : Int) : Int := if 48 ≤ c ∧ c ≤ 57 then c - 48 else if 97 ≤ c ∧ c ≤ 102 then c - 87 else -1
/-! what is written -/
def decN (n : Nat) : List UInt8 := if h : n < 10 then [UInt8.ofNat (48 + n)] else decN (n / 10) ++ [UInt8.ofNat (48 + n % 10)]
def showI (n : Int) : List UInt8 := if n < 0 then 45 :: decN n.natAbs else decN n.natAbs
def hexD (n : Nat) : UInt8 := if n < 10 then UInt8.ofNat (48 + n) else UInt8.ofNat (87 + n)
def plainB (c : UInt8) : Bool := decide (32 ≤ c.toNat) && decide (c.toNat ≤ 126)
def escB (c : UInt8) : List UInt8 := if c = 34 ∨ c = 92 then [92, c] else if plainB c = true then [c] else [92, 120, hexD (c.toNat / 16), hexD (c.toNat % 16)]
def quoteB (l : List UInt8) : List UInt8 := 34 :: (l.flatMap escB ++ [34])
def joinB : List (List UInt8) → List UInt8
  | [] => []
  | [x] => x
  | x :: y :: l => x ++ (44 :: 32 :: joinB (y :: l))
mutual
def showV : Va → List UInt8
  | .mk t n s l => if t = 1 then (if n = 1 then [116, 114, 117, 101] else [102, 97, 108, 115, 101]) else if t = 2 then showI n else if t = 4 then [48, 120, hexD (n.toNat / 16), hexD (n.toNat % 16)]
    else if t = 3 then quoteB s.data.toList else if t = 8 then 114 :: quoteB s.data.toList
    else if t = 5 then 91 :: (joinB (showVs l) ++ [93]) else if t = 6 then 123 :: (joinB (showVs l) ++ [125]) else 60 :: (joinB (showVs l) ++ [62])
def showVs : List Va → List (List UInt8)
  | [] => []
  | v :: l => showV v :: showVs l
end
/-! numbers -/
/-! texts -/
theorem toBA_map (s : ByteArray) : toBA (s.data.toList.map fun c => (c.toNat : Int)) = s := by
  have key : ∀ (l : List UInt8) (r : ByteArray), (l.map fun c => (c.toNat : Int)).foldl (fun r n => r.push (UInt8.ofNat n.toNat)) r = ⟨r.data ++ l.toArray⟩ := by
    intro l
    induction l with
    | nil => intro r; simp
    | cons c l ih =>
      intro r
      rw [List.map_cons, List.foldl_cons, ih]
      simp [ByteArray.push]
  unfold toBA
  rw [key]
  cases s
  simp [ByteArray.empty, ByteArray.emptyWithCapacity]
  try rfl
/-! hexadecimal -/
/-! lists -/
section
variable {α : Type} {e : UInt8} {least : Nat} {elem : List α → Pr α} {sh : α → List UInt8} {vs : List α}
end
/-! valid values -/
/-! tuples -/
/-! texts of any bytes -/
def plainI (c : Int) : Bool := decide (32 ≤ c) && decide (c ≤ 126)
def unqP : Nat → List Int → Pr (List Int)
  | 0, _ => .fail
  | k + 1, acc => .peek fun c => if c = 34 then .adv (.done acc) else if plainI c = false then .fail else if c = 92 then
      .adv (.peek fun d => if d = 34 ∨ d = 92 then .adv (unqP k (acc ++ [d])) else if d = 120 then
        .adv (.peek fun h => if hexV h < 0 ∨ (2 ≤ hexV h ∧ hexV h ≤ 6) then .fail else .adv (.peek fun o => if hexV o < 0 ∨ plainI (16 * hexV h + hexV o) = true then .fail else .adv (unqP k (acc ++ [16 * hexV h + hexV o])))) else .fail)
      else .adv (unqP k (acc ++ [c]))
end Go.Proofs.YtijkipikefpopaaDoor
