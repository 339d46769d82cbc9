/- Readers that look at one byte at a time: what a text's beginnings do. -/
import Derived.Test.YtijkipikefpopaaDoorLo
set_option linter.unusedVariables false
set_option linter.unusedSimpArgs false
namespace Go.Proofs.YtijkipikefpopaaDoor
open Go Go.RowKit

/-- the byte that is next; 0 at the end -/
def hd : List UInt8 → Int
  | [] => 0
  | c :: _ => (c.toNat : Int)
inductive Pr (α : Type) where
  | done (a : α)
  | fail
  | peek (k : Int → Pr α)
  | adv (p : Pr α)
def Pr.run {α : Type} : Pr α → List UInt8 → Option α × List UInt8
  | .done a, l => (some a, l)
  | .fail, l => (none, l)
  | .peek k, l => (k (hd l)).run l
  | .adv p, l => p.run l.tail
def Pr.bind {α β : Type} : Pr α → (α → Pr β) → Pr β
  | .done a, f => f a
  | .fail, _ => .fail
  | .peek k, f => .peek fun c => (k c).bind f
  | .adv p, f => .adv (p.bind f)
theorem run_bind {α β : Type} (f : α → Pr β) : ∀ (p : Pr α) (l : List UInt8), (p.bind f).run l = match p.run l with
    | (some a, m) => (f a).run m
    | (none, m) => (none, m)
  | .done a, l => rfl
  | .fail, l => rfl
  | .peek k, l => run_bind f (k (hd l)) l
  | .adv p, l => run_bind f p l.tail
/-- nothing is read past the end -/
def Pr.good {α : Type} : Bool → Pr α → Prop
  | _, .done _ => True
  | _, .fail => True
  | _, .peek k => (k 0).good false ∧ ∀ c, c ≠ 0 → (k c).good true
  | b, .adv p => b = true ∧ p.good false
theorem good_mono {α : Type} : ∀ (p : Pr α), p.good false → p.good true
  | .done a, _ => trivial
  | .fail, _ => trivial
  | .peek k, h => h
  | .adv p, h => by cases h.1
theorem good_any {α : Type} {p : Pr α} (h : p.good false) (b : Bool) : p.good b := by
  cases b
  · exact h
  · exact good_mono p h
theorem good_bind {α β : Type} {f : α → Pr β} (hf : ∀ a, (f a).good false) : ∀ (p : Pr α) (b : Bool), p.good b → (p.bind f).good b
  | .done a, b, _ => good_any (hf a) b
  | .fail, _, _ => trivial
  | .peek k, _, h => ⟨good_bind hf (k 0) false h.1, fun c hc => good_bind hf (k c) true (h.2 c hc)⟩
  | .adv p, _, h => ⟨h.1, good_bind hf p false h.2⟩
theorem good_bind' {α β : Type} {f : α → Pr β} (hf : ∀ a, (f a).good false) {p : Pr α} (h : p.good false) : (p.bind f).good false := good_bind hf p false h
/-- at the end it stands still -/
theorem run_end {α : Type} : ∀ (p : Pr α), p.good false → (p.run []).2 = []
  | .done a, _ => rfl
  | .fail, _ => rfl
  | .peek k, h => run_end (k 0) h.1
  | .adv p, h => by cases h.1
/-- how many bytes are read -/
theorem run_len {α : Type} : ∀ (p : Pr α) (l : List UInt8), ∃ k, (p.run l).2 = l.drop k ∧ k ≤ l.length
  | .done a, l => ⟨0, rfl, Nat.zero_le _⟩
  | .fail, l => ⟨0, rfl, Nat.zero_le _⟩
  | .peek k, l => run_len (k (hd l)) l
  | .adv p, l => by
    obtain ⟨k, h1, h2⟩ := run_len p l.tail
    cases l with
    | nil => exact ⟨0, by rw [Pr.run, h1]; simp, Nat.zero_le _⟩
    | cons c l =>
      exact ⟨k + 1, by rw [Pr.run, h1]; simp, by simp at h2 ⊢; omega⟩
/-- the beginning of n bytes: the same, or it is read to its end -/
theorem run_take {α : Type} : ∀ (p : Pr α) (b : Bool) (l : List UInt8) (n : Nat), p.good b → (b = true → 0 < n ∧ hd l ≠ 0) →
    (∃ k, (p.run l).2 = l.drop k ∧ k ≤ l.length ∧ k < n ∧ p.run (l.take n) = ((p.run l).1, (l.take n).drop k)) ∨ ((∃ k, (p.run l).2 = l.drop k ∧ k ≤ l.length ∧ (n ≤ l.length → n ≤ k)) ∧ (p.run (l.take n)).2 = [])
  | .done a, b, l, n, _, _ => by
    cases n with
    | zero => exact .inr ⟨⟨0, rfl, Nat.zero_le _, fun _ => Nat.le_refl _⟩, by simp [Pr.run]⟩
    | succ n => exact .inl ⟨0, rfl, Nat.zero_le _, Nat.succ_pos _, rfl⟩
  | .fail, b, l, n, _, _ => by
    cases n with
    | zero => exact .inr ⟨⟨0, rfl, Nat.zero_le _, fun _ => Nat.le_refl _⟩, by simp [Pr.run]⟩
    | succ n => exact .inl ⟨0, rfl, Nat.zero_le _, Nat.succ_pos _, rfl⟩
  | .peek k, b, l, n, hg, hb => by
    cases n with
    | zero =>
      obtain ⟨j, h1, h2⟩ := run_len (.peek k) l
      exact .inr ⟨⟨j, h1, h2, fun _ => Nat.zero_le _⟩, by rw [List.take_zero]; exact run_end (.peek k) hg⟩
    | succ n =>
      have hh : hd (l.take (n + 1)) = hd l := by cases l <;> rfl
      simp only [Pr.run, hh]
      by_cases h0 : hd l = 0
      · rw [h0]
        exact run_take (k 0) false l (n + 1) hg.1 fun h => by cases h
      · exact run_take (k (hd l)) true l (n + 1) (hg.2 _ h0) fun _ => ⟨Nat.succ_pos _, h0⟩
  | .adv p, b, l, n, hg, hb => by
    obtain ⟨hn, h0⟩ := hb hg.1
    obtain ⟨m, rfl⟩ : ∃ m, n = m + 1 := ⟨n - 1, by omega⟩
    cases l with
    | nil => exact absurd rfl h0
    | cons c l =>
      rcases run_take p false l m hg.2 (fun h => by cases h) with ⟨k, h1, h2, h3, h4⟩ | ⟨⟨k, h1, h2, h3⟩, h4⟩
      · exact .inl ⟨k + 1, by simp only [Pr.run, List.tail_cons, h1, List.drop_succ_cons], by simpa using h2, by omega, by simp only [Pr.run, List.take_succ_cons, List.tail_cons, h4, List.drop_succ_cons]⟩
      · exact .inr ⟨⟨k + 1, by simp only [Pr.run, List.tail_cons, h1, List.drop_succ_cons], by simpa using h2, fun h => by have := h3 (by simpa using h); omega⟩, by simp only [Pr.run, List.take_succ_cons, List.tail_cons, h4]⟩

/-! the literals -/
def wordP : List Int → Pr Unit
  | [] => .done ()
  | x :: w => .peek fun c => if c = x then .adv (wordP w) else .fail
theorem wordP_good : ∀ {w : List Int}, (∀ x ∈ w, x ≠ 0) → (wordP w).good false
  | [], _ => trivial
  | x :: w, h => by
    have hx := h x (List.mem_cons_self ..)
    refine ⟨?_, fun c hc => ?_⟩
    · simp only [if_neg (show ¬ ((0 : Int) = x) from fun h => hx h.symm)]; trivial
    · dsimp only
      split
      · exact ⟨rfl, wordP_good fun y hy => h y (List.mem_cons_of_mem _ hy)⟩
      · trivial
/-- the rest of a quoted text: at most k bytes more -/
def bodyP (least : Nat) : Nat → List Int → Pr (List Int)
  | 0, acc => .peek fun c => if c = 34 ∧ least ≤ acc.length then .adv (.done acc) else .fail
  | k + 1, acc => .peek fun c => if c = 34 ∧ least ≤ acc.length then .adv (.done acc) else if c = 34 ∨ c < 32 ∨ 126 < c then .fail else
      if c = 92 then .adv (.peek fun d => if d = 34 ∨ d = 92 then .adv (bodyP least k (acc ++ [d])) else .fail) else .adv (bodyP least k (acc ++ [c]))
theorem bodyP_good (least : Nat) : ∀ (k : Nat) (acc : List Int), (bodyP least k acc).good false
  | 0, acc => by
    refine ⟨?_, fun c hc => ?_⟩
    · simp only [show ¬ ((0 : Int) = 34) by decide, false_and, if_false]; trivial
    · dsimp only
      split
      · exact ⟨rfl, trivial⟩
      · trivial
  | k + 1, acc => by
    refine ⟨?_, fun c hc => ?_⟩
    · simp only [show ¬ ((0 : Int) = 34) by decide, false_and, if_false, show ((0 : Int) < 32) by decide, true_or, or_true, if_true]; trivial
    · dsimp only
      split
      · exact ⟨rfl, trivial⟩
      split
      · trivial
      split
      · refine ⟨rfl, ?_, fun d hd => ?_⟩
        · simp only [show ¬ ((0 : Int) = 34 ∨ (0 : Int) = 92) by decide, if_false]; trivial
        · dsimp only
          split
          · exact ⟨rfl, bodyP_good least k _⟩
          · trivial
      · exact ⟨rfl, bodyP_good least k _⟩
def textP (least most : Nat) : Pr (List Int) := .peek fun c => if c = 34 then .adv (bodyP least most []) else .fail
theorem textP_good (least most : Nat) : (textP least most).good false := by
  refine ⟨?_, fun c hc => ?_⟩
  · simp only [show ¬ ((0 : Int) = 34) by decide, if_false]; trivial
  · dsimp only
    split
    · exact ⟨rfl, bodyP_good ..⟩
    · trivial
/-- the digits behind the first -/
def digitsP : Nat → Int → Pr Int
  | 0, n => .done n
  | f + 1, n => if n ≤ 0 then .done n else .peek fun b => if 48 ≤ b ∧ b ≤ 57 ∧ n * 10 + (b - 48) ≤ 1000000 then .adv (digitsP f (n * 10 + (b - 48))) else .done n
theorem digitsP_good : ∀ (f : Nat) (n : Int), (digitsP f n).good false
  | 0, n => trivial
  | f + 1, n => by
    unfold digitsP
    split
    · trivial
    refine ⟨?_, fun c hc => ?_⟩
    · simp only [show ¬ ((48 : Int) ≤ 0) by decide, false_and, if_false]; trivial
    · dsimp only
      split
      · exact ⟨rfl, digitsP_good f _⟩
      · trivial
def unsP (neg : Bool) : Pr Int := .peek fun b => if b < 48 ∨ 57 < b ∨ (neg = true ∧ b = 48) then .fail else .adv ((digitsP 7 (b - 48)).bind fun n => .done (if neg = true then -n else n))
def numP : Pr Int := .peek fun c => if c = 45 then .adv (unsP true) else unsP false
theorem unsP_good (neg : Bool) : (unsP neg).good false := by
  refine ⟨?_, fun c hc => ?_⟩
  · simp only [show (0 : Int) < 48 by decide, true_or, if_true]; trivial
  · dsimp only
    split
    · trivial
    · refine ⟨rfl, good_bind' (fun _ => ?_) (digitsP_good 7 _)⟩
      trivial
theorem numP_good : numP.good false := by
  refine ⟨?_, fun c hc => ?_⟩
  · simp only [show ¬ ((0 : Int) = 45) by decide, if_false]; exact unsP_good _
  · dsimp only
    split
    · exact ⟨rfl, unsP_good _⟩
    · exact good_any (unsP_good _) true
/-- elements and the closing byte: at most k more -/
def listP {α : Type} (e : Int) (least : Nat) (elem : List α → Pr α) : Nat → List α → Pr (List α)
  | 0, acc => .peek fun c => if c = e ∧ least ≤ acc.length then .adv (.done acc) else .fail
  | k + 1, acc => .peek fun c => if c = e ∧ least ≤ acc.length then .adv (.done acc) else
      (if acc.length = 0 then .done () else wordP [44, 32]).bind fun _ => (elem acc).bind fun v => listP e least elem k (acc ++ [v])
theorem listP_good {α : Type} {e : Int} (he : e ≠ 0) (least : Nat) {elem : List α → Pr α} (hel : ∀ l, (elem l).good false) : ∀ (k : Nat) (acc : List α), (listP e least elem k acc).good false
  | 0, acc => by
    refine ⟨?_, fun c hc => ?_⟩
    · simp only [show ¬ ((0 : Int) = e) from fun h => he h.symm, false_and, if_false]; trivial
    · dsimp only
      split
      · exact ⟨rfl, trivial⟩
      · trivial
  | k + 1, acc => by
    have hr : ((if acc.length = 0 then .done () else wordP [44, 32]).bind fun _ => (elem acc).bind fun v => listP e least elem k (acc ++ [v])).good false := by
      refine good_bind' (fun _ => good_bind' (fun v => listP_good he least hel k _) (hel _)) ?_
      split
      · trivial
      · exact wordP_good (by decide)
    refine ⟨?_, fun c hc => ?_⟩
    · simp only [show ¬ ((0 : Int) = e) from fun h => he h.symm, false_and, if_false]; exact hr
    · dsimp only
      split
      · exact ⟨rfl, trivial⟩
      · exact good_any hr true
/-- the value of a hexadecimal digit, or -1 -/
def hexV (c : Int) : Int := if 48 ≤ c ∧ c ≤ 57 then c - 48 else if 97 ≤ c ∧ c ≤ 102 then c - 87 else -1
def bitsP : Pr Int := .peek fun a => if hexV a < 0 then .fail else .adv (.peek fun b => if hexV b < 0 then .fail else .adv (.done (hexV a * 16 + hexV b)))
theorem bitsP_good : bitsP.good false := by
  refine ⟨?_, fun c hc => ?_⟩
  · simp only [show hexV 0 < 0 by decide, if_true]; trivial
  · dsimp only
    split
    · trivial
    · refine ⟨rfl, ?_, fun d hd => ?_⟩
      · simp only [show hexV 0 < 0 by decide, if_true]; trivial
      · dsimp only
        split
        · trivial
        · exact ⟨rfl, trivial⟩

def intE : Pr Va := numP.bind fun n => .done (Va.mk 2 n ⟨#[]⟩ [])
def textE : Pr Va := (textP 0 64).bind fun s => .done (Va.mk 3 0 (toBA s) [])
/-- a row beside the rows before it -/
def rowE (acc : List Va) : Pr Va := .peek fun c => if c = 123 then
    .adv ((listP 125 (match acc with | [] => 1 | r :: _ => r.items.length) (fun _ => textE) (match acc with | [] => 8 | r :: _ => r.items.length) []).bind fun l => .done (Va.mk 6 0 ⟨#[]⟩ l)) else .fail
def oneP : Pr Va := .peek fun c =>
  if c = 116 then (wordP [116, 114, 117, 101]).bind fun _ => .done (Va.mk 1 1 ⟨#[]⟩ [])
  else if c = 102 then (wordP [102, 97, 108, 115, 101]).bind fun _ => .done (Va.mk 1 0 ⟨#[]⟩ [])
  else if c = 34 then textE
  else if c = 114 then .adv ((textP 1 40).bind fun s => .done (Va.mk 8 0 (toBA s) []))
  else if c = 91 then .adv ((listP 93 0 (fun _ => intE) 16 []).bind fun l => .done (Va.mk 5 0 ⟨#[]⟩ l))
  else if c = 123 then .adv ((listP 125 0 (fun _ => textE) 16 []).bind fun l => .done (Va.mk 6 0 ⟨#[]⟩ l))
  else if c = 60 then .adv ((listP 62 0 rowE 8 []).bind fun l => .done (Va.mk 7 0 ⟨#[]⟩ l))
  else if c = 48 then .adv (.peek fun d => if d = 120 then .adv (bitsP.bind fun n => .done (Va.mk 4 n ⟨#[]⟩ [])) else .done (Va.mk 2 0 ⟨#[]⟩ []))
  else intE
theorem intE_good : intE.good false := good_bind' (fun _ => by exact True.intro) numP_good
theorem textE_good : textE.good false := good_bind' (fun _ => by exact True.intro) (textP_good ..)
theorem rowE_good (acc : List Va) : (rowE acc).good false := by
  refine ⟨?_, fun c hc => ?_⟩
  · simp only [show ¬ ((0 : Int) = 123) by decide, if_false]; trivial
  · dsimp only
    split
    · exact ⟨rfl, good_bind' (fun _ => by exact True.intro) (listP_good (by decide) _ (fun _ => textE_good) _ _)⟩
    · trivial
theorem oneP_good : oneP.good false := by
  refine ⟨?_, fun c hc => ?_⟩
  · exact intE_good
  · dsimp only
    repeat' split
    · exact good_any (good_bind' (fun _ => by exact True.intro) (wordP_good (by decide))) true
    · exact good_any (good_bind' (fun _ => by exact True.intro) (wordP_good (by decide))) true
    · exact good_any textE_good true
    · exact ⟨rfl, good_bind' (fun _ => by exact True.intro) (textP_good ..)⟩
    · exact ⟨rfl, good_bind' (fun _ => by exact True.intro) (listP_good (by decide) _ (fun _ => intE_good) _ _)⟩
    · exact ⟨rfl, good_bind' (fun _ => by exact True.intro) (listP_good (by decide) _ (fun _ => textE_good) _ _)⟩
    · exact ⟨rfl, good_bind' (fun _ => by exact True.intro) (listP_good (by decide) _ rowE_good _ _)⟩
    · refine ⟨rfl, ?_, fun d hd => ?_⟩
      · simp only [show ¬ ((0 : Int) = 120) by decide, if_false]; trivial
      · dsimp only
        split
        · exact ⟨rfl, good_bind' (fun _ => by exact True.intro) bitsP_good⟩
        · trivial
    · exact good_any intE_good true
/-! what is written -/
def decN (n : Nat) : List UInt8 := if h : n < 10 then [UInt8.ofNat (48 + n)] else decN (n / 10) ++ [UInt8.ofNat (48 + n % 10)]
def showI (n : Int) : List UInt8 := if n < 0 then 45 :: decN n.natAbs else decN n.natAbs
def hexD (n : Nat) : UInt8 := if n < 10 then UInt8.ofNat (48 + n) else UInt8.ofNat (87 + n)
def plainB (c : UInt8) : Bool := decide (32 ≤ c.toNat) && decide (c.toNat ≤ 126)
def escB (c : UInt8) : List UInt8 := if c = 34 ∨ c = 92 then [92, c] else if plainB c = true then [c] else [92, 120, hexD (c.toNat / 16), hexD (c.toNat % 16)]
def quoteB (l : List UInt8) : List UInt8 := 34 :: (l.flatMap escB ++ [34])
def joinB : List (List UInt8) → List UInt8
  | [] => []
  | [x] => x
  | x :: y :: l => x ++ (44 :: 32 :: joinB (y :: l))
mutual
def showV : Va → List UInt8
  | .mk t n s l => if t = 1 then (if n = 1 then [116, 114, 117, 101] else [102, 97, 108, 115, 101]) else if t = 2 then showI n else if t = 4 then [48, 120, hexD (n.toNat / 16), hexD (n.toNat % 16)]
    else if t = 3 then quoteB s.data.toList else if t = 8 then 114 :: quoteB s.data.toList
    else if t = 5 then 91 :: (joinB (showVs l) ++ [93]) else if t = 6 then 123 :: (joinB (showVs l) ++ [125]) else 60 :: (joinB (showVs l) ++ [62])
def showVs : List Va → List (List UInt8)
  | [] => []
  | v :: l => showV v :: showVs l
end
/-! numbers -/
/-! texts -/
/-! hexadecimal -/
/-! lists -/
section
variable {α : Type} {e : UInt8} {least : Nat} {elem : List α → Pr α} {sh : α → List UInt8} {vs : List α}
end
/-! valid values -/
/-! tuples -/
/-! texts of any bytes -/
def plainI (c : Int) : Bool := decide (32 ≤ c) && decide (c ≤ 126)
end Go.Proofs.YtijkipikefpopaaDoor
