/- Readers that look at one byte at a time: what a text's beginnings do. -/
import Derived.Test.YtijkipikefpopaaDoorLo
set_option linter.unusedVariables false
set_option linter.unusedSimpArgs false
namespace Go.Proofs.YtijkipikefpopaaDoor
open Go Go.RowKit

/-- the byte that is next; 0 at the end -/
def hd : List UInt8 → Int
  | [] => 0
  | c :: _ => (c.toNat : Int)
inductive Pr (α : Type) where
  | done (a : α)
  | fail
  | peek (k : Int → Pr α)
  | adv (p : Pr α)
def Pr.run {α : Type} : Pr α → List UInt8 → Option α × List UInt8
  | .done a, l => (some a, l)
  | .fail, l => (none, l)
  | .peek k, l => (k (hd l)).run l
  | .adv p, l => p.run l.tail
def Pr.bind {α β : Type} : Pr α → (α → Pr β) → Pr β
  | .done a, f => f a
  | .fail, _ => .fail
  | .peek k, f => .peek fun c => (k c).bind f
  | .adv p, f => .adv (p.bind f)
theorem run_bind {α β : Type} (f : α → Pr β) : ∀ (p : Pr α) (l : List UInt8), (p.bind f).run l = match p.run l with
    | (some a, m) => (f a).run m
    | (none, m) => (none, m)
  | .done a, l => rfl
  | .fail, l => rfl
  | .peek k, l => run_bind f (k (hd l)) l
  | .adv p, l => run_bind f p l.tail
/-- nothing is read past the end -/
def Pr.good {α : Type} : Bool → Pr α → Prop
  | _, .done _ => True
  | _, .fail => True
  | _, .peek k => (k 0).good false ∧ ∀ c, c ≠ 0 → (k c).good true
  | b, .adv p => b = true ∧ p.good false
theorem good_mono {α : Type} : ∀ (p : Pr α), p.good false → p.good true
  | .done a, _ => trivial
  | .fail, _ => trivial
  | .peek k, h => h
  | .adv p, h => by cases h.1
theorem good_any {α : Type} {p : Pr α} (h : p.good false) (b : Bool) : p.good b := by
  cases b
  · exact h
  · exact good_mono p h
theorem good_bind {α β : Type} {f : α → Pr β} (hf : ∀ a, (f a).good false) : ∀ (p : Pr α) (b : Bool), p.good b → (p.bind f).good b
  | .done a, b, _ => good_any (hf a) b
  | .fail, _, _ => trivial
  | .peek k, _, h => ⟨good_bind hf (k 0) false h.1, fun c hc => good_bind hf (k c) true (h.2 c hc)⟩
  | .adv p, _, h => ⟨h.1, good_bind hf p false h.2⟩
theorem good_bind' {α β : Type} {f : α → Pr β} (hf : ∀ a, (f a).good false) {p : Pr α} (h : p.good false) : (p.bind f).good false := good_bind hf p false h
/-! the literals -/
def wordP : List Int → Pr Unit
  | [] => .done ()
  | x :: w => .peek fun c => if c = x then .adv (wordP w) else .fail
theorem wordP_good : ∀ {w : List Int}, (∀ x ∈ w, x ≠ 0) → (wordP w).good false
  | [], _ => trivial
  | x :: w, h => by
    have hx := h x (List.mem_cons_self ..)
    refine ⟨?_, fun c hc => ?_⟩
    · simp only [if_neg (show ¬ ((0 : Int) = x) from fun h => hx h.symm)]; trivial
    · dsimp only
      split
      · exact ⟨rfl, wordP_good fun y hy => h y (List.mem_cons_of_mem _ hy)⟩
      · trivial
/-- the rest of a quoted text: at most k bytes more -/
def bodyP (least : Nat) : Nat → List Int → Pr (List Int)
  | 0, acc => .peek fun c => if c = 34 ∧ least ≤ acc.length then .adv (.done acc) else .fail
  | k + 1, acc => .peek fun c => if c = 34 ∧ least ≤ acc.length then .adv (.done acc) else if c = 34 ∨ c < 32 ∨ 126 < c then .fail else
      if c = 92 then .adv (.peek fun d => if d = 34 ∨ d = 92 then .adv (bodyP least k (acc ++ [d])) else .fail) else .adv (bodyP least k (acc ++ [c]))
theorem bodyP_good (least : Nat) : ∀ (k : Nat) (acc : List Int), (bodyP least k acc).good false
  | 0, acc => by
    refine ⟨?_, fun c hc => ?_⟩
    · simp only [show ¬ ((0 : Int) = 34) by decide, false_and, if_false]; trivial
    · dsimp only
      split
      · exact ⟨rfl, trivial⟩
      · trivial
  | k + 1, acc => by
    refine ⟨?_, fun c hc => ?_⟩
    · simp only [show ¬ ((0 : Int) = 34) by decide, false_and, if_false, show ((0 : Int) < 32) by decide, true_or, or_true, if_true]; trivial
    · dsimp only
      split
      · exact ⟨rfl, trivial⟩
      split
      · trivial
      split
      · refine ⟨rfl, ?_, fun d hd => ?_⟩
        · simp only [show ¬ ((0 : Int) = 34 ∨ (0 : Int) = 92) by decide, if_false]; trivial
        · dsimp only
          split
          · exact ⟨rfl, bodyP_good least k _⟩
          · trivial
      · exact ⟨rfl, bodyP_good least k _⟩
def textP (least most : Nat) : Pr (List Int) := .peek fun c => if c = 34 then .adv (bodyP least most []) else .fail
theorem textP_good (least most : Nat) : (textP least most).good false := by
  refine ⟨?_, fun c hc => ?_⟩
  · simp only [show ¬ ((0 : Int) = 34) by decide, if_false]; trivial
  · dsimp only
    split
    · exact ⟨rfl, bodyP_good ..⟩
    · trivial
/-- the digits behind the first -/
def digitsP : Nat → Int → Pr Int
  | 0, n => .done n
  | f + 1, n => if n ≤ 0 then .done n else .peek fun b => if 48 ≤ b ∧ b ≤ 57 ∧ n * 10 + (b - 48) ≤ 1000000 then .adv (digitsP f (n * 10 + (b - 48))) else .done n
theorem digitsP_good : ∀ (f : Nat) (n : Int), (digitsP f n).good false
  | 0, n => trivial
  | f + 1, n => by
    unfold digitsP
    split
    · trivial
    refine ⟨?_, fun c hc => ?_⟩
    · simp only [show ¬ ((48 : Int) ≤ 0) by decide, false_and, if_false]; trivial
    · dsimp only
      split
      · exact ⟨rfl, digitsP_good f _⟩
      · trivial
def unsP (neg : Bool) : Pr Int := .peek fun b => if b < 48 ∨ 57 < b ∨ (neg = true ∧ b = 48) then .fail else .adv ((digitsP 7 (b - 48)).bind fun n => .done (if neg = true then -n else n))
def numP : Pr Int := .peek fun c => if c = 45 then .adv (unsP true) else unsP false
theorem unsP_good (neg : Bool) : (unsP neg).good false := by
  refine ⟨?_, fun c hc => ?_⟩
  · simp only [show (0 : Int) < 48 by decide, true_or, if_true]; trivial
  · dsimp only
    split
    · trivial
    · refine ⟨rfl, good_bind' (fun _ => ?_) (digitsP_good 7 _)⟩
      trivial
theorem numP_good : numP.good false := by
  refine ⟨?_, fun c hc => ?_⟩
  · simp only [show ¬ ((0 : Int) = 45) by decide, if_false]; exact unsP_good _
  · dsimp only
    split
    · exact ⟨rfl, unsP_good _⟩
    · exact good_any (unsP_good _) true
/-- elements and the closing byte: at most k more -/
def listP {α : Type} (e : Int) (least : Nat) (elem : List α → Pr α) : Nat → List α → Pr (List α)
  | 0, acc => .peek fun c => if c = e ∧ least ≤ acc.length then .adv (.done acc) else .fail
  | k + 1, acc => .peek fun c => if c = e ∧ least ≤ acc.length then .adv (.done acc) else
      (if acc.length = 0 then .done () else wordP [44, 32]).bind fun _ => (elem acc).bind fun v => listP e least elem k (acc ++ [v])
theorem listP_good {α : Type} {e : Int} (he : e ≠ 0) (least : Nat) {elem : List α → Pr α} (hel : ∀ l, (elem l).good false) : ∀ (k : Nat) (acc : List α), (listP e least elem k acc).good false
  | 0, acc => by
    refine ⟨?_, fun c hc => ?_⟩
    · simp only [show ¬ ((0 : Int) = e) from fun h => he h.symm, false_and, if_false]; trivial
    · dsimp only
      split
      · exact ⟨rfl, trivial⟩
      · trivial
  | k + 1, acc => by
    have hr : ((if acc.length = 0 then .done () else wordP [44, 32]).bind fun _ => (elem acc).bind fun v => listP e least elem k (acc ++ [v])).good false := by
      refine good_bind' (fun _ => good_bind' (fun v => listP_good he least hel k _) (hel _)) ?_
      split
      · trivial
      · exact wordP_good (by decide)
    refine ⟨?_, fun c hc => ?_⟩
    · simp only [show ¬ ((0 : Int) = e) from fun h => he h.symm, false_and, if_false]; exact hr
    · dsimp only
      split
      · exact ⟨rfl, trivial⟩
      · exact good_any hr true
/-- the value of a hexadecimal digit, or -1 -/
def hexV (c : Int) : Int := if 48 ≤ c ∧ c ≤ 57 then c - 48 else if 97 ≤ c ∧ c ≤ 102 then c - 87 else -1
def bitsP : Pr Int := .peek fun a => if hexV a < 0 then .fail else .adv (.peek fun b => if hexV b < 0 then .fail else .adv (.done (hexV a * 16 + hexV b)))
theorem bitsP_good : bitsP.good false := by
  refine ⟨?_, fun c hc => ?_⟩
  · simp only [show hexV 0 < 0 by decide, if_true]; trivial
  · dsimp only
    split
    · trivial
    · refine ⟨rfl, ?_, fun d hd => ?_⟩
      · simp only [show hexV 0 < 0 by decide, if_true]; trivial
      · dsimp only
        split
        · trivial
        · exact ⟨rfl, trivial⟩

def intE : Pr Va := numP.bind fun n => .done (Va.mk 2 n ⟨#[]⟩ [])
def textE : Pr Va := (textP 0 64).bind fun s => .done (Va.mk 3 0 (toBA s) [])
/-- a row beside the rows before it -/
def rowE (acc : List Va) : Pr Va := .peek fun c => if c = 123 then
    .adv ((listP 125 (match acc with | [] => 1 | r :: _ => r.items.length) (fun _ => textE) (match acc with | [] => 8 | r :: _ => r.items.length) []).bind fun l => .done (Va.mk 6 0 ⟨#[]⟩ l)) else .fail
def oneP : Pr Va := .peek fun c =>
  if c = 116 then (wordP [116, 114, 117, 101]).bind fun _ => .done (Va.mk 1 1 ⟨#[]⟩ [])
  else if c = 102 then (wordP [102, 97, 108, 115, 101]).bind fun _ => .done (Va.mk 1 0 ⟨#[]⟩ [])
  else if c = 34 then textE
  else if c = 114 then .adv ((textP 1 40).bind fun s => .done (Va.mk 8 0 (toBA s) []))
  else if c = 91 then .adv ((listP 93 0 (fun _ => intE) 16 []).bind fun l => .done (Va.mk 5 0 ⟨#[]⟩ l))
  else if c = 123 then .adv ((listP 125 0 (fun _ => textE) 16 []).bind fun l => .done (Va.mk 6 0 ⟨#[]⟩ l))
  else if c = 60 then .adv ((listP 62 0 rowE 8 []).bind fun l => .done (Va.mk 7 0 ⟨#[]⟩ l))
  else if c = 48 then .adv (.peek fun d => if d = 120 then .adv (bitsP.bind fun n => .done (Va.mk 4 n ⟨#[]⟩ [])) else .done (Va.mk 2 0 ⟨#[]⟩ []))
  else intE
theorem intE_good : intE.good false := good_bind' (fun _ => by exact True.intro) numP_good
theorem textE_good : textE.good false := good_bind' (fun _ => by exact True.intro) (textP_good ..)
theorem rowE_good (acc : List Va) : (rowE acc).good false := by
  refine ⟨?_, fun c hc => ?_⟩
  · simp only [show ¬ ((0 : Int) = 123) by decide, if_false]; trivial
  · dsimp only
    split
    · exact ⟨rfl, good_bind' (fun _ => by exact True.intro) (listP_good (by decide) _ (fun _ => textE_good) _ _)⟩
    · trivial
theorem oneP_good : oneP.good false := by
  refine ⟨?_, fun c hc => ?_⟩
  · exact intE_good
  · dsimp only
    repeat' split
    · exact good_any (good_bind' (fun _ => by exact True.intro) (wordP_good (by decide))) true
    · exact good_any (good_bind' (fun _ => by exact True.intro) (wordP_good (by decide))) true
    · exact good_any textE_good true
    · exact ⟨rfl, good_bind' (fun _ => by exact True.intro) (textP_good ..)⟩
    · exact ⟨rfl, good_bind' (fun _ => by exact True.intro) (listP_good (by decide) _ (fun _ => intE_good) _ _)⟩
    · exact ⟨rfl, good_bind' (fun _ => by exact True.intro) (listP_good (by decide) _ (fun _ => textE_good) _ _)⟩
    · exact ⟨rfl, good_bind' (fun _ => by exact True.intro) (listP_good (by decide) _ rowE_good _ _)⟩
    · refine ⟨rfl, ?_, fun d hd => ?_⟩
      · simp only [show ¬ ((0 : Int) = 120) by decide, if_false]; trivial
      · dsimp only
        split
        · exact ⟨rfl, good_bind' (fun _ => by exact True.intro) bitsP_good⟩
        · trivial
    · exact good_any intE_good true
/-! what is written -/
def decN (n : Nat) : List UInt8 := if h : n < 10 then [UInt8.ofNat (48 + n)] else decN (n / 10) ++ [UInt8.ofNat (48 + n % 10)]
def showI (n : Int) : List UInt8 := if n < 0 then 45 :: decN n.natAbs else decN n.natAbs
def hexD (n : Nat) : UInt8 := if n < 10 then UInt8.ofNat (48 + n) else UInt8.ofNat (87 + n)
def plainB (c : UInt8) : Bool := decide (32 ≤ c.toNat) && decide (c.toNat ≤ 126)
def escB (c : UInt8) : List UInt8 := if c = 34 ∨ c = 92 then [92, c] else if plainB c = true then [c] else [92, 120, hexD (c.toNat / 16), hexD (c.toNat % 16)]
def quoteB (l : List UInt8) : List UInt8 := 34 :: (l.flatMap escB ++ [34])
def joinB : List (List UInt8) → List UInt8
  | [] => []
  | [x] => x
  | x :: y :: l => x ++ (44 :: 32 :: joinB (y :: l))
mutual
def showV : Va → List UInt8
  | .mk t n s l => if t = 1 then (if n = 1 then [116, 114, 117, 101] else [102, 97, 108, 115, 101]) else if t = 2 then showI n else if t = 4 then [48, 120, hexD (n.toNat / 16), hexD (n.toNat % 16)]
    else if t = 3 then quoteB s.data.toList else if t = 8 then 114 :: quoteB s.data.toList
    else if t = 5 then 91 :: (joinB (showVs l) ++ [93]) else if t = 6 then 123 :: (joinB (showVs l) ++ [125]) else 60 :: (joinB (showVs l) ++ [62])
def showVs : List Va → List (List UInt8)
  | [] => []
  | v :: l => showV v :: showVs l
end
/-! numbers -/
def dig (c : UInt8) : Prop := 48 ≤ (c.toNat : Int) ∧ (c.toNat : Int) ≤ 57
def valD (n : Int) (ds : List UInt8) : Int := ds.foldl (fun a c => a * 10 + ((c.toNat : Int) - 48)) n
theorem ofNat_toNat {n : Nat} (h : n < 256) : (UInt8.ofNat n).toNat = n := by simp [UInt8.toNat_ofNat, Nat.mod_eq_of_lt h]
theorem decN_ok (n : Nat) : ∃ d ds, decN n = d :: ds ∧ (∀ c ∈ d :: ds, dig c) ∧ valD ((d.toNat : Int) - 48) ds = n ∧ (0 < n → 48 < d.toNat) ∧ ∀ k, 0 < k → n < 10 ^ k → ds.length < k := by
  induction n using Nat.strongRecOn with
  | ind n ih =>
    rw [decN]
    by_cases h : n < 10
    · rw [dif_pos h]
      have e : (UInt8.ofNat (48 + n)).toNat = 48 + n := ofNat_toNat (by omega)
      refine ⟨_, [], rfl, fun c hc => ?_, ?_, fun h0 => by rw [e]; omega, fun k hk _ => hk⟩
      · rcases List.mem_cons.1 hc with rfl | hc
        · unfold dig; rw [e]; omega
        · cases hc
      · show ((UInt8.ofNat (48 + n)).toNat : Int) - 48 = n
        rw [e]; omega
    · rw [dif_neg h]
      obtain ⟨d, ds, h1, h2, h3, h4, h5⟩ := ih (n / 10) (by omega)
      have e : (UInt8.ofNat (48 + n % 10)).toNat = 48 + n % 10 := ofNat_toNat (by omega)
      refine ⟨d, ds ++ [UInt8.ofNat (48 + n % 10)], by rw [h1]; rfl, fun c hc => ?_, ?_, fun h0 => h4 (by omega), fun k hk hlt => ?_⟩
      · rw [← List.cons_append] at hc
        rcases List.mem_append.1 hc with hc | hc
        · exact h2 c hc
        · rcases List.mem_cons.1 hc with rfl | hc
          · unfold dig; rw [e]; omega
          · cases hc
      · unfold valD at h3 ⊢
        rw [List.foldl_append, h3]
        show (((n / 10 : Nat) : Int)) * 10 + (((UInt8.ofNat (48 + n % 10)).toNat : Int) - 48) = n
        rw [e]; omega
      · obtain ⟨j, rfl⟩ : ∃ j, k = j + 1 := ⟨k - 1, by omega⟩
        have hj : 0 < j := by
          rcases Nat.eq_zero_or_pos j with rfl | hj
          · simp at hlt; omega
          · exact hj
        have := h5 j hj (by rw [Nat.pow_succ] at hlt; omega)
        rw [List.length_append, List.length_singleton]; omega
/-! texts -/
theorem toBA_map (s : ByteArray) : toBA (s.data.toList.map fun c => (c.toNat : Int)) = s := by
  have key : ∀ (l : List UInt8) (r : ByteArray), (l.map fun c => (c.toNat : Int)).foldl (fun r n => r.push (UInt8.ofNat n.toNat)) r = ⟨r.data ++ l.toArray⟩ := by
    intro l
    induction l with
    | nil => intro r; simp
    | cons c l ih =>
      intro r
      rw [List.map_cons, List.foldl_cons, ih]
      simp [ByteArray.push]
  unfold toBA
  rw [key]
  cases s
  simp [ByteArray.empty, ByteArray.emptyWithCapacity]
  try rfl
/-! hexadecimal -/
/-! lists -/
/-- elements behind others: each behind a comma and a space -/
def sepsB {α : Type} (sh : α → List UInt8) (l : List α) : List UInt8 := l.flatMap fun v => 44 :: 32 :: sh v
theorem joinB_cons {α : Type} (sh : α → List UInt8) : ∀ (l : List α) (v : α), joinB ((v :: l).map sh) = sh v ++ sepsB sh l
  | [], v => by simp [joinB, sepsB]
  | w :: l, v => by
    have := joinB_cons sh l w
    rw [List.map_cons] at this
    rw [List.map_cons, List.map_cons, joinB, this]
    simp [sepsB]
section
variable {α : Type} {e : UInt8} {least : Nat} {elem : List α → Pr α} {sh : α → List UInt8} {vs : List α}
end
/-! valid values -/
def textOk (least most : Nat) (s : ByteArray) : Prop := least ≤ s.size ∧ s.size ≤ most ∧ ∀ c ∈ s.data.toList, plainB c = true
def intOk (v : Va) : Prop := ∃ n, v = Va.mk 2 n ⟨#[]⟩ [] ∧ -1000000 ≤ n ∧ n ≤ 1000000
def txtOk (v : Va) : Prop := ∃ s, v = Va.mk 3 0 s [] ∧ textOk 0 64 s
def rowOk (lo hi : Nat) (v : Va) : Prop := ∃ l, v = Va.mk 6 0 ⟨#[]⟩ l ∧ lo ≤ l.length ∧ l.length ≤ hi ∧ ∀ x ∈ l, txtOk x
def valOk (v : Va) : Prop :=
  (v = Va.mk 1 0 ⟨#[]⟩ [] ∨ v = Va.mk 1 1 ⟨#[]⟩ []) ∨ intOk v ∨ (∃ n, v = Va.mk 4 n ⟨#[]⟩ [] ∧ 0 ≤ n ∧ n ≤ 255) ∨ txtOk v ∨ (∃ s, v = Va.mk 8 0 s [] ∧ textOk 1 40 s) ∨
  (∃ l, v = Va.mk 5 0 ⟨#[]⟩ l ∧ l.length ≤ 16 ∧ ∀ x ∈ l, intOk x) ∨ rowOk 0 16 v ∨
  (∃ l, v = Va.mk 7 0 ⟨#[]⟩ l ∧ l.length ≤ 8 ∧ ∃ m, 1 ≤ m ∧ m ≤ 8 ∧ ∀ x ∈ l, rowOk m m x)
theorem showVs_map : ∀ l : List Va, showVs l = l.map showV
  | [] => rfl
  | v :: l => by rw [showVs, showVs_map l]; rfl
/-! tuples -/
/-! texts of any bytes -/
def plainI (c : Int) : Bool := decide (32 ≤ c) && decide (c ≤ 126)
end Go.Proofs.YtijkipikefpopaaDoor
