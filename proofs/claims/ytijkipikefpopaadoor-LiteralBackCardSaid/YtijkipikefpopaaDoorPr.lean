/- Readers that look at one byte at a time: what a text's beginnings do. -/
import Derived.Test.YtijkipikefpopaaDoorLo
set_option linter.unusedVariables false
set_option linter.unusedSimpArgs false
namespace Go.Proofs.YtijkipikefpopaaDoor
open Go Go.RowKit

/-- the byte that is next; 0 at the end -/
def hd : List UInt8 → Int
  | [] => 0
  | c :: _ => (c.toNat : Int)
inductive Pr (α : Type) where
  | done (a : α)
  | fail
  | peek (k : Int → Pr α)
  | adv (p : Pr α)
def Pr.run {α : Type} : Pr α → List UInt8 → Option α × List UInt8
  | .done a, l => (some a, l)
  | .fail, l => (none, l)
  | .peek k, l => (k (hd l)).run l
  | .adv p, l => p.run l.tail
def Pr.bind {α β : Type} : Pr α → (α → Pr β) → Pr β
  | .done a, f => f a
  | .fail, _ => .fail
  | .peek k, f => .peek fun c => (k c).bind f
  | .adv p, f => .adv (p.bind f)
theorem run_bind {α β : Type} (f : α → Pr β) : ∀ (p : Pr α) (l : List UInt8), (p.bind f).run l = match p.run l with
    | (some a, m) => (f a).run m
    | (none, m) => (none, m)
  | .done a, l => rfl
  | .fail, l => rfl
  | .peek k, l => run_bind f (k (hd l)) l
  | .adv p, l => run_bind f p l.tail
/-- nothing is read past the end -/
def Pr.good {α : Type} : Bool → Pr α → Prop
  | _, .done _ => True
  | _, .fail => True
  | _, .peek k => (k 0).good false ∧ ∀ c, c ≠ 0 → (k c).good true
  | b, .adv p => b = true ∧ p.good false
theorem good_mono {α : Type} : ∀ (p : Pr α), p.good false → p.good true
  | .done a, _ => trivial
  | .fail, _ => trivial
  | .peek k, h => h
  | .adv p, h => by cases h.1
theorem good_any {α : Type} {p : Pr α} (h : p.good false) (b : Bool) : p.good b := by
  cases b
  · exact h
  · exact good_mono p h
theorem good_bind {α β : Type} {f : α → Pr β} (hf : ∀ a, (f a).good false) : ∀ (p : Pr α) (b : Bool), p.good b → (p.bind f).good b
  | .done a, b, _ => good_any (hf a) b
  | .fail, _, _ => trivial
  | .peek k, _, h => ⟨good_bind hf (k 0) false h.1, fun c hc => good_bind hf (k c) true (h.2 c hc)⟩
  | .adv p, _, h => ⟨h.1, good_bind hf p false h.2⟩
theorem good_bind' {α β : Type} {f : α → Pr β} (hf : ∀ a, (f a).good false) {p : Pr α} (h : p.good false) : (p.bind f).good false := good_bind hf p false h
/-! the literals -/
def wordP : List Int → Pr Unit
  | [] => .done ()
  | x :: w => .peek fun c => if c = x then .adv (wordP w) else .fail
theorem wordP_good : ∀ {w : List Int}, (∀ x ∈ w, x ≠ 0) → (wordP w).good false
  | [], _ => trivial
  | x :: w, h => by
    have hx := h x (List.mem_cons_self ..)
    refine ⟨?_, fun c hc => ?_⟩
    · simp only [if_neg (show ¬ ((0 : Int) = x) from fun h => hx h.symm)]; trivial
    · dsimp only
      split
      · exact ⟨rfl, wordP_good fun y hy => h y (List.mem_cons_of_mem _ hy)⟩
      · trivial
/-- the rest of a quoted text: at most k bytes more -/
def bodyP (least : Nat) : Nat → List Int → Pr (List Int)
  | 0, acc => .peek fun c => if c = 34 ∧ least ≤ acc.length then .adv (.done acc) else .fail
  | k + 1, acc => .peek fun c => if c = 34 ∧ least ≤ acc.length then .adv (.done acc) else if c = 34 ∨ c < 32 ∨ 126 < c then .fail else
      if c = 92 then .adv (.peek fun d => if d = 34 ∨ d = 92 then .adv (bodyP least k (acc ++ [d])) else .fail) else .adv (bodyP least k (acc ++ [c]))
theorem bodyP_good (least : Nat) : ∀ (k : Nat) (acc : List Int), (bodyP least k acc).good false
  | 0, acc => by
    refine ⟨?_, fun c hc => ?_⟩
    · simp only [show ¬ ((0 : Int) = 34) by decide, false_and, if_false]; trivial
    · dsimp only
      split
      · exact ⟨rfl, trivial⟩
      · trivial
  | k + 1, acc => by
    refine ⟨?_, fun c hc => ?_⟩
    · simp only [show ¬ ((0 : Int) = 34) by decide, false_and, if_false, show ((0 : Int) < 32) by decide, true_or, or_true, if_true]; trivial
    · dsimp only
      split
      · exact ⟨rfl, trivial⟩
      split
      · trivial
      split
      · refine ⟨rfl, ?_, fun d hd => ?_⟩
        · simp only [show ¬ ((0 : Int) = 34 ∨ (0 : Int) = 92) by decide, if_false]; trivial
        · dsimp only
          split
          · exact ⟨rfl, bodyP_good least k _⟩
          · trivial
      · exact ⟨rfl, bodyP_good least k _⟩
def textP (least most : Nat) : Pr (List Int) := .peek fun c => if c = 34 then .adv (bodyP least most []) else .fail
theorem textP_good (least most : Nat) : (textP least most).good false := by
  refine ⟨?_, fun c hc => ?_⟩
  · simp only [show ¬ ((0 : Int) = 34) by decide, if_false]; trivial
  · dsimp only
    split
    · exact ⟨rfl, bodyP_good ..⟩
    · trivial
/-- the digits behind the first -/
def digitsP : Nat → Int → Pr Int
  | 0, n => .done n
  | f + 1, n => if n ≤ 0 then .done n else .peek fun b => if 48 ≤ b ∧ b ≤ 57 ∧ n * 10 + (b - 48) ≤ 1000000 then .adv (digitsP f (n * 10 + (b - 48))) else .done n
theorem digitsP_good : ∀ (f : Nat) (n : Int), (digitsP f n).good false
  | 0, n => trivial
  | f + 1, n => by
    unfold digitsP
    split
    · trivial
    refine ⟨?_, fun c hc => ?_⟩
    · simp only [show ¬ ((48 : Int) ≤ 0) by decide, false_and, if_false]; trivial
    · dsimp only
      split
      · exact ⟨rfl, digitsP_good f _⟩
      · trivial
def unsP (neg : Bool) : Pr Int := .peek fun b => if b < 48 ∨ 57 < b ∨ (neg = true ∧ b = 48) then .fail else .adv ((digitsP 7 (b - 48)).bind fun n => .done (if neg = true then -n else n))
def numP : Pr Int := .peek fun c => if c = 45 then .adv (unsP true) else unsP false
theorem unsP_good (neg : Bool) : (unsP neg).good false := by
  refine ⟨?_, fun c hc => ?_⟩
  · simp only [show (0 : Int) < 48 by decide, true_or, if_true]; trivial
  · dsimp only
    split
    · trivial
    · refine ⟨rfl, good_bind' (fun _ => ?_) (digitsP_good 7 _)⟩
      trivial
theorem numP_good : numP.good false := by
  refine ⟨?_, fun c hc => ?_⟩
  · simp only [show ¬ ((0 : Int) = 45) by decide, if_false]; exact unsP_good _
  · dsimp only
    split
    · exact ⟨rfl, unsP_good _⟩
    · exact good_any (unsP_good _) true
/-- elements and the closing byte: at most k more -/
def listP {α : Type} (e : Int) (least : Nat) (elem : List α → Pr α) : Nat → List α → Pr (List α)
  | 0, acc => .peek fun c => if c = e ∧ least ≤ acc.length then .adv (.done acc) else .fail
  | k + 1, acc => .peek fun c => if c = e ∧ least ≤ acc.length then .adv (.done acc) else
      (if acc.length = 0 then .done () else wordP [44, 32]).bind fun _ => (elem acc).bind fun v => listP e least elem k (acc ++ [v])
theorem listP_good {α : Type} {e : Int} (he : e ≠ 0) (least : Nat) {elem : List α → Pr α} (hel : ∀ l, (elem l).good false) : ∀ (k : Nat) (acc : List α), (listP e least elem k acc).good false
  | 0, acc => by
    refine ⟨?_, fun c hc => ?_⟩
    · simp only [show ¬ ((0 : Int) = e) from fun h => he h.symm, false_and, if_false]; trivial
    · dsimp only
      split
      · exact ⟨rfl, trivial⟩
      · trivial
  | k + 1, acc => by
    have hr : ((if acc.length = 0 then .done () else wordP [44, 32]).bind fun _ => (elem acc).bind fun v => listP e least elem k (acc ++ [v])).good false := by
      refine good_bind' (fun _ => good_bind' (fun v => listP_good he least hel k _) (hel _)) ?_
      split
      · trivial
      · exact wordP_good (by decide)
    refine ⟨?_, fun c hc => ?_⟩
    · simp only [show ¬ ((0 : Int) = e) from fun h => he h.symm, false_and, if_false]; exact hr
    · dsimp only
      split
      · exact ⟨rfl, trivial⟩
      · exact good_any hr true
/-- the value of a hexadecimal digit, or -1 -/
def hexV (c : Int) : Int := if 48 ≤ c ∧ c ≤ 57 then c - 48 else if 97 ≤ c ∧ c ≤ 102 then c - 87 else -1
def bitsP : Pr Int := .peek fun a => if hexV a < 0 then .fail else .adv (.peek fun b => if hexV b < 0 then .fail else .adv (.done (hexV a * 16 + hexV b)))
theorem bitsP_good : bitsP.good false := by
  refine ⟨?_, fun c hc => ?_⟩
  · simp only [show hexV 0 < 0 by decide, if_true]; trivial
  · dsimp only
    split
    · trivial
    · refine ⟨rfl, ?_, fun d hd => ?_⟩
      · simp only [show hexV 0 < 0 by decide, if_true]; trivial
      · dsimp only
        split
        · trivial
        · exact ⟨rfl, trivial⟩

def intE : Pr Va := numP.bind fun n => .done (Va.mk 2 n ⟨#[]⟩ [])
def textE : Pr Va := (textP 0 64).bind fun s => .done (Va.mk 3 0 (toBA s) [])
/-- a row beside the rows before it -/
def rowE (acc : List Va) : Pr Va := .peek fun c => if c = 123 then
    .adv ((listP 125 (match acc with | [] => 1 | r :: _ => r.items.length) (fun _ => textE) (match acc with | [] => 8 | r :: _ => r.items.length) []).bind fun l => .done (Va.mk 6 0 ⟨#[]⟩ l)) else .fail
def oneP : Pr Va := .peek fun c =>
  if c = 116 then (wordP [116, 114, 117, 101]).bind fun _ => .done (Va.mk 1 1 ⟨#[]⟩ [])
  else if c = 102 then (wordP [102, 97, 108, 115, 101]).bind fun _ => .done (Va.mk 1 0 ⟨#[]⟩ [])
  else if c = 34 then textE
  else if c = 114 then .adv ((textP 1 40).bind fun s => .done (Va.mk 8 0 (toBA s) []))
  else if c = 91 then .adv ((listP 93 0 (fun _ => intE) 16 []).bind fun l => .done (Va.mk 5 0 ⟨#[]⟩ l))
  else if c = 123 then .adv ((listP 125 0 (fun _ => textE) 16 []).bind fun l => .done (Va.mk 6 0 ⟨#[]⟩ l))
  else if c = 60 then .adv ((listP 62 0 rowE 8 []).bind fun l => .done (Va.mk 7 0 ⟨#[]⟩ l))
  else if c = 48 then .adv (.peek fun d => if d = 120 then .adv (bitsP.bind fun n => .done (Va.mk 4 n ⟨#[]⟩ [])) else .done (Va.mk 2 0 ⟨#[]⟩ []))
  else intE
theorem intE_good : intE.good false := good_bind' (fun _ => by exact True.intro) numP_good
theorem textE_good : textE.good false := good_bind' (fun _ => by exact True.intro) (textP_good ..)
theorem rowE_good (acc : List Va) : (rowE acc).good false := by
  refine ⟨?_, fun c hc => ?_⟩
  · simp only [show ¬ ((0 : Int) = 123) by decide, if_false]; trivial
  · dsimp only
    split
    · exact ⟨rfl, good_bind' (fun _ => by exact True.intro) (listP_good (by decide) _ (fun _ => textE_good) _ _)⟩
    · trivial
theorem oneP_good : oneP.good false := by
  refine ⟨?_, fun c hc => ?_⟩
  · exact intE_good
  · dsimp only
    repeat' split
    · exact good_any (good_bind' (fun _ => by exact True.intro) (wordP_good (by decide))) true
    · exact good_any (good_bind' (fun _ => by exact True.intro) (wordP_good (by decide))) true
    · exact good_any textE_good true
    · exact ⟨rfl, good_bind' (fun _ => by exact True.intro) (textP_good ..)⟩
    · exact ⟨rfl, good_bind' (fun _ => by exact True.intro) (listP_good (by decide) _ (fun _ => intE_good) _ _)⟩
    · exact ⟨rfl, good_bind' (fun _ => by exact True.intro) (listP_good (by decide) _ (fun _ => textE_good) _ _)⟩
    · exact ⟨rfl, good_bind' (fun _ => by exact True.intro) (listP_good (by decide) _ rowE_good _ _)⟩
    · refine ⟨rfl, ?_, fun d hd => ?_⟩
      · simp only [show ¬ ((0 : Int) = 120) by decide, if_false]; trivial
      · dsimp only
        split
        · exact ⟨rfl, good_bind' (fun _ => by exact True.intro) bitsP_good⟩
        · trivial
    · exact good_any intE_good true
/-! what is written -/
def decN (n : Nat) : List UInt8 := if h : n < 10 then [UInt8.ofNat (48 + n)] else decN (n / 10) ++ [UInt8.ofNat (48 + n % 10)]
def showI (n : Int) : List UInt8 := if n < 0 then 45 :: decN n.natAbs else decN n.natAbs
def hexD (n : Nat) : UInt8 := if n < 10 then UInt8.ofNat (48 + n) else UInt8.ofNat (87 + n)
def plainB (c : UInt8) : Bool := decide (32 ≤ c.toNat) && decide (c.toNat ≤ 126)
def escB (c : UInt8) : List UInt8 := if c = 34 ∨ c = 92 then [92, c] else if plainB c = true then [c] else [92, 120, hexD (c.toNat / 16), hexD (c.toNat % 16)]
def quoteB (l : List UInt8) : List UInt8 := 34 :: (l.flatMap escB ++ [34])
def joinB : List (List UInt8) → List UInt8
  | [] => []
  | [x] => x
  | x :: y :: l => x ++ (44 :: 32 :: joinB (y :: l))
mutual
def showV : Va → List UInt8
  | .mk t n s l => if t = 1 then (if n = 1 then [116, 114, 117, 101] else [102, 97, 108, 115, 101]) else if t = 2 then showI n else if t = 4 then [48, 120, hexD (n.toNat / 16), hexD (n.toNat % 16)]
    else if t = 3 then quoteB s.data.toList else if t = 8 then 114 :: quoteB s.data.toList
    else if t = 5 then 91 :: (joinB (showVs l) ++ [93]) else if t = 6 then 123 :: (joinB (showVs l) ++ [125]) else 60 :: (joinB (showVs l) ++ [62])
def showVs : List Va → List (List UInt8)
  | [] => []
  | v :: l => showV v :: showVs l
end
/-! numbers -/
def dig (c : UInt8) : Prop := 48 ≤ (c.toNat : Int) ∧ (c.toNat : Int) ≤ 57
def valD (n : Int) (ds : List UInt8) : Int := ds.foldl (fun a c => a * 10 + ((c.toNat : Int) - 48)) n
theorem ofNat_toNat {n : Nat} (h : n < 256) : (UInt8.ofNat n).toNat = n := by simp [UInt8.toNat_ofNat, Nat.mod_eq_of_lt h]
theorem decN_ok (n : Nat) : ∃ d ds, decN n = d :: ds ∧ (∀ c ∈ d :: ds, dig c) ∧ valD ((d.toNat : Int) - 48) ds = n ∧ (0 < n → 48 < d.toNat) ∧ ∀ k, 0 < k → n < 10 ^ k → ds.length < k := by
  induction n using Nat.strongRecOn with
  | ind n ih =>
    rw [decN]
    by_cases h : n < 10
    · rw [dif_pos h]
      have e : (UInt8.ofNat (48 + n)).toNat = 48 + n := ofNat_toNat (by omega)
      refine ⟨_, [], rfl, fun c hc => ?_, ?_, fun h0 => by rw [e]; omega, fun k hk _ => hk⟩
      · rcases List.mem_cons.1 hc with rfl | hc
        · unfold dig; rw [e]; omega
        · cases hc
      · show ((UInt8.ofNat (48 + n)).toNat : Int) - 48 = n
        rw [e]; omega
    · rw [dif_neg h]
      obtain ⟨d, ds, h1, h2, h3, h4, h5⟩ := ih (n / 10) (by omega)
      have e : (UInt8.ofNat (48 + n % 10)).toNat = 48 + n % 10 := ofNat_toNat (by omega)
      refine ⟨d, ds ++ [UInt8.ofNat (48 + n % 10)], by rw [h1]; rfl, fun c hc => ?_, ?_, fun h0 => h4 (by omega), fun k hk hlt => ?_⟩
      · rw [← List.cons_append] at hc
        rcases List.mem_append.1 hc with hc | hc
        · exact h2 c hc
        · rcases List.mem_cons.1 hc with rfl | hc
          · unfold dig; rw [e]; omega
          · cases hc
      · unfold valD at h3 ⊢
        rw [List.foldl_append, h3]
        show (((n / 10 : Nat) : Int)) * 10 + (((UInt8.ofNat (48 + n % 10)).toNat : Int) - 48) = n
        rw [e]; omega
      · obtain ⟨j, rfl⟩ : ∃ j, k = j + 1 := ⟨k - 1, by omega⟩
        have hj : 0 < j := by
          rcases Nat.eq_zero_or_pos j with rfl | hj
          · simp at hlt; omega
          · exact hj
        have := h5 j hj (by rw [Nat.pow_succ] at hlt; omega)
        rw [List.length_append, List.length_singleton]; omega
theorem run_peek {α : Type} (k : Int → Pr α) (c : UInt8) (l : List UInt8) : (Pr.peek k).run (c :: l) = (k (c.toNat : Int)).run (c :: l) := rfl
theorem run_adv {α : Type} (p : Pr α) (c : UInt8) (l : List UInt8) : (Pr.adv p).run (c :: l) = p.run l := rfl
/-- no digit and no x follows -/
def stop (l : List UInt8) : Prop := (hd l < 48 ∨ 57 < hd l) ∧ hd l ≠ 120
theorem valD_mono (ds : List UInt8) : ∀ (n : Int), 0 ≤ n → (∀ c ∈ ds, dig c) → n ≤ valD n ds := by
  induction ds with
  | nil => intro n _ _; exact Int.le_refl _
  | cons c ds ih =>
    intro n hn h
    have hc := h c (List.mem_cons_self ..)
    unfold dig at hc
    have := ih (n * 10 + ((c.toNat : Int) - 48)) (by omega) fun x hx => h x (List.mem_cons_of_mem _ hx)
    show n ≤ valD (n * 10 + ((c.toNat : Int) - 48)) ds
    omega
theorem digits_run (rest : List UInt8) (hs : stop rest) : ∀ (ds : List UInt8) (f : Nat) (n : Int), 0 < n → ds.length ≤ f → (∀ c ∈ ds, dig c) → valD n ds ≤ 1000000 → (digitsP f n).run (ds ++ rest) = (some (valD n ds), rest)
  | [], 0, n, _, _, _, _ => rfl
  | [], f + 1, n, h0, _, _, _ => by
    unfold digitsP
    rw [if_neg (by omega)]
    show Pr.run (if 48 ≤ hd rest ∧ hd rest ≤ 57 ∧ n * 10 + (hd rest - 48) ≤ 1000000 then _ else _) _ = _
    rw [if_neg (by have := hs.1; omega)]
    rfl
  | c :: ds, 0, n, _, h, _, _ => by simp at h
  | c :: ds, f + 1, n, h0, hf, hd', hv => by
    have hc := hd' c (List.mem_cons_self ..)
    unfold dig at hc
    have hm := valD_mono ds (n * 10 + ((c.toNat : Int) - 48)) (by omega) fun x hx => hd' x (List.mem_cons_of_mem _ hx)
    have hv' : valD (n * 10 + ((c.toNat : Int) - 48)) ds ≤ 1000000 := hv
    unfold digitsP
    rw [if_neg (by omega), List.cons_append, run_peek, if_pos (by omega), run_adv]
    exact digits_run rest hs ds f _ (by omega) (by simpa using hf) (fun x hx => hd' x (List.mem_cons_of_mem _ hx)) hv'
theorem uns_run {rest : List UInt8} (hs : stop rest) {n : Nat} (hn : n ≤ 1000000) (neg : Bool) (h0 : neg = true → 0 < n) : (unsP neg).run (decN n ++ rest) = (some (if neg = true then -(n : Int) else n), rest) := by
  obtain ⟨d, ds, h1, h2, h3, h4, h5⟩ := decN_ok n
  have hd := h2 d (List.mem_cons_self ..)
  unfold dig at hd
  rw [h1]
  unfold unsP
  rw [List.cons_append, run_peek, if_neg (by
    rintro (h | h | ⟨h, h'⟩)
    · omega
    · omega
    · have := h4 (h0 h); omega), run_adv, run_bind]
  have hlen := h5 7 (by decide) (by omega)
  by_cases hz : n = 0
  · subst hz
    have hd0 : (d.toNat : Int) - 48 ≤ 0 := by
      have := valD_mono ds ((d.toNat : Int) - 48) (by omega) fun x hx => h2 x (List.mem_cons_of_mem _ hx)
      omega
    have hds : ds = [] := by
      have := h5 1 (by decide) (by decide)
      exact List.eq_nil_of_length_eq_zero (by omega)
    subst hds
    unfold digitsP
    rw [if_pos hd0]
    have hd1 : (d.toNat : Int) - 48 = 0 := by omega
    rw [hd1]
    cases neg <;> rfl
  · have := h4 (by omega)
    rw [digits_run rest hs ds 7 _ (by omega) (by omega) (fun x hx => h2 x (List.mem_cons_of_mem _ hx)) (by rw [h3]; omega), h3]
    rfl
theorem hd_decN (n : Nat) (rest : List UInt8) : 48 ≤ hd (decN n ++ rest) ∧ hd (decN n ++ rest) ≤ 57 ∧ (0 < n → 48 < hd (decN n ++ rest)) := by
  obtain ⟨d, ds, h1, h2, h3, h4, h5⟩ := decN_ok n
  have hd := h2 d (List.mem_cons_self ..)
  unfold dig at hd
  rw [h1]
  show 48 ≤ (d.toNat : Int) ∧ (d.toNat : Int) ≤ 57 ∧ _
  exact ⟨hd.1, hd.2, fun h => by have := h4 h; show (48 : Int) < (d.toNat : Int); omega⟩
theorem num_run {rest : List UInt8} (hs : stop rest) {n : Int} (h1 : -1000000 ≤ n) (h2 : n ≤ 1000000) : numP.run (showI n ++ rest) = (some n, rest) := by
  unfold numP showI
  by_cases h : n < 0
  · rw [if_pos h]
    rw [List.cons_append, run_peek, if_pos (show ((45 : UInt8).toNat : Int) = 45 from rfl), run_adv, uns_run hs (by omega) true fun _ => by omega, if_pos rfl]
    congr 2
    omega
  · rw [if_neg h]
    have := hd_decN n.natAbs rest
    rw [show (Pr.peek fun c => if c = 45 then (unsP true).adv else unsP false).run (decN n.natAbs ++ rest) = (if hd (decN n.natAbs ++ rest) = 45 then (unsP true).adv else unsP false).run (decN n.natAbs ++ rest) from rfl, if_neg (by omega), uns_run hs (by omega) false fun h => by cases h]
    simp
    omega
/-! texts -/
theorem toNat_ne {c d : UInt8} (h : c ≠ d) : (c.toNat : Int) ≠ (d.toNat : Int) := fun e => h (UInt8.toNat_inj.1 (by omega))
theorem body_run (least : Nat) (rest : List UInt8) : ∀ (l : List UInt8) (k : Nat) (acc : List Int), l.length ≤ k → least ≤ acc.length + l.length → (∀ c ∈ l, plainB c = true) →
    (bodyP least k acc).run (l.flatMap escB ++ (34 :: rest)) = (some (acc ++ l.map fun c => (c.toNat : Int)), rest)
  | [], 0, acc, _, hl, _ => by
    unfold bodyP
    rw [show ([] : List UInt8).flatMap escB ++ 34 :: rest = 34 :: rest from rfl, run_peek, if_pos ⟨rfl, by simpa using hl⟩]
    simp [Pr.run]
  | [], k + 1, acc, _, hl, _ => by
    unfold bodyP
    rw [show ([] : List UInt8).flatMap escB ++ 34 :: rest = 34 :: rest from rfl, run_peek, if_pos ⟨rfl, by simpa using hl⟩]
    simp [Pr.run]
  | c :: l, 0, acc, h, _, _ => by simp at h
  | c :: l, k + 1, acc, h, hl, hp => by
    have hc := hp c (List.mem_cons_self ..)
    unfold plainB at hc
    simp only [Bool.and_eq_true, decide_eq_true_eq] at hc
    have ih := body_run least rest l k (acc ++ [(c.toNat : Int)]) (by simpa using h) (by simp at hl ⊢; omega) fun x hx => hp x (List.mem_cons_of_mem _ hx)
    have hres : (acc ++ [(c.toNat : Int)]) ++ l.map (fun c => (c.toNat : Int)) = acc ++ (c :: l).map fun c => (c.toNat : Int) := by simp
    rw [hres] at ih
    unfold bodyP
    rw [List.flatMap_cons]
    by_cases hq : c = 34 ∨ c = 92
    · have he : escB c = [92, c] := by unfold escB; rw [if_pos hq]
      rw [he]
      have e92 : ((92 : UInt8).toNat : Int) = 92 := rfl
      rw [show ([92, c] ++ l.flatMap escB) ++ 34 :: rest = 92 :: c :: (l.flatMap escB ++ 34 :: rest) from rfl, run_peek, e92, if_neg (by omega), if_neg (by omega), if_pos rfl, run_adv, run_peek, if_pos (by rcases hq with rfl | rfl; exact .inl rfl; exact .inr rfl), run_adv]
      exact ih
    · have he : escB c = [c] := by
        unfold escB
        rw [if_neg hq, if_pos (by unfold plainB; simp [hc])]
      rw [he]
      have n1 : (c.toNat : Int) ≠ 34 := toNat_ne (d := 34) fun h => hq (.inl h)
      have n2 : (c.toNat : Int) ≠ 92 := toNat_ne (d := 92) fun h => hq (.inr h)
      rw [show ([c] ++ l.flatMap escB) ++ 34 :: rest = c :: (l.flatMap escB ++ 34 :: rest) from rfl, run_peek, if_neg (fun h => n1 h.1), if_neg (by omega), if_neg n2, run_adv]
      exact ih
theorem text_run {least most : Nat} {l : List UInt8} (rest : List UInt8) (h1 : least ≤ l.length) (h2 : l.length ≤ most) (hp : ∀ c ∈ l, plainB c = true) : (textP least most).run (quoteB l ++ rest) = (some (l.map fun c => (c.toNat : Int)), rest) := by
  unfold textP quoteB
  rw [List.cons_append, run_peek, if_pos (show ((34 : UInt8).toNat : Int) = 34 from rfl), run_adv, List.append_assoc]
  have := body_run least rest l most [] h2 (by simpa using h1) hp
  simpa using this
theorem toBA_map (s : ByteArray) : toBA (s.data.toList.map fun c => (c.toNat : Int)) = s := by
  have key : ∀ (l : List UInt8) (r : ByteArray), (l.map fun c => (c.toNat : Int)).foldl (fun r n => r.push (UInt8.ofNat n.toNat)) r = ⟨r.data ++ l.toArray⟩ := by
    intro l
    induction l with
    | nil => intro r; simp
    | cons c l ih =>
      intro r
      rw [List.map_cons, List.foldl_cons, ih]
      simp [ByteArray.push]
  unfold toBA
  rw [key]
  cases s
  simp [ByteArray.empty, ByteArray.emptyWithCapacity]
  try rfl
/-! hexadecimal -/
theorem hexD_nat {n : Nat} (h : n < 16) : ((hexD n).toNat : Int) = if n < 10 then 48 + (n : Int) else 87 + n := by
  unfold hexD
  split
  · rw [ofNat_toNat (by omega)]; omega
  · rw [ofNat_toNat (by omega)]; omega
theorem hexV_D {n : Nat} (h : n < 16) : hexV ((hexD n).toNat : Int) = n := by
  rw [hexD_nat h]
  unfold hexV
  repeat' split
  all_goals omega
theorem bits_run {rest : List UInt8} {n : Int} (h0 : 0 ≤ n) (h1 : n ≤ 255) : bitsP.run (hexD (n.toNat / 16) :: hexD (n.toNat % 16) :: rest) = (some n, rest) := by
  unfold bitsP
  have e1 := hexV_D (n := n.toNat / 16) (by omega)
  have e2 := hexV_D (n := n.toNat % 16) (by omega)
  rw [run_peek, e1, if_neg (by omega), run_adv, run_peek, e2, if_neg (by omega), run_adv]
  show (some _, rest) = _
  congr 2
  omega
/-! lists -/
theorem word_run (rest : List UInt8) : ∀ w : List UInt8, (wordP (w.map fun c => (c.toNat : Int))).run (w ++ rest) = (some (), rest)
  | [] => rfl
  | c :: w => by
    rw [List.map_cons, wordP, List.cons_append, run_peek, if_pos rfl, run_adv]
    exact word_run rest w
/-- elements behind others: each behind a comma and a space -/
def sepsB {α : Type} (sh : α → List UInt8) (l : List α) : List UInt8 := l.flatMap fun v => 44 :: 32 :: sh v
theorem joinB_cons {α : Type} (sh : α → List UInt8) : ∀ (l : List α) (v : α), joinB ((v :: l).map sh) = sh v ++ sepsB sh l
  | [], v => by simp [joinB, sepsB]
  | w :: l, v => by
    have := joinB_cons sh l w
    rw [List.map_cons] at this
    rw [List.map_cons, List.map_cons, joinB, this]
    simp [sepsB]
section
variable {α : Type} {e : UInt8} {least : Nat} {elem : List α → Pr α} {sh : α → List UInt8} {vs : List α}
theorem list_end (rest : List UInt8) {acc : List α} (k : Nat) (hle : least ≤ acc.length) : (listP (e.toNat : Int) least elem k acc).run (e :: rest) = (some acc, rest) := by
  cases k with
  | zero => unfold listP; rw [run_peek, if_pos ⟨rfl, hle⟩]; rfl
  | succ k => unfold listP; rw [run_peek, if_pos ⟨rfl, hle⟩]; rfl
theorem stop_c {c : UInt8} (m : List UInt8) (h : ((c.toNat : Int) < 48 ∨ 57 < (c.toNat : Int)) ∧ (c.toNat : Int) ≠ 120) : stop (c :: m) := h
theorem stop_sep (m : List UInt8) : stop (44 :: m) := stop_c m (by decide)
theorem list_run1 (rest : List UInt8) (hel : ∀ acc v post m, acc ++ v :: post = vs → stop m → (elem acc).run (sh v ++ m) = (some v, m)) (hst : ∀ m, stop (e :: m)) (he : e ≠ 44) (hle : least ≤ vs.length) :
    ∀ (post acc : List α) (k : Nat), acc ++ post = vs → 0 < acc.length → post.length ≤ k → (listP (e.toNat : Int) least elem k acc).run (sepsB sh post ++ (e :: rest)) = (some vs, rest)
  | [], acc, k, ha, _, _ => by
    rw [List.append_nil] at ha
    subst ha
    exact list_end rest k hle
  | v :: post, acc, 0, _, _, h => by simp at h
  | v :: post, acc, k + 1, ha, h0, h => by
    have ih := list_run1 rest hel hst he hle post (acc ++ [v]) k (by rw [← ha]; simp) (by simp) (by simpa using h)
    have hm : stop (sepsB sh post ++ (e :: rest)) := by
      cases post with
      | nil => exact hst rest
      | cons w post => exact stop_sep _
    unfold listP
    rw [show sepsB sh (v :: post) ++ e :: rest = 44 :: (32 :: (sh v ++ (sepsB sh post ++ e :: rest))) by simp [sepsB], run_peek, if_neg (fun h => he (UInt8.toNat_inj.1 (by have := h.1; omega))), if_neg (by omega), run_bind,
      show (44 :: (32 :: (sh v ++ (sepsB sh post ++ e :: rest)))) = [44, 32] ++ (sh v ++ (sepsB sh post ++ e :: rest)) from rfl]
    have hw := word_run (sh v ++ (sepsB sh post ++ e :: rest)) [44, 32]
    rw [show wordP [44, 32] = wordP (([44, 32] : List UInt8).map fun c => (c.toNat : Int)) from rfl, hw]
    simp only
    rw [run_bind, hel acc v post _ ha hm]
    exact ih
theorem list_run (rest : List UInt8) (hel : ∀ acc v post m, acc ++ v :: post = vs → stop m → (elem acc).run (sh v ++ m) = (some v, m)) (hst : ∀ m, stop (e :: m)) (he : e ≠ 44) (hle : least ≤ vs.length)
    {k : Nat} (hk : vs.length ≤ k) (hne : ∀ v m, v ∈ vs → hd (sh v ++ m) ≠ (e.toNat : Int)) : (listP (e.toNat : Int) least elem k []).run (joinB (vs.map sh) ++ (e :: rest)) = (some vs, rest) := by
  cases vs with
  | nil => exact list_end rest k hle
  | cons v post =>
    obtain ⟨k, rfl⟩ : ∃ j, k = j + 1 := ⟨k - 1, by simp at hk; omega⟩
    have hm : stop (sepsB sh post ++ (e :: rest)) := by
      cases post with
      | nil => exact hst rest
      | cons w post => exact stop_sep _
    have h1 := list_run1 rest hel hst he hle post [v] k rfl (by simp) (by simpa using hk)
    have hne' := hne v (sepsB sh post ++ (e :: rest)) (List.mem_cons_self ..)
    rw [joinB_cons, List.append_assoc]
    unfold listP
    show Pr.run ((fun c => if c = (e.toNat : Int) ∧ least ≤ ([] : List α).length then .adv (.done []) else (if ([] : List α).length = 0 then .done () else wordP [44, 32]).bind fun _ => (elem []).bind fun v => listP (e.toNat : Int) least elem k ([] ++ [v])) (hd (sh v ++ (sepsB sh post ++ e :: rest)))) _ = _
    simp only
    rw [if_neg (fun h => hne' h.1), if_pos (show ([] : List α).length = 0 from rfl)]
    show Pr.run ((elem []).bind fun v => listP (e.toNat : Int) least elem k ([] ++ [v])) _ = _
    rw [run_bind, hel [] v post _ rfl hm]
    exact h1
end
/-! valid values -/
def textOk (least most : Nat) (s : ByteArray) : Prop := least ≤ s.size ∧ s.size ≤ most ∧ ∀ c ∈ s.data.toList, plainB c = true
def intOk (v : Va) : Prop := ∃ n, v = Va.mk 2 n ⟨#[]⟩ [] ∧ -1000000 ≤ n ∧ n ≤ 1000000
def txtOk (v : Va) : Prop := ∃ s, v = Va.mk 3 0 s [] ∧ textOk 0 64 s
def rowOk (lo hi : Nat) (v : Va) : Prop := ∃ l, v = Va.mk 6 0 ⟨#[]⟩ l ∧ lo ≤ l.length ∧ l.length ≤ hi ∧ ∀ x ∈ l, txtOk x
def valOk (v : Va) : Prop :=
  (v = Va.mk 1 0 ⟨#[]⟩ [] ∨ v = Va.mk 1 1 ⟨#[]⟩ []) ∨ intOk v ∨ (∃ n, v = Va.mk 4 n ⟨#[]⟩ [] ∧ 0 ≤ n ∧ n ≤ 255) ∨ txtOk v ∨ (∃ s, v = Va.mk 8 0 s [] ∧ textOk 1 40 s) ∨
  (∃ l, v = Va.mk 5 0 ⟨#[]⟩ l ∧ l.length ≤ 16 ∧ ∀ x ∈ l, intOk x) ∨ rowOk 0 16 v ∨
  (∃ l, v = Va.mk 7 0 ⟨#[]⟩ l ∧ l.length ≤ 8 ∧ ∃ m, 1 ≤ m ∧ m ≤ 8 ∧ ∀ x ∈ l, rowOk m m x)
theorem size_data (s : ByteArray) : s.data.toList.length = s.size := by cases s; rfl
theorem int_e {v : Va} (h : intOk v) {m : List UInt8} (hs : stop m) : intE.run (showV v ++ m) = (some v, m) := by
  obtain ⟨n, rfl, h1, h2⟩ := h
  have e : showV (Va.mk 2 n ⟨#[]⟩ []) = showI n := by simp [showV]
  unfold intE
  rw [e, run_bind, num_run hs h1 h2]
  rfl
theorem txt_e {v : Va} (h : txtOk v) (m : List UInt8) : textE.run (showV v ++ m) = (some v, m) := by
  obtain ⟨s, rfl, h1, h2, h3⟩ := h
  have e : showV (Va.mk 3 0 s []) = quoteB s.data.toList := by simp [showV]
  unfold textE
  rw [e, run_bind, text_run m (by rw [size_data]; exact h1) (by rw [size_data]; exact h2) h3]
  show (some (Va.mk 3 0 (toBA _) []), m) = _
  rw [toBA_map]
theorem showVs_map : ∀ l : List Va, showVs l = l.map showV
  | [] => rfl
  | v :: l => by rw [showVs, showVs_map l]; rfl
theorem hd_txt {v : Va} (h : txtOk v) (m : List UInt8) : hd (showV v ++ m) = 34 := by
  obtain ⟨s, rfl, _⟩ := h
  simp [showV, quoteB, hd]
theorem hd_int {v : Va} (h : intOk v) (m : List UInt8) : hd (showV v ++ m) = 45 ∨ 48 ≤ hd (showV v ++ m) ∧ hd (showV v ++ m) ≤ 57 := by
  obtain ⟨n, rfl, _⟩ := h
  have e : showV (Va.mk 2 n ⟨#[]⟩ []) = showI n := by simp [showV]
  rw [e]
  unfold showI
  split
  · exact .inl rfl
  · have := hd_decN n.natAbs m
    exact .inr ⟨this.1, this.2.1⟩
theorem row_list {l : List Va} {lo hi : Nat} (h1 : lo ≤ l.length) (h2 : l.length ≤ hi) (h3 : ∀ x ∈ l, txtOk x) (m : List UInt8) : (listP 125 lo (fun _ => textE) hi []).run (joinB (showVs l) ++ (125 :: m)) = (some l, m) := by
  rw [showVs_map]
  exact list_run (e := 125) m (fun acc v post m' ha _ => txt_e (h3 v (by rw [← ha]; simp)) m') (fun m' => stop_c m' (by decide)) (by decide) h1 h2 fun v m' hv => by rw [hd_txt (h3 v hv)]; decide
theorem showV_row (l : List Va) : showV (Va.mk 6 0 ⟨#[]⟩ l) = 123 :: (joinB (showVs l) ++ [125]) := by simp [showV]
theorem row_e {acc : List Va} {v : Va} {m : Nat} (h1 : 1 ≤ m) (h2 : m ≤ 8) (hv : rowOk m m v) (ha : ∀ r ∈ acc, rowOk m m r) (rest : List UInt8) : (rowE acc).run (showV v ++ rest) = (some v, rest) := by
  obtain ⟨l, rfl, l1, l2, l3⟩ := hv
  rw [showV_row]
  unfold rowE
  rw [List.cons_append, run_peek, if_pos (show ((123 : UInt8).toNat : Int) = 123 from rfl), run_adv, run_bind, List.append_assoc]
  cases acc with
  | nil =>
    have := row_list (lo := 1) (hi := 8) (by omega) (by omega) l3 rest
    simp only [List.singleton_append]
    rw [this]
    rfl
  | cons r acc =>
    obtain ⟨k, hk, k1, k2, _⟩ := ha r (List.mem_cons_self ..)
    have e : r.items.length = l.length := by rw [hk]; show k.length = _; omega
    have := row_list (lo := r.items.length) (hi := r.items.length) (by omega) (by omega) l3 rest
    simp only [List.singleton_append]
    rw [this]
    rfl
theorem one_run {v : Va} (h : valOk v) {m : List UInt8} (hs : stop m) : oneP.run (showV v ++ m) = (some v, m) := by
  have pk : ∀ (l : List UInt8), oneP.run l = ((fun c : Int => (if c = 116 then (wordP [116, 114, 117, 101]).bind fun _ => .done (Va.mk 1 1 ⟨#[]⟩ [])
  else if c = 102 then (wordP [102, 97, 108, 115, 101]).bind fun _ => .done (Va.mk 1 0 ⟨#[]⟩ [])
  else if c = 34 then textE
  else if c = 114 then .adv ((textP 1 40).bind fun s => .done (Va.mk 8 0 (toBA s) []))
  else if c = 91 then .adv ((listP 93 0 (fun _ => intE) 16 []).bind fun l => .done (Va.mk 5 0 ⟨#[]⟩ l))
  else if c = 123 then .adv ((listP 125 0 (fun _ => textE) 16 []).bind fun l => .done (Va.mk 6 0 ⟨#[]⟩ l))
  else if c = 60 then .adv ((listP 62 0 rowE 8 []).bind fun l => .done (Va.mk 7 0 ⟨#[]⟩ l))
  else if c = 48 then .adv (.peek fun d => if d = 120 then .adv (bitsP.bind fun n => .done (Va.mk 4 n ⟨#[]⟩ [])) else .done (Va.mk 2 0 ⟨#[]⟩ []))
  else intE : Pr Va)) (hd l)).run l := fun l => rfl
  rw [pk]
  dsimp only
  rcases h with (rfl | rfl) | h | ⟨n, rfl, h1, h2⟩ | h | ⟨s, rfl, h1, h2, h3⟩ | ⟨l, rfl, h1, h2⟩ | ⟨l, rfl, h1, h2, h3⟩ | ⟨l, rfl, h1, r, r1, r2, h2⟩
  · have e : showV (Va.mk 1 0 ⟨#[]⟩ []) = [102, 97, 108, 115, 101] := by simp [showV]
    rw [e, show hd ([102, 97, 108, 115, 101] ++ m) = 102 from rfl]
    simp only [show ¬ ((102 : Int) = 116) by decide, if_false, if_true]
    rw [run_bind, show wordP [102, 97, 108, 115, 101] = wordP (([102, 97, 108, 115, 101] : List UInt8).map fun c => (c.toNat : Int)) from rfl, word_run]
    rfl
  · have e : showV (Va.mk 1 1 ⟨#[]⟩ []) = [116, 114, 117, 101] := by simp [showV]
    rw [e, show hd ([116, 114, 117, 101] ++ m) = 116 from rfl]
    simp only [if_true]
    rw [run_bind, show wordP [116, 114, 117, 101] = wordP (([116, 114, 117, 101] : List UInt8).map fun c => (c.toNat : Int)) from rfl, word_run]
    rfl
  · have hh := hd_int h m
    have hi := int_e h hs
    rw [if_neg (by omega), if_neg (by omega), if_neg (by omega), if_neg (by omega), if_neg (by omega), if_neg (by omega), if_neg (by omega)]
    by_cases h48 : hd (showV v ++ m) = 48
    · rw [if_pos h48]
      obtain ⟨n, rfl, n1, n2⟩ := h
      have e : showV (Va.mk 2 n ⟨#[]⟩ []) = showI n := by simp [showV]
      rw [e] at h48 hi ⊢
      have hn : n = 0 := by
        unfold showI at h48
        split at h48
        · exact absurd (show (45 : Int) = 48 from h48) (by decide)
        · have := (hd_decN n.natAbs m).2.2
          omega
      subst hn
      have e0 : showI 0 = [48] := by unfold showI; rw [if_neg (by decide)]; show decN 0 = _; rw [decN]; rfl
      rw [e0]
      show Pr.run ((fun d : Int => if d = 120 then .adv (bitsP.bind fun n => .done (Va.mk 4 n ⟨#[]⟩ [])) else .done (Va.mk 2 0 ⟨#[]⟩ [])) (hd m)) m = _
      simp only
      rw [if_neg hs.2]
      rfl
    · rw [if_neg h48]
      exact hi
  · have e : showV (Va.mk 4 n ⟨#[]⟩ []) = [48, 120, hexD (n.toNat / 16), hexD (n.toNat % 16)] := by simp [showV]
    rw [e, show hd ([48, 120, hexD (n.toNat / 16), hexD (n.toNat % 16)] ++ m) = 48 from rfl]
    simp only [show ¬ ((48 : Int) = 116) by decide, show ¬ ((48 : Int) = 102) by decide, show ¬ ((48 : Int) = 34) by decide, show ¬ ((48 : Int) = 114) by decide, show ¬ ((48 : Int) = 91) by decide, show ¬ ((48 : Int) = 123) by decide, show ¬ ((48 : Int) = 60) by decide, if_false, if_true]
    rw [show [48, 120, hexD (n.toNat / 16), hexD (n.toNat % 16)] ++ m = 48 :: 120 :: hexD (n.toNat / 16) :: hexD (n.toNat % 16) :: m from rfl, run_adv, run_peek, if_pos (show ((120 : UInt8).toNat : Int) = 120 from rfl), run_adv, run_bind, bits_run h1 h2]
    rfl
  · rw [hd_txt h]
    simp only [show ¬ ((34 : Int) = 116) by decide, show ¬ ((34 : Int) = 102) by decide, if_false, if_true]
    exact txt_e h m
  · have e : showV (Va.mk 8 0 s []) = 114 :: quoteB s.data.toList := by simp [showV]
    rw [e, show hd (114 :: quoteB s.data.toList ++ m) = 114 from rfl]
    simp only [show ¬ ((114 : Int) = 116) by decide, show ¬ ((114 : Int) = 102) by decide, show ¬ ((114 : Int) = 34) by decide, if_false, if_true]
    rw [List.cons_append, run_adv, run_bind, text_run m (by rw [size_data]; exact h1) (by rw [size_data]; exact h2) h3]
    show (some (Va.mk 8 0 (toBA _) []), m) = _
    rw [toBA_map]
  · have e : showV (Va.mk 5 0 ⟨#[]⟩ l) = 91 :: (joinB (showVs l) ++ [93]) := by simp [showV]
    rw [e, show hd (91 :: (joinB (showVs l) ++ [93]) ++ m) = 91 from rfl]
    simp only [show ¬ ((91 : Int) = 116) by decide, show ¬ ((91 : Int) = 102) by decide, show ¬ ((91 : Int) = 34) by decide, show ¬ ((91 : Int) = 114) by decide, if_false, if_true]
    have := list_run (e := 93) (least := 0) (elem := fun _ => intE) (sh := showV) (vs := l) (k := 16) m (fun acc v post m' ha hm => int_e (h2 v (by rw [← ha]; simp)) hm) (fun m' => stop_c m' (by decide)) (by decide) (Nat.zero_le _) h1 fun v m' hv => by have := hd_int (h2 v hv) m'; show _ ≠ (93 : Int); omega
    rw [show ((93 : UInt8).toNat : Int) = 93 from rfl] at this
    rw [List.cons_append, run_adv, run_bind, List.append_assoc, showVs_map, List.singleton_append, this]
    rfl
  · rw [showV_row, show hd (123 :: (joinB (showVs l) ++ [125]) ++ m) = 123 from rfl]
    simp only [show ¬ ((123 : Int) = 116) by decide, show ¬ ((123 : Int) = 102) by decide, show ¬ ((123 : Int) = 34) by decide, show ¬ ((123 : Int) = 114) by decide, show ¬ ((123 : Int) = 91) by decide, if_false, if_true]
    rw [List.cons_append, run_adv, run_bind, List.append_assoc, List.singleton_append, row_list (Nat.zero_le _) h2 h3 m]
    rfl
  · have e : showV (Va.mk 7 0 ⟨#[]⟩ l) = 60 :: (joinB (showVs l) ++ [62]) := by simp [showV]
    rw [e, show hd (60 :: (joinB (showVs l) ++ [62]) ++ m) = 60 from rfl]
    simp only [show ¬ ((60 : Int) = 116) by decide, show ¬ ((60 : Int) = 102) by decide, show ¬ ((60 : Int) = 34) by decide, show ¬ ((60 : Int) = 114) by decide, show ¬ ((60 : Int) = 91) by decide, show ¬ ((60 : Int) = 123) by decide, if_false, if_true]
    have := list_run (e := 62) (least := 0) (elem := rowE) (sh := showV) (vs := l) (k := 8) m (fun acc v post m' ha hm => row_e r1 r2 (h2 v (by rw [← ha]; simp)) (fun x hx => h2 x (by rw [← ha]; simp [hx])) m') (fun m' => stop_c m' (by decide)) (by decide) (Nat.zero_le _) h1 fun v m' hv => by
      obtain ⟨k, rfl, _⟩ := h2 v hv
      rw [showV_row]
      show (123 : Int) ≠ 62
      decide
    rw [show ((62 : UInt8).toNat : Int) = 62 from rfl] at this
    rw [List.cons_append, run_adv, run_bind, List.append_assoc, showVs_map, List.singleton_append, this]
    rfl
/-! tuples -/
def allL : Nat → List Va → List UInt8 → Option (List Va) × List UInt8
  | 0, _, l => (none, l)
  | k + 1, acc, l => match oneP.run l with
    | (none, m) => (none, m)
    | (some v, m) => if m = [] then (some (acc ++ [v]), []) else match (wordP [44, 32]).run m with
      | (none, m') => (none, m')
      | (some _, m') => allL k (acc ++ [v]) m'
theorem all_run : ∀ (k : Nat) (acc l : List Va) (v : Va), l.length < k → (∀ x ∈ v :: l, valOk x) → allL k acc (showV v ++ sepsB showV l) = (some (acc ++ v :: l), [])
  | 0, _, _, _, h, _ => by omega
  | k + 1, acc, [], v, h, hv => by
    unfold allL
    have hs : stop [] := ⟨.inl (by decide), by decide⟩
    have := one_run (hv v (List.mem_cons_self ..)) hs
    rw [show sepsB showV ([] : List Va) = [] from rfl, this]
    simp
  | k + 1, acc, w :: l, v, h, hv => by
    unfold allL
    have := one_run (hv v (List.mem_cons_self ..)) (stop_sep (32 :: (showV w ++ sepsB showV l)))
    rw [show sepsB showV (w :: l) = 44 :: 32 :: (showV w ++ sepsB showV l) by simp [sepsB], this]
    simp only
    rw [if_neg (by simp)]
    have hw := word_run (showV w ++ sepsB showV l) [44, 32]
    rw [show wordP [44, 32] = wordP (([44, 32] : List UInt8).map fun c => (c.toNat : Int)) from rfl, show (44 :: 32 :: (showV w ++ sepsB showV l)) = [44, 32] ++ (showV w ++ sepsB showV l) from rfl, hw]
    simp only
    rw [all_run k (acc ++ [v]) l w (by simpa using h) (fun x hx => hv x (List.mem_cons_of_mem _ hx))]
    simp
/-! texts of any bytes -/
def plainI (c : Int) : Bool := decide (32 ≤ c) && decide (c ≤ 126)
def unqP : Nat → List Int → Pr (List Int)
  | 0, _ => .fail
  | k + 1, acc => .peek fun c => if c = 34 then .adv (.done acc) else if plainI c = false then .fail else if c = 92 then
      .adv (.peek fun d => if d = 34 ∨ d = 92 then .adv (unqP k (acc ++ [d])) else if d = 120 then
        .adv (.peek fun h => if hexV h < 0 ∨ (2 ≤ hexV h ∧ hexV h ≤ 6) then .fail else .adv (.peek fun o => if hexV o < 0 ∨ plainI (16 * hexV h + hexV o) = true then .fail else .adv (unqP k (acc ++ [16 * hexV h + hexV o])))) else .fail)
      else .adv (unqP k (acc ++ [c]))
theorem unq_run (rest : List UInt8) : ∀ (l : List UInt8) (k : Nat) (acc : List Int), l.length < k → (unqP k acc).run (l.flatMap escB ++ (34 :: rest)) = (some (acc ++ l.map fun c => (c.toNat : Int)), rest)
  | [], 0, acc, h => by simp at h
  | [], k + 1, acc, h => by
    unfold unqP
    rw [show ([] : List UInt8).flatMap escB ++ 34 :: rest = 34 :: rest from rfl, run_peek, if_pos (show ((34 : UInt8).toNat : Int) = 34 from rfl), run_adv]
    simp [Pr.run]
  | c :: l, 0, acc, h => by simp at h
  | c :: l, k + 1, acc, h => by
    have ih := unq_run rest l k (acc ++ [(c.toNat : Int)]) (by simpa using h)
    have hres : (acc ++ [(c.toNat : Int)]) ++ l.map (fun c => (c.toNat : Int)) = acc ++ (c :: l).map fun c => (c.toNat : Int) := by simp
    rw [hres] at ih
    have hc256 : c.toNat < 256 := c.toNat_lt
    have e92 : ((92 : UInt8).toNat : Int) = 92 := rfl
    unfold unqP
    rw [List.flatMap_cons]
    by_cases hq : c = 34 ∨ c = 92
    · have he : escB c = [92, c] := by unfold escB; rw [if_pos hq]
      rw [he, show ([92, c] ++ l.flatMap escB) ++ 34 :: rest = 92 :: c :: (l.flatMap escB ++ 34 :: rest) from rfl, run_peek, e92, if_neg (by omega), if_neg (by decide), if_pos rfl, run_adv, run_peek, if_pos (by rcases hq with rfl | rfl; exact .inl rfl; exact .inr rfl), run_adv]
      exact ih
    have n1 : (c.toNat : Int) ≠ 34 := toNat_ne (d := 34) fun h => hq (.inl h)
    have n2 : (c.toNat : Int) ≠ 92 := toNat_ne (d := 92) fun h => hq (.inr h)
    by_cases hp : plainB c = true
    · have he : escB c = [c] := by
        unfold escB
        rw [if_neg hq, if_pos hp]
      have hpl : plainI (c.toNat : Int) = true := by
        unfold plainB at hp
        unfold plainI
        simp only [Bool.and_eq_true, decide_eq_true_eq] at hp ⊢
        omega
      rw [he, show ([c] ++ l.flatMap escB) ++ 34 :: rest = c :: (l.flatMap escB ++ 34 :: rest) from rfl, run_peek, if_neg n1, if_neg (by rw [hpl]; decide), if_neg n2, run_adv]
      exact ih
    · have he : escB c = [92, 120, hexD (c.toNat / 16), hexD (c.toNat % 16)] := by
        unfold escB
        rw [if_neg hq, if_neg hp]
      have h1 := hexV_D (n := c.toNat / 16) (by omega)
      have h2 := hexV_D (n := c.toNat % 16) (by omega)
      have hnp : ¬ (32 ≤ c.toNat ∧ c.toNat ≤ 126) := by
        intro h
        apply hp
        unfold plainB
        simp [h]
      have hval : 16 * (((c.toNat / 16 : Nat) : Int)) + ((c.toNat % 16 : Nat) : Int) = (c.toNat : Int) := by omega
      have hpl : plainI (c.toNat : Int) = false := by
        unfold plainI
        rw [Bool.and_eq_false_iff, decide_eq_false_iff_not, decide_eq_false_iff_not]
        omega
      rw [he, show ([92, 120, hexD (c.toNat / 16), hexD (c.toNat % 16)] ++ l.flatMap escB) ++ 34 :: rest = 92 :: 120 :: hexD (c.toNat / 16) :: hexD (c.toNat % 16) :: (l.flatMap escB ++ 34 :: rest) from rfl, run_peek, e92, if_neg (by omega), if_neg (by decide), if_pos rfl, run_adv,
        run_peek, if_neg (by decide), if_pos (show ((120 : UInt8).toNat : Int) = 120 from rfl), run_adv, run_peek, h1, if_neg (by omega), run_adv, run_peek, h2, hval, hpl, if_neg (by rintro (h | h); omega; cases h), run_adv]
      exact ih
end Go.Proofs.YtijkipikefpopaaDoor
