/- The text of a valid language tells the language; GrammarPrints. -/
import Derived.Test.YtfhmljjkhjifeaaGreatDoorLo
import Derived.Test.YtfhmljjkhjifeaaGreatDoorUd
import Derived.Test.YtfhmljjkhjifeaaGreatDoorOpg
import Derived.Test.YtfhmljjkhjifeaaGreatDoorZE
import Derived.Lib.DecodeNEq
import Derived.Lib.ItoaNum
set_option linter.unusedVariables false
set_option linter.unusedSimpArgs false
namespace Go.Proofs.YtfhmljjkhjifeaaGreatDoor
open Go Go.RowKit

/-- the byte that is next; 0 at the end -/
def hd : List UInt8 → Int
  | [] => 0
  | c :: _ => (c.toNat : Int)
inductive Pr (α : Type) where
  | done (a : α)
  | fail
  | peek (k : Int → Pr α)
  | adv (p : Pr α)
def Pr.run {α : Type} : Pr α → List UInt8 → Option α × List UInt8
  | .done a, l => (some a, l)
  | .fail, l => (none, l)
  | .peek k, l => (k (hd l)).run l
  | .adv p, l => p.run l.tail
def Pr.bind {α β : Type} : Pr α → (α → Pr β) → Pr β
  | .done a, f => f a
  | .fail, _ => .fail
  | .peek k, f => .peek fun c => (k c).bind f
  | .adv p, f => .adv (p.bind f)
theorem run_bind {α β : Type} (f : α → Pr β) : ∀ (p : Pr α) (l : List UInt8), (p.bind f).run l = match p.run l with
    | (some a, m) => (f a).run m
    | (none, m) => (none, m)
  | .done a, l => rfl
  | .fail, l => rfl
  | .peek k, l => run_bind f (k (hd l)) l
  | .adv p, l => run_bind f p l.tail
/-- nothing is read past the end -/
def Pr.good {α : Type} : Bool → Pr α → Prop
  | _, .done _ => True
  | _, .fail => True
  | _, .peek k => (k 0).good false ∧ ∀ c, c ≠ 0 → (k c).good true
  | b, .adv p => b = true ∧ p.good false
/-- how many bytes are read -/
theorem run_len {α : Type} : ∀ (p : Pr α) (l : List UInt8), ∃ k, (p.run l).2 = l.drop k ∧ k ≤ l.length
  | .done a, l => ⟨0, rfl, Nat.zero_le _⟩
  | .fail, l => ⟨0, rfl, Nat.zero_le _⟩
  | .peek k, l => run_len (k (hd l)) l
  | .adv p, l => by
    obtain ⟨k, h1, h2⟩ := run_len p l.tail
    cases l with
    | nil => exact ⟨0, by rw [Pr.run, h1]; simp, Nat.zero_le _⟩
    | cons c l =>
      exact ⟨k + 1, by rw [Pr.run, h1]; simp, by simp at h2 ⊢; omega⟩
/-! the literals -/
def wordP : List Int → Pr Unit
  | [] => .done ()
  | x :: w => .peek fun c => if c = x then .adv (wordP w) else .fail
/-- the rest of a quoted text: at most k bytes more -/
def bodyP (least : Nat) : Nat → List Int → Pr (List Int)
  | 0, acc => .peek fun c => if c = 34 ∧ least ≤ acc.length then .adv (.done acc) else .fail
  | k + 1, acc => .peek fun c => if c = 34 ∧ least ≤ acc.length then .adv (.done acc) else if c = 34 ∨ c < 32 ∨ 126 < c then .fail else
      if c = 92 then .adv (.peek fun d => if d = 34 ∨ d = 92 then .adv (bodyP least k (acc ++ [d])) else .fail) else .adv (bodyP least k (acc ++ [c]))
def textP (least most : Nat) : Pr (List Int) := .peek fun c => if c = 34 then .adv (bodyP least most []) else .fail
/-- the digits behind the first -/
def digitsP : Nat → Int → Pr Int
  | 0, n => .done n
  | f + 1, n => if n ≤ 0 then .done n else .peek fun b => if 48 ≤ b ∧ b ≤ 57 ∧ n * 10 + (b - 48) ≤ 1000000 then .adv (digitsP f (n * 10 + (b - 48))) else .done n
def unsP (neg : Bool) : Pr Int := .peek fun b => if b < 48 ∨ 57 < b ∨ (neg = true ∧ b = 48) then .fail else .adv ((digitsP 7 (b - 48)).bind fun n => .done (if neg = true then -n else n))
def numP : Pr Int := .peek fun c => if c = 45 then .adv (unsP true) else unsP false
/-- elements and the closing byte: at most k more -/
def listP {α : Type} (e : Int) (least : Nat) (elem : List α → Pr α) : Nat → List α → Pr (List α)
  | 0, acc => .peek fun c => if c = e ∧ least ≤ acc.length then .adv (.done acc) else .fail
  | k + 1, acc => .peek fun c => if c = e ∧ least ≤ acc.length then .adv (.done acc) else
      (if acc.length = 0 then .done () else wordP [44, 32]).bind fun _ => (elem acc).bind fun v => listP e least elem k (acc ++ [v])
/-- the value of a hexadecimal digit, or -1 -/
def hexV (c : Int) : Int := if 48 ≤ c ∧ c ≤ 57 then c - 48 else if 97 ≤ c ∧ c ≤ 102 then c - 87 else -1
def bitsP : Pr Int := .peek fun a => if hexV a < 0 then .fail else .adv (.peek fun b => if hexV b < 0 then .fail else .adv (.done (hexV a * 16 + hexV b)))
def intE : Pr Va := numP.bind fun n => .done (Va.mk 2 n ⟨#[]⟩ [])
def textE : Pr Va := (textP 0 64).bind fun s => .done (Va.mk 3 0 (toBA s) [])
/-- a row beside the rows before it -/
def rowE (acc : List Va) : Pr Va := .peek fun c => if c = 123 then
    .adv ((listP 125 (match acc with | [] => 1 | r :: _ => r.items.length) (fun _ => textE) (match acc with | [] => 8 | r :: _ => r.items.length) []).bind fun l => .done (Va.mk 6 0 ⟨#[]⟩ l)) else .fail
def oneP : Pr Va := .peek fun c =>
  if c = 116 then (wordP [116, 114, 117, 101]).bind fun _ => .done (Va.mk 1 1 ⟨#[]⟩ [])
  else if c = 102 then (wordP [102, 97, 108, 115, 101]).bind fun _ => .done (Va.mk 1 0 ⟨#[]⟩ [])
  else if c = 34 then textE
  else if c = 114 then .adv ((textP 1 40).bind fun s => .done (Va.mk 8 0 (toBA s) []))
  else if c = 91 then .adv ((listP 93 0 (fun _ => intE) 16 []).bind fun l => .done (Va.mk 5 0 ⟨#[]⟩ l))
  else if c = 123 then .adv ((listP 125 0 (fun _ => textE) 16 []).bind fun l => .done (Va.mk 6 0 ⟨#[]⟩ l))
  else if c = 60 then .adv ((listP 62 0 rowE 8 []).bind fun l => .done (Va.mk 7 0 ⟨#[]⟩ l))
  else if c = 48 then .adv (.peek fun d => if d = 120 then .adv (bitsP.bind fun n => .done (Va.mk 4 n ⟨#[]⟩ [])) else .done (Va.mk 2 0 ⟨#[]⟩ []))
  else intE
/-! what is written -/
def decN (n : Nat) : List UInt8 := if h : n < 10 then [UInt8.ofNat (48 + n)] else decN (n / 10) ++ [UInt8.ofNat (48 + n % 10)]
def showI (n : Int) : List UInt8 := if n < 0 then 45 :: decN n.natAbs else decN n.natAbs
def hexD (n : Nat) : UInt8 := if n < 10 then UInt8.ofNat (48 + n) else UInt8.ofNat (87 + n)
def plainB (c : UInt8) : Bool := decide (32 ≤ c.toNat) && decide (c.toNat ≤ 126)
def escB (c : UInt8) : List UInt8 := if c = 34 ∨ c = 92 then [92, c] else if plainB c = true then [c] else [92, 120, hexD (c.toNat / 16), hexD (c.toNat % 16)]
def quoteB (l : List UInt8) : List UInt8 := 34 :: (l.flatMap escB ++ [34])
def joinB : List (List UInt8) → List UInt8
  | [] => []
  | [x] => x
  | x :: y :: l => x ++ (44 :: 32 :: joinB (y :: l))
mutual
def showV : Va → List UInt8
  | .mk t n s l => if t = 1 then (if n = 1 then [116, 114, 117, 101] else [102, 97, 108, 115, 101]) else if t = 2 then showI n else if t = 4 then [48, 120, hexD (n.toNat / 16), hexD (n.toNat % 16)]
    else if t = 3 then quoteB s.data.toList else if t = 8 then 114 :: quoteB s.data.toList
    else if t = 5 then 91 :: (joinB (showVs l) ++ [93]) else if t = 6 then 123 :: (joinB (showVs l) ++ [125]) else 60 :: (joinB (showVs l) ++ [62])
def showVs : List Va → List (List UInt8)
  | [] => []
  | v :: l => showV v :: showVs l
end
/-! numbers -/
def dig (c : UInt8) : Prop := 48 ≤ (c.toNat : Int) ∧ (c.toNat : Int) ≤ 57
def valD (n : Int) (ds : List UInt8) : Int := ds.foldl (fun a c => a * 10 + ((c.toNat : Int) - 48)) n
theorem ofNat_toNat {n : Nat} (h : n < 256) : (UInt8.ofNat n).toNat = n := by simp [UInt8.toNat_ofNat, Nat.mod_eq_of_lt h]
theorem decN_ok (n : Nat) : ∃ d ds, decN n = d :: ds ∧ (∀ c ∈ d :: ds, dig c) ∧ valD ((d.toNat : Int) - 48) ds = n ∧ (0 < n → 48 < d.toNat) ∧ ∀ k, 0 < k → n < 10 ^ k → ds.length < k := by
  induction n using Nat.strongRecOn with
  | ind n ih =>
    rw [decN]
    by_cases h : n < 10
    · rw [dif_pos h]
      have e : (UInt8.ofNat (48 + n)).toNat = 48 + n := ofNat_toNat (by omega)
      refine ⟨_, [], rfl, fun c hc => ?_, ?_, fun h0 => by rw [e]; omega, fun k hk _ => hk⟩
      · rcases List.mem_cons.1 hc with rfl | hc
        · unfold dig; rw [e]; omega
        · cases hc
      · show ((UInt8.ofNat (48 + n)).toNat : Int) - 48 = n
        rw [e]; omega
    · rw [dif_neg h]
      obtain ⟨d, ds, h1, h2, h3, h4, h5⟩ := ih (n / 10) (by omega)
      have e : (UInt8.ofNat (48 + n % 10)).toNat = 48 + n % 10 := ofNat_toNat (by omega)
      refine ⟨d, ds ++ [UInt8.ofNat (48 + n % 10)], by rw [h1]; rfl, fun c hc => ?_, ?_, fun h0 => h4 (by omega), fun k hk hlt => ?_⟩
      · rw [← List.cons_append] at hc
        rcases List.mem_append.1 hc with hc | hc
        · exact h2 c hc
        · rcases List.mem_cons.1 hc with rfl | hc
          · unfold dig; rw [e]; omega
          · cases hc
      · unfold valD at h3 ⊢
        rw [List.foldl_append, h3]
        show (((n / 10 : Nat) : Int)) * 10 + (((UInt8.ofNat (48 + n % 10)).toNat : Int) - 48) = n
        rw [e]; omega
      · obtain ⟨j, rfl⟩ : ∃ j, k = j + 1 := ⟨k - 1, by omega⟩
        have hj : 0 < j := by
          rcases Nat.eq_zero_or_pos j with rfl | hj
          · simp at hlt; omega
          · exact hj
        have := h5 j hj (by rw [Nat.pow_succ] at hlt; omega)
        rw [List.length_append, List.length_singleton]; omega
theorem run_peek {α : Type} (k : Int → Pr α) (c : UInt8) (l : List UInt8) : (Pr.peek k).run (c :: l) = (k (c.toNat : Int)).run (c :: l) := rfl
theorem run_adv {α : Type} (p : Pr α) (c : UInt8) (l : List UInt8) : (Pr.adv p).run (c :: l) = p.run l := rfl
/-- no digit and no x follows -/
def stop (l : List UInt8) : Prop := (hd l < 48 ∨ 57 < hd l) ∧ hd l ≠ 120
theorem valD_mono (ds : List UInt8) : ∀ (n : Int), 0 ≤ n → (∀ c ∈ ds, dig c) → n ≤ valD n ds := by
  induction ds with
  | nil => intro n _ _; exact Int.le_refl _
  | cons c ds ih =>
    intro n hn h
    have hc := h c (List.mem_cons_self ..)
    unfold dig at hc
    have := ih (n * 10 + ((c.toNat : Int) - 48)) (by omega) fun x hx => h x (List.mem_cons_of_mem _ hx)
    show n ≤ valD (n * 10 + ((c.toNat : Int) - 48)) ds
    omega
theorem digits_run (rest : List UInt8) (hs : stop rest) : ∀ (ds : List UInt8) (f : Nat) (n : Int), 0 < n → ds.length ≤ f → (∀ c ∈ ds, dig c) → valD n ds ≤ 1000000 → (digitsP f n).run (ds ++ rest) = (some (valD n ds), rest)
  | [], 0, n, _, _, _, _ => rfl
  | [], f + 1, n, h0, _, _, _ => by
    unfold digitsP
    rw [if_neg (by omega)]
    show Pr.run (if 48 ≤ hd rest ∧ hd rest ≤ 57 ∧ n * 10 + (hd rest - 48) ≤ 1000000 then _ else _) _ = _
    rw [if_neg (by have := hs.1; omega)]
    rfl
  | c :: ds, 0, n, _, h, _, _ => by simp at h
  | c :: ds, f + 1, n, h0, hf, hd', hv => by
    have hc := hd' c (List.mem_cons_self ..)
    unfold dig at hc
    have hm := valD_mono ds (n * 10 + ((c.toNat : Int) - 48)) (by omega) fun x hx => hd' x (List.mem_cons_of_mem _ hx)
    have hv' : valD (n * 10 + ((c.toNat : Int) - 48)) ds ≤ 1000000 := hv
    unfold digitsP
    rw [if_neg (by omega), List.cons_append, run_peek, if_pos (by omega), run_adv]
    exact digits_run rest hs ds f _ (by omega) (by simpa using hf) (fun x hx => hd' x (List.mem_cons_of_mem _ hx)) hv'
theorem uns_run {rest : List UInt8} (hs : stop rest) {n : Nat} (hn : n ≤ 1000000) (neg : Bool) (h0 : neg = true → 0 < n) : (unsP neg).run (decN n ++ rest) = (some (if neg = true then -(n : Int) else n), rest) := by
  obtain ⟨d, ds, h1, h2, h3, h4, h5⟩ := decN_ok n
  have hd := h2 d (List.mem_cons_self ..)
  unfold dig at hd
  rw [h1]
  unfold unsP
  rw [List.cons_append, run_peek, if_neg (by
    rintro (h | h | ⟨h, h'⟩)
    · omega
    · omega
    · have := h4 (h0 h); omega), run_adv, run_bind]
  have hlen := h5 7 (by decide) (by omega)
  by_cases hz : n = 0
  · subst hz
    have hd0 : (d.toNat : Int) - 48 ≤ 0 := by
      have := valD_mono ds ((d.toNat : Int) - 48) (by omega) fun x hx => h2 x (List.mem_cons_of_mem _ hx)
      omega
    have hds : ds = [] := by
      have := h5 1 (by decide) (by decide)
      exact List.eq_nil_of_length_eq_zero (by omega)
    subst hds
    unfold digitsP
    rw [if_pos hd0]
    have hd1 : (d.toNat : Int) - 48 = 0 := by omega
    rw [hd1]
    cases neg <;> rfl
  · have := h4 (by omega)
    rw [digits_run rest hs ds 7 _ (by omega) (by omega) (fun x hx => h2 x (List.mem_cons_of_mem _ hx)) (by rw [h3]; omega), h3]
    rfl
theorem hd_decN (n : Nat) (rest : List UInt8) : 48 ≤ hd (decN n ++ rest) ∧ hd (decN n ++ rest) ≤ 57 ∧ (0 < n → 48 < hd (decN n ++ rest)) := by
  obtain ⟨d, ds, h1, h2, h3, h4, h5⟩ := decN_ok n
  have hd := h2 d (List.mem_cons_self ..)
  unfold dig at hd
  rw [h1]
  show 48 ≤ (d.toNat : Int) ∧ (d.toNat : Int) ≤ 57 ∧ _
  exact ⟨hd.1, hd.2, fun h => by have := h4 h; show (48 : Int) < (d.toNat : Int); omega⟩
theorem num_run {rest : List UInt8} (hs : stop rest) {n : Int} (h1 : -1000000 ≤ n) (h2 : n ≤ 1000000) : numP.run (showI n ++ rest) = (some n, rest) := by
  unfold numP showI
  by_cases h : n < 0
  · rw [if_pos h]
    rw [List.cons_append, run_peek, if_pos (show ((45 : UInt8).toNat : Int) = 45 from rfl), run_adv, uns_run hs (by omega) true fun _ => by omega, if_pos rfl]
    congr 2
    omega
  · rw [if_neg h]
    have := hd_decN n.natAbs rest
    rw [show (Pr.peek fun c => if c = 45 then (unsP true).adv else unsP false).run (decN n.natAbs ++ rest) = (if hd (decN n.natAbs ++ rest) = 45 then (unsP true).adv else unsP false).run (decN n.natAbs ++ rest) from rfl, if_neg (by omega), uns_run hs (by omega) false fun h => by cases h]
    simp
    omega
/-! texts -/
theorem toNat_ne {c d : UInt8} (h : c ≠ d) : (c.toNat : Int) ≠ (d.toNat : Int) := fun e => h (UInt8.toNat_inj.1 (by omega))
theorem body_run (least : Nat) (rest : List UInt8) : ∀ (l : List UInt8) (k : Nat) (acc : List Int), l.length ≤ k → least ≤ acc.length + l.length → (∀ c ∈ l, plainB c = true) →
    (bodyP least k acc).run (l.flatMap escB ++ (34 :: rest)) = (some (acc ++ l.map fun c => (c.toNat : Int)), rest)
  | [], 0, acc, _, hl, _ => by
    unfold bodyP
    rw [show ([] : List UInt8).flatMap escB ++ 34 :: rest = 34 :: rest from rfl, run_peek, if_pos ⟨rfl, by simpa using hl⟩]
    simp [Pr.run]
  | [], k + 1, acc, _, hl, _ => by
    unfold bodyP
    rw [show ([] : List UInt8).flatMap escB ++ 34 :: rest = 34 :: rest from rfl, run_peek, if_pos ⟨rfl, by simpa using hl⟩]
    simp [Pr.run]
  | c :: l, 0, acc, h, _, _ => by simp at h
  | c :: l, k + 1, acc, h, hl, hp => by
    have hc := hp c (List.mem_cons_self ..)
    unfold plainB at hc
    simp only [Bool.and_eq_true, decide_eq_true_eq] at hc
    have ih := body_run least rest l k (acc ++ [(c.toNat : Int)]) (by simpa using h) (by simp at hl ⊢; omega) fun x hx => hp x (List.mem_cons_of_mem _ hx)
    have hres : (acc ++ [(c.toNat : Int)]) ++ l.map (fun c => (c.toNat : Int)) = acc ++ (c :: l).map fun c => (c.toNat : Int) := by simp
    rw [hres] at ih
    unfold bodyP
    rw [List.flatMap_cons]
    by_cases hq : c = 34 ∨ c = 92
    · have he : escB c = [92, c] := by unfold escB; rw [if_pos hq]
      rw [he]
      have e92 : ((92 : UInt8).toNat : Int) = 92 := rfl
      rw [show ([92, c] ++ l.flatMap escB) ++ 34 :: rest = 92 :: c :: (l.flatMap escB ++ 34 :: rest) from rfl, run_peek, e92, if_neg (by omega), if_neg (by omega), if_pos rfl, run_adv, run_peek, if_pos (by rcases hq with rfl | rfl; exact .inl rfl; exact .inr rfl), run_adv]
      exact ih
    · have he : escB c = [c] := by
        unfold escB
        rw [if_neg hq, if_pos (by unfold plainB; simp [hc])]
      rw [he]
      have n1 : (c.toNat : Int) ≠ 34 := toNat_ne (d := 34) fun h => hq (.inl h)
      have n2 : (c.toNat : Int) ≠ 92 := toNat_ne (d := 92) fun h => hq (.inr h)
      rw [show ([c] ++ l.flatMap escB) ++ 34 :: rest = c :: (l.flatMap escB ++ 34 :: rest) from rfl, run_peek, if_neg (fun h => n1 h.1), if_neg (by omega), if_neg n2, run_adv]
      exact ih
theorem text_run {least most : Nat} {l : List UInt8} (rest : List UInt8) (h1 : least ≤ l.length) (h2 : l.length ≤ most) (hp : ∀ c ∈ l, plainB c = true) : (textP least most).run (quoteB l ++ rest) = (some (l.map fun c => (c.toNat : Int)), rest) := by
  unfold textP quoteB
  rw [List.cons_append, run_peek, if_pos (show ((34 : UInt8).toNat : Int) = 34 from rfl), run_adv, List.append_assoc]
  have := body_run least rest l most [] h2 (by simpa using h1) hp
  simpa using this
theorem toBA_map (s : ByteArray) : toBA (s.data.toList.map fun c => (c.toNat : Int)) = s := by
  have key : ∀ (l : List UInt8) (r : ByteArray), (l.map fun c => (c.toNat : Int)).foldl (fun r n => r.push (UInt8.ofNat n.toNat)) r = ⟨r.data ++ l.toArray⟩ := by
    intro l
    induction l with
    | nil => intro r; simp
    | cons c l ih =>
      intro r
      rw [List.map_cons, List.foldl_cons, ih]
      simp [ByteArray.push]
  unfold toBA
  rw [key]
  cases s
  simp [ByteArray.empty, ByteArray.emptyWithCapacity]
  try rfl
/-! hexadecimal -/
theorem hexD_nat {n : Nat} (h : n < 16) : ((hexD n).toNat : Int) = if n < 10 then 48 + (n : Int) else 87 + n := by
  unfold hexD
  split
  · rw [ofNat_toNat (by omega)]; omega
  · rw [ofNat_toNat (by omega)]; omega
theorem hexV_D {n : Nat} (h : n < 16) : hexV ((hexD n).toNat : Int) = n := by
  rw [hexD_nat h]
  unfold hexV
  repeat' split
  all_goals omega
theorem bits_run {rest : List UInt8} {n : Int} (h0 : 0 ≤ n) (h1 : n ≤ 255) : bitsP.run (hexD (n.toNat / 16) :: hexD (n.toNat % 16) :: rest) = (some n, rest) := by
  unfold bitsP
  have e1 := hexV_D (n := n.toNat / 16) (by omega)
  have e2 := hexV_D (n := n.toNat % 16) (by omega)
  rw [run_peek, e1, if_neg (by omega), run_adv, run_peek, e2, if_neg (by omega), run_adv]
  show (some _, rest) = _
  congr 2
  omega
/-! lists -/
theorem word_run (rest : List UInt8) : ∀ w : List UInt8, (wordP (w.map fun c => (c.toNat : Int))).run (w ++ rest) = (some (), rest)
  | [] => rfl
  | c :: w => by
    rw [List.map_cons, wordP, List.cons_append, run_peek, if_pos rfl, run_adv]
    exact word_run rest w
/-- elements behind others: each behind a comma and a space -/
def sepsB {α : Type} (sh : α → List UInt8) (l : List α) : List UInt8 := l.flatMap fun v => 44 :: 32 :: sh v
theorem joinB_cons {α : Type} (sh : α → List UInt8) : ∀ (l : List α) (v : α), joinB ((v :: l).map sh) = sh v ++ sepsB sh l
  | [], v => by simp [joinB, sepsB]
  | w :: l, v => by
    have := joinB_cons sh l w
    rw [List.map_cons] at this
    rw [List.map_cons, List.map_cons, joinB, this]
    simp [sepsB]
section
variable {α : Type} {e : UInt8} {least : Nat} {elem : List α → Pr α} {sh : α → List UInt8} {vs : List α}
theorem list_end (rest : List UInt8) {acc : List α} (k : Nat) (hle : least ≤ acc.length) : (listP (e.toNat : Int) least elem k acc).run (e :: rest) = (some acc, rest) := by
  cases k with
  | zero => unfold listP; rw [run_peek, if_pos ⟨rfl, hle⟩]; rfl
  | succ k => unfold listP; rw [run_peek, if_pos ⟨rfl, hle⟩]; rfl
theorem stop_c {c : UInt8} (m : List UInt8) (h : ((c.toNat : Int) < 48 ∨ 57 < (c.toNat : Int)) ∧ (c.toNat : Int) ≠ 120) : stop (c :: m) := h
theorem stop_sep (m : List UInt8) : stop (44 :: m) := stop_c m (by decide)
theorem list_run1 (rest : List UInt8) (hel : ∀ acc v post m, acc ++ v :: post = vs → stop m → (elem acc).run (sh v ++ m) = (some v, m)) (hst : ∀ m, stop (e :: m)) (he : e ≠ 44) (hle : least ≤ vs.length) :
    ∀ (post acc : List α) (k : Nat), acc ++ post = vs → 0 < acc.length → post.length ≤ k → (listP (e.toNat : Int) least elem k acc).run (sepsB sh post ++ (e :: rest)) = (some vs, rest)
  | [], acc, k, ha, _, _ => by
    rw [List.append_nil] at ha
    subst ha
    exact list_end rest k hle
  | v :: post, acc, 0, _, _, h => by simp at h
  | v :: post, acc, k + 1, ha, h0, h => by
    have ih := list_run1 rest hel hst he hle post (acc ++ [v]) k (by rw [← ha]; simp) (by simp) (by simpa using h)
    have hm : stop (sepsB sh post ++ (e :: rest)) := by
      cases post with
      | nil => exact hst rest
      | cons w post => exact stop_sep _
    unfold listP
    rw [show sepsB sh (v :: post) ++ e :: rest = 44 :: (32 :: (sh v ++ (sepsB sh post ++ e :: rest))) by simp [sepsB], run_peek, if_neg (fun h => he (UInt8.toNat_inj.1 (by have := h.1; omega))), if_neg (by omega), run_bind,
      show (44 :: (32 :: (sh v ++ (sepsB sh post ++ e :: rest)))) = [44, 32] ++ (sh v ++ (sepsB sh post ++ e :: rest)) from rfl]
    have hw := word_run (sh v ++ (sepsB sh post ++ e :: rest)) [44, 32]
    rw [show wordP [44, 32] = wordP (([44, 32] : List UInt8).map fun c => (c.toNat : Int)) from rfl, hw]
    simp only
    rw [run_bind, hel acc v post _ ha hm]
    exact ih
theorem list_run (rest : List UInt8) (hel : ∀ acc v post m, acc ++ v :: post = vs → stop m → (elem acc).run (sh v ++ m) = (some v, m)) (hst : ∀ m, stop (e :: m)) (he : e ≠ 44) (hle : least ≤ vs.length)
    {k : Nat} (hk : vs.length ≤ k) (hne : ∀ v m, v ∈ vs → hd (sh v ++ m) ≠ (e.toNat : Int)) : (listP (e.toNat : Int) least elem k []).run (joinB (vs.map sh) ++ (e :: rest)) = (some vs, rest) := by
  cases vs with
  | nil => exact list_end rest k hle
  | cons v post =>
    obtain ⟨k, rfl⟩ : ∃ j, k = j + 1 := ⟨k - 1, by simp at hk; omega⟩
    have hm : stop (sepsB sh post ++ (e :: rest)) := by
      cases post with
      | nil => exact hst rest
      | cons w post => exact stop_sep _
    have h1 := list_run1 rest hel hst he hle post [v] k rfl (by simp) (by simpa using hk)
    have hne' := hne v (sepsB sh post ++ (e :: rest)) (List.mem_cons_self ..)
    rw [joinB_cons, List.append_assoc]
    unfold listP
    show Pr.run ((fun c => if c = (e.toNat : Int) ∧ least ≤ ([] : List α).length then .adv (.done []) else (if ([] : List α).length = 0 then .done () else wordP [44, 32]).bind fun _ => (elem []).bind fun v => listP (e.toNat : Int) least elem k ([] ++ [v])) (hd (sh v ++ (sepsB sh post ++ e :: rest)))) _ = _
    simp only
    rw [if_neg (fun h => hne' h.1), if_pos (show ([] : List α).length = 0 from rfl)]
    show Pr.run ((elem []).bind fun v => listP (e.toNat : Int) least elem k ([] ++ [v])) _ = _
    rw [run_bind, hel [] v post _ rfl hm]
    exact h1
end
/-! valid values -/
def textOk (least most : Nat) (s : ByteArray) : Prop := least ≤ s.size ∧ s.size ≤ most ∧ ∀ c ∈ s.data.toList, plainB c = true
def intOk (v : Va) : Prop := ∃ n, v = Va.mk 2 n ⟨#[]⟩ [] ∧ -1000000 ≤ n ∧ n ≤ 1000000
def txtOk (v : Va) : Prop := ∃ s, v = Va.mk 3 0 s [] ∧ textOk 0 64 s
def rowOk (lo hi : Nat) (v : Va) : Prop := ∃ l, v = Va.mk 6 0 ⟨#[]⟩ l ∧ lo ≤ l.length ∧ l.length ≤ hi ∧ ∀ x ∈ l, txtOk x
def valOk (v : Va) : Prop :=
  (v = Va.mk 1 0 ⟨#[]⟩ [] ∨ v = Va.mk 1 1 ⟨#[]⟩ []) ∨ intOk v ∨ (∃ n, v = Va.mk 4 n ⟨#[]⟩ [] ∧ 0 ≤ n ∧ n ≤ 255) ∨ txtOk v ∨ (∃ s, v = Va.mk 8 0 s [] ∧ textOk 1 40 s) ∨
  (∃ l, v = Va.mk 5 0 ⟨#[]⟩ l ∧ l.length ≤ 16 ∧ ∀ x ∈ l, intOk x) ∨ rowOk 0 16 v ∨
  (∃ l, v = Va.mk 7 0 ⟨#[]⟩ l ∧ l.length ≤ 8 ∧ ∃ m, 1 ≤ m ∧ m ≤ 8 ∧ ∀ x ∈ l, rowOk m m x)
theorem size_data (s : ByteArray) : s.data.toList.length = s.size := by cases s; rfl
theorem int_e {v : Va} (h : intOk v) {m : List UInt8} (hs : stop m) : intE.run (showV v ++ m) = (some v, m) := by
  obtain ⟨n, rfl, h1, h2⟩ := h
  have e : showV (Va.mk 2 n ⟨#[]⟩ []) = showI n := by simp [showV]
  unfold intE
  rw [e, run_bind, num_run hs h1 h2]
  rfl
theorem txt_e {v : Va} (h : txtOk v) (m : List UInt8) : textE.run (showV v ++ m) = (some v, m) := by
  obtain ⟨s, rfl, h1, h2, h3⟩ := h
  have e : showV (Va.mk 3 0 s []) = quoteB s.data.toList := by simp [showV]
  unfold textE
  rw [e, run_bind, text_run m (by rw [size_data]; exact h1) (by rw [size_data]; exact h2) h3]
  show (some (Va.mk 3 0 (toBA _) []), m) = _
  rw [toBA_map]
theorem showVs_map : ∀ l : List Va, showVs l = l.map showV
  | [] => rfl
  | v :: l => by rw [showVs, showVs_map l]; rfl
theorem hd_txt {v : Va} (h : txtOk v) (m : List UInt8) : hd (showV v ++ m) = 34 := by
  obtain ⟨s, rfl, _⟩ := h
  simp [showV, quoteB, hd]
theorem hd_int {v : Va} (h : intOk v) (m : List UInt8) : hd (showV v ++ m) = 45 ∨ 48 ≤ hd (showV v ++ m) ∧ hd (showV v ++ m) ≤ 57 := by
  obtain ⟨n, rfl, _⟩ := h
  have e : showV (Va.mk 2 n ⟨#[]⟩ []) = showI n := by simp [showV]
  rw [e]
  unfold showI
  split
  · exact .inl rfl
  · have := hd_decN n.natAbs m
    exact .inr ⟨this.1, this.2.1⟩
theorem row_list {l : List Va} {lo hi : Nat} (h1 : lo ≤ l.length) (h2 : l.length ≤ hi) (h3 : ∀ x ∈ l, txtOk x) (m : List UInt8) : (listP 125 lo (fun _ => textE) hi []).run (joinB (showVs l) ++ (125 :: m)) = (some l, m) := by
  rw [showVs_map]
  exact list_run (e := 125) m (fun acc v post m' ha _ => txt_e (h3 v (by rw [← ha]; simp)) m') (fun m' => stop_c m' (by decide)) (by decide) h1 h2 fun v m' hv => by rw [hd_txt (h3 v hv)]; decide
theorem showV_row (l : List Va) : showV (Va.mk 6 0 ⟨#[]⟩ l) = 123 :: (joinB (showVs l) ++ [125]) := by simp [showV]
theorem row_e {acc : List Va} {v : Va} {m : Nat} (h1 : 1 ≤ m) (h2 : m ≤ 8) (hv : rowOk m m v) (ha : ∀ r ∈ acc, rowOk m m r) (rest : List UInt8) : (rowE acc).run (showV v ++ rest) = (some v, rest) := by
  obtain ⟨l, rfl, l1, l2, l3⟩ := hv
  rw [showV_row]
  unfold rowE
  rw [List.cons_append, run_peek, if_pos (show ((123 : UInt8).toNat : Int) = 123 from rfl), run_adv, run_bind, List.append_assoc]
  cases acc with
  | nil =>
    have := row_list (lo := 1) (hi := 8) (by omega) (by omega) l3 rest
    simp only [List.singleton_append]
    rw [this]
    rfl
  | cons r acc =>
    obtain ⟨k, hk, k1, k2, _⟩ := ha r (List.mem_cons_self ..)
    have e : r.items.length = l.length := by rw [hk]; show k.length = _; omega
    have := row_list (lo := r.items.length) (hi := r.items.length) (by omega) (by omega) l3 rest
    simp only [List.singleton_append]
    rw [this]
    rfl
theorem one_run {v : Va} (h : valOk v) {m : List UInt8} (hs : stop m) : oneP.run (showV v ++ m) = (some v, m) := by
  have pk : ∀ (l : List UInt8), oneP.run l = ((fun c : Int => (if c = 116 then (wordP [116, 114, 117, 101]).bind fun _ => .done (Va.mk 1 1 ⟨#[]⟩ [])
  else if c = 102 then (wordP [102, 97, 108, 115, 101]).bind fun _ => .done (Va.mk 1 0 ⟨#[]⟩ [])
  else if c = 34 then textE
  else if c = 114 then .adv ((textP 1 40).bind fun s => .done (Va.mk 8 0 (toBA s) []))
  else if c = 91 then .adv ((listP 93 0 (fun _ => intE) 16 []).bind fun l => .done (Va.mk 5 0 ⟨#[]⟩ l))
  else if c = 123 then .adv ((listP 125 0 (fun _ => textE) 16 []).bind fun l => .done (Va.mk 6 0 ⟨#[]⟩ l))
  else if c = 60 then .adv ((listP 62 0 rowE 8 []).bind fun l => .done (Va.mk 7 0 ⟨#[]⟩ l))
  else if c = 48 then .adv (.peek fun d => if d = 120 then .adv (bitsP.bind fun n => .done (Va.mk 4 n ⟨#[]⟩ [])) else .done (Va.mk 2 0 ⟨#[]⟩ []))
  else intE : Pr Va)) (hd l)).run l := fun l => rfl
  rw [pk]
  dsimp only
  rcases h with (rfl | rfl) | h | ⟨n, rfl, h1, h2⟩ | h | ⟨s, rfl, h1, h2, h3⟩ | ⟨l, rfl, h1, h2⟩ | ⟨l, rfl, h1, h2, h3⟩ | ⟨l, rfl, h1, r, r1, r2, h2⟩
  · have e : showV (Va.mk 1 0 ⟨#[]⟩ []) = [102, 97, 108, 115, 101] := by simp [showV]
    rw [e, show hd ([102, 97, 108, 115, 101] ++ m) = 102 from rfl]
    simp only [show ¬ ((102 : Int) = 116) by decide, if_false, if_true]
    rw [run_bind, show wordP [102, 97, 108, 115, 101] = wordP (([102, 97, 108, 115, 101] : List UInt8).map fun c => (c.toNat : Int)) from rfl, word_run]
    rfl
  · have e : showV (Va.mk 1 1 ⟨#[]⟩ []) = [116, 114, 117, 101] := by simp [showV]
    rw [e, show hd ([116, 114, 117, 101] ++ m) = 116 from rfl]
    simp only [if_true]
    rw [run_bind, show wordP [116, 114, 117, 101] = wordP (([116, 114, 117, 101] : List UInt8).map fun c => (c.toNat : Int)) from rfl, word_run]
    rfl
  · have hh := hd_int h m
    have hi := int_e h hs
    rw [if_neg (by omega), if_neg (by omega), if_neg (by omega), if_neg (by omega), if_neg (by omega), if_neg (by omega), if_neg (by omega)]
    by_cases h48 : hd (showV v ++ m) = 48
    · rw [if_pos h48]
      obtain ⟨n, rfl, n1, n2⟩ := h
      have e : showV (Va.mk 2 n ⟨#[]⟩ []) = showI n := by simp [showV]
      rw [e] at h48 hi ⊢
      have hn : n = 0 := by
        unfold showI at h48
        split at h48
        · exact absurd (show (45 : Int) = 48 from h48) (by decide)
        · have := (hd_decN n.natAbs m).2.2
          omega
      subst hn
      have e0 : showI 0 = [48] := by unfold showI; rw [if_neg (by decide)]; show decN 0 = _; rw [decN]; rfl
      rw [e0]
      show Pr.run ((fun d : Int => if d = 120 then .adv (bitsP.bind fun n => .done (Va.mk 4 n ⟨#[]⟩ [])) else .done (Va.mk 2 0 ⟨#[]⟩ [])) (hd m)) m = _
      simp only
      rw [if_neg hs.2]
      rfl
    · rw [if_neg h48]
      exact hi
  · have e : showV (Va.mk 4 n ⟨#[]⟩ []) = [48, 120, hexD (n.toNat / 16), hexD (n.toNat % 16)] := by simp [showV]
    rw [e, show hd ([48, 120, hexD (n.toNat / 16), hexD (n.toNat % 16)] ++ m) = 48 from rfl]
    simp only [show ¬ ((48 : Int) = 116) by decide, show ¬ ((48 : Int) = 102) by decide, show ¬ ((48 : Int) = 34) by decide, show ¬ ((48 : Int) = 114) by decide, show ¬ ((48 : Int) = 91) by decide, show ¬ ((48 : Int) = 123) by decide, show ¬ ((48 : Int) = 60) by decide, if_false, if_true]
    rw [show [48, 120, hexD (n.toNat / 16), hexD (n.toNat % 16)] ++ m = 48 :: 120 :: hexD (n.toNat / 16) :: hexD (n.toNat % 16) :: m from rfl, run_adv, run_peek, if_pos (show ((120 : UInt8).toNat : Int) = 120 from rfl), run_adv, run_bind, bits_run h1 h2]
    rfl
  · rw [hd_txt h]
    simp only [show ¬ ((34 : Int) = 116) by decide, show ¬ ((34 : Int) = 102) by decide, if_false, if_true]
    exact txt_e h m
  · have e : showV (Va.mk 8 0 s []) = 114 :: quoteB s.data.toList := by simp [showV]
    rw [e, show hd (114 :: quoteB s.data.toList ++ m) = 114 from rfl]
    simp only [show ¬ ((114 : Int) = 116) by decide, show ¬ ((114 : Int) = 102) by decide, show ¬ ((114 : Int) = 34) by decide, if_false, if_true]
    rw [List.cons_append, run_adv, run_bind, text_run m (by rw [size_data]; exact h1) (by rw [size_data]; exact h2) h3]
    show (some (Va.mk 8 0 (toBA _) []), m) = _
    rw [toBA_map]
  · have e : showV (Va.mk 5 0 ⟨#[]⟩ l) = 91 :: (joinB (showVs l) ++ [93]) := by simp [showV]
    rw [e, show hd (91 :: (joinB (showVs l) ++ [93]) ++ m) = 91 from rfl]
    simp only [show ¬ ((91 : Int) = 116) by decide, show ¬ ((91 : Int) = 102) by decide, show ¬ ((91 : Int) = 34) by decide, show ¬ ((91 : Int) = 114) by decide, if_false, if_true]
    have := list_run (e := 93) (least := 0) (elem := fun _ => intE) (sh := showV) (vs := l) (k := 16) m (fun acc v post m' ha hm => int_e (h2 v (by rw [← ha]; simp)) hm) (fun m' => stop_c m' (by decide)) (by decide) (Nat.zero_le _) h1 fun v m' hv => by have := hd_int (h2 v hv) m'; show _ ≠ (93 : Int); omega
    rw [show ((93 : UInt8).toNat : Int) = 93 from rfl] at this
    rw [List.cons_append, run_adv, run_bind, List.append_assoc, showVs_map, List.singleton_append, this]
    rfl
  · rw [showV_row, show hd (123 :: (joinB (showVs l) ++ [125]) ++ m) = 123 from rfl]
    simp only [show ¬ ((123 : Int) = 116) by decide, show ¬ ((123 : Int) = 102) by decide, show ¬ ((123 : Int) = 34) by decide, show ¬ ((123 : Int) = 114) by decide, show ¬ ((123 : Int) = 91) by decide, if_false, if_true]
    rw [List.cons_append, run_adv, run_bind, List.append_assoc, List.singleton_append, row_list (Nat.zero_le _) h2 h3 m]
    rfl
  · have e : showV (Va.mk 7 0 ⟨#[]⟩ l) = 60 :: (joinB (showVs l) ++ [62]) := by simp [showV]
    rw [e, show hd (60 :: (joinB (showVs l) ++ [62]) ++ m) = 60 from rfl]
    simp only [show ¬ ((60 : Int) = 116) by decide, show ¬ ((60 : Int) = 102) by decide, show ¬ ((60 : Int) = 34) by decide, show ¬ ((60 : Int) = 114) by decide, show ¬ ((60 : Int) = 91) by decide, show ¬ ((60 : Int) = 123) by decide, if_false, if_true]
    have := list_run (e := 62) (least := 0) (elem := rowE) (sh := showV) (vs := l) (k := 8) m (fun acc v post m' ha hm => row_e r1 r2 (h2 v (by rw [← ha]; simp)) (fun x hx => h2 x (by rw [← ha]; simp [hx])) m') (fun m' => stop_c m' (by decide)) (by decide) (Nat.zero_le _) h1 fun v m' hv => by
      obtain ⟨k, rfl, _⟩ := h2 v hv
      rw [showV_row]
      show (123 : Int) ≠ 62
      decide
    rw [show ((62 : UInt8).toNat : Int) = 62 from rfl] at this
    rw [List.cons_append, run_adv, run_bind, List.append_assoc, showVs_map, List.singleton_append, this]
    rfl
/-! tuples -/
/-! texts of any bytes -/
def plainI (c : Int) : Bool := decide (32 ≤ c) && decide (c ≤ 126)
end Go.Proofs.YtfhmljjkhjifeaaGreatDoor
set_option linter.unusedVariables false
set_option linter.unusedSimpArgs false
set_option maxRecDepth 100000
namespace Go.Proofs.YtfhmljjkhjifeaaGreatDoor
open Go Go.RowKit

def atI (s : ByteArray) (i : Nat) : Int := hd (s.data.toList.drop i)
theorem at_lt {s : ByteArray} {i : Nat} (h : i < s.size) : byt s (i : Int) = some (atI s i) ∧ s.data.toList.drop i = (s.data.toList[i]'(by rw [← size_list]; exact h)) :: s.data.toList.drop (i + 1) ∧ atI s i = ((s.data.toList[i]'(by rw [← size_list]; exact h)).toNat : Int) := by
  have h' : i < s.data.toList.length := by rw [← size_list]; exact h
  have d := List.drop_eq_getElem_cons h'
  refine ⟨?_, d, ?_⟩
  · rw [byt_list, List.getElem?_eq_getElem h', atI, d]; rfl
  · rw [atI, d]; rfl
def wl (w : ByteArray) : List Int := w.data.toList.map fun c => (c.toNat : Int)
theorem ba_ext {a b : ByteArray} (h : a.data.toList = b.data.toList) : a = b := by
  cases a; cases b; congr 1; exact Array.toList_inj.1 h
theorem plain_eq (c : Int) : literal_plain c = some (plainI c) := by
  unfold literal_plain plainI
  cases decide (32 ≤ c) <;> cases decide (c ≤ 126) <;> rfl
theorem ext_list (s : ByteArray) (a b : Nat) : (s.extract a b).data.toList = (s.data.toList.take b).drop a := by
  simp [ByteArray.data_extract, Array.toList_extract, List.drop_take]
def iB (l : List UInt8) : List Int := l.map fun c => (c.toNat : Int)
def mkB (l : List UInt8) : ByteArray := ⟨l.toArray⟩
theorem mkB_data (l : List UInt8) : (mkB l).data.toList = l := by simp [mkB]
theorem mkB_size (l : List UInt8) : (mkB l).size = l.length := by rw [size_list, mkB_data]
theorem mkB_append (a b : List UInt8) : mkB a ++ mkB b = mkB (a ++ b) := by
  apply ba_ext
  rw [mkB_data]
  simp [ByteArray.data_append, mkB]
theorem toBA_iB (l : List UInt8) : toBA (iB l) = mkB l := by
  have := toBA_map (mkB l)
  rwa [mkB_data] at this
theorem iB_append (a b : List UInt8) : iB a ++ iB b = iB (a ++ b) := by simp [iB]
theorem iB_len (l : List UInt8) : (iB l).length = l.length := by simp [iB]
theorem ofBA_mkB (l : List UInt8) : ofBA (mkB l) = iB l := by unfold ofBA iB; rw [mkB_data]
theorem iB_one (c : UInt8) : ([(c.toNat : Int)] : List Int) = iB [c] := rfl
theorem wb_eq {acc : List UInt8} {c : UInt8} {n : Int} (hn : n = (c.toNat : Int)) (h : acc.length ≤ 4000000000) : strings_Builder_WriteByte_h (iB acc) n = some (iB (acc ++ [c])) := by
  subst hn
  have := app_eq (b := 1) (xs := iB acc) (ys := [(c.toNat : Int)]) (by rw [iB_len]; simp; omega)
  simp only [strings_Builder_WriteByte_h, strings_Builder_copyCheck_h, Option.bind_some, this]
  rw [iB_one, iB_append]
theorem ws_eq {acc l : List UInt8} {s : ByteArray} (hs : s = mkB l) (h : acc.length ≤ 4000000000) (hl : l.length ≤ 4000000000) : strings_Builder_WriteString_h (iB acc) s = some (iB (acc ++ l)) := by
  subst hs
  have : appS (iB acc) (mkB l) = some (iB (acc ++ l)) := by
    unfold appS
    rw [iB_len, mkB_size, if_pos (by omega), ofBA_mkB, iB_append]
  simp only [strings_Builder_WriteString_h, strings_Builder_copyCheck_h, Option.bind_some, this]
theorem hex_wr (c : UInt8) : byt (⟨#[48, 49, 50, 51, 52, 53, 54, 55, 56, 57, 97, 98, 99, 100, 101, 102]⟩ : ByteArray) (Int.fdiv (c.toNat : Int) (2 ^ (4 : Nat))) = some ((hexD (c.toNat / 16)).toNat : Int) ∧
    byt (⟨#[48, 49, 50, 51, 52, 53, 54, 55, 56, 57, 97, 98, 99, 100, 101, 102]⟩ : ByteArray) (iand .u8 (c.toNat : Int) 15) = some ((hexD (c.toNat % 16)).toNat : Int) ∧
    synthesisref02_hex (w64 (Int.tdiv (c.toNat : Int) 16)) = some (mkB [hexD (c.toNat / 16)]) ∧ synthesisref02_hex (Int.tmod (c.toNat : Int) 16) = some (mkB [hexD (c.toNat % 16)]) := by
  have key : ∀ n : Fin 256, byt (⟨#[48, 49, 50, 51, 52, 53, 54, 55, 56, 57, 97, 98, 99, 100, 101, 102]⟩ : ByteArray) (Int.fdiv ((n.val : Nat) : Int) (2 ^ (4 : Nat))) = some ((hexD (n.val / 16)).toNat : Int) ∧
    byt (⟨#[48, 49, 50, 51, 52, 53, 54, 55, 56, 57, 97, 98, 99, 100, 101, 102]⟩ : ByteArray) (iand .u8 ((n.val : Nat) : Int) 15) = some ((hexD (n.val % 16)).toNat : Int) := by decide
  have key2 : ∀ n : Fin 256, synthesisref02_hex (w64 (Int.tdiv ((n.val : Nat) : Int) 16)) = some (mkB [hexD (n.val / 16)]) ∧ synthesisref02_hex (Int.tmod ((n.val : Nat) : Int) 16) = some (mkB [hexD (n.val % 16)]) := by decide
  have hc := c.toNat_lt
  exact ⟨(key ⟨c.toNat, hc⟩).1, (key ⟨c.toNat, hc⟩).2, (key2 ⟨c.toNat, hc⟩).1, (key2 ⟨c.toNat, hc⟩).2⟩
theorem hexa_eq {acc : List UInt8} {c : UInt8} {n : Int} (hn : n = (c.toNat : Int)) (h : acc.length ≤ 3000000000) : literal_hexadecimal_h (iB acc) n = some (iB (acc ++ [hexD (c.toNat / 16), hexD (c.toNat % 16)])) := by
  subst hn
  have h1 := wb_eq (acc := acc) (c := hexD (c.toNat / 16)) rfl (by omega)
  have h2 := wb_eq (acc := acc ++ [hexD (c.toNat / 16)]) (c := hexD (c.toNat % 16)) rfl (by simp; omega)
  rw [List.append_assoc] at h2
  simp only [literal_hexadecimal_h, (hex_wr c).1, (hex_wr c).2.1, Option.bind_some, h1, h2]
  rfl
def hex4 (c : UInt8) : List UInt8 := [92, 120, hexD (c.toNat / 16), hexD (c.toNat % 16)]
theorem hex_loop (v : List UInt8) (hv : v.length ≤ 1000000) : ∀ (k m : Nat) (acc : List UInt8) (n : Nat), m + k = v.length → k < n → acc.length + 4 * k ≤ 2000000000 →
    loopN (literal_Quote_h_l1 (iB v)) n ((m : Int), iB acc) = some (iB (acc ++ (v.drop m).flatMap hex4)) := by
  intro k
  induction k with
  | zero =>
    intro m acc n hm hn hl
    obtain ⟨n, rfl⟩ : ∃ j, n = j + 1 := ⟨n - 1, by omega⟩
    rw [List.drop_eq_nil_of_le (by omega)]
    refine lp_out ?_
    have : decide ((m : Int) < ((iB v).length : Int)) = false := decide_eq_false (by rw [iB_len]; omega)
    simp only [literal_Quote_h_l1, this, cond_false]
    simp
  | succ k ih =>
    intro m acc n hm hn hl
    obtain ⟨n, rfl⟩ : ∃ j, n = j + 1 := ⟨n - 1, by omega⟩
    have hml : m < v.length := by omega
    rw [List.drop_eq_getElem_cons hml, List.flatMap_cons, ← List.append_assoc, ← ih (m + 1) (acc ++ hex4 v[m]) n (by omega) (by omega) (by simp [hex4]; omega)]
    refine lp_go ?_
    have d1 : decide ((m : Int) < ((iB v).length : Int)) = true := decide_eq_true (by rw [iB_len]; omega)
    have e1 : idx (iB v) (m : Int) = some (v[m].toNat : Int) := by rw [idx_nat]; simp [iB, hml]
    have h1 := ws_eq (acc := acc) (l := [92, 120]) (s := ⟨#[92, 120]⟩) rfl (by omega) (by decide)
    have h2 := hexa_eq (acc := acc ++ [92, 120]) (c := v[m]) rfl (by simp; omega)
    rw [List.append_assoc] at h2
    simp only [literal_Quote_h_l1, d1, cond_true, e1, Option.bind_some, h1, h2, w64s m (by omega)]
    rfl
theorem get_at {s : ByteArray} {j : Nat} (h : j < s.size) : (s.get! j).toNat = (s.data.toList[j]'(by rw [← size_list]; exact h)).toNat := by
  obtain ⟨a⟩ := s
  have h' : j < a.size := h
  show (a[j]!).toNat = _
  rw [getElem!_pos a j h']
  rfl
theorem decodeN_hi (n b0 b1 b2 b3 : Nat) (hn : 1 ≤ n) (h0 : 128 ≤ b0) : 128 ≤ (Lib.decodeN n b0 b1 b2 b3).1 ∧ 1 ≤ (Lib.decodeN n b0 b1 b2 b3).2 ∧ (Lib.decodeN n b0 b1 b2 b3).2 ≤ n ∧ (Lib.decodeN n b0 b1 b2 b3).2 ≤ 4 ∧ (2 ≤ (Lib.decodeN n b0 b1 b2 b3).2 → 128 ≤ b1) ∧ (3 ≤ (Lib.decodeN n b0 b1 b2 b3).2 → 128 ≤ b2) ∧ (4 ≤ (Lib.decodeN n b0 b1 b2 b3).2 → 128 ≤ b3) := by
  unfold Lib.decodeN
  repeat' split
  all_goals refine ⟨?_, ?_, ?_, ?_, ?_, ?_, ?_⟩
  all_goals (simp only; omega)
theorem first_ok : ∀ n : Fin 256, idx gt4 ((n.val : Nat) : Int) = some (Lib.firstT n.val : Int) ∧ w64 (iand .u8 (Lib.firstT n.val : Int) 7) = ((Lib.firstT n.val % 8 : Nat) : Int) ∧
    (Lib.firstT n.val < 240 → (idx gt5 (Int.fdiv (Lib.firstT n.val : Int) (2 ^ (4 : Nat)))).map (fun r => (r.f_lo, r.f_hi)) = some ((Lib.accLo (Lib.firstT n.val / 16) : Int), (Lib.accHi (Lib.firstT n.val / 16) : Int))) ∧ (Lib.firstT n.val < 240 ∨ Lib.firstT n.val = 240 ∨ Lib.firstT n.val = 241) ∧ (Lib.firstT n.val < 240 → 2 ≤ Lib.firstT n.val % 8 ∧ Lib.firstT n.val % 8 ≤ 4) := by decide
theorem slow_w (n b0 b1 b2 b3 sz lo hi : Nat) : (Lib.slowN n b0 b1 b2 b3 sz lo hi).2 = if n < sz then 1 else if b1 < lo ∨ hi < b1 then 1 else if sz ≤ 2 then 2 else if b2 < 128 ∨ 191 < b2 then 1 else if sz ≤ 3 then 3 else if b3 < 128 ∨ 191 < b3 then 1 else 4 := by
  unfold Lib.slowN
  repeat' split
  all_goals first | rfl | omega
theorem rune_eq {s : ByteArray} (hs : s.size ≤ 1000000) {i : Nat} (hi : i < s.size) : ∃ t r, cutS s (i : Int) (s.size : Int) = some t ∧ unicode_utf8_DecodeRuneInString_h t = some (r, ((Utf8.decode s i).2 : Int)) := by
  have hd : (s.extract i s.size).data.toList = s.data.toList.drop i := by
    rw [ext_list, List.take_of_length_le (by rw [← size_list]; exact Nat.le_refl _)]
  generalize ht : s.extract i s.size = t at hd
  have hsz : t.size = s.size - i := by rw [size_list, hd, List.length_drop, ← size_list]
  have hcut : cutS s (i : Int) (s.size : Int) = some t := by unfold cutS; rw [if_pos ⟨by omega, by omega, by omega⟩, ← ht]; rfl
  have hb : ∀ k : Nat, i + k < s.size → byt t (k : Int) = some ((s.get! (i + k)).toNat : Int) := fun k hk => by
    rw [byt_list, hd, List.getElem?_drop, List.getElem?_eq_getElem (by rw [← size_list]; exact hk), get_at hk]
    rfl
  have hlt : ∀ k : Nat, (s.get! k).toNat < 256 := fun k => UInt8.toNat_lt _
  rw [Lib.decode_at]
  have b0 := hb 0 (by omega)
  have hb1 := hb 1
  have hb2 := hb 2
  have hb3 := hb 3
  rw [Nat.add_zero] at b0
  have h0 := hlt i
  have h1 := hlt (i + 1)
  have h2 := hlt (i + 2)
  have h3 := hlt (i + 3)
  generalize (s.get! i).toNat = c0 at *
  generalize (s.get! (i + 1)).toNat = c1 at *
  generalize (s.get! (i + 2)).toNat = c2 at *
  generalize (s.get! (i + 3)).toNat = c3 at *
  refine ⟨t, ?_⟩
  have hne : (!(t.toList == (⟨#[]⟩ : ByteArray).toList)) = true := by
    rw [Bool.not_eq_true', beq_eq_false_iff_ne]
    intro h
    have := congrArg ByteArray.size (bytesList_inj h)
    rw [hsz, show (⟨#[]⟩ : ByteArray).size = 0 from rfl] at this
    omega
  have b0' : byt t 0 = some (c0 : Int) := b0
  by_cases ha : c0 < 128
  · have d1 : decide ((c0 : Int) < 128) = true := decide_eq_true (by omega)
    have : Lib.decodeN (s.size - i) c0 c1 c2 c3 = (c0, 1) := by unfold Lib.decodeN; rw [if_pos ha]
    rw [this]
    exact ⟨_, hcut, by simp only [unicode_utf8_DecodeRuneInString_h, hne, cond_true, b0', Option.bind_some, d1]; rfl⟩
  · have d1 : decide ((c0 : Int) < 128) = false := decide_eq_false (by omega)
    obtain ⟨f1, f2, f3, f4, f5⟩ := first_ok ⟨c0, h0⟩
    simp only at f1 f2 f3 f4 f5
    have d2 : decide ((t.size : Int) < 1) = false := decide_eq_false (by omega)
    have goal : ∀ r, (∃ a, unicode_utf8_decodeRuneInStringSlow_h t = some (a, (r : Int))) → ∃ a, cutS s (i : Int) (s.size : Int) = some t ∧ unicode_utf8_DecodeRuneInString_h t = some (a, (r : Int)) := fun r ⟨a, h⟩ =>
      ⟨a, hcut, by simp only [unicode_utf8_DecodeRuneInString_h, hne, cond_true, b0', Option.bind_some, d1, cond_false, h]⟩
    refine goal _ ?_
    rcases f4 with f4 | f4
    · have e := Lib.slow_eq (s.size - i) c0 c1 c2 c3 (by omega) h1 h2 h3 f4
      rw [← e, slow_w]
      have d3 : decide ((240 : Int) ≤ (Lib.firstT c0 : Int)) = false := decide_eq_false (by omega)
      obtain ⟨v4, g, g'⟩ := Option.map_eq_some_iff.1 (f3 f4)
      obtain ⟨glo, ghi⟩ := Prod.mk.inj g'
      obtain ⟨g1, g2⟩ := f5 f4
      generalize Lib.firstT c0 % 8 = sz at *
      generalize Lib.accLo (Lib.firstT c0 / 16) = lo at *
      generalize Lib.accHi (Lib.firstT c0 / 16) = hi' at *
      by_cases k1 : s.size - i < sz
      · rw [if_pos k1]
        have d4 : decide ((t.size : Int) < (sz : Int)) = true := decide_eq_true (by omega)
        exact ⟨65533, by simp only [unicode_utf8_decodeRuneInStringSlow_h, d2, cond_false, b0', Option.bind_some, f1, d3, g, glo, ghi, f2, d4, cond_true]; rfl⟩
      · rw [if_neg k1]
        have d4 : decide ((t.size : Int) < (sz : Int)) = false := decide_eq_false (by omega)
        have b1' : byt t 1 = some (c1 : Int) := hb1 (by omega)
        have c1b : (bif (decide ((c1 : Int) < (lo : Int))) then (some (true)) else (some ((decide ((hi' : Int) < (c1 : Int))))) : Option Bool) = some (decide (c1 < lo ∨ hi' < c1)) := by
          by_cases q : c1 < lo
          · rw [decide_eq_true (show (c1 : Int) < (lo : Int) by omega), decide_eq_true (show c1 < lo ∨ hi' < c1 from .inl q)]; rfl
          · rw [decide_eq_false (show ¬ (c1 : Int) < (lo : Int) by omega), cond_false]
            congr 1
            by_cases q' : hi' < c1
            · rw [decide_eq_true (show (hi' : Int) < (c1 : Int) by omega), decide_eq_true (show c1 < lo ∨ hi' < c1 from .inr q')]
            · rw [decide_eq_false (show ¬ (hi' : Int) < (c1 : Int) by omega), decide_eq_false (by omega)]
        by_cases k2 : c1 < lo ∨ hi' < c1
        · rw [if_pos k2]
          exact ⟨65533, by simp only [unicode_utf8_decodeRuneInStringSlow_h, d2, cond_false, b0', Option.bind_some, f1, d3, g, glo, ghi, f2, d4, b1', c1b, decide_eq_true k2, cond_true]; rfl⟩
        · rw [if_neg k2]
          by_cases k3 : sz ≤ 2
          · rw [if_pos k3]
            have d5 : decide ((sz : Int) ≤ 2) = true := decide_eq_true (by omega)
            exact ⟨_, by simp only [unicode_utf8_decodeRuneInStringSlow_h, d2, cond_false, b0', Option.bind_some, f1, d3, g, glo, ghi, f2, d4, b1', c1b, decide_eq_false k2, d5, cond_true]; rfl⟩
          · rw [if_neg k3]
            have d5 : decide ((sz : Int) ≤ 2) = false := decide_eq_false (by omega)
            have b2' : byt t 2 = some (c2 : Int) := hb2 (by omega)
            have c2b : ∀ c : Nat, (bif (decide ((c : Int) < 128)) then (some (true)) else (some ((decide (191 < (c : Int))))) : Option Bool) = some (decide (c < 128 ∨ 191 < c)) := fun c => by
              by_cases q : c < 128
              · rw [decide_eq_true (show (c : Int) < 128 by omega), decide_eq_true (show c < 128 ∨ 191 < c from .inl q)]; rfl
              · rw [decide_eq_false (show ¬ (c : Int) < 128 by omega), cond_false]
                congr 1
                by_cases q' : 191 < c
                · rw [decide_eq_true (show 191 < (c : Int) by omega), decide_eq_true (show c < 128 ∨ 191 < c from .inr q')]
                · rw [decide_eq_false (show ¬ 191 < (c : Int) by omega), decide_eq_false (by omega)]
            by_cases k4 : c2 < 128 ∨ 191 < c2
            · rw [if_pos k4]
              exact ⟨65533, by simp only [unicode_utf8_decodeRuneInStringSlow_h, d2, cond_false, b0', Option.bind_some, f1, d3, g, glo, ghi, f2, d4, b1', c1b, decide_eq_false k2, d5, b2', c2b, decide_eq_true k4, cond_true]; rfl⟩
            · rw [if_neg k4]
              by_cases k5 : sz ≤ 3
              · rw [if_pos k5]
                have d6 : decide ((sz : Int) ≤ 3) = true := decide_eq_true (by omega)
                exact ⟨_, by simp only [unicode_utf8_decodeRuneInStringSlow_h, d2, cond_false, b0', Option.bind_some, f1, d3, g, glo, ghi, f2, d4, b1', c1b, decide_eq_false k2, d5, b2', c2b, decide_eq_false k4, d6, cond_true]; rfl⟩
              · rw [if_neg k5]
                have d6 : decide ((sz : Int) ≤ 3) = false := decide_eq_false (by omega)
                have b3' : byt t 3 = some (c3 : Int) := hb3 (by omega)
                by_cases k6 : c3 < 128 ∨ 191 < c3
                · rw [if_pos k6]
                  exact ⟨65533, by simp only [unicode_utf8_decodeRuneInStringSlow_h, d2, cond_false, b0', Option.bind_some, f1, d3, g, glo, ghi, f2, d4, b1', c1b, decide_eq_false k2, d5, b2', c2b, decide_eq_false k4, d6, b3', decide_eq_true k6, cond_true]; rfl⟩
                · rw [if_neg k6]
                  exact ⟨_, by simp only [unicode_utf8_decodeRuneInStringSlow_h, d2, cond_false, b0', Option.bind_some, f1, d3, g, glo, ghi, f2, d4, b1', c1b, decide_eq_false k2, d5, b2', c2b, decide_eq_false k4, d6, b3', decide_eq_false k6]; rfl⟩
    · have : (Lib.decodeN (s.size - i) c0 c1 c2 c3).2 = 1 := by
        rcases f4 with f4 | f4
        · rw [Lib.ascii_eq _ _ _ _ _ f4]
        · rw [Lib.bad_eq _ _ _ _ _ h0 f4]
      rw [this]
      have d3 : decide ((240 : Int) ≤ (Lib.firstT c0 : Int)) = true := decide_eq_true (by omega)
      exact ⟨_, by simp only [unicode_utf8_decodeRuneInStringSlow_h, d2, cond_false, b0', Option.bind_some, f1, d3, cond_true]; rfl⟩
theorem cut_mk {s : ByteArray} {i w : Nat} (h : i + w ≤ s.size) : cutS s (i : Int) ((i + w : Nat) : Int) = some (mkB ((s.data.toList.drop i).take w)) := by
  unfold cutS
  rw [if_pos ⟨by omega, by omega, by omega⟩]
  congr 1
  apply ba_ext
  rw [mkB_data, show ((i : Int).toNat) = i from rfl, show (((i + w : Nat) : Int).toNat) = i + w from rfl, ext_list, List.drop_take]
  congr 1
  omega
theorem s2b_mk {l : List UInt8} (h : l.length ≤ 4000000000) : s2b (mkB l) = some (iB l) := by
  unfold s2b
  rw [mkB_size, if_pos (by omega), ofBA_mkB]
theorem dec_ok {s : ByteArray} {i : Nat} (hi : i < s.size) (c : UInt8) (hc : s.data.toList[i]? = some c) : (c.toNat < 128 ∧ Utf8.decode s i = (c.toNat, 1)) ∨
    (128 ≤ c.toNat ∧ 128 ≤ (Utf8.decode s i).1 ∧ 1 ≤ (Utf8.decode s i).2 ∧ i + (Utf8.decode s i).2 ≤ s.size ∧ ∀ x ∈ (s.data.toList.drop i).take (Utf8.decode s i).2, 128 ≤ x.toNat) := by
  have hg : ∀ k : Nat, i + k < s.size → ∀ x, s.data.toList[i + k]? = some x → (s.get! (i + k)).toNat = x.toNat := fun k hk x hx => by
    rw [get_at hk]
    rw [List.getElem?_eq_getElem (by rw [← size_list]; exact hk)] at hx
    rw [Option.some.inj hx]
  have h0 := hg 0 hi c hc
  rw [Nat.add_zero] at h0
  rw [Lib.decode_at, h0]
  by_cases h : c.toNat < 128
  · exact .inl ⟨h, by unfold Lib.decodeN; rw [if_pos h]⟩
  · obtain ⟨k1, k2, k3, k4, k5, k6, k7⟩ := decodeN_hi (s.size - i) c.toNat (s.get! (i + 1)).toNat (s.get! (i + 2)).toNat (s.get! (i + 3)).toNat (by omega) (by omega)
    refine .inr ⟨by omega, k1, k2, by omega, fun x hx => ?_⟩
    obtain ⟨k, hk⟩ := List.mem_iff_getElem?.1 hx
    rw [List.getElem?_take] at hk
    split at hk
    · rename_i hkw
      rw [List.getElem?_drop] at hk
      have hks : i + k < s.size := by omega
      have := hg k hks x hk
      rcases (by omega : k = 0 ∨ k = 1 ∨ k = 2 ∨ k = 3) with rfl | rfl | rfl | rfl
      · rw [Nat.add_zero, hc] at hk; cases hk; omega
      · rw [← this]; exact k5 (by omega)
      · rw [← this]; exact k6 (by omega)
      · rw [← this]; exact k7 (by omega)
    · cases hk
theorem esc_hex {c : UInt8} (h1 : c.toNat ≠ 34) (h2 : c.toNat ≠ 92) (h3 : ¬ (32 ≤ c.toNat ∧ c.toNat ≤ 126)) : escB c = hex4 c := by
  unfold escB hex4
  rw [if_neg (by rintro (rfl | rfl) <;> simp_all), if_neg (by unfold plainB; simpa using h3)]
theorem esc_plain {c : UInt8} (h1 : c.toNat ≠ 34) (h2 : c.toNat ≠ 92) (h3 : 32 ≤ c.toNat ∧ c.toNat ≤ 126) : escB c = [c] := by
  unfold escB
  rw [if_neg (by rintro (rfl | rfl) <;> simp_all), if_pos (by unfold plainB; simpa using h3)]
theorem esc_q {c : UInt8} (h : c.toNat = 34 ∨ c.toNat = 92) : escB c = [92, c] := by
  unfold escB
  rw [if_pos]
  rcases h with h | h
  · exact .inl (UInt8.toNat.inj h)
  · exact .inr (UInt8.toNat.inj h)
theorem flat_hex {l : List UInt8} (h : ∀ x ∈ l, escB x = hex4 x) : l.flatMap escB = l.flatMap hex4 := by
  induction l with
  | nil => rfl
  | cons x l ih => rw [List.flatMap_cons, List.flatMap_cons, h x (List.mem_cons_self ..), ih fun y hy => h y (List.mem_cons_of_mem _ hy)]
theorem wu8_nat (c : UInt8) : wu8 ((c.toNat : Nat) : Int) = (c.toNat : Int) := by
  have := c.toNat_lt
  simp [wu8, IntKind.wrap, IntKind.signed, IntKind.bits, IntKind.min, IntKind.max]
  omega
theorem quote_loop {s : ByteArray} (hs : s.size ≤ 100000) : ∀ (d i : Nat) (acc : List UInt8) (n : Nat), s.size - i = d → i ≤ s.size → d < n → acc.length + 4 * d ≤ 1000000000 →
    loopN (literal_Quote_h_l2 s) n (iB acc, i) = some (iB (acc ++ (s.data.toList.drop i).flatMap escB)) := by
  intro d
  induction d using Nat.strongRecOn with
  | ind d ih =>
    intro i acc n hd hi hn hl
    obtain ⟨n, rfl⟩ : ∃ m, n = m + 1 := ⟨n - 1, by omega⟩
    by_cases h : i < s.size
    · have hil : i < s.data.toList.length := by rw [← size_list]; exact h
      have hdr := List.drop_eq_getElem_cons hil
      have hget : s.data.toList[i]? = some s.data.toList[i] := List.getElem?_eq_getElem hil
      generalize s.data.toList[i] = c at hdr hget
      have d1 : decide (i < ByteArray.size s) = true := decide_eq_true h
      have hdec := dec_ok h c hget
      by_cases hq : c.toNat = 34 ∨ c.toNat = 92
      · obtain ⟨g1, g2⟩ : c.toNat < 128 ∧ Utf8.decode s i = (c.toNat, 1) := by
          rcases hdec with hdec | hdec
          · exact hdec
          · omega
        rw [hdr, List.flatMap_cons, esc_q hq, ← List.append_assoc, ← ih (d - 1) (by omega) (i + 1) (acc ++ [92, c]) n (by omega) (by omega) (by omega) (by simp; omega)]
        refine lp_go ?_
        have e1 : (bif (((c.toNat : Nat) : Int) == 34) then (some (true)) else (some (((c.toNat : Nat) : Int) == 92)) : Option Bool) = some true := by rcases hq with hq | hq <;> rw [hq] <;> rfl
        have w1 := wb_eq (acc := acc) (c := 92) (n := 92) rfl (by omega)
        have w2 := wb_eq (acc := acc ++ [92]) (c := c) rfl (by simp; omega)
        rw [List.append_assoc] at w2
        simp only [literal_Quote_h_l2, d1, cond_true, g2, e1, Option.bind_some, w1, wu8_nat, w2]
        rfl
      · have e1 : ∀ r : Nat, r ≠ 34 → r ≠ 92 → (bif (((r : Nat) : Int) == 34) then (some (true)) else (some (((r : Nat) : Int) == 92)) : Option Bool) = some false := fun r h1 h2 => by
          rw [show ((r : Int) == 34) = false by rw [beq_eq_false_iff_ne]; omega, show ((r : Int) == 92) = false by rw [beq_eq_false_iff_ne]; omega]; rfl
        by_cases hp : 32 ≤ c.toNat ∧ c.toNat ≤ 126
        · obtain ⟨g1, g2⟩ : c.toNat < 128 ∧ Utf8.decode s i = (c.toNat, 1) := by
            rcases hdec with hdec | hdec
            · exact hdec
            · omega
          have hpl : plainI (c.toNat : Int) = true := by unfold plainI; simp; omega
          rw [hdr, List.flatMap_cons, esc_plain (by omega) (by omega) hp, ← List.append_assoc, ← ih (d - 1) (by omega) (i + 1) (acc ++ [c]) n (by omega) (by omega) (by omega) (by simp; omega)]
          refine lp_go ?_
          have w2 := wb_eq (acc := acc) (c := c) rfl (by omega)
          simp only [literal_Quote_h_l2, d1, cond_true, g2, e1 c.toNat (by omega) (by omega), Option.bind_some, cond_false, plain_eq, hpl, wu8_nat, w2]
        · obtain ⟨t, r, ht1, ht2⟩ := rune_eq (by omega) h
          -- what is escaped
          obtain ⟨q1, q2, q3, q4, q5⟩ : (Utf8.decode s i).1 ≠ 34 ∧ (Utf8.decode s i).1 ≠ 92 ∧ plainI ((Utf8.decode s i).1 : Int) = false ∧ (1 ≤ (Utf8.decode s i).2 ∧ i + (Utf8.decode s i).2 ≤ s.size) ∧ ∀ x ∈ (s.data.toList.drop i).take (Utf8.decode s i).2, escB x = hex4 x := by
            rcases hdec with ⟨g1, g2⟩ | ⟨g1, g2, g3, g4, g5⟩
            · rw [g2]
              refine ⟨by omega, by omega, by unfold plainI; simp; omega, ⟨by omega, by show i + 1 ≤ _; omega⟩, fun x hx => ?_⟩
              rw [hdr] at hx
              simp at hx
              rw [hx]
              exact esc_hex (by omega) (by omega) hp
            · exact ⟨by omega, by omega, by unfold plainI; simp; omega, ⟨g3, g4⟩, fun x hx => esc_hex (by have := g5 x hx; omega) (by have := g5 x hx; omega) (by have := g5 x hx; omega)⟩
          obtain ⟨r', w, hrw⟩ : ∃ r' w, Utf8.decode s i = (r', w) := ⟨_, _, rfl⟩
          rw [hrw] at q1 q2 q3 q4 q5 ht2
          simp only at q1 q2 q3 q4 q5 ht2
          have hsplit : s.data.toList.drop i = (s.data.toList.drop i).take w ++ s.data.toList.drop (i + w) := by
            rw [← List.drop_drop, List.take_append_drop]
          have hlen : ((s.data.toList.drop i).take w).length = w := by rw [List.length_take, List.length_drop, ← size_list]; omega
          have hflat : (((s.data.toList.drop i).take w).flatMap hex4).length ≤ 4 * w := by
            have gen : ∀ l : List UInt8, (l.flatMap hex4).length = 4 * l.length := fun l => by
              induction l with
              | nil => rfl
              | cons x l ih => rw [List.flatMap_cons, List.length_append, ih, List.length_cons]; simp [hex4]; omega
            rw [gen, hlen]
            exact Nat.le_refl _
          rw [hsplit, List.flatMap_append, flat_hex q5, ← List.append_assoc, ← ih (d - w) (by omega) (i + w) (acc ++ ((s.data.toList.drop i).take w).flatMap hex4) n (by omega) (by omega) (by omega) (by simp only [List.length_append]; omega)]
          refine lp_go ?_
          have ew : w64 ((i : Int) + (w : Int)) = ((i + w : Nat) : Int) := by rw [← w64n (i + w) (by omega)]; congr 1
          have hx := hex_loop ((s.data.toList.drop i).take w) (by omega) w 0 acc fuel (by omega) (lt_fuel (by omega)) (by omega)
          rw [List.drop_zero] at hx
          simp only [literal_Quote_h_l2, d1, cond_true, hrw, e1 r' q1 q2, Option.bind_some, cond_false, plain_eq, q3, ht1, ht2, ew, cut_mk q4.2, s2b_mk (l := (s.data.toList.drop i).take w) (by omega)]
          rw [show (0 : Int) = ((0 : Nat) : Int) from rfl, hx]
          rfl
    · rw [List.drop_eq_nil_of_le (by rw [← size_list]; omega)]
      refine lp_out ?_
      have d1 : decide (i < ByteArray.size s) = false := decide_eq_false h
      simp only [literal_Quote_h_l2, d1, cond_false]
      simp
theorem esc_len (c : UInt8) : (escB c).length ≤ 4 := by unfold escB; split <;> (try split) <;> simp
theorem flat_len (l : List UInt8) : (l.flatMap escB).length ≤ 4 * l.length := by
  induction l with
  | nil => exact Nat.le_refl _
  | cons x l ih => rw [List.flatMap_cons, List.length_append, List.length_cons]; have := esc_len x; omega
theorem Quote_eq {s : ByteArray} (hs : s.size ≤ 100000) : literal_Quote_h s = some (mkB (quoteB s.data.toList)) := by
  have h1 := wb_eq (acc := []) (c := 34) (n := 34) rfl (by simp)
  have h2 := quote_loop hs (s.size - 0) 0 [34] fuel rfl (by omega) (lt_fuel (by omega)) (by simp; omega)
  have hl := flat_len s.data.toList
  rw [← size_list] at hl
  rw [List.drop_zero] at h2
  have h3 := wb_eq (acc := [34] ++ s.data.toList.flatMap escB) (c := 34) (n := 34) rfl (by simp only [List.length_append, List.length_singleton]; omega)
  have h1' : strings_Builder_WriteByte_h [] 34 = some (iB [34]) := h1
  simp only [literal_Quote_h, h1', Option.bind_some, h2, h3, strings_Builder_String_h, toBA_iB]
  unfold quoteB
  simp
theorem cat_mk {a b : List UInt8} (h : a.length + b.length ≤ 4000000000) : cat (mkB a) (mkB b) = some (mkB (a ++ b)) := by
  rw [cat_eq (by rw [mkB_size, mkB_size]; omega), mkB_append]
theorem rquote_loop {s : ByteArray} (hs : s.size ≤ 100000) : ∀ (d i : Nat) (acc : List UInt8) (n : Nat), i + d = s.size → d < n → acc.length + 4 * d ≤ 1000000000 →
    loopN (synthesisref02_Quote_l1 s) n (mkB acc, (i : Int)) = some (mkB (acc ++ (s.data.toList.drop i).flatMap escB)) := by
  intro d
  induction d with
  | zero =>
    intro i acc n hd hn hl
    obtain ⟨n, rfl⟩ : ∃ m, n = m + 1 := ⟨n - 1, by omega⟩
    rw [List.drop_eq_nil_of_le (by rw [← size_list]; omega)]
    refine lp_out ?_
    have d1 : decide ((i : Int) < (s.size : Int)) = false := decide_eq_false (by omega)
    simp only [synthesisref02_Quote_l1, d1, cond_false]
    simp
  | succ d ih =>
    intro i acc n hd hn hl
    obtain ⟨n, rfl⟩ : ∃ m, n = m + 1 := ⟨n - 1, by omega⟩
    have h : i < s.size := by omega
    obtain ⟨b1, b2, b3⟩ := at_lt h
    generalize s.data.toList[i]'(by rw [← size_list]; exact h) = c at b2 b3
    have hcut : cutS s (i : Int) ((i + 1 : Nat) : Int) = some (mkB [c]) := by rw [cut_mk (by omega), b2]; rfl
    have hw : w64 (c.toNat : Int) = (c.toNat : Int) := by have := c.toNat_lt; exact w64_eq (by omega) (by omega)
    rw [b2, List.flatMap_cons, ← List.append_assoc, ← ih (i + 1) (acc ++ escB c) n (by omega) (by omega) (by have := esc_len c; simp only [List.length_append]; omega)]
    refine lp_go ?_
    by_cases hq : c.toNat = 34 ∨ c.toNat = 92
    · have e1 : (bif ((c.toNat : Int) == 34) then (some (true)) else (some ((c.toNat : Int) == 92)) : Option Bool) = some true := by rcases hq with hq | hq <;> rw [hq] <;> rfl
      have c1 : cat (mkB acc) (⟨#[92]⟩ : ByteArray) = some (mkB (acc ++ [92])) := cat_mk (b := [92]) (by simp; omega)
      have c2 := cat_mk (a := acc ++ [92]) (b := [c]) (by simp; omega)
      rw [List.append_assoc] at c2
      simp only [synthesisref02_Quote_l1, lt_len h, cond_true, b1, b3, Option.bind_some, e1, c1, w64s i (by omega), hcut, c2, esc_q hq]
      rfl
    · have e1 : (bif ((c.toNat : Int) == 34) then (some (true)) else (some ((c.toNat : Int) == 92)) : Option Bool) = some false := by
        rw [show ((c.toNat : Int) == 34) = false by rw [beq_eq_false_iff_ne]; omega, show ((c.toNat : Int) == 92) = false by rw [beq_eq_false_iff_ne]; omega]; rfl
      by_cases hp : 32 ≤ c.toNat ∧ c.toNat ≤ 126
      · have e2 : (bif (decide ((c.toNat : Int) < 32)) then (some (true)) else (some ((decide (126 < (c.toNat : Int))))) : Option Bool) = some false := by
          rw [decide_eq_false (by omega), decide_eq_false (by omega)]; rfl
        simp only [synthesisref02_Quote_l1, lt_len h, cond_true, cond_false, b1, b3, hw, Option.bind_some, e1, e2, w64s i (by omega), hcut, cat_mk (a := acc) (b := [c]) (by simp; omega), esc_plain (show c.toNat ≠ 34 by omega) (by omega) hp]
      · have e2 : (bif (decide ((c.toNat : Int) < 32)) then (some (true)) else (some ((decide (126 < (c.toNat : Int))))) : Option Bool) = some true := by
          by_cases q : c.toNat < 32
          · rw [decide_eq_true (by omega)]; rfl
          · rw [decide_eq_false (by omega), decide_eq_true (by omega)]; rfl
        have c1 : cat (mkB acc) (⟨#[92, 120]⟩ : ByteArray) = some (mkB (acc ++ [92, 120])) := cat_mk (b := [92, 120]) (by simp; omega)
        have c2 := cat_mk (a := acc ++ [92, 120]) (b := [hexD (c.toNat / 16)]) (by simp; omega)
        have c3 := cat_mk (a := acc ++ [92, 120] ++ [hexD (c.toNat / 16)]) (b := [hexD (c.toNat % 16)]) (by simp; omega)
        simp only [synthesisref02_Quote_l1, lt_len h, cond_true, cond_false, b1, b3, hw, Option.bind_some, e1, e2, w64s i (by omega), c1, (hex_wr c).2.2.1, (hex_wr c).2.2.2, c2, c3, esc_hex (show c.toNat ≠ 34 by omega) (by omega) hp]
        simp [hex4]
theorem rQuote_eq {s : ByteArray} (hs : s.size ≤ 100000) : synthesisref02_Quote s = some (mkB (quoteB s.data.toList)) := by
  have h2 := rquote_loop hs s.size 0 [34] fuel (by omega) (lt_fuel (by omega)) (by simp; omega)
  have hl := flat_len s.data.toList
  rw [← size_list] at hl
  rw [List.drop_zero] at h2
  have h2' : loopN (synthesisref02_Quote_l1 s) fuel ((⟨#[34]⟩ : ByteArray), 0) = some (mkB ([34] ++ s.data.toList.flatMap escB)) := h2
  have h3 : cat (mkB ([34] ++ s.data.toList.flatMap escB)) (⟨#[34]⟩ : ByteArray) = some (mkB ([34] ++ s.data.toList.flatMap escB ++ [34])) := cat_mk (b := [34]) (by simp only [List.length_append, List.length_singleton]; omega)
  simp only [synthesisref02_Quote, h2', Option.bind_some, h3]
  unfold quoteB
  simp
theorem decDigits_eq (n : Nat) : Lib.decDigits n = decN n := by
  induction n using Nat.strongRecOn with
  | ind n ih =>
    rw [Lib.decDigits, decN]
    split
    · rfl
    · rw [ih (n / 10) (by omega)]
theorem itoaB_eq {n : Int} (h1 : -9223372036854775808 ≤ n) (h2 : n ≤ 9223372036854775807) : itoaB n 10 = some (mkB (showI n)) := by
  unfold itoaB
  rw [if_pos ⟨rfl, h1, h2⟩]
  congr 1
  unfold mkB Lib.itoa showI
  split
  · rw [decDigits_eq]
  · rw [decDigits_eq, show n.toNat = n.natAbs by omega]
theorem decN_len (n : Nat) (h : n < 100000000000) : (decN n).length ≤ 11 := by
  obtain ⟨d, ds, h1, _, _, _, h5⟩ := decN_ok n
  rw [h1, List.length_cons]
  have := h5 11 (by omega) (by simpa using h)
  omega
theorem digit_ok {m : Int} (h0 : 0 ≤ m) (h1 : m ≤ 9) : toBA [wu8 (w64 (48 + m))] = mkB [UInt8.ofNat (48 + m.toNat)] := by
  rcases (by omega : m = 0 ∨ m = 1 ∨ m = 2 ∨ m = 3 ∨ m = 4 ∨ m = 5 ∨ m = 6 ∨ m = 7 ∨ m = 8 ∨ m = 9) with rfl | rfl | rfl | rfl | rfl | rfl | rfl | rfl | rfl | rfl <;> rfl
theorem dec_loop : ∀ (m : Nat) (tl : List UInt8) (n : Nat), m < 9223372036854775807 → m < n → tl.length + (decN m).length ≤ 1000000 →
    ∃ d : Nat, ∃ t : List UInt8, d ≤ 9 ∧ loopN synthesisref02_Decimal_l1 n ((m : Int), mkB tl) = some ((d : Int), mkB t) ∧ [UInt8.ofNat (48 + d)] ++ t = decN m ++ tl := by
  intro m
  induction m using Nat.strongRecOn with
  | ind m ih =>
    intro tl n hm hn hl
    obtain ⟨n, rfl⟩ : ∃ j, n = j + 1 := ⟨n - 1, by omega⟩
    by_cases h : m < 10
    · have d1 : decide ((10 : Int) ≤ (m : Int)) = false := decide_eq_false (by omega)
      refine ⟨m, tl, by omega, lp_out (by simp only [synthesisref02_Decimal_l1, d1, cond_false]), ?_⟩
      rw [decN, dif_pos h]
    · have d1 : decide ((10 : Int) ≤ (m : Int)) = true := decide_eq_true (by omega)
      have e0 : decN m = decN (m / 10) ++ [UInt8.ofNat (48 + m % 10)] := by rw [decN, dif_neg h]
      rw [e0] at hl ⊢
      simp only [List.length_append, List.length_singleton] at hl
      obtain ⟨d, t, h1, h2, h3⟩ := ih (m / 10) (by omega) (UInt8.ofNat (48 + m % 10) :: tl) n (by omega) (by omega) (by simp; omega)
      refine ⟨d, t, h1, ?_, by rw [h3]; simp⟩
      rw [← h2]
      refine lp_go ?_
      have e1 : Int.tmod (m : Int) 10 = ((m % 10 : Nat) : Int) := rfl
      have e2 : w64 (Int.tdiv (m : Int) 10) = ((m / 10 : Nat) : Int) := by
        rw [show Int.tdiv (m : Int) 10 = ((m / 10 : Nat) : Int) from rfl]
        exact w64_eq (by omega) (by omega)
      have e3 := digit_ok (m := ((m % 10 : Nat) : Int)) (by omega) (by omega)
      have e4 := cat_mk (a := [UInt8.ofNat (48 + m % 10)]) (b := tl) (by simp; omega)
      rw [show (((m % 10 : Nat) : Int)).toNat = m % 10 from rfl] at e3
      simp only [synthesisref02_Decimal_l1, d1, cond_true, e1, e2, e3, Option.bind_some, e4]
      rfl
theorem Decimal_pos (k : Nat) (m : Nat) (h : m < 100000000000) : synthesisref02_Decimal (k + 1) (m : Int) = some (mkB (decN m)) := by
  show synthesisref02_Decimal_b (synthesisref02_Decimal k) (m : Int) = _
  have d1 : decide ((m : Int) < 0) = false := decide_eq_false (by omega)
  have hl := decN_len m h
  obtain ⟨d, t, h1, h2, h3⟩ := dec_loop m [] fuel (by omega) (lt_fuel (by omega)) (by simp; omega)
  have h2' : loopN synthesisref02_Decimal_l1 fuel ((m : Int), (⟨#[]⟩ : ByteArray)) = some ((d : Int), mkB t) := h2
  rw [List.append_nil] at h3
  have e3 := digit_ok (m := (d : Int)) (by omega) (by omega)
  rw [show ((d : Int)).toNat = d from rfl] at e3
  have hl2 := congrArg List.length h3
  simp only [List.length_append, List.length_singleton] at hl2
  simp only [synthesisref02_Decimal_b, d1, cond_false, h2', Option.bind_some, e3, cat_mk (a := [UInt8.ofNat (48 + d)]) (b := t) (by simp; omega), h3]
theorem Decimal_eq {n : Int} (h1 : -1000000 ≤ n) (h2 : n ≤ 1000000) : synthesisref02_Decimal fuel n = some (mkB (showI n)) := by
  rw [fuel_succ]
  unfold showI
  by_cases h : n < 0
  · rw [if_pos h]
    show synthesisref02_Decimal_b (synthesisref02_Decimal 18446744073709551615) n = _
    have d1 : decide (n < 0) = true := decide_eq_true h
    have ew : w64 (0 - n) = (n.natAbs : Int) := by rw [show 0 - n = (n.natAbs : Int) by omega]; exact w64_eq (by omega) (by omega)
    have hp := Decimal_pos 18446744073709551614 n.natAbs (by omega)
    have hl := decN_len n.natAbs (by omega)
    have hc : cat (⟨#[45]⟩ : ByteArray) (mkB (decN n.natAbs)) = some (mkB ([45] ++ decN n.natAbs)) := cat_mk (a := [45]) (by simp; omega)
    simp only [synthesisref02_Decimal_b, d1, cond_true, ew, hp, Option.bind_some, hc]
    rfl
  · rw [if_neg h]
    have := Decimal_pos 18446744073709551615 n.natAbs (by omega)
    rwa [show ((n.natAbs : Nat) : Int) = n by omega] at this
theorem seps_cons (v : Va) (l : List Va) : sepsB showV (v :: l) = [44, 32] ++ showV v ++ sepsB showV l := by simp [sepsB]
theorem join_len {B : Nat} : ∀ (l : List Va), (∀ x ∈ l, (showV x).length ≤ B) → (sepsB showV l).length ≤ l.length * (B + 2)
  | [], _ => Nat.zero_le _
  | v :: l, h => by
    rw [seps_cons]
    have h1 := h v (List.mem_cons_self ..)
    have h2 := join_len l fun x hx => h x (List.mem_cons_of_mem _ hx)
    simp only [List.length_append, List.length_cons, List.length_nil]
    rw [Nat.add_mul, Nat.one_mul]
    omega
theorem joinB_len {B : Nat} (l : List Va) (h : ∀ x ∈ l, (showV x).length ≤ B) : (joinB (l.map showV)).length ≤ l.length * (B + 2) := by
  cases l with
  | nil => exact Nat.zero_le _
  | cons v l =>
    have := join_len (v :: l) h
    rw [seps_cons] at this
    rw [joinB_cons]
    simp only [List.length_append] at this ⊢
    omega
theorem writeAll_loop {l : List Va} {B C : Nat} (hC : C ≤ 3000000000) {r22 : List Int → List Va → Option (List Int)} (hl : l.length ≤ 1000) (hB : B ≤ 100000) (hb : ∀ x ∈ l, (showV x).length ≤ B)
    (H : ∀ x ∈ l, ∀ acc : List UInt8, acc.length ≤ C → literal_write_h2 r22 (iB acc) x = some (iB (acc ++ showV x))) :
    ∀ (k m : Nat) (acc : List UInt8) (n : Nat), m + k = l.length → k < n → acc.length + k * (B + 2) ≤ C →
    loopN (literal_writeAll_h_l1 l r22) n ((m : Int), iB acc) = some (iB (acc ++ if m = 0 then joinB (l.map showV) else sepsB showV (l.drop m))) := by
  intro k
  induction k with
  | zero =>
    intro m acc n hm hn ha
    obtain ⟨n, rfl⟩ : ∃ j, n = j + 1 := ⟨n - 1, by omega⟩
    have d1 : decide ((m : Int) < (l.length : Int)) = false := decide_eq_false (by omega)
    refine lp_out ?_
    simp only [literal_writeAll_h_l1, d1, cond_false]
    by_cases h : m = 0
    · rw [if_pos h, List.eq_nil_of_length_eq_zero (by omega : l.length = 0)]
      simp [joinB]
    · rw [if_neg h, List.drop_eq_nil_of_le (by omega)]
      simp [sepsB]
  | succ k ih =>
    intro m acc n hm hn ha
    obtain ⟨n, rfl⟩ : ∃ j, n = j + 1 := ⟨n - 1, by omega⟩
    have hml : m < l.length := by omega
    have e1 : idx l (m : Int) = some l[m] := by rw [idx_nat, List.getElem?_eq_getElem hml]
    have hx := List.getElem_mem hml
    have hB' := hb _ hx
    rw [Nat.add_mul, Nat.one_mul] at ha
    by_cases h : m = 0
    · subst h
      have d2 : decide ((0 : Int) < ((0 : Nat) : Int)) = false := rfl
      have w := H _ hx acc (by omega)
      have hc : l.map showV = (l[0] :: l.drop 1).map showV := by rw [List.getElem_cons_drop, List.drop_zero]
      rw [if_pos rfl, hc, joinB_cons, ← List.append_assoc]
      have := ih 1 (acc ++ showV l[0]) n (by omega) (by omega) (by simp only [List.length_append]; omega)
      rw [if_neg (by omega)] at this
      rw [← this]
      refine lp_go ?_
      simp only [literal_writeAll_h_l1, lt_len hml, cond_true, e1, Option.bind_some, d2, cond_false, w, w64s 0 (by omega)]
    · have d2 : decide ((0 : Int) < (m : Int)) = true := decide_eq_true (by omega)
      have w1 := ws_eq (acc := acc) (l := [44, 32]) (s := ⟨#[44, 32]⟩) rfl (by omega) (by decide)
      have w := H _ hx (acc ++ [44, 32]) (by simp only [List.length_append, List.length_cons, List.length_nil]; omega)
      rw [if_neg h, List.drop_eq_getElem_cons hml, seps_cons, ← List.append_assoc, ← List.append_assoc]
      have := ih (m + 1) (acc ++ [44, 32] ++ showV l[m]) n (by omega) (by omega) (by simp only [List.length_append, List.length_cons, List.length_nil]; omega)
      rw [if_neg (by omega)] at this
      rw [← this]
      refine lp_go ?_
      simp only [literal_writeAll_h_l1, lt_len hml, cond_true, e1, Option.bind_some, d2, w1, w, w64s m (by omega)]
theorem join_loop {l : List Va} {B : Nat} {r29 : Va → Option ByteArray} (hl : l.length ≤ 1000) (hB : B ≤ 100000) (hb : ∀ x ∈ l, (showV x).length ≤ B) (H : ∀ x ∈ l, r29 x = some (mkB (showV x))) :
    ∀ (k m : Nat) (acc : List UInt8) (n : Nat), m + k = l.length → k < n → acc.length + k * (B + 2) ≤ 1000000000 →
    loopN (synthesisref02_join_l1 l r29) n (mkB acc, (m : Int)) = some (mkB (acc ++ if m = 0 then joinB (l.map showV) else sepsB showV (l.drop m))) := by
  intro k
  induction k with
  | zero =>
    intro m acc n hm hn ha
    obtain ⟨n, rfl⟩ : ∃ j, n = j + 1 := ⟨n - 1, by omega⟩
    have d1 : decide ((m : Int) < (l.length : Int)) = false := decide_eq_false (by omega)
    refine lp_out ?_
    simp only [synthesisref02_join_l1, d1, cond_false]
    by_cases h : m = 0
    · rw [if_pos h, List.eq_nil_of_length_eq_zero (by omega : l.length = 0)]
      simp [joinB]
    · rw [if_neg h, List.drop_eq_nil_of_le (by omega)]
      simp [sepsB]
  | succ k ih =>
    intro m acc n hm hn ha
    obtain ⟨n, rfl⟩ : ∃ j, n = j + 1 := ⟨n - 1, by omega⟩
    have hml : m < l.length := by omega
    have e1 : idx l (m : Int) = some l[m] := by rw [idx_nat, List.getElem?_eq_getElem hml]
    have hx := List.getElem_mem hml
    have hB' := hb _ hx
    have w := H _ hx
    rw [Nat.add_mul, Nat.one_mul] at ha
    by_cases h : m = 0
    · subst h
      have d2 : decide ((0 : Int) < ((0 : Nat) : Int)) = false := rfl
      have hc : l.map showV = (l[0] :: l.drop 1).map showV := by rw [List.getElem_cons_drop, List.drop_zero]
      rw [if_pos rfl, hc, joinB_cons, ← List.append_assoc]
      have := ih 1 (acc ++ showV l[0]) n (by omega) (by omega) (by simp only [List.length_append]; omega)
      rw [if_neg (by omega)] at this
      rw [← this]
      refine lp_go ?_
      simp only [synthesisref02_join_l1, lt_len hml, cond_true, e1, Option.bind_some, d2, cond_false, w, cat_mk (a := acc) (b := showV l[0]) (by omega), w64s 0 (by omega)]
    · have d2 : decide ((0 : Int) < (m : Int)) = true := decide_eq_true (by omega)
      have c1 : cat (mkB acc) (⟨#[44, 32]⟩ : ByteArray) = some (mkB (acc ++ [44, 32])) := cat_mk (b := [44, 32]) (by simp; omega)
      have c2 := cat_mk (a := acc ++ [44, 32]) (b := showV l[m]) (by simp only [List.length_append, List.length_cons, List.length_nil]; omega)
      rw [if_neg h, List.drop_eq_getElem_cons hml, seps_cons, ← List.append_assoc, ← List.append_assoc]
      have := ih (m + 1) (acc ++ [44, 32] ++ showV l[m]) n (by omega) (by omega) (by simp only [List.length_append, List.length_cons, List.length_nil]; omega)
      rw [if_neg (by omega)] at this
      rw [← this]
      refine lp_go ?_
      simp only [synthesisref02_join_l1, lt_len hml, cond_true, e1, Option.bind_some, d2, c1, c2, w, w64s m (by omega)]
def okW (C B n m : Nat) (v : Va) : Prop := (∀ acc : List UInt8, acc.length ≤ C → literal_write_h2 (literal_writeAll_h n) (iB acc) v = some (iB (acc ++ showV v))) ∧ synthesisref02_text m v = some (mkB (showV v)) ∧ (showV v).length ≤ B
theorem okW_all {C B n m : Nat} (hC : C ≤ 3000000000) {l : List Va} (hl : l.length ≤ 1000) (hB : B ≤ 100000) (h : ∀ x ∈ l, okW C B n m x) (acc : List UInt8) (ha : acc.length + 110000000 ≤ C) :
    literal_writeAll_h (n + 1) (iB acc) l = some (iB (acc ++ joinB (l.map showV))) ∧ synthesisref02_join (m + 1) l = some (mkB (joinB (l.map showV))) := by
  have hk : l.length * (B + 2) ≤ 1000 * (100000 + 2) := Nat.mul_le_mul hl (by omega)
  have h1 := writeAll_loop hC (r22 := literal_writeAll_h n) hl hB (fun x hx => (h x hx).2.2) (fun x hx => (h x hx).1) l.length 0 acc fuel (by omega) (lt_fuel (by omega)) (by omega)
  have h2 := join_loop (r29 := synthesisref02_text m) hl hB (fun x hx => (h x hx).2.2) (fun x hx => (h x hx).2.1) l.length 0 [] fuel (by omega) (lt_fuel (by omega)) (by simp; omega)
  rw [if_pos rfl] at h1 h2
  constructor
  · show literal_writeAll_h_b (literal_writeAll_h n) (iB acc) l = _
    have h1' : loopN (literal_writeAll_h_l1 l (literal_writeAll_h n)) fuel (0, iB acc) = some (iB (acc ++ joinB (l.map showV))) := h1
    simp only [literal_writeAll_h_b, h1', Option.bind_some]
  · show synthesisref02_join_b (synthesisref02_text m) (synthesisref02_join m) l = _
    have h2' : loopN (synthesisref02_join_l1 l (synthesisref02_text m)) fuel ((⟨#[]⟩ : ByteArray), 0) = some (mkB (joinB (l.map showV))) := h2
    simp only [synthesisref02_join_b, h2', Option.bind_some]
theorem showI_len {n : Int} (h1 : -1000000 ≤ n) (h2 : n ≤ 1000000) : (showI n).length ≤ 12 := by
  have := decN_len n.natAbs (by omega)
  unfold showI
  split
  · simp only [List.length_cons]; omega
  · omega
theorem okW_int {v : Va} (h : intOk v) (n m : Nat) : okW 3000000000 300 n (m + 1) v := by
  obtain ⟨k, rfl, h1, h2⟩ := h
  have hs : showV (Va.mk 2 k ⟨#[]⟩ []) = showI k := by simp [showV]
  have hl := showI_len h1 h2
  refine ⟨fun acc ha => ?_, ?_, by rw [hs]; omega⟩
  · have w := ws_eq (acc := acc) (l := showI k) (s := mkB (showI k)) rfl (by omega) (by omega)
    simp only [literal_write_h2, show ((Va.mk 2 k ⟨#[]⟩ []).type == 1) = false from rfl, show ((Va.mk 2 k ⟨#[]⟩ []).type == 2) = true from rfl, cond_false, cond_true, strconv_FormatInt_h, show (Va.mk 2 k ⟨#[]⟩ []).num = k from rfl, itoaB_eq (show -9223372036854775808 ≤ k by omega) (by omega), Option.bind_some, w, Sum.elim_inr, Sum.elim_inl, hs]
  · rw [show ∀ v, synthesisref02_text (m + 1) v = synthesisref02_text_b (synthesisref02_text m) (synthesisref02_join m) v from fun _ => rfl]
    simp only [synthesisref02_text_b, show ((Va.mk 2 k ⟨#[]⟩ []).type == 1) = false from rfl, show ((Va.mk 2 k ⟨#[]⟩ []).type == 2) = true from rfl, cond_false, cond_true, show (Va.mk 2 k ⟨#[]⟩ []).num = k from rfl, Decimal_eq h1 h2, Option.bind_some, hs]
theorem quoteB_len (l : List UInt8) : (quoteB l).length ≤ 4 * l.length + 2 := by
  have := flat_len l
  unfold quoteB
  simp only [List.length_cons, List.length_append, List.length_nil]
  omega
theorem okW_txt {v : Va} (h : txtOk v) (n m : Nat) : okW 3000000000 300 n (m + 1) v := by
  obtain ⟨s, rfl, h1, h2, _⟩ := h
  have hs : showV (Va.mk 3 0 s []) = quoteB s.data.toList := by simp [showV]
  have hl := quoteB_len s.data.toList
  rw [← size_list] at hl
  refine ⟨fun acc ha => ?_, ?_, by rw [hs]; omega⟩
  · have w := ws_eq (acc := acc) (l := quoteB s.data.toList) (s := mkB (quoteB s.data.toList)) rfl (by omega) (by omega)
    simp only [literal_write_h2, show ((Va.mk 3 0 s []).type == 1) = false from rfl, show ((Va.mk 3 0 s []).type == 2) = false from rfl, show ((Va.mk 3 0 s []).type == 4) = false from rfl, show ((Va.mk 3 0 s []).type == 8) = false from rfl, show ((Va.mk 3 0 s []).type == 3) = true from rfl, cond_false, cond_true, show (Va.mk 3 0 s []).text = s from rfl, Quote_eq (show s.size ≤ 100000 by omega), Option.bind_some, w, Sum.elim_inr, Sum.elim_inl, hs]
  · rw [show ∀ v, synthesisref02_text (m + 1) v = synthesisref02_text_b (synthesisref02_text m) (synthesisref02_join m) v from fun _ => rfl]
    simp only [synthesisref02_text_b, show ((Va.mk 3 0 s []).type == 1) = false from rfl, show ((Va.mk 3 0 s []).type == 2) = false from rfl, show ((Va.mk 3 0 s []).type == 4) = false from rfl, show ((Va.mk 3 0 s []).type == 3) = true from rfl, cond_false, cond_true, show (Va.mk 3 0 s []).text = s from rfl, rQuote_eq (show s.size ≤ 100000 by omega), Option.bind_some, hs]
theorem okW_list {t : Int} {a b : UInt8} {l : List Va} {C B n m : Nat} (hC : 2000000000 ≤ C ∧ C ≤ 3000000000) (ht : (t = 5 ∧ a = 91 ∧ b = 93) ∨ (t = 6 ∧ a = 123 ∧ b = 125) ∨ (t = 7 ∧ a = 60 ∧ b = 62)) (hl : l.length ≤ 16) (hB : B ≤ 5000) (h : ∀ x ∈ l, okW C B n m x) : okW (C - 100000) (l.length * (B + 2) + 2) (n + 1) (m + 2) (Va.mk t 0 ⟨#[]⟩ l) ∧ showV (Va.mk t 0 ⟨#[]⟩ l) = a :: (joinB (l.map showV) ++ [b]) := by
  have hs : showV (Va.mk t 0 ⟨#[]⟩ l) = a :: (joinB (l.map showV) ++ [b]) := by rcases ht with ⟨rfl, rfl, rfl⟩ | ⟨rfl, rfl, rfl⟩ | ⟨rfl, rfl, rfl⟩ <;> simp [showV, showVs_map]
  have hj := joinB_len l fun x hx => (h x hx).2.2
  have hk : l.length * (B + 2) ≤ 16 * (5000 + 2) := Nat.mul_le_mul hl (by omega)
  refine ⟨⟨fun acc ha => ?_, ?_, by rw [hs]; simp only [List.length_cons, List.length_append, List.length_nil]; omega⟩, hs⟩
  · have w0 := fun c : UInt8 => ws_eq (acc := acc) (l := [c]) (s := ⟨#[c]⟩) rfl (by omega) (by simp)
    have w1 : literal_writeAll_h (n + 1) (iB (acc ++ [a])) l = some (iB (acc ++ [a] ++ joinB (l.map showV))) := by
      have h1 := writeAll_loop hC.2 (r22 := literal_writeAll_h n) (by omega) (show B ≤ 100000 by omega) (fun x hx => (h x hx).2.2) (fun x hx => (h x hx).1) l.length 0 (acc ++ [a]) fuel (by omega) (lt_fuel (by omega)) (by simp only [List.length_append, List.length_cons, List.length_nil]; omega)
      rw [if_pos rfl] at h1
      show literal_writeAll_h_b (literal_writeAll_h n) (iB (acc ++ [a])) l = _
      have h1' : loopN (literal_writeAll_h_l1 l (literal_writeAll_h n)) fuel (0, iB (acc ++ [a])) = _ := h1
      simp only [literal_writeAll_h_b, h1', Option.bind_some]
    have w2 := fun c : UInt8 => ws_eq (acc := acc ++ [a] ++ joinB (l.map showV)) (l := [c]) (s := ⟨#[c]⟩) rfl (by simp only [List.length_append, List.length_cons, List.length_nil]; omega) (by simp)
    rw [hs]
    rcases ht with ⟨rfl, rfl, rfl⟩ | ⟨rfl, rfl, rfl⟩ | ⟨rfl, rfl, rfl⟩
    all_goals
      simp only [literal_write_h2, show (Va.mk _ 0 (⟨#[]⟩ : ByteArray) l).items = l from rfl]
      show (Option.bind (strings_Builder_WriteString_h (iB acc) _) _ : Option (List Int)).bind _ = _
      rw [w0, Option.bind_some, w1, Option.bind_some, w2]
      simp
  · rw [show ∀ v, synthesisref02_text (m + 2) v = synthesisref02_text_b (synthesisref02_text (m + 1)) (synthesisref02_join (m + 1)) v from fun _ => rfl]
    have h2 := (okW_all hC.2 (by omega) (by omega) h [] (by simp; omega)).2
    rw [hs]
    have c1 := fun c : UInt8 => cat_mk (a := [c]) (b := joinB (l.map showV)) (by simp; omega)
    have c2 := fun c d : UInt8 => cat_mk (a := [c] ++ joinB (l.map showV)) (b := [d]) (by simp only [List.length_append, List.length_cons, List.length_nil]; omega)
    rcases ht with ⟨rfl, rfl, rfl⟩ | ⟨rfl, rfl, rfl⟩ | ⟨rfl, rfl, rfl⟩
    all_goals
      simp only [synthesisref02_text_b]
      show (Option.bind (synthesisref02_join (m + 1) l) _ : Option ByteArray) = _
      rw [h2, Option.bind_some]
      show (Option.bind (cat (mkB [_]) _) _ : Option ByteArray) = _
      rw [c1, Option.bind_some]
      show (Option.bind (cat _ (mkB [_])) _ : Option ByteArray) = _
      rw [c2]
      rfl
theorem okW_mono {C C' B B' n m : Nat} {v : Va} (hC : C' ≤ C) (hB : B ≤ B') (h : okW C B n m v) : okW C' B' n m v := ⟨fun acc ha => h.1 acc (by omega), h.2.1, by have := h.2.2; omega⟩
theorem text_def (m : Nat) (v : Va) : synthesisref02_text (m + 1) v = synthesisref02_text_b (synthesisref02_text m) (synthesisref02_join m) v := rfl
theorem okW_bool {k : Int} (h : k = 0 ∨ k = 1) (n m : Nat) : okW 3000000000 300 n (m + 1) (Va.mk 1 k ⟨#[]⟩ []) := by
  rcases h with rfl | rfl
  · refine ⟨fun acc ha => ?_, rfl, by decide⟩
    have w := ws_eq (acc := acc) (l := [102, 97, 108, 115, 101]) (s := ⟨#[102, 97, 108, 115, 101]⟩) rfl (by omega) (by decide)
    rw [show showV (Va.mk 1 0 ⟨#[]⟩ []) = [102, 97, 108, 115, 101] from rfl]
    simp only [literal_write_h2, show ((Va.mk 1 0 ⟨#[]⟩ []).type == 1) = true from rfl, cond_true, show ((Va.mk 1 0 ⟨#[]⟩ []).num == 1) = false from rfl, strconv_FormatBool, internal_strconv_FormatBool, cond_false, Option.bind_some, w, Sum.elim_inr, Sum.elim_inl]
  · refine ⟨fun acc ha => ?_, rfl, by decide⟩
    have w := ws_eq (acc := acc) (l := [116, 114, 117, 101]) (s := ⟨#[116, 114, 117, 101]⟩) rfl (by omega) (by decide)
    rw [show showV (Va.mk 1 1 ⟨#[]⟩ []) = [116, 114, 117, 101] from rfl]
    simp only [literal_write_h2, show ((Va.mk 1 1 ⟨#[]⟩ []).type == 1) = true from rfl, cond_true, show ((Va.mk 1 1 ⟨#[]⟩ []).num == 1) = true from rfl, strconv_FormatBool, internal_strconv_FormatBool, Option.bind_some, w, Sum.elim_inr, Sum.elim_inl]
theorem okW_bits {k : Int} (h0 : 0 ≤ k) (h1 : k ≤ 255) (n m : Nat) : okW 2900000000 300 n (m + 1) (Va.mk 4 k ⟨#[]⟩ []) := by
  obtain ⟨c, rfl⟩ : ∃ c : UInt8, k = (c.toNat : Int) := ⟨UInt8.ofNat k.toNat, by rw [ofNat_toNat (by omega)]; omega⟩
  have hs : showV (Va.mk 4 (c.toNat : Int) ⟨#[]⟩ []) = [48, 120, hexD (c.toNat / 16), hexD (c.toNat % 16)] := by simp [showV]
  refine ⟨fun acc ha => ?_, ?_, by rw [hs]; simp⟩
  · have w := ws_eq (acc := acc) (l := [48, 120]) (s := ⟨#[48, 120]⟩) rfl (by omega) (by decide)
    have w2 := hexa_eq (acc := acc ++ [48, 120]) (c := c) rfl (by simp; omega)
    rw [hs]
    simp only [literal_write_h2, show ((Va.mk 4 (c.toNat : Int) ⟨#[]⟩ []).type == 1) = false from rfl, show ((Va.mk 4 (c.toNat : Int) ⟨#[]⟩ []).type == 2) = false from rfl, show ((Va.mk 4 (c.toNat : Int) ⟨#[]⟩ []).type == 4) = true from rfl, cond_true, cond_false, show (Va.mk 4 (c.toNat : Int) ⟨#[]⟩ []).num = (c.toNat : Int) from rfl, wu8_nat, Option.bind_some, w, w2, Sum.elim_inr, Sum.elim_inl]
    simp
  · rw [text_def, hs]
    have c1 : cat (⟨#[48, 120]⟩ : ByteArray) (mkB [hexD (c.toNat / 16)]) = some (mkB ([48, 120] ++ [hexD (c.toNat / 16)])) := cat_mk (a := [48, 120]) (by simp)
    have c2 := cat_mk (a := [48, 120] ++ [hexD (c.toNat / 16)]) (b := [hexD (c.toNat % 16)]) (by simp)
    simp only [synthesisref02_text_b, show ((Va.mk 4 (c.toNat : Int) ⟨#[]⟩ []).type == 1) = false from rfl, show ((Va.mk 4 (c.toNat : Int) ⟨#[]⟩ []).type == 2) = false from rfl, show ((Va.mk 4 (c.toNat : Int) ⟨#[]⟩ []).type == 4) = true from rfl, cond_true, cond_false, show (Va.mk 4 (c.toNat : Int) ⟨#[]⟩ []).num = (c.toNat : Int) from rfl, (hex_wr c).2.2.1, (hex_wr c).2.2.2, Option.bind_some, c1, c2]
    rfl
theorem okW_regex {s : ByteArray} (h : s.size ≤ 40) (n m : Nat) : okW 2900000000 300 n (m + 1) (Va.mk 8 0 s []) := by
  have hs : showV (Va.mk 8 0 s []) = 114 :: quoteB s.data.toList := by simp [showV]
  have hl := quoteB_len s.data.toList
  rw [← size_list] at hl
  refine ⟨fun acc ha => ?_, ?_, by rw [hs]; simp only [List.length_cons]; omega⟩
  · have w := wb_eq (acc := acc) (c := 114) (n := 114) rfl (by omega)
    have w2 := ws_eq (acc := acc ++ [114]) (l := quoteB s.data.toList) (s := mkB (quoteB s.data.toList)) rfl (by simp; omega) (by omega)
    rw [hs]
    simp only [literal_write_h2, show ((Va.mk 8 0 s []).type == 1) = false from rfl, show ((Va.mk 8 0 s []).type == 2) = false from rfl, show ((Va.mk 8 0 s []).type == 4) = false from rfl, show ((Va.mk 8 0 s []).type == 8) = true from rfl, cond_true, cond_false, show (Va.mk 8 0 s []).text = s from rfl, Quote_eq (show s.size ≤ 100000 by omega), Option.bind_some, w, w2, Sum.elim_inr, Sum.elim_inl]
    simp
  · rw [text_def, hs]
    have c1 : cat (⟨#[114]⟩ : ByteArray) (mkB (quoteB s.data.toList)) = some (mkB ([114] ++ quoteB s.data.toList)) := cat_mk (a := [114]) (by simp; omega)
    simp only [synthesisref02_text_b, show ((Va.mk 8 0 s []).type == 1) = false from rfl, show ((Va.mk 8 0 s []).type == 2) = false from rfl, show ((Va.mk 8 0 s []).type == 4) = false from rfl, show ((Va.mk 8 0 s []).type == 3) = false from rfl, show ((Va.mk 8 0 s []).type == 8) = true from rfl, cond_true, cond_false, show (Va.mk 8 0 s []).text = s from rfl, rQuote_eq (show s.size ≤ 100000 by omega), Option.bind_some, c1]
    rfl
theorem okW_row {v : Va} {lo hi : Nat} (hhi : hi ≤ 16) (h : rowOk lo hi v) (n m : Nat) : okW 2999900000 5000 (n + 1) (m + 3) v := by
  obtain ⟨l, rfl, h1, h2, h3⟩ := h
  have := (okW_list (t := 6) (a := 123) (b := 125) (C := 3000000000) (n := n) (m := m + 1) (by omega) (.inr (.inl ⟨rfl, rfl, rfl⟩)) (by omega) (B := 300) (by omega) fun x hx => okW_txt (h3 x hx) n m).1
  have hk : l.length * (300 + 2) ≤ 16 * (300 + 2) := Nat.mul_le_mul_right _ (by omega)
  exact okW_mono (by omega) (by omega) this
theorem okW_val {v : Va} (h : valOk v) (n m : Nat) : okW 2500000000 60000 (n + 2) (m + 5) v := by
  rcases h with (rfl | rfl) | h | ⟨k, rfl, h0, h1⟩ | h | ⟨s, rfl, h⟩ | ⟨l, rfl, h1, h2⟩ | h | ⟨l, rfl, h1, k, h2, h3, h4⟩
  · exact okW_mono (by omega) (by omega) (okW_bool (.inl rfl) (n + 2) (m + 4))
  · exact okW_mono (by omega) (by omega) (okW_bool (.inr rfl) (n + 2) (m + 4))
  · exact okW_mono (by omega) (by omega) (okW_int h (n + 2) (m + 4))
  · exact okW_mono (by omega) (by omega) (okW_bits h0 h1 (n + 2) (m + 4))
  · exact okW_mono (by omega) (by omega) (okW_txt h (n + 2) (m + 4))
  · exact okW_mono (by omega) (by omega) (okW_regex h.2.1 (n + 2) (m + 4))
  · have := (okW_list (t := 5) (a := 91) (b := 93) (C := 3000000000) (n := n + 1) (m := m + 3) (by omega) (.inl ⟨rfl, rfl, rfl⟩) h1 (B := 300) (by omega) fun x hx => okW_int (h2 x hx) (n + 1) (m + 2)).1
    have hk : l.length * (300 + 2) ≤ 16 * (300 + 2) := Nat.mul_le_mul_right _ (by omega)
    exact okW_mono (by omega) (by omega) this
  · exact okW_mono (by omega) (by omega) (okW_row (by omega) h (n + 1) (m + 2))
  · have := (okW_list (t := 7) (a := 60) (b := 62) (C := 2999900000) (n := n + 1) (m := m + 3) (by omega) (.inr (.inr ⟨rfl, rfl, rfl⟩)) (by omega) (B := 5000) (by omega) fun x hx => okW_row (show k ≤ 16 by omega) (h4 x hx) n m).1
    have hk : l.length * (5000 + 2) ≤ 8 * (5000 + 2) := Nat.mul_le_mul_right _ (by omega)
    exact okW_mono (by omega) (by omega) this
theorem fuel9 : ∃ k, fuel = k + 9 := ⟨18446744073709551607, by unfold fuel; omega⟩
theorem written {l : List Va} (hl : l.length ≤ 1000) (h : ∀ x ∈ l, valOk x) : literal_writeAll_h fuel [] l = some (iB (joinB (l.map showV))) ∧ synthesisref02_join fuel l = some (mkB (joinB (l.map showV))) ∧ (joinB (l.map showV)).length ≤ l.length * 60002 := by
  obtain ⟨k, hk⟩ := fuel9
  rw [hk]
  generalize fuel = ff at hk
  have h1 := okW_all (C := 2500000000) (B := 60000) (n := k + 8) (m := k + 8) (by omega) hl (by omega) (fun x hx => okW_val (h x hx) (k + 6) (k + 3)) [] (by simp)
  exact ⟨h1.1, h1.2, joinB_len l fun x hx => (okW_val (h x hx) 0 0).2.2⟩
theorem ranged0 {m a b : Int} (h : value_ranged m a b = some 0) : a ≤ m ∧ m ≤ b := by
  unfold value_ranged at h
  by_cases h1 : m < a
  · rw [decide_eq_true h1] at h; simp at h
  · rw [decide_eq_false h1] at h
    by_cases h2 : b < m
    · rw [decide_eq_true h2] at h; simp at h
    · omega
theorem sized0 {s : ByteArray} {a b : Nat} (hs : s.size ≤ 9223372036854775807) (h : value_sized s (a : Int) (b : Int) = some 0) : textOk a b s := by
  unfold value_sized at h
  by_cases h1 : (s.size : Int) < (a : Int)
  · rw [decide_eq_true h1] at h; simp at h
  · rw [decide_eq_false h1] at h
    by_cases h2 : (b : Int) < (s.size : Int)
    · rw [decide_eq_true h2] at h; simp at h
    · rw [decide_eq_false h2, value_printed_eq s hs] at h
      cases hall : s.data.toList.all goodB with
      | false => rw [hall] at h; simp at h
      | true => exact ⟨by omega, by omega, fun c hc => List.all_eq_true.1 hall c hc⟩
theorem text_nil {s : ByteArray} (h : (s.toList == (⟨#[]⟩ : ByteArray).toList) = true) : s = ⟨#[]⟩ := bytesList_inj (by simpa using h)
theorem items_nil {l : List Va} (h : ((l.length : Int) == 0) = true) : l = [] := List.eq_nil_of_length_eq_zero (by have := eq_of_beq h; omega)
theorem type_int {v : Va} (h : valOk v) (ht : v.type = 2) : intOk v := by
  rcases h with (rfl | rfl) | h | ⟨k, rfl, h0, h1⟩ | ⟨s, rfl, h⟩ | ⟨s, rfl, h⟩ | ⟨l, rfl, h1, h2⟩ | ⟨l, rfl, h⟩ | ⟨l, rfl, h1, k, h2, h3, h4⟩
  all_goals first | exact h | (simp [Va.type] at ht)
theorem type_txt {v : Va} (h : valOk v) (ht : v.type = 3) : txtOk v := by
  rcases h with (rfl | rfl) | ⟨k, rfl, h0, h1⟩ | ⟨k, rfl, h0, h1⟩ | h | ⟨s, rfl, h⟩ | ⟨l, rfl, h1, h2⟩ | ⟨l, rfl, h⟩ | ⟨l, rfl, h1, k, h2, h3, h4⟩
  all_goals first | exact h | (simp [Va.type] at ht)
theorem type_row {v : Va} (h : valOk v) (ht : v.type = 6) : rowOk 0 16 v := by
  rcases h with (rfl | rfl) | ⟨k, rfl, h0, h1⟩ | ⟨k, rfl, h0, h1⟩ | ⟨s, rfl, h⟩ | ⟨s, rfl, h⟩ | ⟨l, rfl, h1, h2⟩ | h | ⟨l, rfl, h1, k, h2, h3, h4⟩
  all_goals first | exact h | (simp [Va.type] at ht)
theorem elements0 {n : Nat} {l : List Va} {t : Int} (wl : ∀ x ∈ l, inV x) (hlen : l.length ≤ 9223372036854775807) (hc : ∀ x ∈ l, x.type = t → ∃ c, value_Check n x = some c) (h : value_elements (n + 1) l t = some 0) : l.length ≤ 16 ∧ ∀ x ∈ l, x.type = t ∧ value_Check n x = some 0 := by
  have h : value_elements_b (value_Check n) (value_elements n) (value_rows n) l t = some 0 := h
  by_cases h16 : (16 : Int) < (l.length : Int)
  · simp only [value_elements_b, decide_eq_true h16, cond_true] at h; cases h
  · simp only [value_elements_b, decide_eq_false h16, cond_false] at h
    refine ⟨by omega, ?_⟩
    have hst : ∀ (i : Nat) (hi : i < l.length), (value_elements_l1 l t (value_Check n) (i : Int) = some (.inl ((i + 1 : Nat) : Int)) ∧ l[i].type = t ∧ value_Check n l[i] = some 0) ∨ ∃ c, c ≠ 0 ∧ value_elements_l1 l t (value_Check n) (i : Int) = some (.inr (.inr c)) := fun i hi => by
      have e1 : l[i]? = some l[i] := List.getElem?_eq_getElem hi
      have hw := w64_succ (n := i) (by omega)
      cases ht : (l[i].type != t) with
      | true => exact .inr ⟨3, by decide, by simp only [value_elements_l1, lt_len hi, idx_nat, e1, ht, cond_true, Option.bind_some]⟩
      | false =>
        have hty : l[i].type = t := by rwa [bne_eq_false_iff_eq] at ht
        obtain ⟨c, k1⟩ := hc _ (List.getElem_mem hi) hty
        cases hc' : (c != 0) with
        | true => exact .inr ⟨c, by simpa using hc', by simp only [value_elements_l1, lt_len hi, idx_nat, e1, ht, k1, hc', cond_true, cond_false, Option.bind_some]⟩
        | false => exact .inl ⟨by simp only [value_elements_l1, lt_len hi, idx_nat, e1, ht, k1, hc', hw, cond_true, cond_false, Option.bind_some], hty, by rw [k1]; rw [bne_eq_false_iff_eq] at hc'; rw [hc']⟩
    cases hr : loopN (value_elements_l1 l t (value_Check n)) fuel 0 with
    | none => rw [hr] at h; cases h
    | some r =>
      obtain ⟨r2, r3, f1, f2, f3⟩ := loop_two (step := value_elements_l1 l t (value_Check n)) (step' := value_elements_l1 l t (value_Check n)) l.length (by omega) (fun i => (i : Int)) (fun i => (i : Int)) (fun r r' => ∀ c, r = .inr c → c ≠ 0) (fun i hi => by
        rcases hst i hi with ⟨a1, _⟩ | ⟨c, h0, a1⟩
        · exact .inl ⟨a1, a1⟩
        · exact .inr ⟨_, _, a1, a1, fun c' h => by cases h; exact h0⟩) ⟨.inl (), .inl (), by simp [value_elements_l1], by simp [value_elements_l1], fun c h => by cases h⟩
      have f1' : loopN (value_elements_l1 l t (value_Check n)) fuel 0 = some r2 := by simpa using f1
      rw [hr] at f1'
      cases f1'
      rw [hr, Option.bind_some] at h
      cases r with
      | inr c => exact absurd (Option.some.inj h) (f3 c rfl)
      | inl u =>
        intro x hx
        obtain ⟨i, hi, rfl⟩ := List.mem_iff_getElem.1 hx
        have hall := loop_all (step := value_elements_l1 l t (value_Check n)) l.length (fun i => (i : Int)) (.inl u) (fun i hi => by
          rcases hst i hi with ⟨a1, _⟩ | ⟨c, _, a1⟩
          · exact .inl a1
          · exact .inr ⟨_, a1, fun h => by cases h⟩) fuel 0 hr i (Nat.zero_le _) hi
        rcases hst i hi with ⟨_, h⟩ | ⟨c, _, a1⟩
        · exact h
        · rw [a1] at hall; cases hall
theorem rows0 {n : Nat} {l : List Va} (wl : ∀ x ∈ l, inV x) (hlen : l.length ≤ 9223372036854775807) (hc : ∀ x ∈ l, x.type = 6 → ∃ c, value_Check n x = some c) (h : value_rows (n + 1) l = some 0) : l.length ≤ 8 ∧ ∃ k, 1 ≤ k ∧ k ≤ 8 ∧ ∀ x ∈ l, x.type = 6 ∧ x.items.length = k ∧ value_Check n x = some 0 := by
  have h : value_rows_b (value_Check n) (value_elements n) (value_rows n) l = some 0 := h
  by_cases h16 : (8 : Int) < (l.length : Int)
  · simp only [value_rows_b, decide_eq_true h16, cond_true] at h; cases h
  · simp only [value_rows_b, decide_eq_false h16, cond_false] at h
    refine ⟨by omega, ?_⟩
    have hst : ∀ (i : Nat) (hi : i < l.length), (value_rows_l1 l (value_Check n) (i : Int) = some (.inl ((i + 1 : Nat) : Int)) ∧ l[i].type = 6 ∧ (1 ≤ l[i].items.length ∧ l[i].items.length ≤ 8 ∧ l[i].items.length = (l[0]'(by omega)).items.length) ∧ value_Check n l[i] = some 0) ∨ ∃ c, c ≠ 0 ∧ value_rows_l1 l (value_Check n) (i : Int) = some (.inr (.inr c)) := fun i hi => by
      have e1 : l[i]? = some l[i] := List.getElem?_eq_getElem hi
      have e0 : idx l 0 = some (l[0]'(by omega)) := by rw [show (0 : Int) = ((0 : Nat) : Int) from rfl, idx_nat, List.getElem?_eq_getElem]
      have hw := w64_succ (n := i) (by omega)
      cases ht : (l[i].type != 6) with
      | true => exact .inr ⟨3, by decide, by simp only [value_rows_l1, lt_len hi, idx_nat, e1, ht, cond_true, Option.bind_some]⟩
      | false =>
        have hty : l[i].type = 6 := by rwa [bne_eq_false_iff_eq] at ht
        obtain ⟨c, k1⟩ := hc _ (List.getElem_mem hi) hty
        by_cases hq : 1 ≤ l[i].items.length ∧ l[i].items.length ≤ 8 ∧ l[i].items.length = (l[0]'(by omega)).items.length
        · have e3 : (bif decide ((l[i].items.length : Int) < 1) then some true else bif decide (8 < (l[i].items.length : Int)) then some true else (some ((l[i].items.length : Int) != ((l[0]'(by omega)).items.length : Int)) : Option Bool)) = some false := by
            rw [decide_eq_false (by omega), decide_eq_false (by omega), hq.2.2]; simp
          cases hc' : (c != 0) with
          | true => exact .inr ⟨c, by simpa using hc', by simp only [value_rows_l1, lt_len hi, idx_nat, e1, e0, ht, e3, k1, hc', cond_true, cond_false, Option.bind_some]⟩
          | false => exact .inl ⟨by simp only [value_rows_l1, lt_len hi, idx_nat, e1, e0, ht, e3, k1, hc', hw, cond_true, cond_false, Option.bind_some], hty, hq, by rw [k1]; rw [bne_eq_false_iff_eq] at hc'; rw [hc']⟩
        · have e3 : (bif decide ((l[i].items.length : Int) < 1) then some true else bif decide (8 < (l[i].items.length : Int)) then some true else (some ((l[i].items.length : Int) != ((l[0]'(by omega)).items.length : Int)) : Option Bool)) = some true := by
            by_cases q1 : (l[i].items.length : Int) < 1
            · rw [decide_eq_true q1]; rfl
            · by_cases q2 : 8 < (l[i].items.length : Int)
              · rw [decide_eq_true q2, decide_eq_false q1]; rfl
              · rw [decide_eq_false q1, decide_eq_false q2, cond_false, cond_false]
                congr 1
                simp
                omega
          exact .inr ⟨2, by decide, by simp only [value_rows_l1, lt_len hi, idx_nat, e1, e0, ht, e3, cond_true, cond_false, Option.bind_some]⟩
    cases hr : loopN (value_rows_l1 l (value_Check n)) fuel 0 with
    | none => rw [hr] at h; cases h
    | some r =>
      obtain ⟨r2, r3, f1, f2, f3⟩ := loop_two (step := value_rows_l1 l (value_Check n)) (step' := value_rows_l1 l (value_Check n)) l.length (by omega) (fun i => (i : Int)) (fun i => (i : Int)) (fun r r' => ∀ c, r = .inr c → c ≠ 0) (fun i hi => by
        rcases hst i hi with ⟨a1, _⟩ | ⟨c, h0, a1⟩
        · exact .inl ⟨a1, a1⟩
        · exact .inr ⟨_, _, a1, a1, fun c' h => by cases h; exact h0⟩) ⟨.inl (), .inl (), by simp [value_rows_l1], by simp [value_rows_l1], fun c h => by cases h⟩
      have f1' : loopN (value_rows_l1 l (value_Check n)) fuel 0 = some r2 := by simpa using f1
      rw [hr] at f1'
      cases f1'
      rw [hr, Option.bind_some] at h
      cases r with
      | inr c => exact absurd (Option.some.inj h) (f3 c rfl)
      | inl u =>
        have all : ∀ (i : Nat) (hi : i < l.length), l[i].type = 6 ∧ (1 ≤ l[i].items.length ∧ l[i].items.length ≤ 8 ∧ l[i].items.length = (l[0]'(by omega)).items.length) ∧ value_Check n l[i] = some 0 := fun i hi => by
          have hall := loop_all (step := value_rows_l1 l (value_Check n)) l.length (fun i => (i : Int)) (.inl u) (fun i hi => by
            rcases hst i hi with ⟨a1, _⟩ | ⟨c, _, a1⟩
            · exact .inl a1
            · exact .inr ⟨_, a1, fun h => by cases h⟩) fuel 0 hr i (Nat.zero_le _) hi
          rcases hst i hi with ⟨_, h⟩ | ⟨c, _, a1⟩
          · exact h
          · rw [a1] at hall; cases hall
        by_cases hl0 : 0 < l.length
        · have z := (all 0 hl0).2.1
          refine ⟨(l[0]'hl0).items.length, z.1, z.2.1, fun x hx => ?_⟩
          obtain ⟨i, hi, rfl⟩ := List.mem_iff_getElem.1 hx
          have := all i hi
          exact ⟨this.1, this.2.1.2.2, this.2.2⟩
        · exact ⟨1, by omega, by omega, fun x hx => by rw [List.eq_nil_of_length_eq_zero (by omega : l.length = 0)] at hx; cases hx⟩
theorem va_t (t m : Int) (s : ByteArray) (l : List Va) : (Va.mk t m s l).type = t := rfl
theorem va_n (t m : Int) (s : ByteArray) (l : List Va) : (Va.mk t m s l).num = m := rfl
theorem va_s (t m : Int) (s : ByteArray) (l : List Va) : (Va.mk t m s l).text = s := rfl
theorem va_l (t m : Int) (s : ByteArray) (l : List Va) : (Va.mk t m s l).items = l := rfl
theorem check_ok : ∀ (n : Nat) (x : Va), 2 * rkT x.type ≤ n → inV x → value_Check n x = some 0 → valOk x := by
  intro n
  induction n using Nat.strongRecOn with
  | ind n ih =>
    intro x hn hx h
    have h1rk : 1 ≤ rkT x.type := by unfold rkT; split <;> (try split) <;> omega
    obtain ⟨n, rfl⟩ : ∃ m, n = m + 2 := ⟨n - 2, by omega⟩
    replace h : value_Check_b (value_Check (n + 1)) (value_elements (n + 1)) (value_rows (n + 1)) x = some 0 := h
    obtain ⟨lx, sx, wx⟩ := inV_items hx
    by_cases h0 : x.type < 1
    · simp [value_Check_b, h0] at h
    by_cases h8 : 8 < x.type
    · simp [value_Check_b, h0, h8] at h
    have hcc : ∀ k (y : Va), 2 * rkT y.type ≤ k → inV y → ∃ c, value_Check k y = some c := fun k y h1 h2 => by
      obtain ⟨c, hc, _⟩ := (check_u k).1 y h1 h2
      exact ⟨c, hc⟩
    have ht : x.type = 1 ∨ x.type = 2 ∨ x.type = 3 ∨ x.type = 4 ∨ x.type = 5 ∨ x.type = 6 ∨ x.type = 7 ∨ x.type = 8 := by omega
    obtain ⟨t, m, s, l⟩ := x
    simp only [va_t, va_n, va_s, va_l] at *
    cases hz : (s.toList == (⟨#[]⟩ : ByteArray).toList) <;> cases hm : (m == 0) <;> cases hl : ((l.length : Int) == 0) <;>
      rcases ht with rfl | rfl | rfl | rfl | rfl | rfl | rfl | rfl <;>
      simp only [value_Check_b, value_unused, va_t, va_n, va_s, va_l, hz, hm, hl] at h <;> simp at h
    · obtain ⟨c, hc⟩ := sized_some s 0 64 sx
      rw [hc] at h; simp at h; subst h
      obtain rfl := items_nil hl
      obtain rfl := eq_of_beq hm
      exact .inr (.inr (.inr (.inl ⟨s, rfl, sized0 (a := 0) (b := 64) sx hc⟩)))
    · obtain ⟨c, hc⟩ := sized_some s 1 40 sx
      rw [hc] at h; simp at h; subst h
      obtain rfl := items_nil hl
      obtain rfl := eq_of_beq hm
      exact .inr (.inr (.inr (.inr (.inl ⟨s, rfl, sized0 (a := 1) (b := 40) sx hc⟩))))
    · obtain ⟨c, hc, _⟩ := ranged_some m 0 1
      rw [hc] at h; simp at h; subst h
      obtain rfl := items_nil hl
      obtain rfl := text_nil hz
      have hr := ranged0 hc
      rcases (by omega : m = 0 ∨ m = 1) with rfl | rfl
      · exact .inl (.inl rfl)
      · exact .inl (.inr rfl)
    · obtain ⟨c, hc, _⟩ := ranged_some m (-1000000) 1000000
      rw [hc] at h; simp at h; subst h
      obtain rfl := items_nil hl
      obtain rfl := text_nil hz
      have hr := ranged0 hc
      exact .inr (.inl ⟨m, rfl, hr.1, hr.2⟩)
    · obtain ⟨c, hc, _⟩ := ranged_some m 0 255
      rw [hc] at h; simp at h; subst h
      obtain rfl := items_nil hl
      obtain rfl := text_nil hz
      have hr := ranged0 hc
      exact .inr (.inr (.inl ⟨m, rfl, hr.1, hr.2⟩))
    · obtain rfl := text_nil hz
      obtain rfl := eq_of_beq hm
      have hn' : 2 ≤ n := by have : rkT 5 = 2 := rfl; omega
      obtain ⟨h1, h2⟩ := elements0 wx lx (fun y hy hty => hcc n y (by rw [hty]; exact hn') (wx y hy)) h
      exact .inr (.inr (.inr (.inr (.inr (.inl ⟨l, rfl, h1, fun y hy => type_int (ih n (by omega) y (by rw [(h2 y hy).1]; exact hn') (wx y hy) (h2 y hy).2) (h2 y hy).1⟩)))))
    · obtain rfl := text_nil hz
      obtain rfl := eq_of_beq hm
      have hn' : 2 ≤ n := by have : rkT 6 = 2 := rfl; omega
      obtain ⟨h1, h2⟩ := elements0 wx lx (fun y hy hty => hcc n y (by rw [hty]; exact hn') (wx y hy)) h
      exact .inr (.inr (.inr (.inr (.inr (.inr (.inl ⟨l, rfl, Nat.zero_le _, h1, fun y hy => type_txt (ih n (by omega) y (by rw [(h2 y hy).1]; exact hn') (wx y hy) (h2 y hy).2) (h2 y hy).1⟩))))))
    · obtain rfl := text_nil hz
      obtain rfl := eq_of_beq hm
      have hn' : 4 ≤ n := by have : rkT 7 = 3 := rfl; omega
      obtain ⟨h1, k, k1, k2, h2⟩ := rows0 wx lx (fun y hy hty => hcc n y (by rw [hty]; exact hn') (wx y hy)) h
      refine .inr (.inr (.inr (.inr (.inr (.inr (.inr ⟨l, rfl, h1, k, k1, k2, fun y hy => ?_⟩))))))
      obtain ⟨l', rfl, _, _, q⟩ := type_row (ih n (by omega) y (by rw [(h2 y hy).1]; exact hn') (wx y hy) (h2 y hy).2.2) (h2 y hy).1
      have hk : l'.length = k := (h2 _ hy).2.1
      exact ⟨l', rfl, by omega, by omega, q⟩
    · obtain ⟨c, hc, _⟩ := ranged_some m 0 1
      rw [hc] at h; simp at h; subst h
      obtain rfl := items_nil hl
      obtain rfl := text_nil hz
      have hr := ranged0 hc
      rcases (by omega : m = 0 ∨ m = 1) with rfl | rfl
      · exact .inl (.inl rfl)
      · exact .inl (.inr rfl)
    · obtain ⟨c, hc, _⟩ := ranged_some m (-1000000) 1000000
      rw [hc] at h; simp at h; subst h
      obtain rfl := items_nil hl
      obtain rfl := text_nil hz
      have hr := ranged0 hc
      exact .inr (.inl ⟨m, rfl, hr.1, hr.2⟩)
    · obtain ⟨c, hc⟩ := sized_some s 0 64 sx
      rw [hc] at h; simp at h; subst h
      obtain rfl := items_nil hl
      obtain rfl := eq_of_beq hm
      exact .inr (.inr (.inr (.inl ⟨s, rfl, sized0 (a := 0) (b := 64) sx hc⟩)))
    · obtain ⟨c, hc, _⟩ := ranged_some m 0 255
      rw [hc] at h; simp at h; subst h
      obtain rfl := items_nil hl
      obtain rfl := text_nil hz
      have hr := ranged0 hc
      exact .inr (.inr (.inl ⟨m, rfl, hr.1, hr.2⟩))
    · obtain rfl := text_nil hz
      obtain rfl := eq_of_beq hm
      have hn' : 2 ≤ n := by have : rkT 5 = 2 := rfl; omega
      obtain ⟨h1, h2⟩ := elements0 wx lx (fun y hy hty => hcc n y (by rw [hty]; exact hn') (wx y hy)) h
      exact .inr (.inr (.inr (.inr (.inr (.inl ⟨l, rfl, h1, fun y hy => type_int (ih n (by omega) y (by rw [(h2 y hy).1]; exact hn') (wx y hy) (h2 y hy).2) (h2 y hy).1⟩)))))
    · obtain rfl := text_nil hz
      obtain rfl := eq_of_beq hm
      have hn' : 2 ≤ n := by have : rkT 6 = 2 := rfl; omega
      obtain ⟨h1, h2⟩ := elements0 wx lx (fun y hy hty => hcc n y (by rw [hty]; exact hn') (wx y hy)) h
      exact .inr (.inr (.inr (.inr (.inr (.inr (.inl ⟨l, rfl, Nat.zero_le _, h1, fun y hy => type_txt (ih n (by omega) y (by rw [(h2 y hy).1]; exact hn') (wx y hy) (h2 y hy).2) (h2 y hy).1⟩))))))
    · obtain rfl := text_nil hz
      obtain rfl := eq_of_beq hm
      have hn' : 4 ≤ n := by have : rkT 7 = 3 := rfl; omega
      obtain ⟨h1, k, k1, k2, h2⟩ := rows0 wx lx (fun y hy hty => hcc n y (by rw [hty]; exact hn') (wx y hy)) h
      refine .inr (.inr (.inr (.inr (.inr (.inr (.inr ⟨l, rfl, h1, k, k1, k2, fun y hy => ?_⟩))))))
      obtain ⟨l', rfl, _, _, q⟩ := type_row (ih n (by omega) y (by rw [(h2 y hy).1]; exact hn') (wx y hy) (h2 y hy).2.2) (h2 y hy).1
      have hk : l'.length = k := (h2 _ hy).2.1
      exact ⟨l', rfl, by omega, by omega, q⟩
    · obtain ⟨c, hc⟩ := sized_some s 1 40 sx
      rw [hc] at h; simp at h; subst h
      obtain rfl := items_nil hl
      obtain rfl := eq_of_beq hm
      exact .inr (.inr (.inr (.inr (.inl ⟨s, rfl, sized0 (a := 1) (b := 40) sx hc⟩))))

theorem ok_of {x : Va} (hx : inV x) (h : value_Check fuel x = some 0) : valOk x := check_ok fuel x (Nat.le_trans (Nat.mul_le_mul_left 2 (rkT_le x.type)) (Nat.le_of_lt (lt_fuel (by omega)))) hx h
end Go.Proofs.YtfhmljjkhjifeaaGreatDoor
set_option linter.unusedVariables false
set_option linter.unusedSimpArgs false
set_option maxRecDepth 100000
namespace Go.Proofs.YtfhmljjkhjifeaaGreatDoor
open Go Go.RowKit

def bsOf (s : ByteArray) : List UInt8 := s.data.toList
theorem mk_bs (s : ByteArray) : mkB (bsOf s) = s := ba_ext (by rw [mkB_data]; rfl)
theorem bs_len (s : ByteArray) : (bsOf s).length = s.size := by rw [size_list]; rfl
def inB (t : Int) : List UInt8 := showI t ++ [44]
def syB (x : Sy) : List UInt8 := bsOf x.name ++ ([58] ++ (showI x.type ++ [44]))
def bodyB (r : Ru) : List UInt8 := if r.kind = 1 then [105, 110] ++ showI r.input else if r.kind = 2 then showV r.const else bsOf r.op ++ ([40] ++ (r.args.flatMap inB ++ [41]))
def ruB (r : Ru) : List UInt8 := showI r.symbol ++ ([61] ++ (bodyB r ++ [10]))
def textB (l : La) : List UInt8 := bsOf l.name ++ [10] ++ l.inputs.flatMap inB ++ [10] ++ l.symbols.flatMap syB ++ [10] ++ l.rules.flatMap ruB
theorem flat_take {α : Type} {g : α → List UInt8} {xs : List α} {i : Nat} (hi : i < xs.length) : (xs.take (i + 1)).flatMap g = (xs.take i).flatMap g ++ g xs[i] := by
  rw [List.take_succ_eq_append_getElem hi, List.flatMap_append]; simp
theorem flat_bd {α : Type} {g : α → List UInt8} {B : Nat} : ∀ (xs : List α), (∀ x ∈ xs, (g x).length ≤ B) → (xs.flatMap g).length ≤ xs.length * B
  | [], _ => by simp
  | x :: xs, h => by
    have h1 := flat_bd xs fun y hy => h y (List.mem_cons_of_mem _ hy)
    have h2 := h x (List.mem_cons_self ..)
    rw [List.flatMap_cons, List.length_append, List.length_cons, Nat.add_mul, Nat.one_mul]
    omega
theorem flat_bdt {α : Type} {g : α → List UInt8} {B : Nat} {xs : List α} (h : ∀ x ∈ xs, (g x).length ≤ B) (i : Nat) : ((xs.take i).flatMap g).length ≤ xs.length * B := by
  have h1 := flat_bd (xs.take i) fun x hx => h x (List.mem_of_mem_take hx)
  have h2 : (xs.take i).length * B ≤ xs.length * B := Nat.mul_le_mul_right _ (by rw [List.length_take]; omega)
  omega
/-- a loop that writes one thing behind the other -/
theorem flat_loop {α σ γ : Type} {xs : List α} {g : α → List UInt8} {mkS : Nat → List UInt8 → σ} {step : σ → Option (σ ⊕ γ)} {out : List UInt8 → γ} {B : Nat} {K : Nat} (pre : List UInt8) (hn : xs.length ≤ 4000000000) (hB : ∀ x ∈ xs, (g x).length ≤ B) (hp : pre.length + xs.length * B ≤ K)
    (hs : ∀ i (h : i < xs.length) acc, acc.length ≤ K → step (mkS i acc) = some (.inl (mkS (i + 1) (acc ++ g xs[i])))) (he : ∀ acc, step (mkS xs.length acc) = some (.inr (out acc))) : loopN step fuel (mkS 0 pre) = some (out (pre ++ xs.flatMap g)) := by
  refine (ev_loop (Q := (· = out (pre ++ xs.flatMap g))) xs.length (fun i s => s = mkS i (pre ++ (xs.take i).flatMap g)) (by omega) (by simp) (fun i s hi e => ?_) (fun s e => ?_)).eq
  · subst e
    have h1 := flat_bdt hB i
    rw [hs i hi _ (by rw [List.length_append]; omega)]
    exact ev_some (by show _ = _; rw [flat_take hi] <;> simp only [List.append_assoc])
  · subst e
    rw [he]
    exact ev_some ⟨_, rfl, by rw [List.take_length]⟩
theorem itoa_all {n : Int} (h : InI64 n) : strconv_Itoa_h n = some (mkB (showI n)) := by
  have h1 : -9223372036854775808 ≤ n := h.1
  have h2 : n ≤ 9223372036854775807 := by have := h.2; omega
  simp only [strconv_Itoa_h, internal_strconv_Itoa_h, itoaB_eq h1 h2, Option.bind_some]
/-- a number that is written -/
def nOk (n : Int) : Prop := -1000 ≤ n ∧ n ≤ 1000
theorem nOk.len {n : Int} (h : nOk n) : (showI n).length ≤ 12 := showI_len (by have := h.1; omega) (by have := h.2; omega)
theorem nOk.itoa {n : Int} (h : nOk n) : strconv_Itoa_h n = some (mkB (showI n)) := itoa_all (by have := h.1; have := h.2; constructor <;> omega)
theorem nOk.num {n : Int} (h : nOk n) : synthesisref11_number n = some (mkB (showI n)) := by
  have := Decimal_eq (n := n) (by have := h.1; omega) (by have := h.2; omega)
  simp only [synthesisref11_number, this, Option.bind_some]
theorem text1_eq {n : Int} (h : nOk n) {acc : List UInt8} (ha : acc.length ≤ 4000000000) : grammar_text_1_h n (iB acc) = some (iB (acc ++ showI n)) := by
  simp only [grammar_text_1_h, h.itoa, Option.bind_some, ws_eq (s := mkB (showI n)) rfl ha (by have := h.len; omega)]
theorem catA {a b : List UInt8} {s : ByteArray} (hs : s = mkB b) (h : a.length + b.length ≤ 4000000000) : cat (mkB a) s = some (mkB (a ++ b)) := by rw [hs, cat_mk h]
theorem catS {s u : ByteArray} {b : List UInt8} (hs : u = mkB b) (h : s.size + b.length ≤ 4000000000) : cat s u = some (mkB (bsOf s ++ b)) := by
  have := catA (a := bsOf s) hs (by rw [bs_len]; exact h)
  rwa [mk_bs] at this
/-- what is written of a rule can be written -/
structure WrR (r : Ru) : Prop where
  sym : nOk r.symbol
  inp : nOk r.input
  args : ∀ a ∈ r.args, nOk a
  few : r.args.length ≤ 1000
  op : r.op.size ≤ 1000
  const : r.kind = 2 → valOk r.const ∧ literal_Print_h r.const = some (mkB (showV r.const), 0) ∧ synthesisref02_Print r.const = some (mkB (showV r.const), 0)
theorem inB_len {a : Int} (h : nOk a) : (inB a).length ≤ 13 := by have := h.len; simp [inB]; omega
theorem showV_len {v : Va} (h : valOk v) : (showV v).length ≤ 60000 := (okW_val h 0 0).2.2
theorem bodyB_len {r : Ru} (h : WrR r) : (bodyB r).length ≤ 70000 := by
  unfold bodyB
  split
  · have := h.inp.len; simp; omega
  · split
    · rename_i hk; have := showV_len (h.const hk).1; omega
    · have h1 := flat_bd (g := inB) (B := 13) r.args fun a ha => inB_len (h.args a ha)
      have h2 : r.args.length * 13 ≤ 1000 * 13 := Nat.mul_le_mul_right _ h.few
      have h3 := h.op
      have h4 := bs_len r.op
      simp only [List.length_append, List.length_cons, List.length_nil]; omega
theorem ruB_len {r : Ru} (h : WrR r) : (ruB r).length ≤ 71000 := by
  have := bodyB_len h; have := h.sym.len; simp [ruB]; omega
theorem rule_args_p {r : Ru} (h : WrR r) {acc : List UInt8} (ha : acc.length ≤ 1000000000) : loopN (grammar_text_h_l1 r) fuel (0, iB acc) = some (iB (acc ++ r.args.flatMap inB)) := by
  have hf := h.few
  refine flat_loop (g := inB) (mkS := fun i acc => ((i : Int), iB acc)) (out := iB) (B := 13) (K := 2000000000) acc (by omega) (fun a ha => inB_len (h.args a ha)) (by omega) (fun i hi acc hacc => ?_) (fun acc => by simp only [grammar_text_h_l1, lt_len', cond_false])
  have hm := h.args _ (List.getElem_mem hi)
  have hl := hm.len
  simp only [grammar_text_h_l1, lt_len hi, cond_true, idx_nat, List.getElem?_eq_getElem hi, Option.bind_some, text1_eq hm (acc := acc) (by omega), wb_eq (acc := acc ++ showI r.args[i]) (c := 44) (n := 44) rfl (by rw [List.length_append]; omega), w64s i (by omega), inB] <;> simp only [List.append_assoc]
theorem rule_args_r {r : Ru} (h : WrR r) {acc : List UInt8} (ha : acc.length ≤ 1000000000) : loopN (synthesisref11_text_l1 r) fuel (mkB acc, 0) = some (mkB (acc ++ r.args.flatMap inB)) := by
  have hf := h.few
  refine flat_loop (g := inB) (mkS := fun i acc => (mkB acc, (i : Int))) (out := mkB) (B := 13) (K := 2000000000) acc (by omega) (fun a ha => inB_len (h.args a ha)) (by omega) (fun i hi acc hacc => ?_) (fun acc => by simp only [synthesisref11_text_l1, lt_len', cond_false])
  have hm := h.args _ (List.getElem_mem hi)
  have hl := hm.len
  simp only [synthesisref11_text_l1, lt_len hi, cond_true, idx_nat, List.getElem?_eq_getElem hi, Option.bind_some, hm.num, catA (a := acc) (s := mkB (showI r.args[i])) rfl (by omega), catA (a := acc ++ showI r.args[i]) (s := ⟨#[44]⟩) (b := [44]) rfl (by rw [List.length_append]; simp; omega), w64s i (by omega), inB] <;> simp only [List.append_assoc]
theorem body_p {r : Ru} (h : WrR r) {acc : List UInt8} (ha : acc.length ≤ 900000000) : ((bif (r.kind == 1) then (Option.bind (strings_Builder_WriteString_h (iB acc) ((⟨#[105, 110]⟩ : ByteArray))) fun v23 => (Option.bind (grammar_text_1_h (r.input) (v23)) fun v24 => (some (v24)))) else (bif (r.kind == 2) then (Option.bind (literal_Print_h (r.const)) fun v25 => (Option.bind (strings_Builder_WriteString_h (iB acc) (v25.1)) fun v26 => (some (v26)))) else (Option.bind (cat r.op (⟨#[40]⟩ : ByteArray)) fun v27 => (Option.bind (strings_Builder_WriteString_h (iB acc) (v27)) fun v28 => (Option.bind (loopN (grammar_text_h_l1 r) fuel (0, v28)) fun (v34 : (List Int)) => (Option.bind (strings_Builder_WriteByte_h (v34) (41)) fun v35 => (some (v35)))))))) : Option (List Int)) = some (iB (acc ++ bodyB r)) := by
  unfold bodyB
  have ho := h.op
  by_cases h1 : r.kind = 1
  · rw [if_pos h1]
    simp only [h1, beq_self_eq_true, cond_true, ws_eq (acc := acc) (l := [105, 110]) (s := ⟨#[105, 110]⟩) rfl (by omega) (by simp), Option.bind_some, text1_eq h.inp (acc := acc ++ [105, 110]) (by simp only [List.length_append, List.length_cons, List.length_nil]; omega)] <;> simp only [List.append_assoc]
  · rw [if_neg h1]
    have b1 : (r.kind == 1) = false := by simp [h1]
    by_cases h2 : r.kind = 2
    · rw [if_pos h2]
      obtain ⟨c1, c2, c3⟩ := h.const h2
      have hl := showV_len c1
      simp only [h2, beq_self_eq_true, show ((2 : Int) == 1) = false from rfl, cond_true, cond_false, c2, Option.bind_some, ws_eq (acc := acc) (s := mkB (showV r.const)) rfl (by omega) (by omega)]
    · rw [if_neg h2]
      have b2 : (r.kind == 2) = false := by simp [h2]
      have hb := bs_len r.op
      have hf := flat_bd (g := inB) (B := 13) r.args fun a ha => inB_len (h.args a ha)
      have hf2 : r.args.length * 13 ≤ 1000 * 13 := Nat.mul_le_mul_right _ h.few
      simp only [b1, b2, cond_false, catS (s := r.op) (u := ⟨#[40]⟩) (b := [40]) rfl (by simp only [List.length_append, List.length_cons, List.length_nil]; omega), Option.bind_some, ws_eq (acc := acc) (l := bsOf r.op ++ [40]) (s := mkB (bsOf r.op ++ [40])) rfl (by omega) (by simp only [List.length_append, List.length_cons, List.length_nil]; omega),
        rule_args_p h (acc := acc ++ (bsOf r.op ++ [40])) (by simp only [List.length_append, List.length_cons, List.length_nil]; omega), wb_eq (acc := acc ++ (bsOf r.op ++ [40]) ++ r.args.flatMap inB) (c := 41) (n := 41) rfl (by simp only [List.length_append, List.length_cons, List.length_nil]; omega)] <;> simp only [List.append_assoc]
theorem rules_p {l : La} (hr : ∀ r ∈ l.rules, WrR r) (h96 : l.rules.length ≤ 96) {acc : List UInt8} (ha : acc.length ≤ 100000000) : loopN (grammar_text_h_l2 l) fuel (0, iB acc) = some (iB (acc ++ l.rules.flatMap ruB)) := by
  refine flat_loop (g := ruB) (mkS := fun i acc => ((i : Int), iB acc)) (out := iB) (B := 71000) (K := 800000000) acc (by omega) (fun a ha => ruB_len (hr a ha)) (by omega) (fun i hi acc hacc => ?_) (fun acc => by simp only [grammar_text_h_l2, lt_len', cond_false])
  have hm := hr _ (List.getElem_mem hi)
  have h1 := hm.sym.len
  have h2 := bodyB_len hm
  simp only [grammar_text_h_l2, lt_len hi, cond_true, idx_nat, List.getElem?_eq_getElem hi, Option.bind_some, text1_eq hm.sym (acc := acc) (by omega), wb_eq (acc := acc ++ showI l.rules[i].symbol) (c := 61) (n := 61) rfl (by rw [List.length_append]; omega)]
  rw [body_p hm (by simp only [List.length_append, List.length_cons, List.length_nil]; omega)]
  simp only [Option.bind_some, wb_eq (acc := acc ++ showI l.rules[i].symbol ++ [61] ++ bodyB l.rules[i]) (c := 10) (n := 10) rfl (by simp only [List.length_append, List.length_cons, List.length_nil]; omega), w64s i (by omega), ruB] <;> simp only [List.append_assoc]
theorem body_r {r : Ru} (h : WrR r) {acc : List UInt8} (ha : acc.length ≤ 900000000) : ((bif (r.kind == 1) then (Option.bind (cat (mkB acc) (⟨#[105, 110]⟩ : ByteArray)) fun v26 => (Option.bind (synthesisref11_number (r.input)) fun v27 => (Option.bind (cat v26 v27) fun v28 => (some (v28))))) else (bif (r.kind == 2) then (Option.bind (synthesisref02_Print (r.const)) fun v29 => (Option.bind (cat (mkB acc) v29.1) fun v30 => (some (v30)))) else (Option.bind (cat (mkB acc) r.op) fun v31 => (Option.bind (cat v31 (⟨#[40]⟩ : ByteArray)) fun v32 => (Option.bind (loopN (synthesisref11_text_l1 r) fuel (v32, 0)) fun (v39 : (ByteArray)) => (Option.bind (cat v39 (⟨#[41]⟩ : ByteArray)) fun v40 => (some (v40)))))))) : Option (ByteArray)) = some (mkB (acc ++ bodyB r)) := by
  unfold bodyB
  have ho := h.op
  by_cases h1 : r.kind = 1
  · rw [if_pos h1]
    have hl := h.inp.len
    simp only [h1, beq_self_eq_true, cond_true, catA (a := acc) (b := [105, 110]) (s := ⟨#[105, 110]⟩) rfl (by simp only [List.length_append, List.length_cons, List.length_nil]; omega), Option.bind_some, h.inp.num, catA (a := acc ++ [105, 110]) (s := mkB (showI r.input)) rfl (by simp only [List.length_append, List.length_cons, List.length_nil]; omega)] <;> simp only [List.append_assoc]
  · rw [if_neg h1]
    have b1 : (r.kind == 1) = false := by simp [h1]
    by_cases h2 : r.kind = 2
    · rw [if_pos h2]
      obtain ⟨c1, c2, c3⟩ := h.const h2
      have hl := showV_len c1
      simp only [h2, beq_self_eq_true, show ((2 : Int) == 1) = false from rfl, cond_true, cond_false, c3, Option.bind_some, catA (a := acc) (s := mkB (showV r.const)) rfl (by omega)]
    · rw [if_neg h2]
      have b2 : (r.kind == 2) = false := by simp [h2]
      have hb := bs_len r.op
      have hf := flat_bd (g := inB) (B := 13) r.args fun a ha => inB_len (h.args a ha)
      have hf2 : r.args.length * 13 ≤ 1000 * 13 := Nat.mul_le_mul_right _ h.few
      simp only [b1, b2, cond_false, catA (a := acc) (b := bsOf r.op) (s := r.op) (mk_bs r.op).symm (by omega), Option.bind_some, catA (a := acc ++ bsOf r.op) (b := [40]) (s := ⟨#[40]⟩) rfl (by simp only [List.length_append, List.length_cons, List.length_nil]; omega),
        rule_args_r h (acc := acc ++ bsOf r.op ++ [40]) (by simp only [List.length_append, List.length_cons, List.length_nil]; omega), catA (a := acc ++ bsOf r.op ++ [40] ++ r.args.flatMap inB) (b := [41]) (s := ⟨#[41]⟩) rfl (by simp only [List.length_append, List.length_cons, List.length_nil]; omega)] <;> simp only [List.append_assoc]
theorem rules_r {l : La} (hr : ∀ r ∈ l.rules, WrR r) (h96 : l.rules.length ≤ 96) {acc : List UInt8} (ha : acc.length ≤ 100000000) : loopN (synthesisref11_text_l2 l) fuel (mkB acc, 0) = some (mkB (acc ++ l.rules.flatMap ruB)) := by
  refine flat_loop (g := ruB) (mkS := fun i acc => (mkB acc, (i : Int))) (out := mkB) (B := 71000) (K := 800000000) acc (by omega) (fun a ha => ruB_len (hr a ha)) (by omega) (fun i hi acc hacc => ?_) (fun acc => by simp only [synthesisref11_text_l2, lt_len', cond_false])
  have hm := hr _ (List.getElem_mem hi)
  have h1 := hm.sym.len
  have h2 := bodyB_len hm
  simp only [synthesisref11_text_l2, lt_len hi, cond_true, idx_nat, List.getElem?_eq_getElem hi, Option.bind_some, hm.sym.num, catA (a := acc) (s := mkB (showI l.rules[i].symbol)) rfl (by omega), catA (a := acc ++ showI l.rules[i].symbol) (b := [61]) (s := ⟨#[61]⟩) rfl (by simp only [List.length_append, List.length_cons, List.length_nil]; omega)]
  rw [body_r hm (by simp only [List.length_append, List.length_cons, List.length_nil]; omega)]
  simp only [Option.bind_some, catA (a := acc ++ showI l.rules[i].symbol ++ [61] ++ bodyB l.rules[i]) (b := [10]) (s := ⟨#[10]⟩) rfl (by simp only [List.length_append, List.length_cons, List.length_nil]; omega), w64s i (by omega), ruB] <;> simp only [List.append_assoc]
/-- what can be written of a language -/
structure WrL (l : La) : Prop where
  name : l.name.size ≤ 1000
  inputs : l.inputs.length ≤ 1000
  ins : ∀ t ∈ l.inputs, nOk t
  symbols : l.symbols.length ≤ 1000
  names : ∀ x ∈ l.symbols, x.name.size ≤ 1000 ∧ nOk x.type
  rules : l.rules.length ≤ 96
  ruls : ∀ r ∈ l.rules, WrR r
theorem syB_len {x : Sy} (h : x.name.size ≤ 1000 ∧ nOk x.type) : (syB x).length ≤ 2000 := by
  have := h.2.len; have := h.1; have := bs_len x.name; simp [syB]; omega
theorem syms_p {l : La} (h : WrL l) {acc : List UInt8} (ha : acc.length ≤ 50000000) : loopN (grammar_text_h_l3 l) fuel (0, iB acc) = some (iB (acc ++ l.symbols.flatMap syB)) := by
  have hsy := h.symbols
  refine flat_loop (g := syB) (mkS := fun i acc => ((i : Int), iB acc)) (out := iB) (B := 2000) (K := 800000000) acc (by omega) (fun a ha => syB_len (h.names a ha)) (by omega) (fun i hi acc hacc => ?_) (fun acc => by simp only [grammar_text_h_l3, lt_len', cond_false])
  have hm := h.names _ (List.getElem_mem hi)
  have h1 := hm.2.len
  have h2 := hm.1
  have h3 := bs_len l.symbols[i].name
  simp only [grammar_text_h_l3, lt_len hi, cond_true, idx_nat, List.getElem?_eq_getElem hi, Option.bind_some, catS (s := l.symbols[i].name) (u := ⟨#[58]⟩) (b := [58]) rfl (by simp only [List.length_append, List.length_cons, List.length_nil]; omega), ws_eq (acc := acc) (l := bsOf l.symbols[i].name ++ [58]) (s := mkB (bsOf l.symbols[i].name ++ [58])) rfl (by omega) (by simp only [List.length_append, List.length_cons, List.length_nil]; omega),
    text1_eq hm.2 (acc := acc ++ (bsOf l.symbols[i].name ++ [58])) (by simp only [List.length_append, List.length_cons, List.length_nil]; omega), wb_eq (acc := acc ++ (bsOf l.symbols[i].name ++ [58]) ++ showI l.symbols[i].type) (c := 44) (n := 44) rfl (by simp only [List.length_append, List.length_cons, List.length_nil]; omega), w64s i (by omega), syB] <;> simp only [List.append_assoc]
theorem syms_r {l : La} (h : WrL l) {acc : List UInt8} (ha : acc.length ≤ 50000000) : loopN (synthesisref11_text_l3 l) fuel (mkB acc, 0) = some (mkB (acc ++ l.symbols.flatMap syB)) := by
  have hsy := h.symbols
  refine flat_loop (g := syB) (mkS := fun i acc => (mkB acc, (i : Int))) (out := mkB) (B := 2000) (K := 800000000) acc (by omega) (fun a ha => syB_len (h.names a ha)) (by omega) (fun i hi acc hacc => ?_) (fun acc => by simp only [synthesisref11_text_l3, lt_len', cond_false])
  have hm := h.names _ (List.getElem_mem hi)
  have h1 := hm.2.len
  have h2 := hm.1
  have h3 := bs_len l.symbols[i].name
  simp only [synthesisref11_text_l3, lt_len hi, cond_true, idx_nat, List.getElem?_eq_getElem hi, Option.bind_some, catA (a := acc) (b := bsOf l.symbols[i].name) (s := l.symbols[i].name) (mk_bs _).symm (by omega), catA (a := acc ++ bsOf l.symbols[i].name) (b := [58]) (s := ⟨#[58]⟩) rfl (by simp only [List.length_append, List.length_cons, List.length_nil]; omega),
    hm.2.num, catA (a := acc ++ bsOf l.symbols[i].name ++ [58]) (s := mkB (showI l.symbols[i].type)) rfl (by simp only [List.length_append, List.length_cons, List.length_nil]; omega), catA (a := acc ++ bsOf l.symbols[i].name ++ [58] ++ showI l.symbols[i].type) (b := [44]) (s := ⟨#[44]⟩) rfl (by simp only [List.length_append, List.length_cons, List.length_nil]; omega), w64s i (by omega), syB] <;> simp only [List.append_assoc]
theorem ins_p {l : La} (h : WrL l) {acc : List UInt8} (ha : acc.length ≤ 50000000) : loopN (grammar_text_h_l4 l) fuel (0, iB acc) = some (iB (acc ++ l.inputs.flatMap inB)) := by
  have hsy := h.inputs
  refine flat_loop (g := inB) (mkS := fun i acc => ((i : Int), iB acc)) (out := iB) (B := 13) (K := 800000000) acc (by omega) (fun a ha => inB_len (h.ins a ha)) (by omega) (fun i hi acc hacc => ?_) (fun acc => by simp only [grammar_text_h_l4, lt_len', cond_false])
  have hm := h.ins _ (List.getElem_mem hi)
  have hl := hm.len
  simp only [grammar_text_h_l4, lt_len hi, cond_true, idx_nat, List.getElem?_eq_getElem hi, Option.bind_some, text1_eq hm (acc := acc) (by omega), wb_eq (acc := acc ++ showI l.inputs[i]) (c := 44) (n := 44) rfl (by rw [List.length_append]; omega), w64s i (by omega), inB] <;> simp only [List.append_assoc]
theorem ins_r {l : La} (h : WrL l) {acc : List UInt8} (ha : acc.length ≤ 50000000) : loopN (synthesisref11_text_l4 l) fuel (mkB acc, 0) = some (mkB (acc ++ l.inputs.flatMap inB)) := by
  have hsy := h.inputs
  refine flat_loop (g := inB) (mkS := fun i acc => (mkB acc, (i : Int))) (out := mkB) (B := 13) (K := 800000000) acc (by omega) (fun a ha => inB_len (h.ins a ha)) (by omega) (fun i hi acc hacc => ?_) (fun acc => by simp only [synthesisref11_text_l4, lt_len', cond_false])
  have hm := h.ins _ (List.getElem_mem hi)
  have hl := hm.len
  simp only [synthesisref11_text_l4, lt_len hi, cond_true, idx_nat, List.getElem?_eq_getElem hi, Option.bind_some, hm.num, catA (a := acc) (s := mkB (showI l.inputs[i])) rfl (by omega), catA (a := acc ++ showI l.inputs[i]) (b := [44]) (s := ⟨#[44]⟩) rfl (by simp only [List.length_append, List.length_cons, List.length_nil]; omega), w64s i (by omega), inB] <;> simp only [List.append_assoc]
theorem text_len {l : La} (h : WrL l) : (l.inputs.flatMap inB).length ≤ 13000 ∧ (l.symbols.flatMap syB).length ≤ 2000000 ∧ (l.rules.flatMap ruB).length ≤ 10000000 := by
  have h1 := flat_bd (g := inB) (B := 13) l.inputs fun a ha => inB_len (h.ins a ha)
  have h2 := flat_bd (g := syB) (B := 2000) l.symbols fun a ha => syB_len (h.names a ha)
  have h3 := flat_bd (g := ruB) (B := 71000) l.rules fun a ha => ruB_len (h.ruls a ha)
  have g1 := h.inputs; have g2 := h.symbols; have g3 := h.rules
  refine ⟨by omega, by omega, by omega⟩
theorem textB_len {l : La} (h : WrL l) : (textB l).length ≤ 20000000 := by
  obtain ⟨h1, h2, h3⟩ := text_len h
  have h4 := bs_len l.name; have h5 := h.name
  simp only [textB, List.length_append, List.length_cons, List.length_nil]; omega
theorem text_both {l : La} (h : WrL l) : grammar_text_h l = some (mkB (textB l)) ∧ synthesisref11_text l = some (mkB (textB l)) := by
  obtain ⟨h1, h2, h3⟩ := text_len h
  have h4 := bs_len l.name; have h5 := h.name
  have c1 : cat l.name (⟨#[10]⟩ : ByteArray) = some (mkB (bsOf l.name ++ [10])) := catS rfl (by simp only [List.length_append, List.length_cons, List.length_nil]; omega)
  have p1 := ins_p h (acc := bsOf l.name ++ [10]) (by simp only [List.length_append, List.length_cons, List.length_nil]; omega)
  have p2 := syms_p h (acc := bsOf l.name ++ [10] ++ l.inputs.flatMap inB ++ [10]) (by simp only [List.length_append, List.length_cons, List.length_nil]; omega)
  have p3 := rules_p h.ruls h.rules (acc := bsOf l.name ++ [10] ++ l.inputs.flatMap inB ++ [10] ++ l.symbols.flatMap syB ++ [10]) (by simp only [List.length_append, List.length_cons, List.length_nil]; omega)
  have r1 := ins_r h (acc := bsOf l.name ++ [10]) (by simp only [List.length_append, List.length_cons, List.length_nil]; omega)
  have r2 := syms_r h (acc := bsOf l.name ++ [10] ++ l.inputs.flatMap inB ++ [10]) (by simp only [List.length_append, List.length_cons, List.length_nil]; omega)
  have r3 := rules_r h.ruls h.rules (acc := bsOf l.name ++ [10] ++ l.inputs.flatMap inB ++ [10] ++ l.symbols.flatMap syB ++ [10]) (by simp only [List.length_append, List.length_cons, List.length_nil]; omega)
  constructor
  · have w0 := ws_eq (acc := []) (l := bsOf l.name ++ [10]) (s := mkB (bsOf l.name ++ [10])) rfl (by simp) (by simp only [List.length_append, List.length_cons, List.length_nil]; omega)
    have w0' : strings_Builder_WriteString_h [] (mkB (bsOf l.name ++ [10])) = some (iB (bsOf l.name ++ [10])) := w0
    simp only [grammar_text_h, c1, Option.bind_some, w0', p1, wb_eq (acc := bsOf l.name ++ [10] ++ l.inputs.flatMap inB) (c := 10) (n := 10) rfl (by simp only [List.length_append, List.length_cons, List.length_nil]; omega), p2,
      wb_eq (acc := bsOf l.name ++ [10] ++ l.inputs.flatMap inB ++ [10] ++ l.symbols.flatMap syB) (c := 10) (n := 10) rfl (by simp only [List.length_append, List.length_cons, List.length_nil]; omega), p3, strings_Builder_String_h, toBA_iB, textB]
  · simp only [synthesisref11_text, c1, Option.bind_some, r1, catA (a := bsOf l.name ++ [10] ++ l.inputs.flatMap inB) (b := [10]) (s := ⟨#[10]⟩) rfl (by simp only [List.length_append, List.length_cons, List.length_nil]; omega), r2,
      catA (a := bsOf l.name ++ [10] ++ l.inputs.flatMap inB ++ [10] ++ l.symbols.flatMap syB) (b := [10]) (s := ⟨#[10]⟩) rfl (by simp only [List.length_append, List.length_cons, List.length_nil]; omega), r3, textB]
/-- the checksum -/
def fpF (n : Int) (c : UInt8) : Int := wu64 ((ixor .u64 n (wu64 (c.toNat : Int))) * 1099511628211)
def fpB (bs : List UInt8) : Int := bs.foldl fpF 14695981039346656037
theorem fp_p {bs : List UInt8} (h : bs.length ≤ 4000000000) : loopN (grammar_Fingerprint_h_l1 (iB bs)) fuel (14695981039346656037, 0) = some (fpB bs) := by
  refine (ev_loop (Q := (· = fpB bs)) bs.length (fun i s => s = ((bs.take i).foldl fpF 14695981039346656037, (i : Int))) (by omega) rfl (fun i s hi e => ?_) (fun s e => ?_)).eq
  · subst e
    have hi' : i < (iB bs).length := by rw [iB_len]; exact hi
    refine ev_go (s := ((bs.take (i + 1)).foldl fpF 14695981039346656037, ((i + 1 : Nat) : Int))) ?_ rfl
    simp only [grammar_Fingerprint_h_l1, iB_len, lt_len hi, cond_true, idx_nat, List.getElem?_eq_getElem hi', Option.bind_some, w64s i (by omega), List.take_succ_eq_append_getElem hi, List.foldl_append, List.foldl_cons, List.foldl_nil]
    simp [fpF, iB]
  · subst e
    exact ev_out (b := (bs.take bs.length).foldl fpF 14695981039346656037) (by simp only [grammar_Fingerprint_h_l1, iB_len, lt_len', cond_false]) (by rw [List.take_length]; rfl)
theorem fp_r {bs : List UInt8} (h : bs.length ≤ 4000000000) : loopN (synthesisref11_Fingerprint_l1 (mkB bs)) fuel (14695981039346656037, 0) = some (fpB bs) := by
  refine (ev_loop (Q := (· = fpB bs)) bs.length (fun i s => s = ((bs.take i).foldl fpF 14695981039346656037, (i : Int))) (by omega) rfl (fun i s hi e => ?_) (fun s e => ?_)).eq
  · subst e
    have hb : byt (mkB bs) (i : Int) = some (bs[i].toNat : Int) := by rw [byt_list, mkB_data, List.getElem?_eq_getElem hi]; rfl
    refine ev_go (s := ((bs.take (i + 1)).foldl fpF 14695981039346656037, ((i + 1 : Nat) : Int))) ?_ rfl
    simp only [synthesisref11_Fingerprint_l1, mkB_size, lt_len hi, cond_true, hb, Option.bind_some, w64s i (by omega), List.take_succ_eq_append_getElem hi, List.foldl_append, List.foldl_cons, List.foldl_nil, fpF]
  · subst e
    exact ev_out (b := (bs.take bs.length).foldl fpF 14695981039346656037) (by simp only [synthesisref11_Fingerprint_l1, mkB_size, lt_len', cond_false]) (by rw [List.take_length]; rfl)
theorem s2b_mkB {bs : List UInt8} (h : bs.length ≤ 4000000000) : s2b (mkB bs) = some (iB bs) := by
  unfold s2b
  rw [mkB_size, if_pos (by omega), ofBA_mkB]
theorem fingerprint_good {l : La} (h : WrL l) (c1 : grammar_Check l = some 0) (c2 : synthesisref11_Check l = some 0) : grammar_Fingerprint_h l = some (fpB (textB l), 0) ∧ synthesisref11_Fingerprint l = some (fpB (textB l), 0) := by
  obtain ⟨t1, t2⟩ := text_both h
  have hl := textB_len h
  constructor
  · simp only [grammar_Fingerprint_h, c1, Option.bind_some, bne_self_eq_false, cond_false, t1, s2b_mkB (bs := textB l) (by omega), fp_p (bs := textB l) (by omega)]
  · simp only [synthesisref11_Fingerprint, c2, Option.bind_some, bne_self_eq_false, cond_false, t2, fp_r (bs := textB l) (by omega)]
theorem fingerprint_bad {l : La} {c : Int} (hc : c ≠ 0) (c1 : grammar_Check l = some c) (c2 : synthesisref11_Check l = some c) : grammar_Fingerprint_h l = some (0, c) ∧ synthesisref11_Fingerprint l = some (0, c) := by
  have hb : (c != 0) = true := by simp [hc]
  constructor
  · simp only [grammar_Fingerprint_h, c1, Option.bind_some, hb, cond_true]
  · simp only [synthesisref11_Fingerprint, c2, Option.bind_some, hb, cond_true]
/-- a valid value is written -/
theorem print_valid {x : Va} (hx : inV x) (h : value_Check fuel x = some 0) : valOk x ∧ literal_Print_h x = some (mkB (showV x), 0) ∧ synthesisref02_Print x = some (mkB (showV x), 0) := by
  have hok := ok_of hx h
  obtain ⟨c, c1, c2, _⟩ := Check_u hx
  obtain rfl : c = 0 := by rw [h] at c1; exact (Option.some.inj c1).symm
  obtain ⟨w1, _, _⟩ := written (l := [x]) (by simp) (fun y hy => by rw [List.mem_singleton.1 hy]; exact hok)
  have hj : joinB ([x].map showV) = showV x := by simp [joinB]
  rw [hj] at w1
  refine ⟨hok, ?_, ?_⟩
  · have hl : loopN (literal_PrintAll_h_l1 [x]) fuel 0 = some (.inl ()) := by
      refine (ev_loop (s0 := (0 : Int)) (Q := (· = Sum.inl ())) 1 (fun i s => s = (i : Int)) (by omega) rfl (fun i s hi e => ?_) (fun s e => ?_)).eq
      · subst e
        obtain rfl : i = 0 := by omega
        refine ev_go (s := 1) ?_ rfl
        simp only [literal_PrintAll_h_l1, Int.natCast_zero, show decide ((0 : Int) < (([x] : List Va).length : Int)) = true from rfl, show idx [x] 0 = some x from rfl, cond_true, Option.bind_some, h, bne_self_eq_false, cond_false]
        rfl
      · subst e
        exact ev_out (b := .inl ()) rfl rfl
    simp only [literal_Print_h, literal_PrintAll_h, hl, Option.bind_some, Sum.elim_inl, w1, strings_Builder_String_h, toBA_iB]
  · obtain ⟨k, hk⟩ := fuel9
    have ht : synthesisref02_text fuel x = some (mkB (showV x)) := by rw [hk]; exact (okW_val hok (k + 4) (k + 4)).2.1
    simp only [synthesisref02_Print, c2, Option.bind_some, bne_self_eq_false, cond_false, ht]
theorem op_size {s : ByteArray} {o : S_api_Operator} (h : synthesisref09_Find s = some (o, true)) : s ∈ opNames := by
  refine Classical.byContradiction fun hn => ?_
  rw [(find_none s hn).2] at h
  simp at h
theorem opNames_small : opNames.all (fun s => decide (s.size ≤ 100)) = true := by kernel_rfl
theorem validR_wr {l : La} {r : Ru} (hl : ValidL l) (hw : wideR r) (h : ValidR l r) : WrR r := by
  have h16 := hl.sym16
  have h4 := hl.inputs
  have hs := h.1
  rcases h.2 with q | q | q
  · exact ⟨⟨by omega, by omega⟩, ⟨by have := q.2.2.2.2.1; omega, by have := q.2.2.2.2.1; omega⟩, by rw [q.2.2.2.1]; simp, by rw [q.2.2.2.1]; simp, by rw [q.2.2.1]; exact Nat.zero_le _, fun h2 => by have := q.1; omega⟩
  · exact ⟨⟨by omega, by omega⟩, by rw [q.2.1]; exact ⟨by decide, by decide⟩, by rw [q.2.2.2.1]; simp, by rw [q.2.2.2.1]; simp, by rw [q.2.2.1]; exact Nat.zero_le _, fun h2 => print_valid hw.2 q.2.2.2.2.1⟩
  · obtain ⟨q1, q2, q3, o, q4, q5, q6, q7⟩ := q
    have hf := find_len q4 rfl
    simp only at hf
    refine ⟨⟨by omega, by omega⟩, by rw [q2]; exact ⟨by decide, by decide⟩, fun a ha => ?_, by omega, ?_, fun h2 => by omega⟩
    · obtain ⟨i, hi, rfl⟩ := List.mem_iff_getElem.1 ha
      have := (q6 i hi).1
      exact ⟨by omega, by omega⟩
    · have := of_decide_eq_true (List.all_eq_true.1 opNames_small _ (op_size q4))
      omega
theorem validL_wr {l : La} (hw : wideL l) (hl : ValidL l) : WrL l := by
  refine ⟨by have := hl.name.1; omega, by have := hl.inputs; omega, fun t ht => ?_, by have := hl.sym16; omega, fun x hx => ?_, hl.rules, fun r hr => ?_⟩
  · obtain ⟨i, hi, rfl⟩ := List.mem_iff_getElem.1 ht
    have := hl.typs i hi
    exact ⟨by have := this.1; omega, by have := this.2; omega⟩
  · obtain ⟨i, hi, rfl⟩ := List.mem_iff_getElem.1 hx
    have h1 := (hl.names i hi).1
    have h2 := hl.types i hi
    exact ⟨by omega, by have := h2.1; omega, by have := h2.2; omega⟩
  · obtain ⟨i, hi, rfl⟩ := List.mem_iff_getElem.1 hr
    exact validR_wr hl (hw.wide _ (List.getElem_mem hi)) (hl.valid i hi)
theorem small_valid {l : La} (hw : wideL l) (hs : SmallL l) : ∃ c, grammar_Check l = some c ∧ synthesisref11_Check l = some c ∧ (c = 0 ↔ ValidL l) ∧ (c = 0 → GoodL l) := by
  obtain ⟨c, c1, c2, c3⟩ := lang_u l hw
  obtain ⟨h1, h2, h3, h4, h5, h6⟩ := hs
  obtain ⟨d, d1, d2⟩ := check_iff hw (by omega) (by omega) (fun x hx => by have := h5 x hx; omega) (by omega) (fun r hr => by have := (h6 r hr).1; omega)
  obtain rfl : d = c := by rw [d1] at c2; exact Option.some.inj c2
  exact ⟨d, c1, c2, d2, c3⟩
theorem finger {l : La} (hw : wideL l) (hs : SmallL l) : ∃ x, grammar_Fingerprint_h l = some x ∧ synthesisref11_Fingerprint l = some x ∧ (x.2 = 0 → ValidL l) := by
  obtain ⟨c, c1, c2, c3, _⟩ := small_valid hw hs
  by_cases hc : c = 0
  · subst hc
    obtain ⟨f1, f2⟩ := fingerprint_good (validL_wr hw (c3.1 rfl)) c1 c2
    exact ⟨_, f1, f2, fun _ => c3.1 rfl⟩
  · obtain ⟨f1, f2⟩ := fingerprint_bad hc c1 c2
    exact ⟨_, f1, f2, fun h => absurd h hc⟩
end Go.Proofs.YtfhmljjkhjifeaaGreatDoor
set_option linter.unusedVariables false
set_option linter.unusedSimpArgs false
set_option maxRecDepth 100000
namespace Go.Proofs.YtfhmljjkhjifeaaGreatDoor
open Go Go.RowKit

instance (c : UInt8) : Decidable (letC c) := by unfold letC; infer_instance
instance (c : UInt8) : Decidable (digC c) := by unfold digC; infer_instance
instance (c : UInt8) : Decidable (dig c) := by unfold dig; infer_instance
/-- two texts parted at the first byte that is not of a kind -/
theorem part_at {p : UInt8 → Prop} {c d : UInt8} (hc : ¬ p c) (hd : ¬ p d) : ∀ {u v x y : List UInt8}, (∀ b ∈ u, p b) → (∀ b ∈ v, p b) → u ++ c :: x = v ++ d :: y → u = v ∧ c = d ∧ x = y
  | [], [], x, y, _, _, h => by simp at h; exact ⟨rfl, h⟩
  | [], b :: v, x, y, _, hv, h => by
    simp at h
    exact absurd (hv b (List.mem_cons_self ..)) (h.1 ▸ hc)
  | a :: u, [], x, y, hu, _, h => by
    simp at h
    exact absurd (hu a (List.mem_cons_self ..)) (h.1 ▸ hd)
  | a :: u, b :: v, x, y, hu, hv, h => by
    simp at h
    obtain ⟨rfl, h⟩ := h
    obtain ⟨rfl, h2⟩ := part_at hc hd (fun b hb => hu b (List.mem_cons_of_mem _ hb)) (fun b hb => hv b (List.mem_cons_of_mem _ hb)) h
    exact ⟨rfl, h2⟩
/-- lists of things that are written one behind the other -/
theorem flat_inj {α : Type} {g : α → List UInt8} {P : α → Prop} {X Y : List UInt8} (hg : ∀ a b x y, P a → P b → g a ++ x = g b ++ y → a = b ∧ x = y) (hX : ∀ a z, P a → g a ++ z ≠ X) (hY : ∀ a z, P a → g a ++ z ≠ Y) :
    ∀ {xs ys : List α}, (∀ a ∈ xs, P a) → (∀ a ∈ ys, P a) → xs.flatMap g ++ X = ys.flatMap g ++ Y → xs = ys ∧ X = Y
  | [], [], _, _, h => ⟨rfl, by simpa using h⟩
  | [], b :: ys, _, hy, h => by
    simp only [List.flatMap_nil, List.nil_append, List.flatMap_cons, List.append_assoc] at h
    exact absurd h.symm (hX b _ (hy b (List.mem_cons_self ..)))
  | a :: xs, [], hx, _, h => by
    simp only [List.flatMap_nil, List.nil_append, List.flatMap_cons, List.append_assoc] at h
    exact absurd h (hY a _ (hx a (List.mem_cons_self ..)))
  | a :: xs, b :: ys, hx, hy, h => by
    simp only [List.flatMap_cons, List.append_assoc] at h
    obtain ⟨h1, h2⟩ := hg a b _ _ (hx a (List.mem_cons_self ..)) (hy b (List.mem_cons_self ..)) h
    obtain ⟨h3, h4⟩ := flat_inj hg hX hY (fun b hb => hx b (List.mem_cons_of_mem _ hb)) (fun b hb => hy b (List.mem_cons_of_mem _ hb)) h2
    exact ⟨by rw [h1, h3], h4⟩
theorem num_inj {a b : Int} (ha : nOk a) (hb : nOk b) {x y : List UInt8} (hx : stop x) (hy : stop y) (h : showI a ++ x = showI b ++ y) : a = b ∧ x = y := by
  have h1 := num_run hx (n := a) (by have := ha.1; omega) (by have := ha.2; omega)
  have h2 := num_run hy (n := b) (by have := hb.1; omega) (by have := hb.2; omega)
  rw [h, h2] at h1
  simp at h1
  exact ⟨h1.1.symm, h1.2.symm⟩
theorem stop44 (x : List UInt8) : stop (44 :: x) := stop_c x (by decide)
theorem stop10 (x : List UInt8) : stop (10 :: x) := stop_c x (by decide)
theorem stop61 (x : List UInt8) : stop (61 :: x) := stop_c x (by decide)
theorem inB_inj {a b : Int} (ha : nOk a) (hb : nOk b) {x y : List UInt8} (h : inB a ++ x = inB b ++ y) : a = b ∧ x = y := by
  simp only [inB, List.append_assoc, List.cons_append, List.nil_append] at h
  obtain ⟨rfl, h⟩ := num_inj ha hb (stop44 _) (stop44 _) h
  simp at h
  exact ⟨rfl, h⟩
theorem showI_hd {a : Int} (ha : nOk a) (x : List UInt8) : hd (showI a ++ x) = 45 ∨ (48 ≤ hd (showI a ++ x) ∧ hd (showI a ++ x) ≤ 57) := by
  unfold showI
  split
  · exact .inl rfl
  · exact .inr ⟨(hd_decN _ x).1, (hd_decN _ x).2.1⟩
theorem inB_ne {a : Int} (ha : nOk a) (z Z : List UInt8) {c : UInt8} (hc : c ≠ 45 ∧ ¬ digC c) : inB a ++ z ≠ c :: Z := fun h => by
  simp only [inB, List.append_assoc] at h
  have := showI_hd ha ([44] ++ z)
  rw [h] at this
  rcases this with h | h
  · exact hc.1 (UInt8.toNat_inj.1 (show c.toNat = 45 by have h : (c.toNat : Int) = 45 := h; omega))
  · exact hc.2 ⟨by have h : (48 : Int) ≤ (c.toNat : Int) ∧ (c.toNat : Int) ≤ 57 := h; omega, by have h : (48 : Int) ≤ (c.toNat : Int) ∧ (c.toNat : Int) ≤ 57 := h; omega⟩
/-- the bytes of names -/
def namC (c : UInt8) : Prop := letC c ∨ c = 45 ∨ digC c
theorem name_bytes {s : ByteArray} (h : nameOk s) : ∀ b ∈ bsOf s, namC b := fun b hb => by
  obtain ⟨i, hi, rfl⟩ := List.mem_iff_getElem.1 hb
  rcases h.2 i hi with h | ⟨_, h | h⟩
  · exact .inl h
  · exact .inr (.inl h)
  · exact .inr (.inr h)
theorem bs_inj {a b : ByteArray} (h : bsOf a = bsOf b) : a = b := ba_ext h
theorem not_nam {c : UInt8} (h : c = 10 ∨ c = 58 ∨ c = 40 ∨ c = 41 ∨ c = 44 ∨ c = 61) : ¬ namC c := by
  rcases h with rfl | rfl | rfl | rfl | rfl | rfl <;> (intro h; rcases h with (h | h) | h | h <;> revert h <;> decide)
theorem name_inj {a b : ByteArray} (ha : ∀ x ∈ bsOf a, namC x) (hb : ∀ x ∈ bsOf b, namC x) {c d : UInt8} (hc : ¬ namC c) (hd : ¬ namC d) {x y : List UInt8} (h : bsOf a ++ c :: x = bsOf b ++ d :: y) : a = b ∧ c = d ∧ x = y := by
  obtain ⟨h1, h2⟩ := part_at hc hd ha hb h
  exact ⟨bs_inj h1, h2⟩
def symOk (x : Sy) : Prop := nameOk x.name ∧ nOk x.type
theorem syB_inj {a b : Sy} (ha : symOk a) (hb : symOk b) {x y : List UInt8} (h : syB a ++ x = syB b ++ y) : a = b ∧ x = y := by
  simp only [syB, List.append_assoc, List.cons_append, List.nil_append] at h
  obtain ⟨h1, _, h⟩ := name_inj (name_bytes ha.1) (name_bytes hb.1) (not_nam (by decide)) (not_nam (by decide)) h
  obtain ⟨h2, h⟩ := num_inj ha.2 hb.2 (stop44 _) (stop44 _) h
  simp at h
  refine ⟨?_, h⟩
  cases a; cases b; simp_all
theorem syB_ne {a : Sy} (ha : symOk a) (z Z : List UInt8) {c : UInt8} (hc : ¬ letC c) : syB a ++ z ≠ c :: Z := fun h => by
  have hl : 0 < (bsOf a.name).length := by rw [bs_len]; have := ha.1.1; omega
  rcases ha.1.2 0 hl with h2 | ⟨h2, _⟩
  · simp only [syB, List.append_assoc] at h
    cases hb : bsOf a.name with
    | nil => rw [hb] at hl; simp at hl
    | cons e E =>
      rw [hb] at h
      simp at h
      have : a.name.data.toList[0]'hl = e := by
        have hb' : a.name.data.toList = e :: E := hb
        simp [hb']
      rw [this, h.1] at h2
      exact hc h2
  · omega
/-- reading does not look behind the place where it stops -/
theorem run_more {α : Type} (m : List UInt8) : ∀ (p : Pr α) (l : List UInt8) (r : Option α) (c : UInt8) (l' : List UInt8), p.run l = (r, c :: l') → p.run (l ++ m) = (r, c :: (l' ++ m))
  | .done a, l, r, c, l', h => by simp only [Pr.run, Prod.mk.injEq] at h ⊢; obtain ⟨rfl, rfl⟩ := h; exact ⟨rfl, rfl⟩
  | .fail, l, r, c, l', h => by simp only [Pr.run, Prod.mk.injEq] at h ⊢; obtain ⟨rfl, rfl⟩ := h; exact ⟨rfl, rfl⟩
  | .peek k, l, r, c, l', h => by
    obtain ⟨j, hj, _⟩ := run_len (.peek k) l
    rw [h] at hj
    have hl : hd (l ++ m) = hd l := by
      cases l with
      | nil => simp at hj
      | cons a l => rfl
    simp only [Pr.run] at h ⊢
    rw [hl]
    exact run_more m (k (hd l)) l r c l' h
  | .adv p, l, r, c, l', h => by
    simp only [Pr.run] at h ⊢
    cases l with
    | nil =>
      obtain ⟨j, hj, _⟩ := run_len p ([] : List UInt8).tail
      rw [h] at hj
      simp at hj
    | cons a l => exact run_more m p l r c l' h
def opC (n : ByteArray) : Bool := (bsOf n).all (fun c => decide (c ≠ 10) && decide (c ≠ 40)) && (match oneP.run (bsOf n ++ [40]) with
  | (none, _ :: _) => true
  | _ => false)
theorem opC_all : opNames.all opC = true := by kernel_rfl
theorem op_facts {n : ByteArray} (h : n ∈ opNames) : (∀ c ∈ bsOf n, c ≠ 10 ∧ c ≠ 40) ∧ ∀ z, (oneP.run (bsOf n ++ 40 :: z)).1 = none := by
  have h1 := List.all_eq_true.1 opC_all n h
  unfold opC at h1
  rw [Bool.and_eq_true, List.all_eq_true] at h1
  refine ⟨fun c hc => by have := h1.1 c hc; simpa using this, fun z => ?_⟩
  have h2 := h1.2
  split at h2
  · rename_i c l he
    have := run_more z _ _ _ _ _ he
    rw [List.append_assoc, List.cons_append, List.nil_append] at this
    rw [this]
  · cases h2
theorem num_bytes {a : Int} (ha : nOk a) : ∀ c ∈ showI a, c ≠ 10 ∧ c ≠ 40 := by
  have hd : ∀ n : Nat, ∀ c ∈ decN n, c ≠ 10 ∧ c ≠ 40 := fun n c hc => by
    obtain ⟨d, ds, h1, h2, _⟩ := decN_ok n
    rw [h1] at hc
    have := h2 c hc
    constructor <;> rintro rfl <;> revert this <;> decide
  intro c hc
  unfold showI at hc
  split at hc
  · rcases List.mem_cons.1 hc with rfl | hc
    · decide
    · exact hd _ c hc
  · exact hd _ c hc
/-- a rule that can be told from its text -/
structure TelR (r : Ru) : Prop where
  wr : WrR r
  kind : r.kind = 1 ∨ r.kind = 2 ∨ r.kind = 3
  k1 : r.kind = 1 → r.const = zeroV ∧ r.op = ⟨#[]⟩ ∧ r.args = []
  k2 : r.kind = 2 → r.input = 0 ∧ r.op = ⟨#[]⟩ ∧ r.args = []
  k3 : r.kind = 3 → r.input = 0 ∧ r.const = zeroV ∧ r.op ∈ opNames
theorem body1 {r : Ru} (h : r.kind = 1) : bodyB r = 105 :: 110 :: showI r.input := by unfold bodyB; rw [if_pos h]; rfl
theorem body2 {r : Ru} (h : r.kind = 2) : bodyB r = showV r.const := by unfold bodyB; rw [if_neg (by omega), if_pos h]
theorem body3 {r : Ru} (h : r.kind = 3) : bodyB r = bsOf r.op ++ (40 :: (r.args.flatMap inB ++ [41])) := by unfold bodyB; rw [if_neg (by omega), if_neg (by omega)]; rfl
theorem one_i (z : List UInt8) : (oneP.run (105 :: z)).1 = none := rfl
theorem body_inj {a b : Ru} (ha : TelR a) (hb : TelR b) {x y : List UInt8} (h : bodyB a ++ 10 :: x = bodyB b ++ 10 :: y) : (a.kind = b.kind ∧ a.input = b.input ∧ a.const = b.const ∧ a.op = b.op ∧ a.args = b.args) ∧ x = y := by
  have one : ∀ {c : Ru} (hc : TelR c) (h2 : c.kind = 2) (z : List UInt8), oneP.run (showV c.const ++ 10 :: z) = (some c.const, 10 :: z) := fun hc h2 z => one_run (hc.wr.const h2).1 (stop10 z)
  have i3 : ∀ {c d : Ru} (hc : TelR c) (hd : TelR d) (h1 : c.kind = 1) (h3 : d.kind = 3) {x y : List UInt8}, bodyB c ++ 10 :: x = bodyB d ++ 10 :: y → False := fun {c d} hc hd h1 h3 {x y} h => by
    rw [body1 h1, body3 h3, List.append_assoc, List.cons_append] at h
    have := part_at (p := fun c => c ≠ 10 ∧ c ≠ 40) (u := 105 :: 110 :: showI c.input) (c := 10) (d := 40) (by decide) (by decide) (fun b hb => by
      rcases List.mem_cons.1 hb with rfl | hb
      · decide
      · rcases List.mem_cons.1 hb with rfl | hb
        · decide
        · exact num_bytes hc.wr.inp b hb) (op_facts (hd.k3 h3).2.2).1 h
    exact absurd this.2.1 (by decide)
  have i12 : ∀ {c d : Ru} (hc : TelR c) (hd : TelR d) (h1 : c.kind = 1) (h3 : d.kind = 2) {x y : List UInt8}, bodyB c ++ 10 :: x = bodyB d ++ 10 :: y → False := fun {c d} hc hd h1 h2 {x y} h => by
    rw [body1 h1, body2 h2] at h
    have e := one hd h2 y
    rw [← h] at e
    have := one_i (110 :: showI c.input ++ 10 :: x)
    rw [show (105 :: (110 :: showI c.input ++ 10 :: x)) = (105 :: 110 :: showI c.input) ++ 10 :: x from rfl, e] at this
    cases this
  have i23 : ∀ {c d : Ru} (hc : TelR c) (hd : TelR d) (h1 : c.kind = 2) (h3 : d.kind = 3) {x y : List UInt8}, bodyB c ++ 10 :: x = bodyB d ++ 10 :: y → False := fun {c d} hc hd h2 h3 {x y} h => by
    rw [body2 h2, body3 h3, List.append_assoc, List.cons_append] at h
    have e := one hc h2 x
    rw [h, ] at e
    have := (op_facts (hd.k3 h3).2.2).2 ((d.args.flatMap inB ++ [41]) ++ 10 :: y)
    rw [e] at this
    cases this
  rcases ha.kind with ka | ka | ka <;> rcases hb.kind with kb | kb | kb
  · rw [body1 ka, body1 kb] at h
    simp only [List.cons_append, List.cons.injEq, true_and] at h
    obtain ⟨h1, h2⟩ := num_inj ha.wr.inp hb.wr.inp (stop10 _) (stop10 _) h
    simp at h2
    obtain ⟨a1, a2, a3⟩ := ha.k1 ka
    obtain ⟨b1, b2, b3⟩ := hb.k1 kb
    exact ⟨⟨by rw [ka, kb], h1, by rw [a1, b1], by rw [a2, b2], by rw [a3, b3]⟩, h2⟩
  · exact (i12 ha hb ka kb h).elim
  · exact (i3 ha hb ka kb h).elim
  · exact (i12 hb ha kb ka h.symm).elim
  · rw [body2 ka, body2 kb] at h
    have e1 := one ha ka x
    have e2 := one hb kb y
    rw [h, e2] at e1
    simp at e1
    obtain ⟨a1, a2, a3⟩ := ha.k2 ka
    obtain ⟨b1, b2, b3⟩ := hb.k2 kb
    exact ⟨⟨by rw [ka, kb], by rw [a1, b1], e1.1.symm, by rw [a2, b2], by rw [a3, b3]⟩, e1.2.symm⟩
  · exact (i23 ha hb ka kb h).elim
  · exact (i3 hb ha kb ka h.symm).elim
  · exact (i23 hb ha kb ka h.symm).elim
  · rw [body3 ka, body3 kb] at h
    simp only [List.append_assoc, List.cons_append] at h
    obtain ⟨a1, a2, a3⟩ := ha.k3 ka
    obtain ⟨b1, b2, b3⟩ := hb.k3 kb
    obtain ⟨h1, _, h⟩ := part_at (p := fun c => c ≠ 10 ∧ c ≠ 40) (by decide) (by decide) (op_facts a3).1 (op_facts b3).1 h
    obtain ⟨h2, h⟩ := flat_inj (P := nOk) (fun a b x y pa pb h => inB_inj pa pb h) (fun a z pa => inB_ne pa z _ (c := 41) (by constructor <;> (try unfold digC) <;> decide)) (fun a z pa => inB_ne pa z _ (c := 41) (by constructor <;> (try unfold digC) <;> decide)) ha.wr.args hb.wr.args h
    simp at h
    exact ⟨⟨by rw [ka, kb], by rw [a1, b1], by rw [a2, b2], bs_inj h1, h2⟩, h⟩
theorem ruB_inj {a b : Ru} (ha : TelR a) (hb : TelR b) {x y : List UInt8} (h : ruB a ++ x = ruB b ++ y) : a = b ∧ x = y := by
  simp only [ruB, List.append_assoc, List.cons_append, List.nil_append] at h
  obtain ⟨h1, h⟩ := num_inj ha.wr.sym hb.wr.sym (stop61 _) (stop61 _) h
  simp only [List.cons.injEq, true_and] at h
  obtain ⟨⟨h2, h3, h4, h5, h6⟩, h⟩ := body_inj ha hb h
  exact ⟨ru_ext h1 h2 h3 h5 h6 h4, h⟩
theorem validR_tel {l : La} {r : Ru} (hl : ValidL l) (hw : wideR r) (h : ValidR l r) : TelR r := by
  refine ⟨validR_wr hl hw h, ?_, fun hk => ?_, fun hk => ?_, fun hk => ?_⟩
  · rcases h.2 with q | q | q
    · exact .inl q.1
    · exact .inr (.inl q.1)
    · exact .inr (.inr q.1)
  · rcases h.2 with q | q | q
    · exact ⟨q.2.1, q.2.2.1, q.2.2.2.1⟩
    · have := q.1; omega
    · have := q.1; omega
  · rcases h.2 with q | q | q
    · have := q.1; omega
    · exact ⟨q.2.1, q.2.2.1, q.2.2.2.1⟩
    · have := q.1; omega
  · rcases h.2 with q | q | q
    · have := q.1; omega
    · have := q.1; omega
    · obtain ⟨_, q2, q3, o, q4, _⟩ := q
      exact ⟨q2, q3, op_size q4⟩
theorem textB_inj {a b : La} (wa : wideL a) (wb : wideL b) (ha : ValidL a) (hb : ValidL b) (h : textB a = textB b) : a = b := by
  simp only [textB, List.append_assoc, List.cons_append, List.nil_append] at h
  obtain ⟨h1, _, h⟩ := name_inj (name_bytes ha.name) (name_bytes hb.name) (not_nam (by decide)) (not_nam (by decide)) h
  have la := validL_wr wa ha
  have lb := validL_wr wb hb
  obtain ⟨h2, h⟩ := flat_inj (P := nOk) (fun a b x y pa pb h => inB_inj pa pb h) (fun a z pa => inB_ne pa z _ (c := 10) (by constructor <;> (try unfold digC) <;> decide)) (fun a z pa => inB_ne pa z _ (c := 10) (by constructor <;> (try unfold digC) <;> decide)) la.ins lb.ins h
  simp only [List.cons.injEq, true_and] at h
  have hsy : ∀ {l : La}, wideL l → ValidL l → ∀ x ∈ l.symbols, symOk x := fun hw hv x hx => by
    refine ⟨?_, ((validL_wr hw hv).names x hx).2⟩
    obtain ⟨i, hi, rfl⟩ := List.mem_iff_getElem.1 hx
    exact hv.names i hi
  have hn10 : ¬ letC 10 := by unfold letC; decide
  obtain ⟨h3, h⟩ := flat_inj (P := symOk) (fun a b x y pa pb h => syB_inj pa pb h) (fun a z pa => syB_ne pa z _ hn10) (fun a z pa => syB_ne pa z _ hn10) (hsy wa ha) (hsy wb hb) h
  simp only [List.cons.injEq, true_and] at h
  have hru : ∀ {l : La}, wideL l → ValidL l → ∀ x ∈ l.rules, TelR x := fun hw hv x hx => by
    obtain ⟨i, hi, rfl⟩ := List.mem_iff_getElem.1 hx
    exact validR_tel hv (hw.wide _ (List.getElem_mem hi)) (hv.valid i hi)
  have hne : ∀ (r : Ru) (z : List UInt8), ruB r ++ z ≠ [] := fun r z h => by
    have := congrArg List.length h
    simp [ruB] at this
  obtain ⟨h4, _⟩ := flat_inj (X := []) (Y := []) (P := TelR) (fun a b x y pa pb h => ruB_inj pa pb h) (fun r z _ => hne r z) (fun r z _ => hne r z) (hru wa ha) (hru wb hb) (by simpa using h)
  exact la_ext h1 h2 h3 h4
theorem texts_iff {a b : La} (wa : wideL a) (wb : wideL b) (ha : ValidL a) (hb : ValidL b) : Ev (synthesisref11_Texts a b) fun c => c = true ↔ a = b := by
  simp only [synthesisref11_Texts, (text_both (validL_wr wa ha)).2, (text_both (validL_wr wb hb)).2, Option.bind_some]
  refine ev_some ?_
  rw [beqB_iff]
  refine ⟨fun h => textB_inj wa wb ha hb ?_, fun h => by rw [h]⟩
  have := congrArg (fun s : ByteArray => s.data.toList) h
  simpa [mkB_data] using this
theorem law_GrammarPrints (a0 a1 : La) (h0 : wideL a0) (h1 : wideL a1) : synthesislaw11_GrammarPrints_h a0 a1 = some true := by
  obtain ⟨b, hb, hb2⟩ := smallL_some h0
  obtain ⟨d, hd, hd2⟩ := smallL_some h1
  unfold synthesislaw11_GrammarPrints_h
  rw [hb, hd, awake11]
  cases b with
  | false => rfl
  | true =>
    cases d with
    | false => rfl
    | true =>
      obtain ⟨x, x1, _, x2⟩ := finger h0 (hb2 rfl)
      obtain ⟨y, y1, _, y2⟩ := finger h1 (hd2 rfl)
      obtain ⟨s, s1, s2⟩ := same_prog (hb2 rfl).mod (hd2 rfl).mod
      simp only [Bool.not_true, cond_false, Option.bind_some, x1, y1]
      cases hx : (x.2 != 0) with
      | true => rfl
      | false =>
        cases hy : (y.2 != 0) with
        | true => simp only [cond_false, Option.bind_some, cond_true]
        | false =>
          have vx := x2 (bne_eq_false_iff_eq.1 hx)
          have vy := y2 (bne_eq_false_iff_eq.1 hy)
          obtain ⟨t, t1, t2⟩ := texts_iff h0 h1 vx vy
          obtain rfl : t = s := Bool.eq_iff_iff.2 (t2.trans s2.symm)
          simp only [cond_false, Option.bind_some, t1, s1, beq_self_eq_true, Bool.not_true]
          cases t with
          | false => rfl
          | true =>
            obtain rfl := s2.1 rfl
            obtain rfl : x = y := by rw [x1] at y1; exact Option.some.inj y1
            simp only [Bool.not_true, cond_false, beq_self_eq_true, cond_true, Option.bind_some]
end Go.Proofs.YtfhmljjkhjifeaaGreatDoor
