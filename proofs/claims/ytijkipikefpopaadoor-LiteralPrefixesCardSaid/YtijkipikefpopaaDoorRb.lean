/- What the program reads and what the reference reads is what one reader reads: lists, rows, values. -/
import Derived.Test.YtijkipikefpopaaDoorRa
set_option linter.unusedVariables false
set_option linter.unusedSimpArgs false
set_option maxRecDepth 10000
namespace Go.Proofs.YtijkipikefpopaaDoor
open Go Go.RowKit

theorem bits_step {s : ByteArray} (hs : s.size ≤ 1000000) (i0 : Int) {m : Int} {j k : Nat} (hm : 0 ≤ m ∧ m ≤ 255) (hj : j < 2) (hk : k ≤ s.size) :
    literal_reader_bits_h_l1 ⟨s, i0⟩ (m, (j : Int), (k : Int)) = some (if hexV (atI s k) < 0 then .inr (.inr (k : Int)) else .inl (16 * m + hexV (atI s k), ((j + 1 : Nat) : Int), ((k + 1 : Nat) : Int))) := by
  have e0 : decide ((j : Int) < 2) = true := decide_eq_true (by omega)
  have hx : hexV (atI s k) ≤ 15 := by unfold hexV; split <;> (try split) <;> omega
  by_cases h : hexV (atI s k) < 0
  · rw [if_pos h]
    have d1 : decide (hexV (atI s k) < 0) = true := decide_eq_true h
    cases hd : decide ((s.size : Int) ≤ (k : Int)) <;>
      simp only [literal_reader_bits_h_l1, e0, cond_true, cond_false, peek_eq, Option.bind_some, (hex_eq s k).1, hd, d1]
  · rw [if_neg h]
    have d1 : decide (hexV (atI s k) < 0) = false := decide_eq_false h
    have hk' : k < s.size := at_in fun h0 => h (by rw [h0]; decide)
    have hd : decide ((s.size : Int) ≤ (k : Int)) = false := decide_eq_false (by omega)
    have w1 : w64 (16 * m) = 16 * m := w64_eq (by omega) (by omega)
    have w2 : w64 (16 * m + hexV (atI s k)) = 16 * m + hexV (atI s k) := w64_eq (by omega) (by omega)
    simp only [literal_reader_bits_h_l1, e0, cond_true, cond_false, peek_eq, Option.bind_some, (hex_eq s k).1, hd, d1, w1, w2, w64s j (by omega), w64s k (by omega)]
theorem bits_eq {s : ByteArray} (hs : s.size ≤ 1000000) {i : Nat} (hi : i + 2 ≤ s.size) : literal_reader_bits_h ⟨s, (i : Int)⟩ = some ((bitsP.ev s (i + 2)).1.isSome, ((bitsP.ev s (i + 2)).2 : Int), (bitsP.ev s (i + 2)).1.elim 0 (fun _ => 4), (bitsP.ev s (i + 2)).1.getD 0) := by
  obtain ⟨n, hn⟩ : ∃ n, fuel = n + 3 := ⟨18446744073709551613, rfl⟩
  have ew : w64 ((i : Int) + 2) = ((i + 2 : Nat) : Int) := w64_eq (by omega) (by omega)
  have h1 : literal_reader_bits_h_l1 ⟨s, (i : Int)⟩ (0, 0, ((i + 2 : Nat) : Int)) = _ := bits_step hs (i : Int) (m := 0) (j := 0) (k := i + 2) (by omega) (by omega) hi
  unfold literal_reader_bits_h
  rw [show (⟨s, (i : Int)⟩ : S_literal_reader).f_at = (i : Int) from rfl, ew, hn]
  unfold bitsP
  simp only [Pr.ev]
  by_cases h : hexV (atI s (i + 2)) < 0
  · rw [if_pos h] at h1 ⊢
    rw [lp_out (n := n + 2) h1]
    rfl
  · rw [if_neg h] at h1 ⊢
    have hx : hexV (atI s (i + 2)) ≤ 15 := by unfold hexV; split <;> (try split) <;> omega
    have hk' : i + 2 < s.size := at_in fun h0 => h (by rw [h0]; decide)
    have h2 := bits_step hs (i : Int) (m := 16 * 0 + hexV (atI s (i + 2))) (j := 1) (k := i + 2 + 1) (by omega) (by omega) hk'
    rw [lp_go (n := n + 2) h1]
    simp only [Pr.ev]
    by_cases h' : hexV (atI s (i + 2 + 1)) < 0
    · rw [if_pos h'] at h2 ⊢
      rw [lp_out (n := n + 1) h2]
      rfl
    · rw [if_neg h'] at h2 ⊢
      rw [lp_go (n := n + 1) h2]
      rw [lp_out (n := n) (b := .inl (16 * (16 * 0 + hexV (atI s (i + 2))) + hexV (atI s (i + 2 + 1)), ((i + 2 + 1 + 1 : Nat) : Int))) rfl]
      simp only [Option.bind_some, Sum.elim_inl, Pr.ev, Option.isSome_some, Option.elim_some, Option.getD_some]
      rw [show 16 * (16 * 0 + hexV (atI s (i + 2))) + hexV (atI s (i + 2 + 1)) = hexV (atI s (i + 2)) * 16 + hexV (atI s (i + 2 + 1)) by omega]

/-! lists -/
theorem list_loop {τ β : Type} {step : τ → Option (τ ⊕ β)} {s : ByteArray} {e : Int} {least most : Nat} {elem : List Va → Pr Va} (hg : ∀ l, (elem l).good false) (mk : Nat → List Va → τ) (Q : Option (List Va) × Nat → β → Prop) (Inv : List Va → Prop)
    (hi : ∀ acc i v j, Inv acc → (elem acc).ev s i = (some v, j) → Inv (acc ++ [v]))
    (hstep : ∀ i acc x, i ≤ s.size → acc.length < most → Inv acc → (elem acc).ev s i = x →
      (x.1 = none → ∃ b, step (mk i acc) = some (.inr b) ∧ Q (none, x.2) b) ∧
      ∀ v, x.1 = some v →
        ((atI s x.2 = e ∧ least ≤ acc.length + 1) → ∃ b, step (mk i acc) = some (.inr b) ∧ Q (some (acc ++ [v]), x.2 + 1) b) ∧
        (¬ (atI s x.2 = e ∧ least ≤ acc.length + 1) → acc.length + 1 = most → ∃ b, step (mk i acc) = some (.inr b) ∧ Q (none, x.2) b) ∧
        (¬ (atI s x.2 = e ∧ least ≤ acc.length + 1) → acc.length + 1 ≠ most → ((wordP [44, 32]).ev s x.2).1 = none → ∃ b, step (mk i acc) = some (.inr b) ∧ Q (none, ((wordP [44, 32]).ev s x.2).2) b) ∧
        (¬ (atI s x.2 = e ∧ least ≤ acc.length + 1) → acc.length + 1 ≠ most → ((wordP [44, 32]).ev s x.2).1 ≠ none → step (mk i acc) = some (.inl (mk ((wordP [44, 32]).ev s x.2).2 (acc ++ [v]))))) :
    ∀ k acc i n, acc.length + 1 + k = most → Inv acc → i ≤ s.size → k < n → ∃ b, loopN step n (mk i acc) = some b ∧ Q (((elem acc).bind fun v => listP e least elem k (acc ++ [v])).ev s i) b := by
  intro k
  induction k with
  | zero =>
    intro acc i n hk hI hi' hn
    obtain ⟨n, rfl⟩ : ∃ m, n = m + 1 := ⟨n - 1, by omega⟩
    obtain ⟨h1, h2⟩ := hstep i acc _ hi' (by omega) hI rfl
    rw [ev_bind]
    rcases hx : (elem acc).ev s i with ⟨_ | v, j⟩
    · rw [hx] at h1
      obtain ⟨b, hb, hq⟩ := h1 rfl
      exact ⟨b, lp_out hb, hq⟩
    · rw [hx] at h2
      obtain ⟨q1, q2, _⟩ := h2 v rfl
      show ∃ b, _ ∧ Q ((listP e least elem 0 (acc ++ [v])).ev s j) b
      unfold listP
      simp only [Pr.ev, List.length_append, List.length_singleton]
      by_cases hc : atI s j = e ∧ least ≤ acc.length + 1
      · obtain ⟨b, hb, hq⟩ := q1 hc
        rw [if_pos hc]
        exact ⟨b, lp_out hb, hq⟩
      · obtain ⟨b, hb, hq⟩ := q2 hc (by omega)
        rw [if_neg hc]
        exact ⟨b, lp_out hb, hq⟩
  | succ k ih =>
    intro acc i n hk hI hi' hn
    obtain ⟨n, rfl⟩ : ∃ m, n = m + 1 := ⟨n - 1, by omega⟩
    obtain ⟨h1, h2⟩ := hstep i acc _ hi' (by omega) hI rfl
    rw [ev_bind]
    have hle := ev_le' (s := s) (hg acc) hi'
    rcases hx : (elem acc).ev s i with ⟨_ | v, j⟩
    · rw [hx] at h1
      obtain ⟨b, hb, hq⟩ := h1 rfl
      exact ⟨b, lp_out hb, hq⟩
    · rw [hx] at h2 hle
      obtain ⟨q1, q2, q3, q4⟩ := h2 v rfl
      show ∃ b, _ ∧ Q ((listP e least elem (k + 1) (acc ++ [v])).ev s j) b
      unfold listP
      simp only [Pr.ev, List.length_append, List.length_singleton]
      by_cases hc : atI s j = e ∧ least ≤ acc.length + 1
      · obtain ⟨b, hb, hq⟩ := q1 hc
        rw [if_pos hc]
        exact ⟨b, lp_out hb, hq⟩
      · rw [if_neg hc, if_neg (by omega), ev_bind]
        have hle2 := ev_le' (s := s) (wordP_good (w := [44, 32]) (by decide)) hle.2
        rcases hw : (wordP [44, 32]).ev s j with ⟨_ | u, j'⟩
        · rw [hw] at q3
          obtain ⟨b, hb, hq⟩ := q3 hc (by omega) rfl
          exact ⟨b, lp_out hb, hq⟩
        · rw [hw] at q4 hle2
          have hb := q4 hc (by omega) (by exact fun h => by cases h)
          rw [lp_go hb]
          exact ih (acc ++ [v]) j' n (by simp; omega) (hi acc i v j hI hx) hle2.2 (by omega)
/-- what a list's reading answers -/
def lQ (x : Option (List Va) × Nat) (b : List Va × Bool × Int) : Prop := b.2.1 = x.1.isSome ∧ b.2.2 = (x.2 : Int) ∧ ∀ l, x.1 = some l → b.1 = l
theorem sep_eq {s : ByteArray} (hs : s.size ≤ 1000000) {j : Nat} (hj : j ≤ s.size) : literal_reader_word_h ⟨s, (j : Int)⟩ (⟨#[44, 32]⟩ : ByteArray) = some (((wordP [44, 32]).ev s j).1.isSome, (((wordP [44, 32]).ev s j).2 : Int)) := word_eq hs (by decide) (by decide) hj
theorem open_eq {s : ByteArray} (hs : s.size ≤ 1000000) {i : Nat} (hi : i ≤ s.size) (c : UInt8) (hc : c ≠ 0) : literal_reader_word_h ⟨s, (i : Int)⟩ (⟨#[c]⟩ : ByteArray) = some (if atI s i = (c.toNat : Int) then (true, ((i + 1 : Nat) : Int)) else (false, (i : Int))) := by
  have hc0 : (c.toNat : Int) ≠ 0 := by
    intro h
    apply hc
    have : c.toNat = 0 := by omega
    exact UInt8.toNat.inj this
  rw [word_eq hs (by show 1 ≤ 1000000; omega) (by intro x hx; simp [wl] at hx; rw [hx]; exact hc0) hi, show wl (⟨#[c]⟩ : ByteArray) = [(c.toNat : Int)] from rfl]
  simp only [wordP, Pr.ev]
  by_cases h : atI s i = (c.toNat : Int)
  · rw [if_pos h, if_pos h]; rfl
  · rw [if_neg h, if_neg h]; rfl
/-- what comes behind an element -/
def tailR {γ : Type} (s : ByteArray) (j : Nat) (c : Int) (most len : Nat) (A B C : Int → γ) : Option γ :=
  some (if atI s j = c then A ((j + 1 : Nat) : Int) else if len = most then B (j : Int) else if ((wordP [44, 32]).ev s j).1 = none then B (((wordP [44, 32]).ev s j).2 : Int) else C (((wordP [44, 32]).ev s j).2 : Int))
theorem tail_eq {γ : Type} {s : ByteArray} (hs : s.size ≤ 1000000) {j : Nat} (hj : j ≤ s.size) (c : Int) (hc : c ≠ 0) (most : Nat) (acc : List Va) (A B C : Int → γ) :
    (Option.bind (literal_reader_peek_h ⟨s, (j : Int)⟩) fun v6 => (bif (v6 == c) then some (A (w64 ((j : Int) + 1))) else (Option.bind ((bif ((List.length acc : Int) == (most : Int)) then (some (true, (j : Int))) else (Option.bind (literal_reader_word_h ⟨s, (j : Int)⟩ (⟨#[44, 32]⟩ : ByteArray)) fun v7 => (some ((!v7.1), v7.2)))) : Option ((Bool) × (Int))) fun (v9 : (Bool) × (Int)) => (bif v9.1 then some (B v9.2) else some (C v9.2))))) =
      tailR s j c most acc.length A B C := by
  unfold tailR
  rw [peek_eq, Option.bind_some]
  by_cases h : atI s j = c
  · rw [if_pos h, show (atI s j == c) = true by rw [h]; simp, w64s j (by omega)]; rfl
  · rw [if_neg h, show (atI s j == c) = false by simpa using h, cond_false]
    by_cases hl : acc.length = most
    · rw [if_pos hl, show ((acc.length : Int) == (most : Int)) = true by simp; omega]; rfl
    · rw [if_neg hl, show ((acc.length : Int) == (most : Int)) = false by simp; omega, cond_false, sep_eq hs hj]
      cases ((wordP [44, 32]).ev s j).1 <;> rfl
theorem intE_ev (s : ByteArray) (i : Nat) : intE.ev s i = ((numP.ev s i).1.map fun a => Va.mk 2 a ⟨#[]⟩ [], (numP.ev s i).2) := by
  unfold intE; rw [ev_bind]
  rcases numP.ev s i with ⟨_ | a, j⟩ <;> rfl
theorem textE_ev (s : ByteArray) (i : Nat) : textE.ev s i = (((textP 0 64).ev s i).1.map fun a => Va.mk 3 0 (toBA a) [], ((textP 0 64).ev s i).2) := by
  unfold textE; rw [ev_bind]
  rcases (textP 0 64).ev s i with ⟨_ | a, j⟩ <;> rfl
/-- the step of a list, from what the element's reading answers -/
theorem list_hstep {τ β : Type} {step : τ → Option (τ ⊕ β)} {s : ByteArray} {c : Int} {most : Nat} {elem : List Va → Pr Va} (hg : ∀ l, (elem l).good false) {mk : Nat → List Va → τ} {Q : Option (List Va) × Nat → β → Prop} {Inv : List Va → Prop}
    (h : ∀ i acc, i ≤ s.size → acc.length < most → Inv acc → (∀ j, (elem acc).ev s i = (none, j) → ∃ b, step (mk i acc) = some (.inr b) ∧ Q (none, j) b) ∧
      ∀ v j, (elem acc).ev s i = (some v, j) → ∃ A B C : Int → τ ⊕ β, step (mk i acc) = tailR s j c most (acc ++ [v]).length A B C ∧
        (∀ z : Nat, ∃ b, A (z : Int) = .inr b ∧ Q (some (acc ++ [v]), z) b) ∧ (∀ z : Nat, ∃ b, B (z : Int) = .inr b ∧ Q (none, z) b) ∧ ∀ z : Nat, C (z : Int) = .inl (mk z (acc ++ [v]))) :
    ∀ i acc x, i ≤ s.size → acc.length < most → Inv acc → (elem acc).ev s i = x →
      (x.1 = none → ∃ b, step (mk i acc) = some (.inr b) ∧ Q (none, x.2) b) ∧
      ∀ v, x.1 = some v →
        ((atI s x.2 = c ∧ 0 ≤ acc.length + 1) → ∃ b, step (mk i acc) = some (.inr b) ∧ Q (some (acc ++ [v]), x.2 + 1) b) ∧
        (¬ (atI s x.2 = c ∧ 0 ≤ acc.length + 1) → acc.length + 1 = most → ∃ b, step (mk i acc) = some (.inr b) ∧ Q (none, x.2) b) ∧
        (¬ (atI s x.2 = c ∧ 0 ≤ acc.length + 1) → acc.length + 1 ≠ most → ((wordP [44, 32]).ev s x.2).1 = none → ∃ b, step (mk i acc) = some (.inr b) ∧ Q (none, ((wordP [44, 32]).ev s x.2).2) b) ∧
        (¬ (atI s x.2 = c ∧ 0 ≤ acc.length + 1) → acc.length + 1 ≠ most → ((wordP [44, 32]).ev s x.2).1 ≠ none → step (mk i acc) = some (.inl (mk ((wordP [44, 32]).ev s x.2).2 (acc ++ [v])))) := by
  intro i acc x hi hl hI hx
  obtain ⟨h1, h2⟩ := h i acc hi hl hI
  obtain ⟨_ | v, j⟩ := x
  · exact ⟨fun _ => h1 j hx, fun v h => by cases h⟩
  · refine ⟨fun h => (by cases h), fun v' hv => ?_⟩
    obtain rfl := Option.some.inj hv
    obtain ⟨A, B, C, e, a1, a2, a3⟩ := h2 v j hx
    unfold tailR at e
    rw [List.length_append, List.length_singleton] at e
    refine ⟨fun hc => ?_, fun hc hl => ?_, fun hc hl hw => ?_, fun hc hl hw => ?_⟩
    · rw [if_pos hc.1] at e
      obtain ⟨b, hb, hq⟩ := a1 (j + 1)
      exact ⟨b, by rw [e, hb], hq⟩
    · rw [if_neg (fun h => hc ⟨h, Nat.zero_le _⟩), if_pos hl] at e
      obtain ⟨b, hb, hq⟩ := a2 j
      exact ⟨b, by rw [e, hb], hq⟩
    · rw [if_neg (fun h => hc ⟨h, Nat.zero_le _⟩), if_neg hl, if_pos hw] at e
      obtain ⟨b, hb, hq⟩ := a2 ((wordP [44, 32]).ev s j).2
      exact ⟨b, by rw [e, hb], hq⟩
    · rw [if_neg (fun h => hc ⟨h, Nat.zero_le _⟩), if_neg hl, if_neg hw] at e
      rw [e, a3]
theorem ints_loop {s : ByteArray} (hs : s.size ≤ 1000000) (i0 : Int) : ∀ k (acc : List Va) (i n : Nat), acc.length + 1 + k = 16 → True → i ≤ s.size → k < n →
    ∃ b, loopN (literal_reader_list_h_l1 ⟨s, i0⟩ 93 16) n ((i : Int), acc) = some b ∧ lQ ((intE.bind fun v => listP 93 0 (fun _ => intE) k (acc ++ [v])).ev s i) b := by
  refine list_loop (least := 0) (elem := fun _ => intE) (fun _ => intE_good) (fun i acc => ((i : Int), acc)) lQ (fun _ => True) (fun _ _ _ _ _ _ => trivial) (list_hstep (fun _ => intE_good) ?_)
  intro i acc hi hl _
  have hn := number_eq hs hi
  have hle := ev_le' (s := s) numP_good hi
  simp only [intE_ev]
  generalize numP.ev s i = y at hn hle
  obtain ⟨_ | m, j⟩ := y
  · refine ⟨fun j' h => ?_, fun v j' h => by cases h⟩
    cases h
    exact ⟨([], false, (j : Int)), by simp only [literal_reader_list_h_l1, hn, nOut, Option.bind_some, Option.isSome_none, Bool.not_false, cond_true], rfl, rfl, fun l h => by cases h⟩
  · refine ⟨fun j' h => (by cases h), fun v j' h => ?_⟩
    cases h
    have ha := app_eq (b := 56) (xs := acc) (ys := [Va.mk 2 m ⟨#[]⟩ []]) (by simp; omega)
    refine ⟨fun z => .inr (acc ++ [Va.mk 2 m ⟨#[]⟩ []], true, z), fun z => .inr ([], false, z), fun z => .inl (z, acc ++ [Va.mk 2 m ⟨#[]⟩ []]), Eq.trans ?_ (tail_eq hs hle.2 93 (by decide) 16 (acc ++ [Va.mk 2 m ⟨#[]⟩ []]) _ _ _), fun z => ⟨_, rfl, rfl, rfl, fun l h => by cases h; rfl⟩, fun z => ⟨_, rfl, rfl, rfl, fun l h => by cases h⟩, fun z => rfl⟩
    simp only [literal_reader_list_h_l1, hn, nOut, Option.bind_some, Option.isSome_some, Bool.not_true, cond_false, Option.getD_some, ha]
    rfl
theorem texts_loop {s : ByteArray} (hs : s.size ≤ 1000000) (i0 : Int) : ∀ k (acc : List Va) (i n : Nat), acc.length + 1 + k = 16 → True → i ≤ s.size → k < n →
    ∃ b, loopN (literal_reader_list_h2_l1 ⟨s, i0⟩ 125 16) n ((i : Int), acc) = some b ∧ lQ ((textE.bind fun v => listP 125 0 (fun _ => textE) k (acc ++ [v])).ev s i) b := by
  refine list_loop (least := 0) (elem := fun _ => textE) (fun _ => textE_good) (fun i acc => ((i : Int), acc)) lQ (fun _ => True) (fun _ _ _ _ _ _ => trivial) (list_hstep (fun _ => textE_good) ?_)
  intro i acc hi hl _
  have hn := text_eq (least := 0) (most := 64) hs (by decide) hi
  have hle := ev_le' (s := s) (textP_good 0 64) hi
  simp only [textE_ev]
  have hn' : literal_reader_text_h ⟨s, (i : Int)⟩ 0 64 = some (tOut ((textP 0 64).ev s i)) := hn
  generalize (textP 0 64).ev s i = y at hn' hle
  obtain ⟨_ | m, j⟩ := y
  · refine ⟨fun j' h => ?_, fun v j' h => by cases h⟩
    cases h
    exact ⟨([], false, (j : Int)), by simp only [literal_reader_list_h2_l1, literal_reader_element_h, hn', tOut, Option.bind_some, Option.isSome_none, Bool.not_false, cond_true], rfl, rfl, fun l h => by cases h⟩
  · refine ⟨fun j' h => (by cases h), fun v j' h => ?_⟩
    cases h
    have ha := app_eq (b := 56) (xs := acc) (ys := [Va.mk 3 0 (toBA m) []]) (by simp; omega)
    refine ⟨fun z => .inr (acc ++ [Va.mk 3 0 (toBA m) []], true, z), fun z => .inr ([], false, z), fun z => .inl (z, acc ++ [Va.mk 3 0 (toBA m) []]), Eq.trans ?_ (tail_eq hs hle.2 125 (by decide) 16 (acc ++ [Va.mk 3 0 (toBA m) []]) _ _ _), fun z => ⟨_, rfl, rfl, rfl, fun l h => by cases h; rfl⟩, fun z => ⟨_, rfl, rfl, rfl, fun l h => by cases h⟩, fun z => rfl⟩
    simp only [literal_reader_list_h2_l1, literal_reader_element_h, hn', tOut, Option.bind_some, Option.isSome_some, Bool.not_true, cond_false, Option.elim_some, ha]
    rfl
theorem list_eq {s : ByteArray} (hs : s.size ≤ 1000000) {i : Nat} (hi : i ≤ s.size) (h91 : atI s i = 91) : ∃ b, literal_reader_list_h ⟨s, (i : Int)⟩ 91 93 16 = some b ∧ lQ ((listP 93 0 (fun _ => intE) 16 []).ev s (i + 1)) b := by
  have hi' : i + 1 ≤ s.size := at_in (by omega)
  have ho := open_eq hs hi 91 (by decide)
  rw [if_pos (by rw [h91]; rfl)] at ho
  have ho' : literal_reader_word_h ⟨s, (i : Int)⟩ (Utf8.encode 91) = some (true, ((i + 1 : Nat) : Int)) := ho
  unfold literal_reader_list_h listP
  simp only [ho', Option.bind_some, Bool.not_true, cond_false, peek_eq, Pr.ev]
  by_cases hc : atI s (i + 1) = 93
  · rw [if_pos ⟨hc, Nat.le_refl _⟩, show (atI s (i + 1) == 93) = true by rw [hc]; rfl]
    exact ⟨_, rfl, rfl, w64s (i + 1) (by omega), fun l h => by cases h; rfl⟩
  · rw [if_neg (fun h => hc h.1), show (atI s (i + 1) == 93) = false by simpa using hc, cond_false]
    obtain ⟨b, hb, hq⟩ := ints_loop hs i 15 [] (i + 1) fuel rfl trivial hi' (lt_fuel (by omega))
    rw [hb]
    refine ⟨b, rfl, ?_⟩
    simpa [Pr.bind] using hq
theorem list2_eq {s : ByteArray} (hs : s.size ≤ 1000000) {i : Nat} (hi : i ≤ s.size) (h91 : atI s i = 123) : ∃ b, literal_reader_list_h2 ⟨s, (i : Int)⟩ 123 125 16 = some b ∧ lQ ((listP 125 0 (fun _ => textE) 16 []).ev s (i + 1)) b := by
  have hi' : i + 1 ≤ s.size := at_in (by omega)
  have ho := open_eq hs hi 123 (by decide)
  rw [if_pos (by rw [h91]; rfl)] at ho
  have ho' : literal_reader_word_h ⟨s, (i : Int)⟩ (Utf8.encode 123) = some (true, ((i + 1 : Nat) : Int)) := ho
  unfold literal_reader_list_h2 listP
  simp only [ho', Option.bind_some, Bool.not_true, cond_false, peek_eq, Pr.ev]
  by_cases hc : atI s (i + 1) = 125
  · rw [if_pos ⟨hc, Nat.le_refl _⟩, show (atI s (i + 1) == 125) = true by rw [hc]; rfl]
    exact ⟨_, rfl, rfl, w64s (i + 1) (by omega), fun l h => by cases h; rfl⟩
  · rw [if_neg (fun h => hc h.1), show (atI s (i + 1) == 125) = false by simpa using hc, cond_false]
    obtain ⟨b, hb, hq⟩ := texts_loop hs i 15 [] (i + 1) fuel rfl trivial hi' (lt_fuel (by omega))
    rw [hb]
    refine ⟨b, rfl, ?_⟩
    simpa [Pr.bind] using hq
/-! rows -/
def colsOf : List Va → Nat
  | [] => 0
  | r :: _ => r.items.length
/-- the first row has one column at least, eight at most -/
def InvR (acc : List Va) : Prop := ∀ r ∈ acc, 1 ≤ r.items.length ∧ r.items.length ≤ 8
def rQ (cols : Nat) (x : Option (List Va) × Nat) (b : Bool × Int × Int × Int × List Va) : Prop := b.1 = x.1.isSome ∧ b.2.1 = (x.2 : Int) ∧ ∀ l, x.1 = some l → b.2.2.1 = (l.length : Int) ∧ b.2.2.2.1 = 6 ∧ b.2.2.2.2 = l
def rowG (least most : Nat) : Pr Va := .peek fun c => if c = 123 then .adv ((listP 125 least (fun _ => textE) most []).bind fun l => .done (Va.mk 6 0 ⟨#[]⟩ l)) else .fail
theorem row_loop {s : ByteArray} (hs : s.size ≤ 1000000) (i0 : Int) (cols least most : Nat) (hcl : (cols = 0 ∧ least = 1 ∧ most = 8) ∨ (1 ≤ cols ∧ cols ≤ 8 ∧ least = cols ∧ most = cols)) : ∀ k (acc : List Va) (i n : Nat), acc.length + 1 + k = most → True → i ≤ s.size → k < n →
    ∃ b, loopN (literal_reader_rows_1_h_l1 ⟨s, i0⟩ (cols : Int)) n ((i : Int), acc) = some b ∧ rQ cols ((textE.bind fun v => listP 125 least (fun _ => textE) k (acc ++ [v])).ev s i) b := by
  refine list_loop (least := least) (elem := fun _ => textE) (fun _ => textE_good) (fun i acc => ((i : Int), acc)) (rQ cols) (fun _ => True) (fun _ _ _ _ _ _ => trivial) ?_
  intro i acc x hi hl _ hx
  have hn := text_eq (least := 0) (most := 64) hs (by decide) hi
  have hle := ev_le' (s := s) (textP_good 0 64) hi
  simp only [textE_ev] at hx
  have hn' : literal_reader_text_h ⟨s, (i : Int)⟩ 0 64 = some (tOut ((textP 0 64).ev s i)) := hn
  generalize (textP 0 64).ev s i = y at hn' hle hx
  have hm8 : most ≤ 8 := by omega
  obtain ⟨_ | m, j⟩ := y
  · subst hx
    refine ⟨fun _ => ?_, fun v h => by cases h⟩
    exact ⟨(false, (j : Int), (cols : Int), 0, []), by simp only [literal_reader_rows_1_h_l1, literal_reader_element_h, hn', tOut, Option.bind_some, Option.isSome_none, Bool.not_false, cond_true], rfl, rfl, fun l h => by cases h⟩
  · subst hx
    refine ⟨fun h => (by cases h), fun v hv => ?_⟩
    obtain rfl := Option.some.inj hv
    simp only
    have hj := hle.2
    simp only at hj
    have ha := app_eq (b := 56) (xs := acc) (ys := [Va.mk 3 0 (toBA m) []]) (by simp; omega)
    have hlen : ((List.length (acc ++ [Va.mk 3 0 (toBA m) []]) : Nat) : Int) = ((acc.length + 1 : Nat) : Int) := by rw [List.length_append]; rfl
    have e7 : (bif (atI s j == 125) then (bif ((cols : Int) == 0) then (some (true)) else (some (((acc.length + 1 : Nat) : Int) == (cols : Int)))) else (some (false)) : Option Bool) = some (decide (atI s j = 125 ∧ least ≤ acc.length + 1)) := by
      by_cases h : atI s j = 125
      · rw [show (atI s j == 125) = true by rw [h]; rfl, cond_true]
        rcases hcl with ⟨h1, h2, h3⟩ | ⟨h1, h2, h3, h4⟩
        · rw [show ((cols : Int) == 0) = true by simp; omega, decide_eq_true ⟨h, by omega⟩]; rfl
        · rw [show ((cols : Int) == 0) = false by simp; omega, cond_false]
          congr 1
          by_cases hc : acc.length + 1 = cols
          · rw [decide_eq_true ⟨h, by omega⟩, hc]; simp
          · rw [decide_eq_false (by omega)]; simp; omega
      · rw [show (atI s j == 125) = false by simpa using h, cond_false, decide_eq_false (fun h' => h h'.1)]
    have e8 : (bif (((acc.length + 1 : Nat) : Int) == 8) then (some (true, (j : Int))) else (bif (((acc.length + 1 : Nat) : Int) == (cols : Int)) then (some (true, (j : Int))) else (Option.bind (literal_reader_word_h ⟨s, (j : Int)⟩ (⟨#[44, 32]⟩ : ByteArray)) fun v8 => (some ((!v8.1), v8.2)))) : Option (Bool × Int)) =
        if acc.length + 1 = most then some (true, (j : Int)) else some (!((wordP [44, 32]).ev s j).1.isSome, (((wordP [44, 32]).ev s j).2 : Int)) := by
      by_cases hc : acc.length + 1 = most
      · rw [if_pos hc]
        rcases hcl with ⟨h1, h2, h3⟩ | ⟨h1, h2, h3, h4⟩
        · rw [show (((acc.length + 1 : Nat) : Int) == 8) = true by rw [hc, h3]; rfl]; rfl
        · rw [show (((acc.length + 1 : Nat) : Int) == (cols : Int)) = true by simp; omega]
          cases (((acc.length + 1 : Nat) : Int) == 8) <;> rfl
      · rw [if_neg hc, show (((acc.length + 1 : Nat) : Int) == 8) = false by rw [beq_eq_false_iff_ne]; omega, show (((acc.length + 1 : Nat) : Int) == (cols : Int)) = false by rw [beq_eq_false_iff_ne]; omega, sep_eq hs hj]
        rfl
    have base : literal_reader_rows_1_h_l1 ⟨s, i0⟩ (cols : Int) ((i : Int), acc) = (bif decide (atI s j = 125 ∧ least ≤ acc.length + 1) then some (.inr (true, ((j + 1 : Nat) : Int), ((acc.length + 1 : Nat) : Int), 6, acc ++ [Va.mk 3 0 (toBA m) []])) else Option.bind (if acc.length + 1 = most then some (true, (j : Int)) else some (!((wordP [44, 32]).ev s j).1.isSome, (((wordP [44, 32]).ev s j).2 : Int))) fun v10 => bif v10.1 then some (.inr (false, v10.2, (cols : Int), 0, [])) else some (.inl (v10.2, acc ++ [Va.mk 3 0 (toBA m) []]))) := by
      simp only [literal_reader_rows_1_h_l1, literal_reader_element_h, hn', tOut, Option.bind_some, Option.isSome_some, Bool.not_true, cond_false, Option.elim_some, ha, peek_eq, hlen, e7, e8, w64s j (by omega)]
    refine ⟨fun hc => ?_, fun hc hl => ?_, fun hc hl hw => ?_, fun hc hl hw => ?_⟩
    · rw [base, decide_eq_true hc]
      exact ⟨_, rfl, rfl, rfl, fun l h => by cases h; exact ⟨hlen.symm, rfl, rfl⟩⟩
    · rw [base, decide_eq_false hc, if_pos hl]
      exact ⟨_, rfl, rfl, rfl, fun l h => by cases h⟩
    · rw [base, decide_eq_false hc, if_neg hl, hw]
      exact ⟨_, rfl, rfl, rfl, fun l h => by cases h⟩
    · rw [base, decide_eq_false hc, if_neg hl]
      cases hw' : ((wordP [44, 32]).ev s j).1 with
      | none => exact absurd hw' hw
      | some u => rfl
theorem row_eq' {s : ByteArray} (hs : s.size ≤ 1000000) {cols least most : Nat} (hcl : (cols = 0 ∧ least = 1 ∧ most = 8) ∨ (1 ≤ cols ∧ cols ≤ 8 ∧ least = cols ∧ most = cols)) {i : Nat} (hi : i ≤ s.size) :
    ∃ b, literal_reader_rows_1_h ⟨s, (i : Int)⟩ (cols : Int) = some b ∧ b.1 = ((rowG least most).ev s i).1.isSome ∧ b.2.1 = (((rowG least most).ev s i).2 : Int) ∧
    ∀ v, ((rowG least most).ev s i).1 = some v → b.2.2.1 = (v.items.length : Int) ∧ v = Va.mk b.2.2.2.1 0 ⟨#[]⟩ b.2.2.2.2 := by
  unfold literal_reader_rows_1_h rowG
  rw [open_eq hs hi 123 (by decide)]
  simp only [Pr.ev]
  by_cases h : atI s i = 123
  · rw [if_pos (by rw [h]; rfl), if_pos h]
    have hi' : i + 1 ≤ s.size := at_in (by omega)
    simp only [Option.bind_some, Bool.not_true, cond_false, Pr.ev, ev_bind]
    obtain ⟨k, hk⟩ : ∃ k, most = k + 1 := ⟨most - 1, by omega⟩
    obtain ⟨b, hb, hq⟩ := row_loop hs i cols least most hcl k [] (i + 1) fuel (by rw [hk]; simp; omega) trivial hi' (lt_fuel (by omega))
    have hq' : rQ cols ((listP 125 least (fun _ => textE) most []).ev s (i + 1)) b := by
      rw [hk]
      unfold listP
      simp only [Pr.ev]
      rw [if_neg (by simp; omega)]
      simpa [Pr.bind] using hq
    obtain ⟨q1, q2, q3⟩ := hq'
    rw [hb]
    refine ⟨b, rfl, ?_⟩
    generalize (listP 125 least (fun _ => textE) most []).ev s (i + 1) = y at q1 q2 q3 ⊢
    obtain ⟨_ | l, j⟩ := y
    · exact ⟨q1, q2, fun v h => by cases h⟩
    · refine ⟨q1, q2, fun v h => ?_⟩
      obtain ⟨r1, r2, r3⟩ := q3 l rfl
      cases h
      exact ⟨r1, by rw [r2, r3]⟩
  · rw [if_neg (by exact h), if_neg h]
    exact ⟨_, rfl, rfl, rfl, fun v h => by cases h⟩
theorem row_eq {s : ByteArray} (hs : s.size ≤ 1000000) {acc : List Va} (hI : InvR acc) {i : Nat} (hi : i ≤ s.size) : ∃ b, literal_reader_rows_1_h ⟨s, (i : Int)⟩ (colsOf acc : Int) = some b ∧ b.1 = ((rowE acc).ev s i).1.isSome ∧ b.2.1 = (((rowE acc).ev s i).2 : Int) ∧
    ∀ v, ((rowE acc).ev s i).1 = some v → b.2.2.1 = (v.items.length : Int) ∧ v = Va.mk b.2.2.2.1 0 ⟨#[]⟩ b.2.2.2.2 := by
  cases acc with
  | nil => exact row_eq' hs (.inl ⟨rfl, rfl, rfl⟩) hi
  | cons r l =>
    have := hI r (List.mem_cons_self ..)
    exact row_eq' hs (cols := r.items.length) (.inr ⟨this.1, this.2, rfl, rfl⟩) hi
/-! what is read is well shaped -/
theorem list_all {P : Va → Prop} {e : Int} {least : Nat} {elem : List Va → Pr Va} {I : List Va → Prop} (hI : ∀ acc v, I acc → P v → I (acc ++ [v])) (hel : ∀ acc, I acc → (elem acc).all P) : ∀ (k : Nat) (acc : List Va), I acc → (listP e least elem k acc).all fun l => I l ∧ least ≤ l.length ∧ l.length ≤ acc.length + k
  | 0, acc, h => by
    unfold listP
    intro c
    dsimp only
    split
    · rename_i hc; exact ⟨h, hc.2, by omega⟩
    · trivial
  | k + 1, acc, h => by
    unfold listP
    intro c
    dsimp only
    split
    · rename_i hc; exact ⟨h, hc.2, by omega⟩
    · refine all_bind (P := fun _ => True) (fun _ _ => all_bind (P := P) (fun v hv => ?_) _ (hel acc h)) _ (all_true _)
      exact all_mono (fun l hl => ⟨hl.1, hl.2.1, by have := hl.2.2; simp at this; omega⟩) _ (list_all hI hel k (acc ++ [v]) (hI acc v h hv))
def leafV (v : Va) : Prop := v.items = [] ∧ v.text.size ≤ 64
theorem body_all (least : Nat) : ∀ (k : Nat) (acc : List Int), (bodyP least k acc).all fun l => least ≤ l.length ∧ l.length ≤ acc.length + k
  | 0, acc => by
    unfold bodyP; intro c; dsimp only
    split
    · rename_i hc; exact ⟨hc.2, by omega⟩
    · trivial
  | k + 1, acc => by
    unfold bodyP; intro c; dsimp only
    have ih := fun d => all_mono (Q := fun l => least ≤ l.length ∧ l.length ≤ acc.length + (k + 1)) (fun l hl => ⟨hl.1, by have := hl.2; simp at this; omega⟩) _ (body_all least k (acc ++ [d]))
    split
    · rename_i hc; exact ⟨hc.2, by omega⟩
    split
    · trivial
    split
    · intro d; dsimp only
      split
      · exact ih d
      · trivial
    · exact ih c
theorem text_all (least most : Nat) : (textP least most).all fun l => least ≤ l.length ∧ l.length ≤ most := by
  unfold textP; intro c; dsimp only
  split
  · exact all_mono (fun l hl => ⟨hl.1, by simpa using hl.2⟩) _ (body_all least most [])
  · trivial
theorem textE_all : textE.all leafV := all_bind (P := fun l => 0 ≤ l.length ∧ l.length ≤ 64) (Q := leafV) (fun l hl => by show leafV _; exact ⟨rfl, by rw [show (Va.mk 3 0 (toBA l) []).text = toBA l from rfl, toBA_size]; exact hl.2⟩) _ (text_all 0 64)
def lstV (v : Va) : Prop := v.items.length ≤ 16 ∧ v.text.size ≤ 64 ∧ ∀ x ∈ v.items, leafV x
theorem rowE_all {acc : List Va} (hI : InvR acc) : (rowE acc).all fun v => lstV v ∧ 1 ≤ v.items.length ∧ v.items.length ≤ 8 := by
  have key : ∀ least most : Nat, 1 ≤ least → most ≤ 8 → (rowG least most).all fun v => lstV v ∧ 1 ≤ v.items.length ∧ v.items.length ≤ 8 := fun least most h1 h2 => by
    unfold rowG; intro c; dsimp only
    split
    · refine all_bind (fun l hl => ?_) _ (list_all (P := leafV) (I := fun l => ∀ x ∈ l, leafV x) (fun acc v ha hv x hx => ?_) (fun _ _ => textE_all) most [] (by simp))
      · obtain ⟨a1, a2, a3⟩ := hl
        simp only [List.length_nil, Nat.zero_add] at a3
        exact ⟨⟨by show l.length ≤ 16; omega, Nat.zero_le _, a1⟩, by show 1 ≤ l.length; omega, by show l.length ≤ 8; omega⟩
      · rcases List.mem_append.1 hx with hx | hx
        · exact ha x hx
        · rw [List.mem_singleton.1 hx]; exact hv
    · trivial
  cases acc with
  | nil => exact key 1 8 (by omega) (by omega)
  | cons r l =>
    have := hI r (List.mem_cons_self ..)
    exact key _ _ this.1 this.2
def rvQ (x : Option (List Va) × Nat) (b : List Va × Bool × Int × Int) : Prop := b.2.1 = x.1.isSome ∧ b.2.2.1 = (x.2 : Int) ∧ ∀ l, x.1 = some l → b.1 = l
theorem InvR_app {acc : List Va} {v : Va} (h : InvR acc) (hv : 1 ≤ v.items.length ∧ v.items.length ≤ 8) : InvR (acc ++ [v]) := fun r hr => by
  rcases List.mem_append.1 hr with hr | hr
  · exact h r hr
  · rw [List.mem_singleton.1 hr]; exact hv
theorem colsOf_app {acc : List Va} {v : Va} {b : Int} (h : ∀ r ∈ acc, r.items.length = v.items.length) (hb : b = (v.items.length : Int)) : b = (colsOf (acc ++ [v]) : Int) := by
  cases acc with
  | nil => rw [hb]; rfl
  | cons r l => rw [hb, ← h r (List.mem_cons_self ..)]; rfl
/-- all rows as long as the first -/
def InvS (acc : List Va) : Prop := InvR acc ∧ ∀ r ∈ acc, r.items.length = colsOf acc
theorem rowE_cols {acc : List Va} : (rowE acc).all fun v => acc ≠ [] → v.items.length = colsOf acc := by
  have key : ∀ least most : Nat, (rowG least most).all fun v => least ≤ v.items.length ∧ v.items.length ≤ most := fun least most => by
    unfold rowG; intro c; dsimp only
    split
    · refine all_bind (fun l hl => ?_) _ (list_all (P := fun _ => True) (I := fun _ => True) (fun _ _ _ _ => trivial) (fun _ _ => all_true _) most [] trivial)
      exact ⟨hl.2.1, by have := hl.2.2; rw [List.length_nil, Nat.zero_add] at this; exact this⟩
    · trivial
  cases acc with
  | nil => exact all_mono (fun v _ h => absurd rfl h) _ (key 1 8)
  | cons r l => exact all_mono (fun v hv _ => by show v.items.length = r.items.length; omega) _ (key r.items.length r.items.length)
theorem InvS_app {s : ByteArray} {acc : List Va} {i j : Nat} {v : Va} (h : InvS acc) (he : (rowE acc).ev s i = (some v, j)) : InvS (acc ++ [v]) ∧ ∀ r ∈ acc, r.items.length = v.items.length := by
  have h1 := (all_ev _ i (rowE_all h.1) (by rw [he])).2
  have h2 := all_ev _ i (rowE_cols (acc := acc)) (by rw [he])
  refine ⟨⟨InvR_app h.1 h1, fun r hr => ?_⟩, fun r hr => ?_⟩
  · cases acc with
    | nil => simp at hr; rw [hr]; rfl
    | cons q l =>
      show r.items.length = q.items.length
      rcases List.mem_append.1 hr with hr | hr
      · exact h.2 r hr
      · rw [List.mem_singleton.1 hr]; exact h2 (by simp)
  · rw [h.2 r hr, h2 (by rintro rfl; cases hr)]
theorem rows_loop {s : ByteArray} (hs : s.size ≤ 1000000) (i0 : Int) : ∀ k (acc : List Va) (i n : Nat), acc.length + 1 + k = 8 → InvS acc → i ≤ s.size → k < n →
    ∃ b, loopN (literal_reader_list_h3_l1 ⟨s, i0⟩ 62 8) n ((i : Int), (colsOf acc : Int), acc) = some b ∧ rvQ (((rowE acc).bind fun v => listP 62 0 rowE k (acc ++ [v])).ev s i) b := by
  refine list_loop (least := 0) (elem := rowE) rowE_good (fun i acc => ((i : Int), (colsOf acc : Int), acc)) rvQ InvS (fun acc i v j h he => (InvS_app h he).1) (list_hstep rowE_good ?_)
  intro i acc hi hl hI
  obtain ⟨b, hb, q1, q2, q3⟩ := row_eq hs hI.1 hi
  have hle := ev_le' (s := s) (rowE_good acc) hi
  refine ⟨fun j h => ?_, fun v j h => ?_⟩
  · rw [h] at q1 q2
    refine ⟨([], false, (j : Int), b.2.2.1), ?_, rfl, rfl, fun l h => by cases h⟩
    simp only [literal_reader_list_h3_l1, hb, Option.bind_some, q1, q2, Option.isSome_none, Bool.not_false, cond_true]
  · have hcols := (InvS_app hI h).2
    rw [h] at q1 q2 q3 hle
    obtain ⟨r1, r2⟩ := q3 v rfl
    have hc' := colsOf_app hcols r1
    have ha := app_eq (b := 56) (xs := acc) (ys := [v]) (by simp; omega)
    refine ⟨fun z => .inr (acc ++ [v], true, z, (colsOf (acc ++ [v]) : Int)), fun z => .inr ([], false, z, (colsOf (acc ++ [v]) : Int)), fun z => .inl (z, (colsOf (acc ++ [v]) : Int), acc ++ [v]), Eq.trans ?_ (tail_eq hs hle.2 62 (by decide) 8 (acc ++ [v]) _ _ _), fun z => ⟨_, rfl, rfl, rfl, fun l h => by cases h; rfl⟩, fun z => ⟨_, rfl, rfl, rfl, fun l h => by cases h⟩, fun z => rfl⟩
    simp only [literal_reader_list_h3_l1, hb, Option.bind_some, q1, q2, hc', Option.isSome_some, Bool.not_true, cond_false, ← r2, ha]
    rfl
theorem list3_eq {s : ByteArray} (hs : s.size ≤ 1000000) {i : Nat} (hi : i ≤ s.size) (h91 : atI s i = 60) : ∃ b, literal_reader_list_h3 ⟨s, (i : Int)⟩ 60 62 8 0 = some b ∧ rvQ ((listP 62 0 rowE 8 []).ev s (i + 1)) b := by
  have hi' : i + 1 ≤ s.size := at_in (by omega)
  have ho := open_eq hs hi 60 (by decide)
  rw [if_pos (by rw [h91]; rfl)] at ho
  have ho' : literal_reader_word_h ⟨s, (i : Int)⟩ (Utf8.encode 60) = some (true, ((i + 1 : Nat) : Int)) := ho
  unfold literal_reader_list_h3 listP
  simp only [ho', Option.bind_some, Bool.not_true, cond_false, peek_eq, Pr.ev]
  by_cases hc : atI s (i + 1) = 62
  · rw [if_pos ⟨hc, Nat.le_refl _⟩, show (atI s (i + 1) == 62) = true by rw [hc]; rfl]
    exact ⟨_, rfl, rfl, w64s (i + 1) (by omega), fun l h => by cases h; rfl⟩
  · rw [if_neg (fun h => hc h.1), show (atI s (i + 1) == 62) = false by simpa using hc, cond_false]
    obtain ⟨b, hb, hq⟩ := rows_loop hs i 7 [] (i + 1) fuel rfl ⟨fun r h => (by cases h), fun r h => (by cases h)⟩ hi' (lt_fuel (by omega))
    have hb' : loopN (literal_reader_list_h3_l1 ⟨s, (i : Int)⟩ 62 8) fuel (((i + 1 : Nat) : Int), 0, []) = some b := hb
    rw [hb']
    refine ⟨b, rfl, ?_⟩
    simpa [Pr.bind] using hq
end Go.Proofs.YtijkipikefpopaaDoor
