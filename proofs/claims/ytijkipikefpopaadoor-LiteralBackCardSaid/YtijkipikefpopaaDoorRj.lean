/- LiteralQuotes. -/
import Derived.Test.YtijkipikefpopaaDoorRf
import Derived.Test.YtijkipikefpopaaDoorRd
set_option linter.unusedVariables false
set_option linter.unusedSimpArgs false
set_option maxRecDepth 100000
namespace Go.Proofs.YtijkipikefpopaaDoor
open Go Go.RowKit

/-- the text with a quoted form, and where the reading ends -/
def uOut (s : ByteArray) (x : Option (List Int) × Nat) : ByteArray × Int × Int := match x with
  | (some l, j) => if j < s.size then (⟨#[]⟩, (j : Int), 8) else (toBA l, 0, 0)
  | (none, j) => (⟨#[]⟩, (j : Int), 8)
theorem hexV_le (c : Int) : hexV c ≤ 15 := by unfold hexV; split <;> (try split) <;> omega
theorem hexV0 : hexV 0 < 0 := by decide
theorem not_plain {s : ByteArray} {i : Nat} (h : ¬ i < s.size) : plainI (atI s i) = false := by rw [at_ge (by omega)]; rfl
/-- what stands behind a backslash -/
def escP : Pr Int := .peek fun d => if d = 34 ∨ d = 92 then .adv (.done d) else if d = 120 then
  .adv (.peek fun h => if hexV h < 0 ∨ (2 ≤ hexV h ∧ hexV h ≤ 6) then .fail else .adv (.peek fun o => if hexV o < 0 ∨ plainI (16 * hexV h + hexV o) = true then .fail else .adv (.done (16 * hexV h + hexV o)))) else .fail
theorem esc_bind (f : Int → Pr (List Int)) : escP.bind f = .peek fun d => if d = 34 ∨ d = 92 then .adv (f d) else if d = 120 then
  .adv (.peek fun h => if hexV h < 0 ∨ (2 ≤ hexV h ∧ hexV h ≤ 6) then .fail else .adv (.peek fun o => if hexV o < 0 ∨ plainI (16 * hexV h + hexV o) = true then .fail else .adv (f (16 * hexV h + hexV o)))) else .fail := by
  unfold escP
  simp only [Pr.bind]
  congr 1
  funext d
  split
  · rfl
  split
  · simp only [Pr.bind]
    congr 1
    congr 1
    funext h
    split
    · rfl
    · simp only [Pr.bind]
      congr 1
      congr 1
      funext o
      split <;> rfl
  · rfl
theorem unqP_succ (k : Nat) (acc : List Int) : unqP (k + 1) acc = .peek fun c => if c = 34 then .adv (.done acc) else if plainI c = false then .fail else if c = 92 then .adv (escP.bind fun d => unqP k (acc ++ [d])) else .adv (unqP k (acc ++ [c])) := by
  simp only [esc_bind]
  rfl
theorem i32_small {n : Int} (h0 : 0 ≤ n) (h1 : n ≤ 1000) : IntKind.i32.wrap (w64 n) = n := by
  rw [w64_eq (by omega) (by omega)]
  simp [IntKind.wrap, IntKind.signed, IntKind.bits, IntKind.min, IntKind.max]
  omega
theorem wu8_small {n : Int} (h0 : 0 ≤ n) (h1 : n ≤ 255) : wu8 (w64 n) = n := by
  rw [w64_eq (by omega) (by omega)]
  simp [wu8, IntKind.wrap, IntKind.signed, IntKind.bits, IntKind.min, IntKind.max]
  omega
theorem escaped_eq {s : ByteArray} (hs : s.size ≤ 4000000) {i : Nat} (hi : i ≤ s.size) : literal_reader_escaped_h ⟨s, (i : Int)⟩ = some ((escP.ev s i).1.getD 0, (escP.ev s i).1.isSome, ((escP.ev s i).2 : Int)) := by
  have over : ∀ j : Nat, decide ((s.size : Int) ≤ (j : Int)) = decide (¬ j < s.size) := fun j => by
    by_cases h : j < s.size
    · rw [decide_eq_false (by omega), decide_eq_false (by omega)]
    · rw [decide_eq_true (by omega), decide_eq_true h]
  unfold escP
  simp only [Pr.ev]
  by_cases h1 : atI s i = 34 ∨ atI s i = 92
  · rw [if_pos h1]
    have hi' : i < s.size := at_in (by omega)
    have e1 : (bif (atI s i != 34) then (bif (atI s i != 92) then (some true) else (some (false))) else (some (false)) : Option Bool) = some false := by rcases h1 with h1 | h1 <;> rw [h1] <;> rfl
    have e2 : (atI s i != 120) = true := by rcases h1 with h1 | h1 <;> rw [h1] <;> rfl
    simp only [literal_reader_escaped_h, peek_eq, Option.bind_some, over, decide_eq_false (show ¬ ¬ i < s.size from fun h => h hi'), cond_false, e1, e2, cond_true, w64s i (by omega)]
    rfl
  · rw [if_neg h1]
    by_cases h2 : atI s i = 120
    · rw [if_pos h2]
      have hi' : i < s.size := at_in (by omega)
      have e1 : (bif (atI s i != 34) then (bif (atI s i != 92) then (some false) else (some (false))) else (some (false)) : Option Bool) = some false := by rw [h2]; rfl
      have e2 : (atI s i != 120) = false := by rw [h2]; rfl
      simp only [Pr.ev]
      have hx := hexV_le (atI s (i + 1))
      by_cases h3 : hexV (atI s (i + 1)) < 0 ∨ (2 ≤ hexV (atI s (i + 1)) ∧ hexV (atI s (i + 1)) ≤ 6)
      · rw [if_pos h3]
        have e3 : (bif decide (¬ i + 1 < s.size) then (some (true)) else (bif (decide (hexV (atI s (i + 1)) < 0)) then (some (true)) else (bif (decide (2 ≤ hexV (atI s (i + 1)))) then (some ((decide (hexV (atI s (i + 1)) ≤ 6)))) else (some (false)))) : Option Bool) = some true := by
          cases decide (¬ i + 1 < s.size)
          · rcases h3 with h3 | ⟨h3, h4⟩
            · rw [decide_eq_true h3]; rfl
            · rw [decide_eq_true h3, decide_eq_true h4, decide_eq_false (by omega)]; rfl
          · rfl
        simp only [literal_reader_escaped_h, peek_eq, Option.bind_some, over, decide_eq_false (show ¬ ¬ i < s.size from fun h => h hi'), cond_false, e1, e2, w64s i (by omega), (hex_eq s (i + 1)).1, e3, cond_true]
        rfl
      · rw [if_neg h3]
        have hi2 : i + 1 < s.size := at_in fun h0 => h3 (by rw [h0]; exact .inl hexV0)
        have e3 : (bif decide (¬ i + 1 < s.size) then (some (true)) else (bif (decide (hexV (atI s (i + 1)) < 0)) then (some (true)) else (bif (decide (2 ≤ hexV (atI s (i + 1)))) then (some ((decide (hexV (atI s (i + 1)) ≤ 6)))) else (some (false)))) : Option Bool) = some false := by
          rw [decide_eq_false (show ¬ ¬ i + 1 < s.size from fun h => h hi2), decide_eq_false (show ¬ hexV (atI s (i + 1)) < 0 by omega)]
          by_cases h4 : 2 ≤ hexV (atI s (i + 1))
          · rw [decide_eq_true h4, decide_eq_false (show ¬ hexV (atI s (i + 1)) ≤ 6 by omega)]; rfl
          · rw [decide_eq_false h4]; rfl
        simp only [Pr.ev]
        have hx2 := hexV_le (atI s (i + 1 + 1))
        have ew : w64 (16 * hexV (atI s (i + 1))) = 16 * hexV (atI s (i + 1)) := w64_eq (by omega) (by omega)
        by_cases h5 : hexV (atI s (i + 1 + 1)) < 0 ∨ plainI (16 * hexV (atI s (i + 1)) + hexV (atI s (i + 1 + 1))) = true
        · rw [if_pos h5]
          have e4 : (bif decide (¬ i + 1 + 1 < s.size) then (some (true)) else (bif (decide (hexV (atI s (i + 1 + 1)) < 0)) then (some (true)) else (Option.bind (literal_plain (IntKind.i32.wrap (w64 (16 * hexV (atI s (i + 1)) + hexV (atI s (i + 1 + 1)))))) fun v10 => (some (v10)))) : Option Bool) = some true := by
            cases decide (¬ i + 1 + 1 < s.size)
            · by_cases h6 : hexV (atI s (i + 1 + 1)) < 0
              · rw [decide_eq_true h6]; rfl
              · rw [decide_eq_false h6, i32_small (by omega) (by omega), plain_eq]
                rcases h5 with h5 | h5
                · exact absurd h5 h6
                · rw [h5]; rfl
            · rfl
          simp only [literal_reader_escaped_h, peek_eq, Option.bind_some, over, decide_eq_false (show ¬ ¬ i < s.size from fun h => h hi'), cond_false, e1, e2, w64s i (by omega), (hex_eq s (i + 1)).1, e3, w64s (i + 1) (by omega), (hex_eq s (i + 1 + 1)).1, ew, e4, cond_true]
          rfl
        · rw [if_neg h5]
          have h6 : ¬ hexV (atI s (i + 1 + 1)) < 0 := fun h => h5 (.inl h)
          have hi3 : i + 1 + 1 < s.size := at_in fun h0 => h6 (by rw [h0]; exact hexV0)
          have e4 : (bif decide (¬ i + 1 + 1 < s.size) then (some (true)) else (bif (decide (hexV (atI s (i + 1 + 1)) < 0)) then (some (true)) else (Option.bind (literal_plain (IntKind.i32.wrap (w64 (16 * hexV (atI s (i + 1)) + hexV (atI s (i + 1 + 1)))))) fun v10 => (some (v10)))) : Option Bool) = some false := by
            rw [decide_eq_false (show ¬ ¬ i + 1 + 1 < s.size from fun h => h hi3), decide_eq_false h6, i32_small (by omega) (by omega), plain_eq]
            cases hp : plainI (16 * hexV (atI s (i + 1)) + hexV (atI s (i + 1 + 1))) with
            | true => exact absurd (.inr hp) h5
            | false => rfl
          have e5 : wu8 (w64 (16 * hexV (atI s (i + 1)) + hexV (atI s (i + 1 + 1)))) = 16 * hexV (atI s (i + 1)) + hexV (atI s (i + 1 + 1)) := wu8_small (by omega) (by omega)
          simp only [literal_reader_escaped_h, peek_eq, Option.bind_some, over, decide_eq_false (show ¬ ¬ i < s.size from fun h => h hi'), cond_false, e1, e2, w64s i (by omega), (hex_eq s (i + 1)).1, e3, w64s (i + 1) (by omega), (hex_eq s (i + 1 + 1)).1, ew, e4, e5, w64s (i + 1 + 1) (by omega)]
          rfl
    · rw [if_neg h2]
      have e1 : (bif decide (¬ i < s.size) then (some (true)) else (bif (atI s i != 34) then (bif (atI s i != 92) then (some ((atI s i != 120))) else (some (false))) else (some (false))) : Option Bool) = some true := by
        cases decide (¬ i < s.size)
        · rw [show (atI s i != 34) = true by simp; omega, show (atI s i != 92) = true by simp; omega, show (atI s i != 120) = true by simpa using h2]; rfl
        · rfl
      simp only [literal_reader_escaped_h, peek_eq, Option.bind_some, over, e1, cond_true]
      rfl
theorem escP_good : escP.good false := by
  unfold escP
  refine ⟨?_, fun c hc => ?_⟩
  · simp only [show ¬ ((0 : Int) = 34 ∨ (0 : Int) = 92) by decide, show ¬ ((0 : Int) = 120) by decide, if_false]; trivial
  · dsimp only
    split
    · exact ⟨rfl, trivial⟩
    split
    · refine ⟨rfl, ?_, fun h hh => ?_⟩
      · dsimp only; rw [if_pos (.inl hexV0)]; trivial
      · dsimp only
        split
        · trivial
        · refine ⟨rfl, ?_, fun o ho => ?_⟩
          · dsimp only; rw [if_pos (.inl hexV0)]; trivial
          · dsimp only
            split
            · trivial
            · exact ⟨rfl, trivial⟩
    · trivial
theorem unq_loop {s : ByteArray} (hs : s.size ≤ 4000000) : ∀ (k i : Nat) (acc : List Int) (n : Nat), s.size - i < k → i ≤ s.size → k < n → acc.length ≤ i →
    ∃ b, loopN (literal_Unquote_l1 s) n (true, (i : Int), acc) = some b ∧ Sum.elim (fun j => ((⟨#[]⟩ : ByteArray), j, (8 : Int))) id b = uOut s ((unqP k acc).ev s i) := by
  intro k
  induction k with
  | zero => intro i acc n h; omega
  | succ k ih =>
    intro i acc n hk hi hn ha
    obtain ⟨n, rfl⟩ : ∃ m, n = m + 1 := ⟨n - 1, by omega⟩
    rw [unqP_succ]
    simp only [Pr.ev]
    by_cases h34 : atI s i = 34
    · rw [if_pos h34]
      have hi' : i < s.size := at_in (by omega)
      have d0 : decide ((s.size : Int) ≤ (i : Int)) = false := decide_eq_false (by omega)
      have e1 : plainI (atI s i) = true := by rw [h34]; rfl
      have e2 : (atI s i == 34) = true := by rw [h34]; rfl
      simp only [Pr.ev, uOut]
      by_cases h : i + 1 < s.size
      · rw [if_pos h]
        refine ⟨.inl ((i + 1 : Nat) : Int), lp_out ?_, rfl⟩
        have d1 : decide (((i + 1 : Nat) : Int) < (s.size : Int)) = true := decide_eq_true (by omega)
        simp only [literal_Unquote_l1, cond_true, peek_eq, Option.bind_some, d0, cond_false, i32_byte, plain_eq, e1, Bool.not_true, e2, w64s i (by omega), d1]
      · rw [if_neg h]
        refine ⟨.inr (toBA acc, 0, 0), lp_out ?_, rfl⟩
        have d1 : decide (((i + 1 : Nat) : Int) < (s.size : Int)) = false := decide_eq_false (by omega)
        simp only [literal_Unquote_l1, cond_true, peek_eq, Option.bind_some, d0, cond_false, i32_byte, plain_eq, e1, Bool.not_true, e2, w64s i (by omega), d1, strings_Builder_String_h]
    · rw [if_neg h34]
      by_cases hp : plainI (atI s i) = false
      · rw [if_pos hp]
        refine ⟨.inl (i : Int), lp_out ?_, rfl⟩
        cases d0 : decide ((s.size : Int) ≤ (i : Int)) <;>
          simp only [literal_Unquote_l1, cond_true, peek_eq, Option.bind_some, d0, cond_false, i32_byte, plain_eq, hp, Bool.not_false]
      · rw [if_neg hp]
        have hp' : plainI (atI s i) = true := by cases h : plainI (atI s i) with | true => rfl | false => exact absurd h hp
        have hi' : i < s.size := by
          by_cases h : i < s.size
          · exact h
          · exact absurd (not_plain h) hp
        have d0 : decide ((s.size : Int) ≤ (i : Int)) = false := decide_eq_false (by omega)
        have e2 : (atI s i == 34) = false := by simpa using h34
        by_cases h92 : atI s i = 92
        · rw [if_pos h92]
          have e3 : (atI s i == 92) = true := by rw [h92]; rfl
          have hesc := escaped_eq hs (show i + 1 ≤ s.size by omega)
          have hle := ev_le' (s := s) escP_good (show i + 1 ≤ s.size by omega)
          simp only [Pr.ev, ev_bind]
          have happ := fun d : Int => app_eq (b := 1) (xs := acc) (ys := [d]) (by simp; omega)
          have step : literal_Unquote_l1 s (true, (i : Int), acc) = some (.inl ((escP.ev s (i + 1)).1.isSome, ((escP.ev s (i + 1)).2 : Int), acc ++ [(escP.ev s (i + 1)).1.getD 0])) := by
            simp only [literal_Unquote_l1, cond_true, peek_eq, Option.bind_some, d0, cond_false, i32_byte, plain_eq, hp', Bool.not_true, e2, e3, w64s i (by omega), hesc, strings_Builder_WriteByte_h, strings_Builder_copyCheck_h, happ]
          rw [lp_go step]
          rcases hx : escP.ev s (i + 1) with ⟨_ | d, j⟩
          · obtain ⟨n, rfl⟩ : ∃ m, n = m + 1 := ⟨n - 1, by omega⟩
            refine ⟨.inl (j : Int), lp_out ?_, rfl⟩
            simp only [literal_Unquote_l1, Option.isSome_none, cond_false]
          · rw [hx] at hle
            exact ih j (acc ++ [d]) n (by have := hle.1; simp only at this; omega) hle.2 (by omega) (by have := hle.1; simp only at this; simp; omega)
        · rw [if_neg h92]
          have e3 : (atI s i == 92) = false := by simpa using h92
          simp only [Pr.ev]
          have happ := fun d : Int => app_eq (b := 1) (xs := acc) (ys := [d]) (by simp; omega)
          have step : literal_Unquote_l1 s (true, (i : Int), acc) = some (.inl (true, ((i + 1 : Nat) : Int), acc ++ [atI s i])) := by
            simp only [literal_Unquote_l1, cond_true, peek_eq, Option.bind_some, d0, cond_false, i32_byte, plain_eq, hp', Bool.not_true, e2, e3, w64s i (by omega), strings_Builder_WriteByte_h, strings_Builder_copyCheck_h, happ]
          rw [lp_go step]
          exact ih (i + 1) (acc ++ [atI s i]) n (by omega) (by omega) (by omega) (by simp; omega)
def unqT (s : ByteArray) : Pr (List Int) := .peek fun c => if c = 34 then .adv (unqP (s.size + 1) []) else .fail
theorem Unquote_eq {s : ByteArray} (hs : s.size ≤ 4000000) : literal_Unquote s = some (uOut s ((unqT s).ev s 0)) := by
  have ho := open_eq hs (Nat.zero_le s.size) 34 (by decide)
  have ho' : literal_reader_word_h ⟨s, 0⟩ (⟨#[34]⟩ : ByteArray) = some (if atI s 0 = 34 then (true, 1) else (false, 0)) := ho
  unfold literal_Unquote unqT
  rw [ho', Option.bind_some]
  simp only [Pr.ev]
  by_cases h : atI s 0 = 34
  · rw [if_pos h, if_pos h]
    obtain ⟨b, h1, h2⟩ := unq_loop hs (s.size + 1) 1 [] fuel (by omega) (at_in (by omega)) (lt_fuel (by omega)) (by simp)
    have h1' : loopN (literal_Unquote_l1 s) fuel (true, 1, []) = some b := h1
    simp only [h1', Option.bind_some, Pr.ev]
    rw [← h2]
    cases b <;> rfl
  · rw [if_neg h, if_neg h]
    obtain ⟨n, hn⟩ : ∃ n, fuel = n + 1 := ⟨_, fuel_succ⟩
    have : loopN (literal_Unquote_l1 s) fuel (false, 0, []) = some (.inl 0) := by rw [hn]; exact lp_out rfl
    simp only [this, Option.bind_some]
    rfl
/-! the reference's -/
end Go.Proofs.YtijkipikefpopaaDoor
