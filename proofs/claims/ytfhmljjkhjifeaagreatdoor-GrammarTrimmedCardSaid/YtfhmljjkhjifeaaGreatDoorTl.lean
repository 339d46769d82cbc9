/- What the program reaches and what the reference reaches are the same; GrammarSymbols. -/
import Derived.Test.YtfhmljjkhjifeaaGreatDoorGu
import Derived.Test.YtfhmljjkhjifeaaGreatDoorLo
set_option linter.unusedVariables false
set_option linter.unusedSimpArgs false
set_option maxRecDepth 100000
namespace Go.Proofs.YtfhmljjkhjifeaaGreatDoor
open Go Go.RowKit

theorem w64n (n : Nat) (h : n ≤ 4000000000) : w64 (n : Int) = n := w64_eq (by omega) (by omega)
theorem w64s (n : Nat) (h : n ≤ 4000000000) : w64 ((n : Int) + 1) = ((n + 1 : Nat) : Int) := w64_succ (by omega)
theorem lp_go {σ β : Type} {st : σ → Option (σ ⊕ β)} {s s' : σ} {n : Nat} (h : st s = some (.inl s')) : loopN st (n + 1) s = loopN st n s' := by rw [loopN, h]
theorem lp_out {σ β : Type} {st : σ → Option (σ ⊕ β)} {s : σ} {b : β} {n : Nat} (h : st s = some (.inr b)) : loopN st (n + 1) s = some b := by rw [loopN, h]

theorem loop_scan {β : Type} {step : Int → Option (Int ⊕ β)} {P : Nat → Prop} {R : β → Prop} {b0 : β} (n : Nat) (hs : ∀ i : Nat, i < n → (step (i : Int) = some (.inl ((i + 1 : Nat) : Int)) ∧ P i) ∨ ∃ b, R b ∧ step (i : Int) = some (.inr b)) (he : step (n : Int) = some (.inr b0)) :
    ∀ (k m N : Nat), m + k = n → k < N → (∀ i, i < m → P i) → (loopN step N (m : Int) = some b0 ∧ ∀ i, i < n → P i) ∨ ∃ b, R b ∧ loopN step N (m : Int) = some b := by
  intro k
  induction k with
  | zero =>
    intro m N hm hN hP
    obtain ⟨N, rfl⟩ : ∃ j, N = j + 1 := ⟨N - 1, by omega⟩
    obtain rfl : m = n := by omega
    exact .inl ⟨lp_out he, hP⟩
  | succ k ih =>
    intro m N hm hN hP
    obtain ⟨N, rfl⟩ : ∃ j, N = j + 1 := ⟨N - 1, by omega⟩
    rcases hs m (by omega) with ⟨h1, h2⟩ | ⟨b, h1, h2⟩
    · rw [lp_go h1]
      exact ih (m + 1) N (by omega) (by omega) fun i hi => by
        rcases Nat.lt_succ_iff_lt_or_eq.1 hi with h | rfl
        · exact hP i h
        · exact h2
    · exact .inr ⟨b, h1, lp_out h2⟩
theorem size_loop {l : List Va} {B : Nat} {r27 : Va → Option Int} (hl : l.length ≤ 30) (hB : B ≤ 100000000000) (x : Va) (hx : x.items = l) (H : ∀ y ∈ l, ∃ z : Nat, r27 y = some (z : Int) ∧ z ≤ B) : ∀ (k m acc N : Nat), m + k = l.length → k < N → acc ≤ 1 + m * B → ∃ z : Nat, loopN (synthesisref01_Size_l1 x r27) N ((acc : Int), (m : Int)) = some (z : Int) ∧ z ≤ 1 + l.length * B := by
  intro k
  induction k with
  | zero =>
    intro m acc N hm hN ha
    obtain ⟨N, rfl⟩ : ∃ j, N = j + 1 := ⟨N - 1, by omega⟩
    obtain rfl : m = l.length := by omega
    have d1 : decide (((l.length : Nat) : Int) < (x.items.length : Int)) = false := decide_eq_false (by rw [hx]; omega)
    exact ⟨acc, lp_out (by simp only [synthesisref01_Size_l1, d1, cond_false]), ha⟩
  | succ k ih =>
    intro m acc N hm hN ha
    obtain ⟨N, rfl⟩ : ∃ j, N = j + 1 := ⟨N - 1, by omega⟩
    have hml : m < l.length := by omega
    have d1 : decide ((m : Int) < (x.items.length : Int)) = true := decide_eq_true (by rw [hx]; omega)
    have e1 : idx x.items (m : Int) = some l[m] := by rw [hx, idx_nat, List.getElem?_eq_getElem hml]
    obtain ⟨z, hz, hzB⟩ := H _ (List.getElem_mem hml)
    have hmB : m * B ≤ 30 * 100000000000 := Nat.mul_le_mul (by omega) hB
    obtain ⟨r, hr, hrB⟩ := ih (m + 1) (acc + z) N (by omega) (by omega) (by rw [Nat.add_mul, Nat.one_mul]; omega)
    refine ⟨r, ?_, hrB⟩
    rw [← hr]
    refine lp_go ?_
    have ew : w64 ((acc : Int) + (z : Int)) = ((acc + z : Nat) : Int) := w64_eq (by omega) (by omega)
    simp only [synthesisref01_Size_l1, d1, cond_true, e1, Option.bind_some, hz, ew, w64s m (by omega)]
theorem size_some : ∀ (d n : Nat) (x : Va), depV x ≤ d → d ≤ 6 → d ≤ n → wideV 30 x → ∃ z : Nat, synthesisref01_Size n x = some (z : Int) ∧ z ≤ 50 ^ d := by
  intro d
  induction d with
  | zero =>
    intro n x h
    obtain ⟨t, m, s, l⟩ := x
    exact absurd h (by unfold depV; omega)
  | succ d ih =>
    intro n x h hd hn hw
    obtain ⟨n, rfl⟩ : ∃ j, n = j + 1 := ⟨n - 1, by omega⟩
    obtain ⟨w1, w2⟩ := wide_items hw
    have hB : 50 ^ d ≤ 50 ^ 5 := Nat.pow_le_pow_right (by omega) (by omega)
    have hp5 : (50 : Nat) ^ 5 = 312500000 := by decide
    have hpos : 1 ≤ 50 ^ d := Nat.pow_pos (by omega)
    obtain ⟨z, hz, hzB⟩ := size_loop (l := x.items) (B := 50 ^ d) w1 (by omega) x rfl (fun y hy => ih n y (by have := dep_items hy; omega) (by omega) (by omega) (w2 y hy)) x.items.length 0 1 fuel (by omega) (lt_fuel (by omega)) (by omega)
    have hmul : x.items.length * 50 ^ d ≤ 30 * 50 ^ d := Nat.mul_le_mul_right _ w1
    refine ⟨z, ?_, by rw [Nat.pow_succ]; omega⟩
    show synthesisref01_Size_b (synthesisref01_Size n) x = _
    have hz' : loopN (synthesisref01_Size_l1 x (synthesisref01_Size n)) fuel (1, 0) = some (z : Int) := hz
    simp only [synthesisref01_Size_b, hz', Option.bind_some]
theorem value_some : ∀ (k n : Nat) (x : Va), k ≤ 5 → inV x → k < n → ∃ b, synthesislaw11_value n x (k : Int) = some b ∧ (b = true → depV x ≤ k ∧ wideV 30 x) := by
  intro k
  induction k with
  | zero =>
    intro n x _ hx hn
    obtain ⟨n, rfl⟩ : ∃ j, n = j + 1 := ⟨n - 1, by omega⟩
    refine ⟨false, ?_, fun h => by cases h⟩
    show synthesislaw11_value_b (synthesislaw11_value n) x 0 = _
    simp only [synthesislaw11_value_b, show ((0 : Int) == 0) = true from rfl, cond_true, Option.bind_some]
  | succ k ih =>
    intro n x hk hx hn
    obtain ⟨n, rfl⟩ : ∃ j, n = j + 1 := ⟨n - 1, by omega⟩
    obtain ⟨lx, sx, wx⟩ := inV_items hx
    have e0 : (((k + 1 : Nat) : Int) == 0) = false := by rw [beq_eq_false_iff_ne]; omega
    have goal : ∃ b, synthesislaw11_value_b (synthesislaw11_value n) x ((k + 1 : Nat) : Int) = some b ∧ (b = true → depV x ≤ k + 1 ∧ wideV 30 x) := by
      by_cases h1 : (100 : Int) < (x.text.size : Int)
      · exact ⟨false, by simp only [synthesislaw11_value_b, e0, cond_false, decide_eq_true h1, cond_true, Option.bind_some], fun h => by cases h⟩
      by_cases h2 : (30 : Int) < (x.items.length : Int)
      · exact ⟨false, by simp only [synthesislaw11_value_b, e0, cond_false, decide_eq_false h1, decide_eq_true h2, cond_true, Option.bind_some], fun h => by cases h⟩
      have ew : w64 (((k + 1 : Nat) : Int) - 1) = (k : Int) := by rw [show ((k + 1 : Nat) : Int) - 1 = (k : Int) by omega]; exact w64_eq (by omega) (by omega)
      have hsc := loop_scan (step := synthesislaw11_value_l1 x ((k + 1 : Nat) : Int) (synthesislaw11_value n)) (P := fun i => ∀ y, x.items[i]? = some y → depV y ≤ k ∧ wideV 30 y) (R := fun b => b = .inr false) (b0 := .inl ()) x.items.length (fun i hi => by
        have e1 : idx x.items (i : Int) = some x.items[i] := by rw [idx_nat, List.getElem?_eq_getElem hi]
        obtain ⟨b, hb, hb2⟩ := ih n x.items[i] (by omega) (wx _ (List.getElem_mem hi)) (by omega)
        cases b with
        | true =>
          refine .inl ⟨?_, fun y hy => ?_⟩
          · simp only [synthesislaw11_value_l1, lt_len hi, cond_true, e1, Option.bind_some, ew, hb, Bool.not_true, cond_false, w64s i (by omega)]
          · rw [List.getElem?_eq_getElem hi] at hy
            rw [← Option.some.inj hy]
            exact hb2 rfl
        | false => exact .inr ⟨_, rfl, by simp only [synthesislaw11_value_l1, lt_len hi, cond_true, e1, Option.bind_some, ew, hb, Bool.not_false]⟩) (by simp only [synthesislaw11_value_l1, lt_len', cond_false]) x.items.length 0 fuel (by omega) (lt_fuel (by omega)) (fun i hi => by omega)
      rcases hsc with ⟨a1, a2⟩ | ⟨b, rfl, a1⟩
      · have a1' : loopN (synthesislaw11_value_l1 x ((k + 1 : Nat) : Int) (synthesislaw11_value n)) fuel 0 = some (.inl ()) := a1
        have all : ∀ y ∈ x.items, depV y ≤ k ∧ wideV 30 y := fun y hy => by
          obtain ⟨i, hi⟩ := List.mem_iff_getElem?.1 hy
          exact a2 i (get_lt hi) y hi
        have hd : depV x ≤ k + 1 := depV_le fun y hy => (all y hy).1
        have hw : wideV 30 x := by
          obtain ⟨t, m, s, l⟩ := x
          have gen : ∀ l : List Va, (∀ x ∈ l, wideV 30 x) → wideVs 30 l := fun l => by
            induction l with
            | nil => exact fun _ => trivial
            | cons y l ih => exact fun h => ⟨h y (List.mem_cons_self ..), ih fun z hz => h z (List.mem_cons_of_mem _ hz)⟩
          exact ⟨by have : ¬ (30 : Int) < (l.length : Int) := h2; omega, gen l fun y hy => (all y hy).2⟩
        obtain ⟨z, hz, _⟩ := size_some (k + 1) fuel x hd (by omega) (Nat.le_of_lt (lt_fuel (by omega))) hw
        exact ⟨decide ((z : Int) ≤ 30), by simp only [synthesislaw11_value_b, e0, cond_false, decide_eq_false h1, decide_eq_false h2, Option.bind_some, a1', Sum.elim_inl, hz], fun _ => ⟨hd, hw⟩⟩
      · have a1' : loopN (synthesislaw11_value_l1 x ((k + 1 : Nat) : Int) (synthesislaw11_value n)) fuel 0 = some (.inr false) := a1
        exact ⟨false, by simp only [synthesislaw11_value_b, e0, cond_false, decide_eq_false h1, decide_eq_false h2, Option.bind_some, a1', Sum.elim_inr], fun h => by cases h⟩
    exact goal
/-- a small language -/
def SmallL (l : La) : Prop := l.name.size ≤ 100 ∧ l.inputs.length ≤ 10 ∧ l.symbols.length ≤ 20 ∧ l.rules.length ≤ 100 ∧ (∀ y ∈ l.symbols, y.name.size ≤ 100) ∧ ∀ r ∈ l.rules, r.args.length ≤ 10 ∧ r.op.size ≤ 100 ∧ depV r.const ≤ 4 ∧ wideV 30 r.const
theorem smallL_some {l : La} (h : wideL l) : ∃ b, synthesislaw11_small l = some b ∧ (b = true → SmallL l) := by
  obtain ⟨h1, h2, h3, h4, h5, h6⟩ := h
  by_cases g1 : (100 : Int) < (l.name.size : Int)
  · exact ⟨false, by simp only [synthesislaw11_small, decide_eq_true g1, cond_true, Option.bind_some], fun h => by cases h⟩
  by_cases g2 : (10 : Int) < (l.inputs.length : Int)
  · exact ⟨false, by simp only [synthesislaw11_small, decide_eq_false g1, decide_eq_true g2, cond_true, cond_false, Option.bind_some], fun h => by cases h⟩
  by_cases g3 : (20 : Int) < (l.symbols.length : Int)
  · exact ⟨false, by simp only [synthesislaw11_small, decide_eq_false g1, decide_eq_false g2, decide_eq_true g3, cond_true, cond_false, Option.bind_some], fun h => by cases h⟩
  by_cases g4 : (100 : Int) < (l.rules.length : Int)
  · exact ⟨false, by simp only [synthesislaw11_small, decide_eq_false g1, decide_eq_false g2, decide_eq_false g3, decide_eq_true g4, cond_true, cond_false, Option.bind_some], fun h => by cases h⟩
  have s2 := loop_scan (step := synthesislaw11_small_l2 l) (P := fun i => ∀ y, l.symbols[i]? = some y → y.name.size ≤ 100) (R := fun b => b = .inr false) (b0 := .inl ()) l.symbols.length (fun i hi => by
    have e1 : idx l.symbols (i : Int) = some l.symbols[i] := by rw [idx_nat, List.getElem?_eq_getElem hi]
    by_cases hb : (100 : Int) < (l.symbols[i].name.size : Int)
    · exact .inr ⟨_, rfl, by simp only [synthesislaw11_small_l2, lt_len hi, cond_true, e1, Option.bind_some, decide_eq_true hb]⟩
    · refine .inl ⟨by simp only [synthesislaw11_small_l2, lt_len hi, cond_true, cond_false, e1, Option.bind_some, decide_eq_false hb, w64s i (by omega)], fun y hy => ?_⟩
      rw [List.getElem?_eq_getElem hi] at hy
      rw [← Option.some.inj hy]
      omega) (by simp only [synthesislaw11_small_l2, lt_len', cond_false]) l.symbols.length 0 fuel (by omega) (lt_fuel (by omega)) (fun i hi => by omega)
  have s1 := loop_scan (step := synthesislaw11_small_l1 l) (P := fun i => ∀ r, l.rules[i]? = some r → r.args.length ≤ 10 ∧ r.op.size ≤ 100 ∧ depV r.const ≤ 4 ∧ wideV 30 r.const) (R := fun b => b = .inr false) (b0 := .inl ()) l.rules.length (fun i hi => by
    have e1 : idx l.rules (i : Int) = some l.rules[i] := by rw [idx_nat, List.getElem?_eq_getElem hi]
    have hw := h6 _ (List.getElem_mem hi)
    obtain ⟨b, hb, hb2⟩ := value_some 4 fuel l.rules[i].const (by omega) hw.2 (lt_fuel (by omega))
    have hb' : synthesislaw11_value fuel l.rules[i].const 4 = some b := hb
    by_cases q1 : (10 : Int) < (l.rules[i].args.length : Int)
    · exact .inr ⟨_, rfl, by simp only [synthesislaw11_small_l1, lt_len hi, cond_true, e1, Option.bind_some, decide_eq_true q1]⟩
    by_cases q2 : (100 : Int) < (l.rules[i].op.size : Int)
    · exact .inr ⟨_, rfl, by simp only [synthesislaw11_small_l1, lt_len hi, cond_true, cond_false, e1, Option.bind_some, decide_eq_false q1, decide_eq_true q2]⟩
    cases b with
    | false => exact .inr ⟨_, rfl, by simp only [synthesislaw11_small_l1, lt_len hi, cond_true, cond_false, e1, Option.bind_some, decide_eq_false q1, decide_eq_false q2, hb', Bool.not_false]⟩
    | true =>
      refine .inl ⟨by simp only [synthesislaw11_small_l1, lt_len hi, cond_true, cond_false, e1, Option.bind_some, decide_eq_false q1, decide_eq_false q2, hb', Bool.not_true, w64s i (by omega)], fun r hr => ?_⟩
      rw [List.getElem?_eq_getElem hi] at hr
      rw [← Option.some.inj hr]
      exact ⟨by omega, by omega, hb2 rfl⟩) (by simp only [synthesislaw11_small_l1, lt_len', cond_false]) l.rules.length 0 fuel (by omega) (lt_fuel (by omega)) (fun i hi => by omega)
  rcases s2 with ⟨a2, p2⟩ | ⟨b, rfl, a2⟩
  · have a2' : loopN (synthesislaw11_small_l2 l) fuel 0 = some (.inl ()) := a2
    rcases s1 with ⟨a1, p1⟩ | ⟨b, rfl, a1⟩
    · have a1' : loopN (synthesislaw11_small_l1 l) fuel 0 = some (.inl ()) := a1
      refine ⟨true, by simp only [synthesislaw11_small, decide_eq_false g1, decide_eq_false g2, decide_eq_false g3, decide_eq_false g4, cond_false, Option.bind_some, a2', a1', Sum.elim_inl], fun _ => ⟨by omega, by omega, by omega, by omega, fun y hy => ?_, fun r hr => ?_⟩⟩
      · obtain ⟨i, hi⟩ := List.mem_iff_getElem?.1 hy
        exact p2 i (get_lt hi) y hi
      · obtain ⟨i, hi⟩ := List.mem_iff_getElem?.1 hr
        exact p1 i (get_lt hi) r hi
    · have a1' : loopN (synthesislaw11_small_l1 l) fuel 0 = some (.inr false) := a1
      exact ⟨false, by simp only [synthesislaw11_small, decide_eq_false g1, decide_eq_false g2, decide_eq_false g3, decide_eq_false g4, cond_false, Option.bind_some, a2', a1', Sum.elim_inl, Sum.elim_inr], fun h => by cases h⟩
  · have a2' : loopN (synthesislaw11_small_l2 l) fuel 0 = some (.inr false) := a2
    exact ⟨false, by simp only [synthesislaw11_small, decide_eq_false g1, decide_eq_false g2, decide_eq_false g3, decide_eq_false g4, cond_false, Option.bind_some, a2', Sum.elim_inr], fun h => by cases h⟩
theorem awake11 : synthesislaw11_awake_h3 = some true := by kernel_rfl
/-! the rules of a symbol -/
end Go.Proofs.YtfhmljjkhjifeaaGreatDoor
set_option linter.unusedVariables false
set_option linter.unusedSimpArgs false
set_option maxRecDepth 100000
namespace Go.Proofs.YtfhmljjkhjifeaaGreatDoor
open Go Go.RowKit

/-- all arguments of a rule are marked -/
def allB (r : Ru) (s : List Bool) : Bool := r.args.all fun a => s.getD a.toNat false
theorem idx_getD {s : List Bool} {a : Int} (h0 : 0 ≤ a) (h1 : a < (s.length : Int)) : idx s a = some (s.getD a.toNat false) := by
  obtain ⟨n, rfl⟩ : ∃ n : Nat, a = (n : Int) := ⟨a.toNat, by omega⟩
  have hn : n < s.length := by omega
  rw [idx_nat, List.getElem?_eq_getElem hn]
  simp [List.getD, List.getElem?_eq_getElem hn]
theorem all_scan {r : Ru} {s : List Bool} (hr : r.args.length ≤ 1000) (ha : ∀ a ∈ r.args, 0 ≤ a ∧ a < (s.length : Int)) : synthesisref11_all r s = some (allB r s) ∧ grammar_productive_1_h r s = some (allB r s) ∧ grammar_complete_1_h r s = some (allB r s) := by
  have key : ∀ {β : Type} (step : Int → Option (Int ⊕ β)) (y n : β), (∀ i : Nat, (hi : i < r.args.length) → step (i : Int) = some (bif s.getD (r.args[i]).toNat false then .inl ((i + 1 : Nat) : Int) else .inr n)) → step (r.args.length : Int) = some (.inr y) →
      loopN step fuel 0 = some (if allB r s = true then y else n) := fun {β} step y n h1 h2 => by
    have := loop_fuel (step := step) r.args.length (by omega) (fun i => (i : Int)) (fun i => if ((r.args.drop i).all fun a => s.getD a.toNat false) = true then y else n) (fun i hi => by
      have hd := List.drop_eq_getElem_cons hi
      have hs := h1 i hi
      cases hb : s.getD (r.args[i]).toNat false with
      | true =>
        rw [hb] at hs
        refine .inl ⟨hs, ?_⟩
        rw [hd, List.all_cons, hb, Bool.true_and]
      | false =>
        rw [hb] at hs
        refine .inr ?_
        rw [hd, List.all_cons, hb, Bool.false_and, if_neg Bool.false_ne_true]
        exact hs) (by
      rw [List.drop_length]
      exact h2)
    exact this
  have e1 : ∀ i : Nat, (hi : i < r.args.length) → idx r.args (i : Int) = some r.args[i] := fun i hi => by rw [idx_nat, List.getElem?_eq_getElem hi]
  have e2 : ∀ i : Nat, (hi : i < r.args.length) → idx s r.args[i] = some (s.getD (r.args[i]).toNat false) := fun i hi => idx_getD (ha _ (List.getElem_mem hi)).1 (ha _ (List.getElem_mem hi)).2
  have k1 := key (synthesisref11_all_l1 r s) (.inl ()) (.inr false) (fun i hi => by
    simp only [synthesisref11_all_l1, lt_len hi, cond_true, e1 i hi, e2 i hi, Option.bind_some, w64s i (by omega)]
    cases s.getD (r.args[i]).toNat false <;> rfl) (by simp only [synthesisref11_all_l1, lt_len', cond_false])
  have k2 := key (grammar_productive_1_h_l1 r s) (.inl ()) (.inr ()) (fun i hi => by
    simp only [grammar_productive_1_h_l1, lt_len hi, cond_true, e1 i hi, e2 i hi, Option.bind_some, w64s i (by omega)]
    cases s.getD (r.args[i]).toNat false <;> rfl) (by simp only [grammar_productive_1_h_l1, lt_len', cond_false])
  have k3 := key (grammar_complete_1_h_l1 r s) (.inl ()) (.inr ()) (fun i hi => by
    simp only [grammar_complete_1_h_l1, lt_len hi, cond_true, e1 i hi, e2 i hi, Option.bind_some, w64s i (by omega)]
    cases s.getD (r.args[i]).toNat false <;> rfl) (by simp only [grammar_complete_1_h_l1, lt_len', cond_false])
  refine ⟨?_, ?_, ?_⟩
  · simp only [synthesisref11_all, k1, Option.bind_some]; cases allB r s <;> rfl
  · simp only [grammar_productive_1_h, k2, Option.bind_some]; cases allB r s <;> rfl
  · simp only [grammar_complete_1_h, k3, Option.bind_some]; cases allB r s <;> rfl
theorem setB_same {s : List Bool} {n : Nat} (h : n < s.length) (b : Bool) (hb : s.getD n false = b) : s.set n b = s := by
  have : s[n] = b := by simpa [List.getD, List.getElem?_eq_getElem h] using hb
  rw [← this, List.set_getElem_self]
/-- one rule -/
def prodS (r : Ru) (s : List Bool) : List Bool := if allB r s = true then s.set r.symbol.toNat true else s
theorem prod_step {l : La} (hg : GoodL l) {i : Nat} (hi : i < l.rules.length) {s : List Bool} (hs : s.length = l.symbols.length) :
    grammar_productive_l1 l ((i : Int), s) = some (.inl (((i + 1 : Nat) : Int), prodS l.rules[i] s)) ∧ synthesisref11_productive_l1 l ((i : Int), s) = some (.inl (((i + 1 : Nat) : Int), prodS l.rules[i] s)) := by
  have hr := hg.good _ (List.getElem_mem hi)
  have e1 : idx l.rules (i : Int) = some l.rules[i] := by rw [idx_nat, List.getElem?_eq_getElem hi]
  obtain ⟨a1, a2, _⟩ := all_scan (r := l.rules[i]) (s := s) (by have := hr.few; omega) (fun a ha => by rw [hs]; exact hr.args a ha)
  have e2 := idx_getD (s := s) hr.sym0 (by rw [hs]; exact hr.sym1)
  have hn : l.rules[i].symbol.toNat < s.length := by have := hr.sym0; have := hr.sym1; omega
  have hlen := hg.rules
  constructor
  · simp only [grammar_productive_l1, lt_len hi, cond_true, e1, e2, Option.bind_some, a2, w64s i (by omega)]
    cases hb : s.getD l.rules[i].symbol.toNat false with
    | true =>
      have hset := setB_same hn true hb
      unfold prodS
      rw [hset]
      cases allB l.rules[i] s <;> rfl
    | false =>
      unfold prodS
      cases hc : allB l.rules[i] s with
      | true => rfl
      | false =>
        have hset := setB_same hn false hb
        simp only [cond_false, Option.bind_some, hset]
        rfl
  · simp only [synthesisref11_productive_l1, lt_len hi, cond_true, e1, e2, Option.bind_some, a1, w64s i (by omega)]
    unfold prodS
    cases allB l.rules[i] s <;> rfl
theorem prodS_len (r : Ru) (s : List Bool) : (prodS r s).length = s.length := by unfold prodS; split <;> simp
theorem prod_round {l : La} (hg : GoodL l) : ∀ (k m N : Nat) (s : List Bool), m + k = l.rules.length → k < N → s.length = l.symbols.length →
    loopN (grammar_productive_l1 l) N ((m : Int), s) = some ((l.rules.drop m).foldl (fun s r => prodS r s) s) ∧ loopN (synthesisref11_productive_l1 l) N ((m : Int), s) = some ((l.rules.drop m).foldl (fun s r => prodS r s) s) := by
  intro k
  induction k with
  | zero =>
    intro m N s hm hN hs
    obtain ⟨N, rfl⟩ : ∃ j, N = j + 1 := ⟨N - 1, by omega⟩
    obtain rfl : m = l.rules.length := by omega
    rw [List.drop_length]
    exact ⟨lp_out (by simp only [grammar_productive_l1, lt_len', cond_false]; rfl), lp_out (by simp only [synthesisref11_productive_l1, lt_len', cond_false]; rfl)⟩
  | succ k ih =>
    intro m N s hm hN hs
    obtain ⟨N, rfl⟩ : ∃ j, N = j + 1 := ⟨N - 1, by omega⟩
    have hi : m < l.rules.length := by omega
    obtain ⟨s1, s2⟩ := prod_step hg hi hs
    rw [lp_go s1, lp_go s2, List.drop_eq_getElem_cons hi, List.foldl_cons]
    exact ih (m + 1) N _ (by omega) (by omega) (by rw [prodS_len]; exact hs)
/-- one round over the rules -/
def roundS (l : La) (s : List Bool) : List Bool := l.rules.foldl (fun s r => prodS r s) s
theorem foldl_len (rs : List Ru) : ∀ s : List Bool, (rs.foldl (fun s r => prodS r s) s).length = s.length := by
  induction rs with
  | nil => intro s; rfl
  | cons r rs ih => intro s; rw [List.foldl_cons, ih, prodS_len]
theorem roundS_len (l : La) (s : List Bool) : (roundS l s).length = s.length := foldl_len _ s
def roundsS (l : La) : Nat → List Bool → List Bool
  | 0, s => s
  | k + 1, s => roundsS l k (roundS l s)
theorem roundsS_len (l : La) : ∀ (k : Nat) (s : List Bool), (roundsS l k s).length = s.length
  | 0, s => rfl
  | k + 1, s => by rw [roundsS, roundsS_len l k, roundS_len]
theorem prod_rounds {l : La} (hg : GoodL l) : ∀ (k m N : Nat) (s : List Bool), m + k = l.symbols.length → k < N → s.length = l.symbols.length →
    loopN (grammar_productive_l2 l) N ((m : Int), s) = some (roundsS l k s) ∧ loopN (synthesisref11_productive_l2 l) N ((m : Int), s) = some (roundsS l k s) := by
  have h16 := hg.sym16
  intro k
  induction k with
  | zero =>
    intro m N s hm hN hs
    obtain ⟨N, rfl⟩ : ∃ j, N = j + 1 := ⟨N - 1, by omega⟩
    obtain rfl : m = l.symbols.length := by omega
    exact ⟨lp_out (by simp only [grammar_productive_l2, lt_len', cond_false]; rfl), lp_out (by simp only [synthesisref11_productive_l2, lt_len', cond_false]; rfl)⟩
  | succ k ih =>
    intro m N s hm hN hs
    obtain ⟨N, rfl⟩ : ∃ j, N = j + 1 := ⟨N - 1, by omega⟩
    have hi : m < l.symbols.length := by omega
    obtain ⟨r1, r2⟩ := prod_round hg l.rules.length 0 fuel s (by omega) (lt_fuel (by have := hg.rules; omega)) hs
    rw [List.drop_zero] at r1 r2
    have r1' : loopN (grammar_productive_l1 l) fuel (0, s) = some (roundS l s) := r1
    have r2' : loopN (synthesisref11_productive_l1 l) fuel (0, s) = some (roundS l s) := r2
    have s1 : grammar_productive_l2 l ((m : Int), s) = some (.inl (((m + 1 : Nat) : Int), roundS l s)) := by simp only [grammar_productive_l2, lt_len hi, cond_true, r1', Option.bind_some, w64s m (by omega)]
    have s2 : synthesisref11_productive_l2 l ((m : Int), s) = some (.inl (((m + 1 : Nat) : Int), roundS l s)) := by simp only [synthesisref11_productive_l2, lt_len hi, cond_true, r2', Option.bind_some, w64s m (by omega)]
    rw [lp_go s1, lp_go s2]
    exact ih (m + 1) N _ (by omega) (by omega) (by rw [roundS_len]; exact hs)
/-- the productive symbols -/
def prodL (l : La) : List Bool := roundsS l l.symbols.length (List.replicate l.symbols.length false)
theorem prodL_len (l : La) : (prodL l).length = l.symbols.length := by unfold prodL; rw [roundsS_len, List.length_replicate]
theorem productive_eq {l : La} (hg : GoodL l) : grammar_productive l = some (prodL l) ∧ synthesisref11_productive l = some (prodL l) := by
  have h16 := hg.sym16
  have hm := mkL_eq 1 false l.symbols.length (by omega)
  obtain ⟨r1, r2⟩ := prod_rounds hg l.symbols.length 0 fuel (List.replicate l.symbols.length false) (by omega) (lt_fuel (by omega)) (by simp)
  have r1' : loopN (grammar_productive_l2 l) fuel (0, List.replicate l.symbols.length false) = some (prodL l) := r1
  have r2' : loopN (synthesisref11_productive_l2 l) fuel (0, List.replicate l.symbols.length false) = some (prodL l) := r2
  exact ⟨by simp only [grammar_productive, hm, Option.bind_some, r1'], by simp only [synthesisref11_productive, hm, Option.bind_some, r2']⟩
end Go.Proofs.YtfhmljjkhjifeaaGreatDoor
set_option linter.unusedVariables false
set_option linter.unusedSimpArgs false
set_option maxRecDepth 100000
namespace Go.Proofs.YtfhmljjkhjifeaaGreatDoor
open Go Go.RowKit

def mk (s : List Bool) (i : Nat) : Bool := s.getD i false
/-- how many are not marked -/
def cf (s : List Bool) : Nat := s.countP (! ·)
theorem cf_le : ∀ {s t : List Bool}, s.length = t.length → (∀ i, mk s i = true → mk t i = true) → cf t ≤ cf s
  | [], [], _, _ => Nat.le_refl _
  | a :: s, b :: t, hl, h => by
    have ih := cf_le (s := s) (t := t) (by simpa using hl) fun i hi => by
      have := h (i + 1)
      simpa [mk] using this (by simpa [mk] using hi)
    have h0 := h 0
    simp only [mk, List.getD_cons_zero] at h0
    unfold cf at ih ⊢
    simp only [List.countP_cons]
    cases a <;> cases b <;> simp at h0 ⊢ <;> omega
theorem cf_set : ∀ {s : List Bool} {i : Nat}, i < s.length → mk s i = false → cf (s.set i true) + 1 = cf s
  | a :: s, 0, _, h => by
    simp only [mk, List.getD_cons_zero] at h
    subst h
    simp [cf]
  | a :: s, i + 1, hl, h => by
    have ih := cf_set (s := s) (i := i) (by simpa using hl) (by simpa [mk] using h)
    unfold cf at ih ⊢
    simp only [List.set_cons_succ, List.countP_cons]
    omega
theorem mk_set {s : List Bool} {i j : Nat} (hi : i < s.length) : mk (s.set i true) j = (if i = j then true else mk s j) := by
  unfold mk
  by_cases h : i = j
  · subst h
    simp [List.getD, hi]
  · rw [if_neg h]
    simp [List.getD, List.getElem?_set, h]
def dfs (succ : Nat → List Nat) : Nat → Nat → List Bool → List Bool
  | 0, _, out => out
  | n + 1, s, out => (succ s).foldl (fun cur a => if mk cur a = true then cur else dfs succ n a (cur.set a true)) out
def Reach (succ : Nat → List Nat) (x y : Nat) : Prop := Relation.TransGen (fun x y => y ∈ succ x) x y
theorem dfs_ok {succ : Nat → List Nat} {N : Nat} (hs : ∀ x, ∀ a ∈ succ x, a < N) : ∀ (n s : Nat) (out : List Bool), out.length = N → cf out < n →
    (dfs succ n s out).length = N ∧ (∀ y, mk out y = true → mk (dfs succ n s out) y = true) ∧ (∀ a ∈ succ s, mk (dfs succ n s out) a = true) ∧
    (∀ y, mk (dfs succ n s out) y = true → mk out y = false → ∀ z ∈ succ y, mk (dfs succ n s out) z = true) ∧ ∀ y, mk (dfs succ n s out) y = true → mk out y = true ∨ Reach succ s y := by
  intro n
  induction n with
  | zero => intro s out _ h; omega
  | succ n ih =>
    intro s out hl hc
    have key : ∀ (bs : List Nat) (cur : List Bool), (∀ a ∈ bs, a ∈ succ s) → cur.length = N → (∀ y, mk out y = true → mk cur y = true) → (∀ y, mk cur y = true → mk out y = false → ∀ z ∈ succ y, mk cur z = true) → (∀ y, mk cur y = true → mk out y = true ∨ Reach succ s y) →
        let r := bs.foldl (fun cur a => if mk cur a = true then cur else dfs succ n a (cur.set a true)) cur
        r.length = N ∧ (∀ y, mk cur y = true → mk r y = true) ∧ (∀ a ∈ bs, mk r a = true) ∧ (∀ y, mk r y = true → mk out y = false → ∀ z ∈ succ y, mk r z = true) ∧ ∀ y, mk r y = true → mk out y = true ∨ Reach succ s y := by
      intro bs
      induction bs with
      | nil => intro cur _ h1 h2 h3 h4; exact ⟨h1, fun _ h => h, fun a h => (by cases h), h3, h4⟩
      | cons a bs iha =>
        intro cur has h1 h2 h3 h4
        have ha := has a (List.mem_cons_self ..)
        have haN := hs s a ha
        simp only [List.foldl_cons]
        by_cases hm : mk cur a = true
        · rw [if_pos hm]
          obtain ⟨k1, k2, k3, k4, k5⟩ := iha cur (fun b hb => has b (List.mem_cons_of_mem _ hb)) h1 h2 h3 h4
          exact ⟨k1, k2, fun b hb => (List.mem_cons.1 hb).elim (fun h => by rw [h]; exact k2 a hm) (k3 b), k4, k5⟩
        · rw [if_neg hm]
          have hm' : mk cur a = false := by simpa using hm
          have hset := fun y => mk_set (s := cur) (i := a) (j := y) (by omega)
          have hcf := cf_set (s := cur) (i := a) (by omega) hm'
          have hcc := cf_le (s := out) (t := cur) (by omega) h2
          obtain ⟨d1, d2, d3, d4, d5⟩ := ih a (cur.set a true) (by simpa using h1) (by omega)
          have up : ∀ y, mk cur y = true → mk (dfs succ n a (cur.set a true)) y = true := fun y hy => d2 y (by rw [hset]; split <;> first | rfl | exact hy)
          have hra : Reach succ s a := Relation.TransGen.single ha
          obtain ⟨k1, k2, k3, k4, k5⟩ := iha (dfs succ n a (cur.set a true)) (fun b hb => has b (List.mem_cons_of_mem _ hb)) d1 (fun y hy => up y (h2 y hy)) (fun y hy hout z hz => by
            by_cases hya : y = a
            · subst hya; exact d3 z hz
            · cases hcy : mk cur y with
              | true => exact up z (h3 y hcy hout z hz)
              | false => exact d4 y hy (by rw [hset, if_neg (fun h => hya h.symm)]; exact hcy) z hz) (fun y hy => by
            rcases d5 y hy with h | h
            · rw [hset] at h
              by_cases hya : a = y
              · exact .inr (hya ▸ hra)
              · rw [if_neg hya] at h; exact h4 y h
            · exact .inr (hra.trans h))
          exact ⟨k1, fun y hy => k2 y (up y hy), fun b hb => (List.mem_cons.1 hb).elim (fun h => by rw [h]; exact k2 a (d2 a (by rw [hset, if_pos rfl]))) (k3 b), k4, k5⟩
    obtain ⟨k1, k2, k3, k4, k5⟩ := key (succ s) out (fun _ h => h) hl (fun _ h => h) (fun y h1 h2 => (by rw [h1] at h2; cases h2)) (fun y h => .inl h)
    exact ⟨k1, k2, k3, k4, k5⟩
end Go.Proofs.YtfhmljjkhjifeaaGreatDoor
set_option linter.unusedVariables false
set_option linter.unusedSimpArgs false
set_option maxRecDepth 100000
namespace Go.Proofs.YtfhmljjkhjifeaaGreatDoor
open Go Go.RowKit

theorem cf_lt : ∀ {s t : List Bool}, s.length = t.length → (∀ i, mk s i = true → mk t i = true) → s ≠ t → cf t < cf s
  | [], [], _, _, h => absurd rfl h
  | a :: s, b :: t, hl, h, hne => by
    have hl' : s.length = t.length := by simpa using hl
    have h' : ∀ i, mk s i = true → mk t i = true := fun i hi => by
      have := h (i + 1)
      simpa [mk] using this (by simpa [mk] using hi)
    have h0 := h 0
    simp only [mk, List.getD_cons_zero] at h0
    have hle := cf_le hl' h'
    by_cases hst : s = t
    · subst hst
      have hab : a ≠ b := fun h => hne (by rw [h])
      unfold cf
      simp only [List.countP_cons]
      cases a <;> cases b <;> simp at h0 hab ⊢
    · have ih := cf_lt hl' h' hst
      unfold cf at ih ⊢
      simp only [List.countP_cons]
      cases a <;> cases b <;> simp at h0 ⊢ <;> omega
def iterL (f : List Bool → List Bool) : Nat → List Bool → List Bool
  | 0, s => s
  | k + 1, s => iterL f k (f s)
theorem iter_fix {f : List Bool → List Bool} {s : List Bool} (h : f s = s) : ∀ k, iterL f k s = s
  | 0 => rfl
  | k + 1 => by rw [iterL, h, iter_fix h k]
/-- all of these are marked -/
def markAll (as' : List Nat) (s : List Bool) : List Bool := as'.foldl (fun s a => s.set a true) s
theorem markAll_len : ∀ (l : List Nat) (s : List Bool), (markAll l s).length = s.length
  | [], s => rfl
  | a :: l, s => by rw [markAll, List.foldl_cons, ← markAll, markAll_len l]; simp
theorem markAll_mk : ∀ (l : List Nat) (s : List Bool) (y : Nat), (∀ a ∈ l, a < s.length) → (mk (markAll l s) y = true ↔ mk s y = true ∨ y ∈ l)
  | [], s, y, _ => by simp [markAll]
  | a :: l, s, y, h => by
    rw [markAll, List.foldl_cons, ← markAll, markAll_mk l _ y (fun b hb => by simpa using h b (List.mem_cons_of_mem _ hb)), mk_set (h a (List.mem_cons_self ..))]
    by_cases hay : a = y
    · subst hay; simp
    · rw [if_neg hay, List.mem_cons]
      constructor
      · rintro (h | h)
        · exact .inl h
        · exact .inr (.inr h)
      · rintro (h | h | h)
        · exact .inl h
        · exact absurd h.symm hay
        · exact .inr h
end Go.Proofs.YtfhmljjkhjifeaaGreatDoor
set_option linter.unusedVariables false
set_option linter.unusedSimpArgs false
set_option maxRecDepth 100000
namespace Go.Proofs.YtfhmljjkhjifeaaGreatDoor
open Go Go.RowKit

def argN (r : Ru) : List Nat := r.args.map Int.toNat
/-- one rule -/
def refS (adm : Ru → Bool) (fr : Nat) (s : List Bool) (r : Ru) : List Bool := if (r.symbol.toNat = fr ∨ mk s r.symbol.toNat = true) ∧ adm r = true then markAll (argN r) s else s
theorem refS_len (adm : Ru → Bool) (fr : Nat) (s : List Bool) (r : Ru) : (refS adm fr s r).length = s.length := by unfold refS; split; exact markAll_len _ _; rfl
theorem mark_loop {step : Int × List Bool → Option ((Int × List Bool) ⊕ List Bool)} {r : Ru} (hr : r.args.length ≤ 1000) (hs : ∀ (i : Nat) (hi : i < r.args.length) (s : List Bool), (∀ a ∈ r.args, 0 ≤ a ∧ a < (s.length : Int)) → step ((i : Int), s) = some (.inl (((i + 1 : Nat) : Int), s.set (r.args[i]).toNat true))) (he : ∀ s, step ((r.args.length : Int), s) = some (.inr s)) :
    ∀ (k m N : Nat) (s : List Bool), m + k = r.args.length → k < N → (∀ a ∈ r.args, 0 ≤ a ∧ a < (s.length : Int)) → loopN step N ((m : Int), s) = some (markAll ((r.args.drop m).map Int.toNat) s) := by
  intro k
  induction k with
  | zero =>
    intro m N s hm hN ha
    obtain ⟨N, rfl⟩ : ∃ j, N = j + 1 := ⟨N - 1, by omega⟩
    obtain rfl : m = r.args.length := by omega
    rw [List.drop_length]
    exact lp_out (he s)
  | succ k ih =>
    intro m N s hm hN ha
    obtain ⟨N, rfl⟩ : ∃ j, N = j + 1 := ⟨N - 1, by omega⟩
    have hi : m < r.args.length := by omega
    rw [lp_go (hs m hi s ha), List.drop_eq_getElem_cons hi, List.map_cons, markAll, List.foldl_cons, ← markAll]
    exact ih (m + 1) N _ (by omega) (by omega) (fun a h => by simpa using ha a h)
theorem ref_mark {r : Ru} {s : List Bool} (hr : r.args.length ≤ 1000) (ha : ∀ a ∈ r.args, 0 ≤ a ∧ a < (s.length : Int)) :
    loopN (synthesisref11_reach_h_l1 r) fuel (0, s) = some (markAll (argN r) s) ∧ loopN (synthesisref11_reach_h2_l1 r) fuel (0, s) = some (markAll (argN r) s) := by
  have e1 : ∀ (i : Nat) (hi : i < r.args.length), idx r.args (i : Int) = some r.args[i] := fun i hi => by rw [idx_nat, List.getElem?_eq_getElem hi]
  constructor
  · have := mark_loop (step := synthesisref11_reach_h_l1 r) hr (fun i hi s ha => by
      have e2 := idx_getD (ha _ (List.getElem_mem hi)).1 (ha _ (List.getElem_mem hi)).2
      simp only [synthesisref11_reach_h_l1, lt_len hi, cond_true, e1 i hi, e2, Option.bind_some, w64s i (by omega)]) (fun s => by simp only [synthesisref11_reach_h_l1, lt_len', cond_false]) r.args.length 0 fuel s (by omega) (lt_fuel (by omega)) ha
    exact this
  · have := mark_loop (step := synthesisref11_reach_h2_l1 r) hr (fun i hi s ha => by
      have e2 := idx_getD (ha _ (List.getElem_mem hi)).1 (ha _ (List.getElem_mem hi)).2
      simp only [synthesisref11_reach_h2_l1, lt_len hi, cond_true, e1 i hi, e2, Option.bind_some, w64s i (by omega)]) (fun s => by simp only [synthesisref11_reach_h2_l1, lt_len', cond_false]) r.args.length 0 fuel s (by omega) (lt_fuel (by omega)) ha
    exact this
theorem bneq_nat {a : Int} {fr : Nat} (h0 : 0 ≤ a) : (a != (fr : Int)) = !decide (a.toNat = fr) := by
  by_cases h : a.toNat = fr
  · rw [decide_eq_true h, bne_eq_false_iff_eq.2 (by omega)]; rfl
  · rw [decide_eq_false h]
    have : a ≠ (fr : Int) := by omega
    simpa using this
theorem ref_step {l : La} (hg : GoodL l) {i : Nat} (hi : i < l.rules.length) {s : List Bool} (hs : s.length = l.symbols.length) (fr : Nat) :
    synthesisref11_reach_h_l2 l (fr : Int) ((i : Int), s) = some (.inl (((i + 1 : Nat) : Int), refS (fun _ => true) fr s l.rules[i])) ∧
    ∀ p : List Bool, p ≠ [] → p.length = l.symbols.length → synthesisref11_reach_h2_l2 l (fr : Int) p ((i : Int), s) = some (.inl (((i + 1 : Nat) : Int), refS (fun r => allB r p) fr s l.rules[i])) := by
  have hr := hg.good _ (List.getElem_mem hi)
  have hlen := hg.rules
  have e1 : idx l.rules (i : Int) = some l.rules[i] := by rw [idx_nat, List.getElem?_eq_getElem hi]
  have e2 := idx_getD (s := s) hr.sym0 (by rw [hs]; exact hr.sym1)
  have ha : ∀ a ∈ l.rules[i].args, 0 ≤ a ∧ a < (s.length : Int) := fun a ha => by rw [hs]; exact hr.args a ha
  obtain ⟨m1, m2⟩ := ref_mark (r := l.rules[i]) (s := s) (by have := hr.few; omega) ha
  have hb := bneq_nat (fr := fr) hr.sym0
  constructor
  · simp only [synthesisref11_reach_h_l2, lt_len hi, cond_true, e1, Option.bind_some, hb, e2, w64s i (by omega), m1]
    unfold refS mk
    by_cases h1 : l.rules[i].symbol.toNat = fr
    · rw [decide_eq_true h1, if_pos ⟨.inl h1, rfl⟩]; rfl
    · rw [decide_eq_false h1]
      cases h2 : s.getD l.rules[i].symbol.toNat false with
      | true => rw [if_pos ⟨.inr rfl, rfl⟩]; rfl
      | false => rw [if_neg (by rintro ⟨h | h, _⟩; exact h1 h; cases h)]; rfl
  · intro p hp hpl
    have hne : nonE p = some () := by cases p with
      | nil => exact absurd rfl hp
      | cons => rfl
    obtain ⟨a1, _, _⟩ := all_scan (r := l.rules[i]) (s := p) (by have := hr.few; omega) (fun a ha => by rw [hpl]; exact hr.args a ha)
    simp only [synthesisref11_reach_h2_l2, lt_len hi, cond_true, e1, Option.bind_some, hb, e2, w64s i (by omega), m2, hne, a1]
    unfold refS mk
    by_cases h1 : l.rules[i].symbol.toNat = fr
    · rw [decide_eq_true h1]
      cases h3 : allB l.rules[i] p with
      | true => rw [if_pos ⟨.inl h1, h3⟩]; rfl
      | false => rw [if_neg (by rintro ⟨_, h⟩; exact absurd (h3.symm.trans h) (by decide))]; rfl
    · rw [decide_eq_false h1]
      cases h2 : s.getD l.rules[i].symbol.toNat false with
      | true =>
        cases h3 : allB l.rules[i] p with
        | true => rw [if_pos ⟨.inr rfl, h3⟩]; rfl
        | false => rw [if_neg (by rintro ⟨_, h⟩; exact absurd (h3.symm.trans h) (by decide))]; rfl
      | false => rw [if_neg (by rintro ⟨h | h, _⟩; exact h1 h; cases h)]; rfl
end Go.Proofs.YtfhmljjkhjifeaaGreatDoor
set_option linter.unusedVariables false
set_option linter.unusedSimpArgs false
set_option maxRecDepth 100000
namespace Go.Proofs.YtfhmljjkhjifeaaGreatDoor
open Go Go.RowKit

def roundF (adm : Ru → Bool) (fr : Nat) (l : La) (s : List Bool) : List Bool := l.rules.foldl (refS adm fr) s
theorem foldF_len (adm : Ru → Bool) (fr : Nat) : ∀ (rs : List Ru) (s : List Bool), (rs.foldl (refS adm fr) s).length = s.length
  | [], s => rfl
  | r :: rs, s => by rw [List.foldl_cons, foldF_len adm fr rs, refS_len]
theorem iterL_len {f : List Bool → List Bool} (h : ∀ s, (f s).length = s.length) : ∀ (k : Nat) (s : List Bool), (iterL f k s).length = s.length
  | 0, s => rfl
  | k + 1, s => by rw [iterL, iterL_len h k, h]
theorem ref_loop2 {l : La} (hg : GoodL l) {adm : Ru → Bool} {fr : Nat} {step : Int × List Bool → Option ((Int × List Bool) ⊕ List Bool)} (hs : ∀ (i : Nat) (hi : i < l.rules.length) (s : List Bool), s.length = l.symbols.length → step ((i : Int), s) = some (.inl (((i + 1 : Nat) : Int), refS adm fr s l.rules[i]))) (he : ∀ s, step ((l.rules.length : Int), s) = some (.inr s)) :
    ∀ (k m N : Nat) (s : List Bool), m + k = l.rules.length → k < N → s.length = l.symbols.length → loopN step N ((m : Int), s) = some ((l.rules.drop m).foldl (refS adm fr) s) := by
  intro k
  induction k with
  | zero =>
    intro m N s hm hN ha
    obtain ⟨N, rfl⟩ : ∃ j, N = j + 1 := ⟨N - 1, by omega⟩
    obtain rfl : m = l.rules.length := by omega
    rw [List.drop_length]
    exact lp_out (he s)
  | succ k ih =>
    intro m N s hm hN ha
    obtain ⟨N, rfl⟩ : ∃ j, N = j + 1 := ⟨N - 1, by omega⟩
    have hi : m < l.rules.length := by omega
    rw [lp_go (hs m hi s ha), List.drop_eq_getElem_cons hi, List.foldl_cons]
    exact ih (m + 1) N _ (by omega) (by omega) (by rw [refS_len]; exact ha)
theorem ref_loop3 {l : La} {f : List Bool → List Bool} (hf : ∀ s, (f s).length = s.length) {step : Int × List Bool → Option ((Int × List Bool) ⊕ List Bool)} (hs : ∀ (i : Nat) (s : List Bool), i ≤ l.symbols.length → s.length = l.symbols.length → step ((i : Int), s) = some (.inl (((i + 1 : Nat) : Int), f s))) (he : ∀ s, step (((l.symbols.length + 1 : Nat) : Int), s) = some (.inr s)) :
    ∀ (k m N : Nat) (s : List Bool), m + k = l.symbols.length + 1 → k < N → s.length = l.symbols.length → loopN step N ((m : Int), s) = some (iterL f k s) := by
  intro k
  induction k with
  | zero =>
    intro m N s hm hN ha
    obtain ⟨N, rfl⟩ : ∃ j, N = j + 1 := ⟨N - 1, by omega⟩
    obtain rfl : m = l.symbols.length + 1 := by omega
    exact lp_out (he s)
  | succ k ih =>
    intro m N s hm hN ha
    obtain ⟨N, rfl⟩ : ∃ j, N = j + 1 := ⟨N - 1, by omega⟩
    rw [lp_go (hs m s (by omega) ha), iterL]
    exact ih (m + 1) N _ (by omega) (by omega) (by rw [hf]; exact ha)
/-- what the reference says can be reached -/
def refReach (adm : Ru → Bool) (fr : Nat) (l : La) : List Bool := iterL (roundF adm fr l) (l.symbols.length + 1) (List.replicate l.symbols.length false)
theorem ref_reach {l : La} (hg : GoodL l) (fr : Nat) : synthesisref11_reach_h l (fr : Int) = some (refReach (fun _ => true) fr l) ∧ ∀ p : List Bool, p ≠ [] → p.length = l.symbols.length → synthesisref11_reach_h2 l (fr : Int) p = some (refReach (fun r => allB r p) fr l) := by
  have h16 := hg.sym16
  have h96 := hg.rules
  have hm := mkL_eq 1 false l.symbols.length (by omega)
  have over : decide (((l.symbols.length + 1 : Nat) : Int) ≤ (l.symbols.length : Int)) = false := decide_eq_false (by omega)
  constructor
  · have h2 := fun s hs => ref_loop2 (step := synthesisref11_reach_h_l2 l (fr : Int)) hg (fun i hi s hs => (ref_step hg hi hs fr).1) (fun s => by simp only [synthesisref11_reach_h_l2, lt_len', cond_false]) l.rules.length 0 fuel s (by omega) (lt_fuel (by omega)) hs
    have h3 := ref_loop3 (l := l) (f := roundF (fun _ => true) fr l) (step := synthesisref11_reach_h_l3 l (fr : Int)) (fun s => foldF_len _ _ _ s) (fun i s hi hs => by
      have := h2 s hs
      rw [List.drop_zero] at this
      have h2' : loopN (synthesisref11_reach_h_l2 l (fr : Int)) fuel (0, s) = some (roundF (fun _ => true) fr l s) := this
      simp only [synthesisref11_reach_h_l3, decide_eq_true (show (i : Int) ≤ (l.symbols.length : Int) by omega), cond_true, h2', Option.bind_some, w64s i (by omega)]) (fun s => by simp only [synthesisref11_reach_h_l3, over, cond_false]) (l.symbols.length + 1) 0 fuel (List.replicate l.symbols.length false) (by omega) (lt_fuel (by omega)) (by simp)
    have h3' : loopN (synthesisref11_reach_h_l3 l (fr : Int)) fuel (0, List.replicate l.symbols.length false) = some (refReach (fun _ => true) fr l) := h3
    simp only [synthesisref11_reach_h, hm, Option.bind_some, h3']
  · intro p hp hpl
    have h2 := fun s hs => ref_loop2 (step := synthesisref11_reach_h2_l2 l (fr : Int) p) hg (fun i hi s hs => (ref_step hg hi hs fr).2 p hp hpl) (fun s => by simp only [synthesisref11_reach_h2_l2, lt_len', cond_false]) l.rules.length 0 fuel s (by omega) (lt_fuel (by omega)) hs
    have h3 := ref_loop3 (l := l) (f := roundF (fun r => allB r p) fr l) (step := synthesisref11_reach_h2_l3 l (fr : Int) p) (fun s => foldF_len _ _ _ s) (fun i s hi hs => by
      have := h2 s hs
      rw [List.drop_zero] at this
      have h2' : loopN (synthesisref11_reach_h2_l2 l (fr : Int) p) fuel (0, s) = some (roundF (fun r => allB r p) fr l s) := this
      simp only [synthesisref11_reach_h2_l3, decide_eq_true (show (i : Int) ≤ (l.symbols.length : Int) by omega), cond_true, h2', Option.bind_some, w64s i (by omega)]) (fun s => by simp only [synthesisref11_reach_h2_l3, over, cond_false]) (l.symbols.length + 1) 0 fuel (List.replicate l.symbols.length false) (by omega) (lt_fuel (by omega)) (by simp)
    have h3' : loopN (synthesisref11_reach_h2_l3 l (fr : Int) p) fuel (0, List.replicate l.symbols.length false) = some (refReach (fun r => allB r p) fr l) := h3
    simp only [synthesisref11_reach_h2, hm, Option.bind_some, h3']
end Go.Proofs.YtfhmljjkhjifeaaGreatDoor
set_option linter.unusedVariables false
set_option linter.unusedSimpArgs false
set_option maxRecDepth 100000
namespace Go.Proofs.YtfhmljjkhjifeaaGreatDoor
open Go Go.RowKit

/-- the arguments of the admitted rules of a symbol -/
def succA (adm : Ru → Bool) (l : La) (x : Nat) : List Nat := (l.rules.filter fun r => decide (r.symbol.toNat = x) && adm r).flatMap argN
theorem mem_succ {adm : Ru → Bool} {l : La} {x y : Nat} : y ∈ succA adm l x ↔ ∃ r ∈ l.rules, r.symbol.toNat = x ∧ adm r = true ∧ y ∈ argN r := by
  unfold succA
  simp only [List.mem_flatMap, List.mem_filter, Bool.and_eq_true, decide_eq_true_eq]
  constructor
  · rintro ⟨r, ⟨h1, h2, h3⟩, h4⟩; exact ⟨r, h1, h2, h3, h4⟩
  · rintro ⟨r, h1, h2, h3, h4⟩; exact ⟨r, ⟨h1, h2, h3⟩, h4⟩
theorem arg_lt {l : La} (hg : GoodL l) {r : Ru} (hr : r ∈ l.rules) : ∀ a ∈ argN r, a < l.symbols.length := fun a ha => by
  obtain ⟨b, hb, rfl⟩ := List.mem_map.1 ha
  have := (hg.good r hr).args b hb
  omega
theorem refS_mono {adm : Ru → Bool} {fr : Nat} {s : List Bool} {r : Ru} (h : ∀ a ∈ argN r, a < s.length) (i : Nat) (hi : mk s i = true) : mk (refS adm fr s r) i = true := by
  unfold refS
  split
  · exact (markAll_mk _ _ _ h).2 (.inl hi)
  · exact hi
theorem fold_mono {adm : Ru → Bool} {fr n : Nat} : ∀ (rs : List Ru) (s : List Bool), (∀ r ∈ rs, ∀ a ∈ argN r, a < n) → s.length = n → ∀ i, mk s i = true → mk (rs.foldl (refS adm fr) s) i = true
  | [], s, _, _, i, hi => hi
  | r :: rs, s, h, hs, i, hi => by
    rw [List.foldl_cons]
    exact fold_mono rs _ (fun q hq => h q (List.mem_cons_of_mem _ hq)) (by rw [refS_len]; exact hs) i (refS_mono (by rw [hs]; exact h r (List.mem_cons_self ..)) i hi)
theorem fold_marks {adm : Ru → Bool} {fr n : Nat} {s0 : List Bool} {r : Ru} (hc : r.symbol.toNat = fr ∨ mk s0 r.symbol.toNat = true) (ha : adm r = true) : ∀ (rs : List Ru) (s : List Bool), (∀ r ∈ rs, ∀ a ∈ argN r, a < n) → s.length = n → (∀ i, mk s0 i = true → mk s i = true) → r ∈ rs → ∀ a ∈ argN r, mk (rs.foldl (refS adm fr) s) a = true
  | [], s, _, _, _, hr, a, _ => by cases hr
  | q :: rs, s, h, hs, hm, hr, a, haa => by
    rw [List.foldl_cons]
    have hq := h q (List.mem_cons_self ..)
    have hrest : ∀ r ∈ rs, ∀ a ∈ argN r, a < n := fun q hq => h q (List.mem_cons_of_mem _ hq)
    rcases List.mem_cons.1 hr with rfl | hr
    · refine fold_mono rs _ hrest (by rw [refS_len]; exact hs) a ?_
      unfold refS
      rw [if_pos ⟨hc.imp id (hm _), ha⟩]
      exact (markAll_mk _ _ _ (by rw [hs]; exact hq)).2 (.inr haa)
    · exact fold_marks hc ha rs _ hrest (by rw [refS_len]; exact hs) (fun i hi => refS_mono (by rw [hs]; exact hq) i (hm i hi)) hr a haa
theorem fold_sound {adm : Ru → Bool} {fr : Nat} {l : La} (hg : GoodL l) : ∀ (rs : List Ru) (s : List Bool), (∀ r ∈ rs, r ∈ l.rules) → s.length = l.symbols.length → (∀ y, mk s y = true → Reach (succA adm l) fr y) → ∀ y, mk (rs.foldl (refS adm fr) s) y = true → Reach (succA adm l) fr y
  | [], s, _, _, h, y, hy => h y hy
  | r :: rs, s, hr, hs, h, y, hy => by
    rw [List.foldl_cons] at hy
    refine fold_sound hg rs _ (fun q hq => hr q (List.mem_cons_of_mem _ hq)) (by rw [refS_len]; exact hs) (fun z hz => ?_) y hy
    have hrl := hr r (List.mem_cons_self ..)
    unfold refS at hz
    split at hz
    · rename_i hc
      rcases (markAll_mk _ _ _ (by rw [hs]; exact arg_lt hg hrl)).1 hz with hz | hz
      · exact h z hz
      · have hm : z ∈ succA adm l r.symbol.toNat := mem_succ.2 ⟨r, hrl, rfl, hc.2, hz⟩
        rcases hc.1 with he | he
        · rw [he] at hm; exact Relation.TransGen.single hm
        · exact Relation.TransGen.tail (h _ he) hm
    · exact h z hz
theorem iter_closed' {n : Nat} {f : List Bool → List Bool} (hl : ∀ s, (f s).length = s.length) (hm : ∀ s, s.length = n → ∀ i, mk s i = true → mk (f s) i = true) : ∀ (k : Nat) (s : List Bool), s.length = n → cf s < k → f (iterL f k s) = iterL f k s
  | 0, s, _, h => by omega
  | k + 1, s, hs, h => by
    by_cases hf : f s = s
    · rw [iter_fix hf, hf]
    · rw [iterL]
      exact iter_closed' hl hm k (f s) (by rw [hl]; exact hs) (by have := cf_lt (hl s).symm (hm s hs) (fun h => hf h.symm); omega)
theorem iter_sound {adm : Ru → Bool} {fr : Nat} {l : La} (hg : GoodL l) : ∀ (k : Nat) (s : List Bool), s.length = l.symbols.length → (∀ y, mk s y = true → Reach (succA adm l) fr y) → ∀ y, mk (iterL (roundF adm fr l) k s) y = true → Reach (succA adm l) fr y
  | 0, s, _, h, y, hy => h y hy
  | k + 1, s, hs, h, y, hy => iter_sound hg k (roundF adm fr l s) (by unfold roundF; rw [foldF_len]; exact hs) (fold_sound hg l.rules s (fun _ h => h) hs h) y hy
theorem mk_rep (n i : Nat) : mk (List.replicate n false) i = false := by
  unfold mk
  simp [List.getD, List.getElem?_replicate]
  split <;> rfl
theorem cf_rep (n : Nat) : cf (List.replicate n false) = n := by unfold cf; simp [List.countP_replicate]
theorem refReach_iff {adm : Ru → Bool} {fr : Nat} {l : La} (hg : GoodL l) (y : Nat) : mk (refReach adm fr l) y = true ↔ Reach (succA adm l) fr y := by
  have hlen : (refReach adm fr l).length = l.symbols.length := by unfold refReach; rw [iterL_len (f := roundF adm fr l) (fun s => foldF_len adm fr l.rules s)]; simp
  have hargs : ∀ r ∈ l.rules, ∀ a ∈ argN r, a < l.symbols.length := fun r hr => arg_lt hg hr
  have hfix : roundF adm fr l (refReach adm fr l) = refReach adm fr l := iter_closed' (n := l.symbols.length) (fun s => foldF_len _ _ _ s) (fun s hs i hi => fold_mono l.rules s hargs hs i hi) _ _ (by simp) (by rw [cf_rep]; omega)
  have hcl : ∀ x, (x = fr ∨ mk (refReach adm fr l) x = true) → ∀ z ∈ succA adm l x, mk (refReach adm fr l) z = true := fun x hx z hz => by
    obtain ⟨r, hr, rfl, ha, hzr⟩ := mem_succ.1 hz
    have := fold_marks (n := l.symbols.length) hx ha l.rules (refReach adm fr l) hargs hlen (fun _ h => h) hr z hzr
    have h2 : mk (roundF adm fr l (refReach adm fr l)) z = true := this
    rwa [hfix] at h2
  constructor
  · exact iter_sound hg _ _ (by simp) (fun y hy => by rw [mk_rep] at hy; cases hy) y
  · intro h
    induction h with
    | single h => exact hcl fr (.inl rfl) _ h
    | tail _ h ih => exact hcl _ (.inr ih) _ h
end Go.Proofs.YtfhmljjkhjifeaaGreatDoor
set_option linter.unusedVariables false
set_option linter.unusedSimpArgs false
set_option maxRecDepth 100000
namespace Go.Proofs.YtfhmljjkhjifeaaGreatDoor
open Go Go.RowKit

/-- numbers that stand for these rules -/
def Stands (l : La) : List Int → List Ru → Prop
  | [], [] => True
  | i :: is', r :: rs => idx l.rules i = some r ∧ Stands l is' rs
  | _, _ => False
theorem stands_app {l : La} : ∀ {a : List Int} {b : List Ru} {c : List Int} {d : List Ru}, Stands l a b → Stands l c d → Stands l (a ++ c) (b ++ d)
  | [], [], c, d, _, h => h
  | i :: a, r :: b, c, d, h1, h2 => ⟨h1.1, stands_app h1.2 h2⟩
theorem stands_len {l : La} : ∀ {a : List Int} {b : List Ru}, Stands l a b → a.length = b.length
  | [], [], _ => rfl
  | i :: a, r :: b, h => by simp [stands_len h.2]
theorem Of_stands (l : La) (a : Int) (hl : l.rules.length ≤ 1000000) : ∀ (k m N : Nat) (acc : List Int) (rs : List Ru), m + k = l.rules.length → k < N → acc.length ≤ m → Stands l acc rs →
    ∃ v, loopN (grammar_Of_l1 l a) N ((m : Int), acc) = some v ∧ Stands l v (rs ++ (l.rules.drop m).filter fun r => r.symbol == a) := by
  intro k
  induction k with
  | zero =>
    intro m N acc rs hm hN ha hs
    obtain ⟨N, rfl⟩ : ∃ j, N = j + 1 := ⟨N - 1, by omega⟩
    obtain rfl : m = l.rules.length := by omega
    rw [List.drop_length, List.filter_nil, List.append_nil]
    exact ⟨acc, lp_out (by simp only [grammar_Of_l1, lt_len', cond_false]), hs⟩
  | succ k ih =>
    intro m N acc rs hm hN ha hs
    obtain ⟨N, rfl⟩ : ∃ j, N = j + 1 := ⟨N - 1, by omega⟩
    have hi : m < l.rules.length := by omega
    have e1 : idx l.rules (m : Int) = some l.rules[m] := by rw [idx_nat, List.getElem?_eq_getElem hi]
    rw [List.drop_eq_getElem_cons hi, List.filter_cons]
    cases hb : (l.rules[m].symbol == a) with
    | true =>
      obtain ⟨v, hv, hv2⟩ := ih (m + 1) N (acc ++ [(m : Int)]) (rs ++ [l.rules[m]]) (by omega) (by omega) (by simp; omega) (stands_app hs ⟨e1, trivial⟩)
      refine ⟨v, ?_, by rw [if_pos rfl]; simpa using hv2⟩
      rw [← hv]
      exact lp_go (by simp only [grammar_Of_l1, lt_len hi, cond_true, e1, Option.bind_some, hb, app_eq (b := 8) (xs := acc) (ys := [(m : Int)]) (by simp; omega), w64s m (by omega)])
    | false =>
      obtain ⟨v, hv, hv2⟩ := ih (m + 1) N acc rs (by omega) (by omega) (by omega) hs
      refine ⟨v, ?_, by rw [if_neg Bool.false_ne_true]; exact hv2⟩
      rw [← hv]
      exact lp_go (by simp only [grammar_Of_l1, lt_len hi, cond_true, cond_false, e1, Option.bind_some, hb, w64s m (by omega)])
theorem Of_rules {l : La} (a : Int) (hl : l.rules.length ≤ 1000000) : ∃ v, grammar_Of l a = some v ∧ Stands l v (l.rules.filter fun r => r.symbol == a) := by
  obtain ⟨v, hv, hv2⟩ := Of_stands l a hl l.rules.length 0 fuel [] [] (by omega) (lt_fuel (by omega)) (by simp) trivial
  have hv' : loopN (grammar_Of_l1 l a) fuel (0, []) = some v := hv
  exact ⟨v, by simp only [grammar_Of, hv', Option.bind_some], by simpa using hv2⟩
end Go.Proofs.YtfhmljjkhjifeaaGreatDoor
set_option linter.unusedVariables false
set_option linter.unusedSimpArgs false
set_option maxRecDepth 100000
namespace Go.Proofs.YtfhmljjkhjifeaaGreatDoor
open Go Go.RowKit

/-- one argument -/
def argG (succ : Nat → List Nat) (n : Nat) (cur : List Bool) (a : Nat) : List Bool := if mk cur a = true then cur else dfs succ n a (cur.set a true)
theorem argG_ok {succ : Nat → List Nat} {M : Nat} (hs : ∀ x, ∀ a ∈ succ x, a < M) {n a : Nat} (ha : a < M) {cur : List Bool} (hl : cur.length = M) (hc : cf cur ≤ n) : (argG succ n cur a).length = M ∧ cf (argG succ n cur a) ≤ n := by
  unfold argG
  by_cases h : mk cur a = true
  · rw [if_pos h]; exact ⟨hl, hc⟩
  · rw [if_neg h]
    have hset := cf_set (s := cur) (i := a) (by omega) (by simpa using h)
    obtain ⟨d1, d2, _⟩ := dfs_ok hs n a (cur.set a true) (by simpa using hl) (by omega)
    exact ⟨d1, Nat.le_trans (cf_le (s := cur.set a true) (by simp [d1, hl]) d2) (by omega)⟩
/-- the arguments of a rule, one after the other -/
theorem arg_loop {succ : Nat → List Nat} {M n : Nat} (hs : ∀ x, ∀ a ∈ succ x, a < M) {r : Ru} (hr : r.args.length ≤ 1000) (hra : ∀ a ∈ r.args, 0 ≤ a ∧ a < (M : Int)) {step : Int × List Bool → Option ((Int × List Bool) ⊕ List Bool)}
    (h1 : ∀ (i : Nat) (hi : i < r.args.length) (cur : List Bool), cur.length = M → cf cur ≤ n → step ((i : Int), cur) = some (.inl (((i + 1 : Nat) : Int), argG succ n cur (r.args[i]).toNat))) (h2 : ∀ cur, step ((r.args.length : Int), cur) = some (.inr cur)) :
    ∀ (k m N : Nat) (cur : List Bool), m + k = r.args.length → k < N → cur.length = M → cf cur ≤ n →
      loopN step N ((m : Int), cur) = some (((r.args.drop m).map Int.toNat).foldl (argG succ n) cur) ∧ (((r.args.drop m).map Int.toNat).foldl (argG succ n) cur).length = M ∧ cf (((r.args.drop m).map Int.toNat).foldl (argG succ n) cur) ≤ n := by
  intro k
  induction k with
  | zero =>
    intro m N cur hm hN hl hc
    obtain ⟨N, rfl⟩ : ∃ j, N = j + 1 := ⟨N - 1, by omega⟩
    obtain rfl : m = r.args.length := by omega
    rw [List.drop_length]
    exact ⟨lp_out (h2 cur), hl, hc⟩
  | succ k ih =>
    intro m N cur hm hN hl hc
    obtain ⟨N, rfl⟩ : ∃ j, N = j + 1 := ⟨N - 1, by omega⟩
    have hi : m < r.args.length := by omega
    have hb := hra _ (List.getElem_mem hi)
    obtain ⟨g1, g2⟩ := argG_ok hs (n := n) (a := (r.args[m]).toNat) (by omega) hl hc
    rw [lp_go (h1 m hi cur hl hc), List.drop_eq_getElem_cons hi, List.map_cons, List.foldl_cons]
    exact ih (m + 1) N _ (by omega) (by omega) g1 g2
end Go.Proofs.YtfhmljjkhjifeaaGreatDoor
set_option linter.unusedVariables false
set_option linter.unusedSimpArgs false
set_option maxRecDepth 100000
namespace Go.Proofs.YtfhmljjkhjifeaaGreatDoor
open Go Go.RowKit

theorem stands_get {l : La} : ∀ {v : List Int} {rs : List Ru}, Stands l v rs → ∀ i (hi : i < v.length), ∃ h : i < rs.length, idx l.rules v[i] = some rs[i]
  | [], [], _, i, hi => by cases hi
  | a :: v, r :: rs, h, 0, _ => ⟨by simp, h.1⟩
  | a :: v, r :: rs, h, i + 1, hi => by
    obtain ⟨h1, h2⟩ := stands_get h.2 i (by simpa using hi)
    exact ⟨by simpa using h1, by simpa using h2⟩
/-- one rule -/
def ruleG (adm : Ru → Bool) (succ : Nat → List Nat) (n : Nat) (cur : List Bool) (r : Ru) : List Bool := if adm r = true then (argN r).foldl (argG succ n) cur else cur
theorem args_ok {succ : Nat → List Nat} {M : Nat} (hs : ∀ x, ∀ a ∈ succ x, a < M) {n : Nat} : ∀ (bs : List Nat), (∀ a ∈ bs, a < M) → ∀ {cur : List Bool}, cur.length = M → cf cur ≤ n → (bs.foldl (argG succ n) cur).length = M ∧ cf (bs.foldl (argG succ n) cur) ≤ n
  | [], _, cur, h1, h2 => ⟨h1, h2⟩
  | b :: bs, hb, cur, h1, h2 => by
    obtain ⟨g1, g2⟩ := argG_ok hs (n := n) (hb b (List.mem_cons_self ..)) h1 h2
    rw [List.foldl_cons]
    exact args_ok hs bs (fun a ha => hb a (List.mem_cons_of_mem _ ha)) g1 g2
theorem ruleG_ok {l : La} (hg : GoodL l) {adm : Ru → Bool} {n : Nat} {r : Ru} (hr : r ∈ l.rules) {cur : List Bool} (hl : cur.length = l.symbols.length) (hc : cf cur ≤ n) : (ruleG adm (succA adm l) n cur r).length = l.symbols.length ∧ cf (ruleG adm (succA adm l) n cur r) ≤ n := by
  unfold ruleG
  split
  · exact args_ok (fun x a ha => by obtain ⟨q, hq, _, _, h⟩ := mem_succ.1 ha; exact arg_lt hg hq a h) (argN r) (arg_lt hg hr) hl hc
  · exact ⟨hl, hc⟩
theorem rule_loop {l : La} (hg : GoodL l) {adm : Ru → Bool} {n : Nat} {v : List Int} {rs : List Ru} (hv : Stands l v rs) (hrs : ∀ r ∈ rs, r ∈ l.rules) {step : Int × List Bool → Option ((Int × List Bool) ⊕ List Bool)}
    (h1 : ∀ (i : Nat) (hi : i < v.length) (r : Ru), r ∈ l.rules → idx l.rules v[i] = some r → ∀ cur : List Bool, cur.length = l.symbols.length → cf cur ≤ n → step ((i : Int), cur) = some (.inl (((i + 1 : Nat) : Int), ruleG adm (succA adm l) n cur r))) (h2 : ∀ cur, step ((v.length : Int), cur) = some (.inr cur)) :
    ∀ (k m N : Nat) (cur : List Bool), m + k = v.length → k < N → cur.length = l.symbols.length → cf cur ≤ n → loopN step N ((m : Int), cur) = some ((rs.drop m).foldl (ruleG adm (succA adm l) n) cur) := by
  have hlen := stands_len hv
  intro k
  induction k with
  | zero =>
    intro m N cur hm hN hl hc
    obtain ⟨N, rfl⟩ : ∃ j, N = j + 1 := ⟨N - 1, by omega⟩
    obtain rfl : m = v.length := by omega
    rw [hlen, List.drop_length, ← hlen]
    exact lp_out (h2 cur)
  | succ k ih =>
    intro m N cur hm hN hl hc
    obtain ⟨N, rfl⟩ : ∃ j, N = j + 1 := ⟨N - 1, by omega⟩
    have hi : m < v.length := by omega
    obtain ⟨hi2, he⟩ := stands_get hv m hi
    have hr := hrs _ (List.getElem_mem hi2)
    obtain ⟨g1, g2⟩ := ruleG_ok hg (adm := adm) (n := n) hr hl hc
    rw [lp_go (h1 m hi _ hr he cur hl hc), List.drop_eq_getElem_cons hi2, List.foldl_cons]
    exact ih (m + 1) N _ (by omega) (by omega) g1 g2
theorem dfs_rules {l : La} (hg : GoodL l) (adm : Ru → Bool) (n s : Nat) (out : List Bool) : (l.rules.filter fun r => r.symbol == (s : Int)).foldl (ruleG adm (succA adm l) n) out = dfs (succA adm l) (n + 1) s out := by
  have h1 : (l.rules.filter fun r => r.symbol == (s : Int)) = l.rules.filter fun r => decide (r.symbol.toNat = s) := List.filter_congr fun r hr => by
    have := (hg.good r hr).sym0
    by_cases h : r.symbol = (s : Int)
    · rw [h]; simp
    · have h2 : ¬ r.symbol.toNat = s := by omega
      rw [beq_eq_false_iff_ne.2 h, decide_eq_false h2]
  rw [h1]
  unfold dfs
  have key : ∀ (rs : List Ru) (cur : List Bool), (rs.filter fun r => decide (r.symbol.toNat = s)).foldl (ruleG adm (succA adm l) n) cur = ((rs.filter fun r => decide (r.symbol.toNat = s) && adm r).flatMap argN).foldl (argG (succA adm l) n) cur := by
    intro rs
    induction rs with
    | nil => intro cur; rfl
    | cons r rs ih =>
      intro cur
      rw [List.filter_cons, List.filter_cons]
      by_cases hs : r.symbol.toNat = s
      · rw [if_pos (decide_eq_true hs), List.foldl_cons, ih]
        unfold ruleG
        cases ha : adm r with
        | true => rw [if_pos rfl, if_pos (by simp [hs]), List.flatMap_cons, List.foldl_append]
        | false => rw [if_neg Bool.false_ne_true, if_neg (by simp)]
      · rw [if_neg (by simp [hs]), if_neg (by simp [hs]), ih]
  exact key l.rules out
/-- the search of the program: all rules -/
theorem visit_ok {l : La} (hg : GoodL l) : ∀ (n s : Nat) (out : List Bool), out.length = l.symbols.length → cf out < n → grammar_reach_1_h n (s : Int) l out = some (dfs (succA (fun _ => true) l) n s out) := by
  have h16 := hg.sym16
  have h96 := hg.rules
  intro n
  induction n with
  | zero => intro s out _ h; omega
  | succ n ih =>
    intro s out hl hc
    obtain ⟨v, hv, hs⟩ := Of_rules (l := l) (s : Int) (by omega)
    have hvl : v.length ≤ 96 := by
      rw [stands_len hs]
      exact Nat.le_trans (List.length_filter_le _ _) h96
    have hloop : loopN (grammar_reach_1_h_l2 l (grammar_reach_1_h n) v) fuel (0, out) = some (dfs (succA (fun _ => true) l) (n + 1) s out) := by
      rw [← dfs_rules hg]
      refine rule_loop hg (n := n) hs (fun r hr => (List.mem_filter.1 hr).1) (fun i hi r hr he cur hcl hcc => ?_) (fun cur => by simp only [grammar_reach_1_h_l2, lt_len', cond_false]) v.length 0 fuel out (by omega) (lt_fuel (by omega)) hl (by omega)
      have e1 : idx v (i : Int) = some v[i] := by rw [idx_nat, List.getElem?_eq_getElem hi]
      have gr := hg.good r hr
      have ha : loopN (grammar_reach_1_h_l1 l (grammar_reach_1_h n) r) fuel (0, cur) = some ((argN r).foldl (argG (succA (fun _ => true) l) n) cur) := by
        have gf := gr.few
        refine (arg_loop (succ := succA (fun _ => true) l) (M := l.symbols.length) (n := n) (r := r) (fun x a ha => by obtain ⟨q, hq, _, _, h⟩ := mem_succ.1 ha; exact arg_lt hg hq a h) (by omega) gr.args (step := grammar_reach_1_h_l1 l (grammar_reach_1_h n) r) (fun j hj cur hl1 hc1 => ?_) (fun cur => by simp only [grammar_reach_1_h_l1, lt_len', cond_false]) r.args.length 0 fuel cur (by omega) (lt_fuel (by omega)) hcl hcc).1
        have hb := gr.args _ (List.getElem_mem hj)
        have e2 : idx r.args (j : Int) = some r.args[j] := by rw [idx_nat, List.getElem?_eq_getElem hj]
        have e3 : idx cur r.args[j] = some (mk cur (r.args[j]).toNat) := idx_getD hb.1 (by omega)
        simp only [grammar_reach_1_h_l1, lt_len hj, cond_true, e2, e3, Option.bind_some, w64s j (by omega)]
        unfold argG
        cases hm : mk cur (r.args[j]).toNat with
        | true => simp only [Bool.not_true, cond_false, Option.bind_some, if_true]
        | false =>
          have hcs := cf_set (s := cur) (i := (r.args[j]).toNat) (by omega) hm
          have := ih (r.args[j]).toNat (cur.set (r.args[j]).toNat true) (by simpa using hl1) (by omega)
          rw [show (((r.args[j]).toNat : Nat) : Int) = r.args[j] from by omega] at this
          simp only [Bool.not_false, cond_true, this, Option.bind_some, Bool.false_eq_true, if_false]
      simp only [grammar_reach_1_h_l2, lt_len hi, cond_true, e1, he, Option.bind_some, grammar_Reachable_1_h, ha, w64s i (by omega)]
      rfl
    show grammar_reach_1_h_b (grammar_reach_1_h n) (s : Int) l out = _
    simp only [grammar_reach_1_h_b, hv, Option.bind_some, hloop]
/-- the search of the program: the rules whose arguments are all marked in p -/
theorem visit_ok2 {l : La} (hg : GoodL l) {p : List Bool} (hp : p.length = l.symbols.length) : ∀ (n s : Nat) (out : List Bool), out.length = l.symbols.length → cf out < n → grammar_reach_1_h2 n (s : Int) l p out = some (dfs (succA (fun r => allB r p) l) n s out) := by
  have h16 := hg.sym16
  have h96 := hg.rules
  intro n
  induction n with
  | zero => intro s out _ h; omega
  | succ n ih =>
    intro s out hl hc
    obtain ⟨v, hv, hs⟩ := Of_rules (l := l) (s : Int) (by omega)
    have hvl : v.length ≤ 96 := by
      rw [stands_len hs]
      exact Nat.le_trans (List.length_filter_le _ _) h96
    have hloop : loopN (grammar_reach_1_h2_l2 l p (grammar_reach_1_h2 n) v) fuel (0, out) = some (dfs (succA (fun r => allB r p) l) (n + 1) s out) := by
      rw [← dfs_rules hg]
      refine rule_loop hg (n := n) hs (fun r hr => (List.mem_filter.1 hr).1) (fun i hi r hr he cur hcl hcc => ?_) (fun cur => by simp only [grammar_reach_1_h2_l2, lt_len', cond_false]) v.length 0 fuel out (by omega) (lt_fuel (by omega)) hl (by omega)
      have e1 : idx v (i : Int) = some v[i] := by rw [idx_nat, List.getElem?_eq_getElem hi]
      have gr := hg.good r hr
      have gf := gr.few
      have hall := (all_scan (r := r) (s := p) (by omega) (fun a ha => by rw [hp]; exact gr.args a ha)).2.2
      have ha : loopN (grammar_reach_1_h2_l1 l p (grammar_reach_1_h2 n) r) fuel (0, cur) = some ((argN r).foldl (argG (succA (fun r => allB r p) l) n) cur) := by
        refine (arg_loop (succ := succA (fun r => allB r p) l) (M := l.symbols.length) (n := n) (r := r) (fun x a ha => by obtain ⟨q, hq, _, _, h⟩ := mem_succ.1 ha; exact arg_lt hg hq a h) (by omega) gr.args (step := grammar_reach_1_h2_l1 l p (grammar_reach_1_h2 n) r) (fun j hj cur hl1 hc1 => ?_) (fun cur => by simp only [grammar_reach_1_h2_l1, lt_len', cond_false]) r.args.length 0 fuel cur (by omega) (lt_fuel (by omega)) hcl hcc).1
        have hb := gr.args _ (List.getElem_mem hj)
        have e2 : idx r.args (j : Int) = some r.args[j] := by rw [idx_nat, List.getElem?_eq_getElem hj]
        have e3 : idx cur r.args[j] = some (mk cur (r.args[j]).toNat) := idx_getD hb.1 (by omega)
        simp only [grammar_reach_1_h2_l1, lt_len hj, cond_true, e2, e3, Option.bind_some, w64s j (by omega)]
        unfold argG
        cases hm : mk cur (r.args[j]).toNat with
        | true => simp only [Bool.not_true, cond_false, Option.bind_some, if_true]
        | false =>
          have hcs := cf_set (s := cur) (i := (r.args[j]).toNat) (by omega) hm
          have := ih (r.args[j]).toNat (cur.set (r.args[j]).toNat true) (by simpa using hl1) (by omega)
          rw [show (((r.args[j]).toNat : Nat) : Int) = r.args[j] from by omega] at this
          simp only [Bool.not_false, cond_true, this, Option.bind_some, Bool.false_eq_true, if_false]
      unfold ruleG
      cases hb : allB r p with
      | true =>
        simp only [grammar_reach_1_h2_l2, lt_len hi, cond_true, e1, he, Option.bind_some, hall, hb, Bool.not_true, cond_false, ha, Sum.elim_inl, w64s i (by omega), if_true]
      | false =>
        simp only [grammar_reach_1_h2_l2, lt_len hi, cond_true, e1, he, Option.bind_some, hall, hb, Bool.not_false, Sum.elim_inr, w64s i (by omega), Bool.false_eq_true, if_false]
    show grammar_reach_1_h2_b (grammar_reach_1_h2 n) (s : Int) l p out = _
    simp only [grammar_reach_1_h2_b, hv, Option.bind_some, hloop]
end Go.Proofs.YtfhmljjkhjifeaaGreatDoor
set_option linter.unusedVariables false
set_option linter.unusedSimpArgs false
set_option maxRecDepth 100000
namespace Go.Proofs.YtfhmljjkhjifeaaGreatDoor
open Go Go.RowKit

theorem mk_ext {s t : List Bool} (hl : s.length = t.length) (h : ∀ i, i < s.length → (mk s i = true ↔ mk t i = true)) : s = t := by
  apply List.ext_getElem hl
  intro i h1 h2
  have := h i h1
  simp only [mk, List.getD_eq_getElem?_getD, List.getElem?_eq_getElem h1, List.getElem?_eq_getElem h2, Option.getD_some] at this
  cases hs : s[i] <;> cases ht : t[i] <;> simp [hs, ht] at this ⊢
theorem mk_set' {s : List Bool} {i : Nat} (hi : i < s.length) (b : Bool) (j : Nat) : mk (s.set i b) j = (if i = j then b else mk s j) := by
  unfold mk
  by_cases h : i = j
  · subst h
    simp [List.getD, hi]
  · rw [if_neg h]
    simp [List.getD, List.getElem?_set, h]
theorem dfs_iff {l : La} (hg : GoodL l) {adm : Ru → Bool} {fr : Nat} (hf : fr < l.symbols.length) (self : Bool) {n : Nat} (hn : l.symbols.length < n) :
    let out := (List.replicate l.symbols.length false).set fr self
    cf out < n ∧ (dfs (succA adm l) n fr out).length = l.symbols.length ∧ ∀ y, mk (dfs (succA adm l) n fr out) y = true ↔ (self = true ∧ y = fr) ∨ Reach (succA adm l) fr y := by
  intro out
  have hlen : out.length = l.symbols.length := by simp [out]
  have ho : ∀ y, mk out y = if fr = y then self else false := fun y => by
    rw [mk_set' (by simp; exact hf), mk_rep]
  have hc : cf out < n := Nat.lt_of_le_of_lt (Nat.le_trans List.countP_le_length (Nat.le_of_eq hlen)) hn
  obtain ⟨d1, d2, d3, d4, d5⟩ := dfs_ok (succ := succA adm l) (fun x a ha => by obtain ⟨q, hq, _, _, h⟩ := mem_succ.1 ha; exact arg_lt hg hq a h) n fr out hlen hc
  refine ⟨hc, d1, fun y => ⟨fun hy => ?_, fun hy => ?_⟩⟩
  · rcases d5 y hy with h | h
    · rw [ho] at h
      split at h
      · rename_i he; exact .inl ⟨h, he.symm⟩
      · cases h
    · exact .inr h
  · rcases hy with ⟨h, rfl⟩ | h
    · exact d2 _ (by rw [ho, if_pos rfl]; exact h)
    · induction h with
      | single h => exact d3 _ h
      | tail _ h ih =>
        rename_i b c hb
        cases hob : mk out b with
        | false => exact d4 _ ih hob _ h
        | true =>
          rw [ho] at hob
          split at hob
          · rename_i he; exact d3 _ (he ▸ h)
          · cases hob
/-- what the program marks: the reference's marks, and the start where it is asked for -/
def selfR (self : Bool) (fr : Nat) (s : List Bool) : List Bool := if self = true then s.set fr true else s
theorem refReach_len (adm : Ru → Bool) (fr : Nat) (l : La) : (refReach adm fr l).length = l.symbols.length := by unfold refReach; rw [iterL_len (f := roundF adm fr l) (fun s => foldF_len adm fr l.rules s)]; simp
theorem dfs_ref {l : La} (hg : GoodL l) {adm : Ru → Bool} {fr : Nat} (hf : fr < l.symbols.length) (self : Bool) {n : Nat} (hn : l.symbols.length < n) : dfs (succA adm l) n fr ((List.replicate l.symbols.length false).set fr self) = selfR self fr (refReach adm fr l) := by
  obtain ⟨_, h2, h3⟩ := dfs_iff hg (adm := adm) hf self hn
  have hr := refReach_len adm fr l
  refine mk_ext (by rw [h2]; unfold selfR; split <;> simp [hr]) fun y hy => ?_
  rw [h3 y]
  unfold selfR
  cases self with
  | false => simp only [Bool.false_eq_true, false_and, false_or, if_false]; exact (refReach_iff hg y).symm
  | true =>
    rw [if_pos rfl, mk_set (by omega)]
    by_cases he : fr = y
    · simp [he]
    · rw [if_neg he, refReach_iff hg]
      exact ⟨fun h => h.elim (fun h => absurd h.2.symm he) id, .inr⟩
theorem prog_reach {l : La} (hg : GoodL l) {fr : Nat} (hf : fr < l.symbols.length) (self : Bool) : grammar_reach_h l (fr : Int) self = some (selfR self fr (refReach (fun _ => true) fr l)) ∧ ∀ p : List Bool, p.length = l.symbols.length → grammar_reach_h2 l (fr : Int) self p = some (selfR self fr (refReach (fun r => allB r p) fr l)) := by
  have h16 := hg.sym16
  have hm := mkL_eq 1 false l.symbols.length (by omega)
  have hn : l.symbols.length < fuel := lt_fuel (by omega)
  have e1 : idx (List.replicate l.symbols.length false) (fr : Int) = some false := by rw [idx_nat]; simp [hf]
  constructor
  · have hc := (dfs_iff hg (adm := fun _ => true) hf self hn).1
    have := visit_ok hg fuel fr ((List.replicate l.symbols.length false).set fr self) (by simp) hc
    rw [dfs_ref hg hf self hn] at this
    simp only [grammar_reach_h, hm, Option.bind_some, e1, Int.toNat_natCast, this]
  · intro p hp
    have hc := (dfs_iff hg (adm := fun r => allB r p) hf self hn).1
    have := visit_ok2 hg hp fuel fr ((List.replicate l.symbols.length false).set fr self) (by simp) hc
    rw [dfs_ref hg hf self hn] at this
    simp only [grammar_reach_h2, hm, Option.bind_some, e1, Int.toNat_natCast, this]
theorem prodL_ne {l : La} (hg : GoodL l) : prodL l ≠ [] := fun h => by
  have := prodL_len l
  have := hg.sym1
  rw [h] at *
  simp at *
  omega
theorem complete_eq {l : La} (hg : GoodL l) : grammar_complete_h l = some (prodL l) := by simp only [grammar_complete_h, (productive_eq hg).1, Option.bind_some]
end Go.Proofs.YtfhmljjkhjifeaaGreatDoor
