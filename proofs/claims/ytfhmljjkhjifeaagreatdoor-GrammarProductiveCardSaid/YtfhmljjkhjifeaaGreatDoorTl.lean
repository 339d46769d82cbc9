/- What the program reaches and what the reference reaches are the same; GrammarSymbols. -/
import Derived.Test.YtfhmljjkhjifeaaGreatDoorGu
import Derived.Test.YtfhmljjkhjifeaaGreatDoorLo
set_option linter.unusedVariables false
set_option linter.unusedSimpArgs false
set_option maxRecDepth 100000
namespace Go.Proofs.YtfhmljjkhjifeaaGreatDoor
open Go Go.RowKit

theorem w64s (n : Nat) (h : n ≤ 4000000000) : w64 ((n : Int) + 1) = ((n + 1 : Nat) : Int) := w64_succ (by omega)
theorem lp_go {σ β : Type} {st : σ → Option (σ ⊕ β)} {s s' : σ} {n : Nat} (h : st s = some (.inl s')) : loopN st (n + 1) s = loopN st n s' := by rw [loopN, h]
theorem lp_out {σ β : Type} {st : σ → Option (σ ⊕ β)} {s : σ} {b : β} {n : Nat} (h : st s = some (.inr b)) : loopN st (n + 1) s = some b := by rw [loopN, h]

theorem loop_scan {β : Type} {step : Int → Option (Int ⊕ β)} {P : Nat → Prop} {R : β → Prop} {b0 : β} (n : Nat) (hs : ∀ i : Nat, i < n → (step (i : Int) = some (.inl ((i + 1 : Nat) : Int)) ∧ P i) ∨ ∃ b, R b ∧ step (i : Int) = some (.inr b)) (he : step (n : Int) = some (.inr b0)) :
    ∀ (k m N : Nat), m + k = n → k < N → (∀ i, i < m → P i) → (loopN step N (m : Int) = some b0 ∧ ∀ i, i < n → P i) ∨ ∃ b, R b ∧ loopN step N (m : Int) = some b := by
  intro k
  induction k with
  | zero =>
    intro m N hm hN hP
    obtain ⟨N, rfl⟩ : ∃ j, N = j + 1 := ⟨N - 1, by omega⟩
    obtain rfl : m = n := by omega
    exact .inl ⟨lp_out he, hP⟩
  | succ k ih =>
    intro m N hm hN hP
    obtain ⟨N, rfl⟩ : ∃ j, N = j + 1 := ⟨N - 1, by omega⟩
    rcases hs m (by omega) with ⟨h1, h2⟩ | ⟨b, h1, h2⟩
    · rw [lp_go h1]
      exact ih (m + 1) N (by omega) (by omega) fun i hi => by
        rcases Nat.lt_succ_iff_lt_or_eq.1 hi with h | rfl
        · exact hP i h
        · exact h2
    · exact .inr ⟨b, h1, lp_out h2⟩
theorem size_loop {l : List Va} {B : Nat} {r27 : Va → Option Int} (hl : l.length ≤ 30) (hB : B ≤ 100000000000) (x : Va) (hx : x.items = l) (H : ∀ y ∈ l, ∃ z : Nat, r27 y = some (z : Int) ∧ z ≤ B) : ∀ (k m acc N : Nat), m + k = l.length → k < N → acc ≤ 1 + m * B → ∃ z : Nat, loopN (synthesisref01_Size_l1 x r27) N ((acc : Int), (m : Int)) = some (z : Int) ∧ z ≤ 1 + l.length * B := by
  intro k
  induction k with
  | zero =>
    intro m acc N hm hN ha
    obtain ⟨N, rfl⟩ : ∃ j, N = j + 1 := ⟨N - 1, by omega⟩
    obtain rfl : m = l.length := by omega
    have d1 : decide (((l.length : Nat) : Int) < (x.items.length : Int)) = false := decide_eq_false (by rw [hx]; omega)
    exact ⟨acc, lp_out (by simp only [synthesisref01_Size_l1, d1, cond_false]), ha⟩
  | succ k ih =>
    intro m acc N hm hN ha
    obtain ⟨N, rfl⟩ : ∃ j, N = j + 1 := ⟨N - 1, by omega⟩
    have hml : m < l.length := by omega
    have d1 : decide ((m : Int) < (x.items.length : Int)) = true := decide_eq_true (by rw [hx]; omega)
    have e1 : idx x.items (m : Int) = some l[m] := by rw [hx, idx_nat, List.getElem?_eq_getElem hml]
    obtain ⟨z, hz, hzB⟩ := H _ (List.getElem_mem hml)
    have hmB : m * B ≤ 30 * 100000000000 := Nat.mul_le_mul (by omega) hB
    obtain ⟨r, hr, hrB⟩ := ih (m + 1) (acc + z) N (by omega) (by omega) (by rw [Nat.add_mul, Nat.one_mul]; omega)
    refine ⟨r, ?_, hrB⟩
    rw [← hr]
    refine lp_go ?_
    have ew : w64 ((acc : Int) + (z : Int)) = ((acc + z : Nat) : Int) := w64_eq (by omega) (by omega)
    simp only [synthesisref01_Size_l1, d1, cond_true, e1, Option.bind_some, hz, ew, w64s m (by omega)]
theorem size_some : ∀ (d n : Nat) (x : Va), depV x ≤ d → d ≤ 6 → d ≤ n → wideV 30 x → ∃ z : Nat, synthesisref01_Size n x = some (z : Int) ∧ z ≤ 50 ^ d := by
  intro d
  induction d with
  | zero =>
    intro n x h
    obtain ⟨t, m, s, l⟩ := x
    exact absurd h (by unfold depV; omega)
  | succ d ih =>
    intro n x h hd hn hw
    obtain ⟨n, rfl⟩ : ∃ j, n = j + 1 := ⟨n - 1, by omega⟩
    obtain ⟨w1, w2⟩ := wide_items hw
    have hB : 50 ^ d ≤ 50 ^ 5 := Nat.pow_le_pow_right (by omega) (by omega)
    have hp5 : (50 : Nat) ^ 5 = 312500000 := by decide
    have hpos : 1 ≤ 50 ^ d := Nat.pow_pos (by omega)
    obtain ⟨z, hz, hzB⟩ := size_loop (l := x.items) (B := 50 ^ d) w1 (by omega) x rfl (fun y hy => ih n y (by have := dep_items hy; omega) (by omega) (by omega) (w2 y hy)) x.items.length 0 1 fuel (by omega) (lt_fuel (by omega)) (by omega)
    have hmul : x.items.length * 50 ^ d ≤ 30 * 50 ^ d := Nat.mul_le_mul_right _ w1
    refine ⟨z, ?_, by rw [Nat.pow_succ]; omega⟩
    show synthesisref01_Size_b (synthesisref01_Size n) x = _
    have hz' : loopN (synthesisref01_Size_l1 x (synthesisref01_Size n)) fuel (1, 0) = some (z : Int) := hz
    simp only [synthesisref01_Size_b, hz', Option.bind_some]
theorem value_some : ∀ (k n : Nat) (x : Va), k ≤ 5 → inV x → k < n → ∃ b, synthesislaw11_value n x (k : Int) = some b ∧ (b = true → depV x ≤ k ∧ wideV 30 x) := by
  intro k
  induction k with
  | zero =>
    intro n x _ hx hn
    obtain ⟨n, rfl⟩ : ∃ j, n = j + 1 := ⟨n - 1, by omega⟩
    refine ⟨false, ?_, fun h => by cases h⟩
    show synthesislaw11_value_b (synthesislaw11_value n) x 0 = _
    simp only [synthesislaw11_value_b, show ((0 : Int) == 0) = true from rfl, cond_true, Option.bind_some]
  | succ k ih =>
    intro n x hk hx hn
    obtain ⟨n, rfl⟩ : ∃ j, n = j + 1 := ⟨n - 1, by omega⟩
    obtain ⟨lx, sx, wx⟩ := inV_items hx
    have e0 : (((k + 1 : Nat) : Int) == 0) = false := by rw [beq_eq_false_iff_ne]; omega
    have goal : ∃ b, synthesislaw11_value_b (synthesislaw11_value n) x ((k + 1 : Nat) : Int) = some b ∧ (b = true → depV x ≤ k + 1 ∧ wideV 30 x) := by
      by_cases h1 : (100 : Int) < (x.text.size : Int)
      · exact ⟨false, by simp only [synthesislaw11_value_b, e0, cond_false, decide_eq_true h1, cond_true, Option.bind_some], fun h => by cases h⟩
      by_cases h2 : (30 : Int) < (x.items.length : Int)
      · exact ⟨false, by simp only [synthesislaw11_value_b, e0, cond_false, decide_eq_false h1, decide_eq_true h2, cond_true, Option.bind_some], fun h => by cases h⟩
      have ew : w64 (((k + 1 : Nat) : Int) - 1) = (k : Int) := by rw [show ((k + 1 : Nat) : Int) - 1 = (k : Int) by omega]; exact w64_eq (by omega) (by omega)
      have hsc := loop_scan (step := synthesislaw11_value_l1 x ((k + 1 : Nat) : Int) (synthesislaw11_value n)) (P := fun i => ∀ y, x.items[i]? = some y → depV y ≤ k ∧ wideV 30 y) (R := fun b => b = .inr false) (b0 := .inl ()) x.items.length (fun i hi => by
        have e1 : idx x.items (i : Int) = some x.items[i] := by rw [idx_nat, List.getElem?_eq_getElem hi]
        obtain ⟨b, hb, hb2⟩ := ih n x.items[i] (by omega) (wx _ (List.getElem_mem hi)) (by omega)
        cases b with
        | true =>
          refine .inl ⟨?_, fun y hy => ?_⟩
          · simp only [synthesislaw11_value_l1, lt_len hi, cond_true, e1, Option.bind_some, ew, hb, Bool.not_true, cond_false, w64s i (by omega)]
          · rw [List.getElem?_eq_getElem hi] at hy
            rw [← Option.some.inj hy]
            exact hb2 rfl
        | false => exact .inr ⟨_, rfl, by simp only [synthesislaw11_value_l1, lt_len hi, cond_true, e1, Option.bind_some, ew, hb, Bool.not_false]⟩) (by simp only [synthesislaw11_value_l1, lt_len', cond_false]) x.items.length 0 fuel (by omega) (lt_fuel (by omega)) (fun i hi => by omega)
      rcases hsc with ⟨a1, a2⟩ | ⟨b, rfl, a1⟩
      · have a1' : loopN (synthesislaw11_value_l1 x ((k + 1 : Nat) : Int) (synthesislaw11_value n)) fuel 0 = some (.inl ()) := a1
        have all : ∀ y ∈ x.items, depV y ≤ k ∧ wideV 30 y := fun y hy => by
          obtain ⟨i, hi⟩ := List.mem_iff_getElem?.1 hy
          exact a2 i (get_lt hi) y hi
        have hd : depV x ≤ k + 1 := depV_le fun y hy => (all y hy).1
        have hw : wideV 30 x := by
          obtain ⟨t, m, s, l⟩ := x
          have gen : ∀ l : List Va, (∀ x ∈ l, wideV 30 x) → wideVs 30 l := fun l => by
            induction l with
            | nil => exact fun _ => trivial
            | cons y l ih => exact fun h => ⟨h y (List.mem_cons_self ..), ih fun z hz => h z (List.mem_cons_of_mem _ hz)⟩
          exact ⟨by have : ¬ (30 : Int) < (l.length : Int) := h2; omega, gen l fun y hy => (all y hy).2⟩
        obtain ⟨z, hz, _⟩ := size_some (k + 1) fuel x hd (by omega) (Nat.le_of_lt (lt_fuel (by omega))) hw
        exact ⟨decide ((z : Int) ≤ 30), by simp only [synthesislaw11_value_b, e0, cond_false, decide_eq_false h1, decide_eq_false h2, Option.bind_some, a1', Sum.elim_inl, hz], fun _ => ⟨hd, hw⟩⟩
      · have a1' : loopN (synthesislaw11_value_l1 x ((k + 1 : Nat) : Int) (synthesislaw11_value n)) fuel 0 = some (.inr false) := a1
        exact ⟨false, by simp only [synthesislaw11_value_b, e0, cond_false, decide_eq_false h1, decide_eq_false h2, Option.bind_some, a1', Sum.elim_inr], fun h => by cases h⟩
    exact goal
/-- a small language -/
def SmallL (l : La) : Prop := l.name.size ≤ 100 ∧ l.inputs.length ≤ 10 ∧ l.symbols.length ≤ 20 ∧ l.rules.length ≤ 100 ∧ (∀ y ∈ l.symbols, y.name.size ≤ 100) ∧ ∀ r ∈ l.rules, r.args.length ≤ 10 ∧ r.op.size ≤ 100 ∧ depV r.const ≤ 4 ∧ wideV 30 r.const
theorem smallL_some {l : La} (h : wideL l) : ∃ b, synthesislaw11_small l = some b ∧ (b = true → SmallL l) := by
  obtain ⟨h1, h2, h3, h4, h5, h6⟩ := h
  by_cases g1 : (100 : Int) < (l.name.size : Int)
  · exact ⟨false, by simp only [synthesislaw11_small, decide_eq_true g1, cond_true, Option.bind_some], fun h => by cases h⟩
  by_cases g2 : (10 : Int) < (l.inputs.length : Int)
  · exact ⟨false, by simp only [synthesislaw11_small, decide_eq_false g1, decide_eq_true g2, cond_true, cond_false, Option.bind_some], fun h => by cases h⟩
  by_cases g3 : (20 : Int) < (l.symbols.length : Int)
  · exact ⟨false, by simp only [synthesislaw11_small, decide_eq_false g1, decide_eq_false g2, decide_eq_true g3, cond_true, cond_false, Option.bind_some], fun h => by cases h⟩
  by_cases g4 : (100 : Int) < (l.rules.length : Int)
  · exact ⟨false, by simp only [synthesislaw11_small, decide_eq_false g1, decide_eq_false g2, decide_eq_false g3, decide_eq_true g4, cond_true, cond_false, Option.bind_some], fun h => by cases h⟩
  have s2 := loop_scan (step := synthesislaw11_small_l2 l) (P := fun i => ∀ y, l.symbols[i]? = some y → y.name.size ≤ 100) (R := fun b => b = .inr false) (b0 := .inl ()) l.symbols.length (fun i hi => by
    have e1 : idx l.symbols (i : Int) = some l.symbols[i] := by rw [idx_nat, List.getElem?_eq_getElem hi]
    by_cases hb : (100 : Int) < (l.symbols[i].name.size : Int)
    · exact .inr ⟨_, rfl, by simp only [synthesislaw11_small_l2, lt_len hi, cond_true, e1, Option.bind_some, decide_eq_true hb]⟩
    · refine .inl ⟨by simp only [synthesislaw11_small_l2, lt_len hi, cond_true, cond_false, e1, Option.bind_some, decide_eq_false hb, w64s i (by omega)], fun y hy => ?_⟩
      rw [List.getElem?_eq_getElem hi] at hy
      rw [← Option.some.inj hy]
      omega) (by simp only [synthesislaw11_small_l2, lt_len', cond_false]) l.symbols.length 0 fuel (by omega) (lt_fuel (by omega)) (fun i hi => by omega)
  have s1 := loop_scan (step := synthesislaw11_small_l1 l) (P := fun i => ∀ r, l.rules[i]? = some r → r.args.length ≤ 10 ∧ r.op.size ≤ 100 ∧ depV r.const ≤ 4 ∧ wideV 30 r.const) (R := fun b => b = .inr false) (b0 := .inl ()) l.rules.length (fun i hi => by
    have e1 : idx l.rules (i : Int) = some l.rules[i] := by rw [idx_nat, List.getElem?_eq_getElem hi]
    have hw := h6 _ (List.getElem_mem hi)
    obtain ⟨b, hb, hb2⟩ := value_some 4 fuel l.rules[i].const (by omega) hw.2 (lt_fuel (by omega))
    have hb' : synthesislaw11_value fuel l.rules[i].const 4 = some b := hb
    by_cases q1 : (10 : Int) < (l.rules[i].args.length : Int)
    · exact .inr ⟨_, rfl, by simp only [synthesislaw11_small_l1, lt_len hi, cond_true, e1, Option.bind_some, decide_eq_true q1]⟩
    by_cases q2 : (100 : Int) < (l.rules[i].op.size : Int)
    · exact .inr ⟨_, rfl, by simp only [synthesislaw11_small_l1, lt_len hi, cond_true, cond_false, e1, Option.bind_some, decide_eq_false q1, decide_eq_true q2]⟩
    cases b with
    | false => exact .inr ⟨_, rfl, by simp only [synthesislaw11_small_l1, lt_len hi, cond_true, cond_false, e1, Option.bind_some, decide_eq_false q1, decide_eq_false q2, hb', Bool.not_false]⟩
    | true =>
      refine .inl ⟨by simp only [synthesislaw11_small_l1, lt_len hi, cond_true, cond_false, e1, Option.bind_some, decide_eq_false q1, decide_eq_false q2, hb', Bool.not_true, w64s i (by omega)], fun r hr => ?_⟩
      rw [List.getElem?_eq_getElem hi] at hr
      rw [← Option.some.inj hr]
      exact ⟨by omega, by omega, hb2 rfl⟩) (by simp only [synthesislaw11_small_l1, lt_len', cond_false]) l.rules.length 0 fuel (by omega) (lt_fuel (by omega)) (fun i hi => by omega)
  rcases s2 with ⟨a2, p2⟩ | ⟨b, rfl, a2⟩
  · have a2' : loopN (synthesislaw11_small_l2 l) fuel 0 = some (.inl ()) := a2
    rcases s1 with ⟨a1, p1⟩ | ⟨b, rfl, a1⟩
    · have a1' : loopN (synthesislaw11_small_l1 l) fuel 0 = some (.inl ()) := a1
      refine ⟨true, by simp only [synthesislaw11_small, decide_eq_false g1, decide_eq_false g2, decide_eq_false g3, decide_eq_false g4, cond_false, Option.bind_some, a2', a1', Sum.elim_inl], fun _ => ⟨by omega, by omega, by omega, by omega, fun y hy => ?_, fun r hr => ?_⟩⟩
      · obtain ⟨i, hi⟩ := List.mem_iff_getElem?.1 hy
        exact p2 i (get_lt hi) y hi
      · obtain ⟨i, hi⟩ := List.mem_iff_getElem?.1 hr
        exact p1 i (get_lt hi) r hi
    · have a1' : loopN (synthesislaw11_small_l1 l) fuel 0 = some (.inr false) := a1
      exact ⟨false, by simp only [synthesislaw11_small, decide_eq_false g1, decide_eq_false g2, decide_eq_false g3, decide_eq_false g4, cond_false, Option.bind_some, a2', a1', Sum.elim_inl, Sum.elim_inr], fun h => by cases h⟩
  · have a2' : loopN (synthesislaw11_small_l2 l) fuel 0 = some (.inr false) := a2
    exact ⟨false, by simp only [synthesislaw11_small, decide_eq_false g1, decide_eq_false g2, decide_eq_false g3, decide_eq_false g4, cond_false, Option.bind_some, a2', Sum.elim_inr], fun h => by cases h⟩
theorem awake11 : synthesislaw11_awake_h3 = some true := by kernel_rfl
/-! the rules of a symbol -/
end Go.Proofs.YtfhmljjkhjifeaaGreatDoor
set_option linter.unusedVariables false
set_option linter.unusedSimpArgs false
set_option maxRecDepth 100000
namespace Go.Proofs.YtfhmljjkhjifeaaGreatDoor
open Go Go.RowKit

/-- all arguments of a rule are marked -/
def allB (r : Ru) (s : List Bool) : Bool := r.args.all fun a => s.getD a.toNat false
theorem idx_getD {s : List Bool} {a : Int} (h0 : 0 ≤ a) (h1 : a < (s.length : Int)) : idx s a = some (s.getD a.toNat false) := by
  obtain ⟨n, rfl⟩ : ∃ n : Nat, a = (n : Int) := ⟨a.toNat, by omega⟩
  have hn : n < s.length := by omega
  rw [idx_nat, List.getElem?_eq_getElem hn]
  simp [List.getD, List.getElem?_eq_getElem hn]
theorem all_scan {r : Ru} {s : List Bool} (hr : r.args.length ≤ 1000) (ha : ∀ a ∈ r.args, 0 ≤ a ∧ a < (s.length : Int)) : synthesisref11_all r s = some (allB r s) ∧ grammar_productive_1_h r s = some (allB r s) ∧ grammar_complete_1_h r s = some (allB r s) := by
  have key : ∀ {β : Type} (step : Int → Option (Int ⊕ β)) (y n : β), (∀ i : Nat, (hi : i < r.args.length) → step (i : Int) = some (bif s.getD (r.args[i]).toNat false then .inl ((i + 1 : Nat) : Int) else .inr n)) → step (r.args.length : Int) = some (.inr y) →
      loopN step fuel 0 = some (if allB r s = true then y else n) := fun {β} step y n h1 h2 => by
    have := loop_fuel (step := step) r.args.length (by omega) (fun i => (i : Int)) (fun i => if ((r.args.drop i).all fun a => s.getD a.toNat false) = true then y else n) (fun i hi => by
      have hd := List.drop_eq_getElem_cons hi
      have hs := h1 i hi
      cases hb : s.getD (r.args[i]).toNat false with
      | true =>
        rw [hb] at hs
        refine .inl ⟨hs, ?_⟩
        rw [hd, List.all_cons, hb, Bool.true_and]
      | false =>
        rw [hb] at hs
        refine .inr ?_
        rw [hd, List.all_cons, hb, Bool.false_and, if_neg Bool.false_ne_true]
        exact hs) (by
      rw [List.drop_length]
      exact h2)
    exact this
  have e1 : ∀ i : Nat, (hi : i < r.args.length) → idx r.args (i : Int) = some r.args[i] := fun i hi => by rw [idx_nat, List.getElem?_eq_getElem hi]
  have e2 : ∀ i : Nat, (hi : i < r.args.length) → idx s r.args[i] = some (s.getD (r.args[i]).toNat false) := fun i hi => idx_getD (ha _ (List.getElem_mem hi)).1 (ha _ (List.getElem_mem hi)).2
  have k1 := key (synthesisref11_all_l1 r s) (.inl ()) (.inr false) (fun i hi => by
    simp only [synthesisref11_all_l1, lt_len hi, cond_true, e1 i hi, e2 i hi, Option.bind_some, w64s i (by omega)]
    cases s.getD (r.args[i]).toNat false <;> rfl) (by simp only [synthesisref11_all_l1, lt_len', cond_false])
  have k2 := key (grammar_productive_1_h_l1 r s) (.inl ()) (.inr ()) (fun i hi => by
    simp only [grammar_productive_1_h_l1, lt_len hi, cond_true, e1 i hi, e2 i hi, Option.bind_some, w64s i (by omega)]
    cases s.getD (r.args[i]).toNat false <;> rfl) (by simp only [grammar_productive_1_h_l1, lt_len', cond_false])
  have k3 := key (grammar_complete_1_h_l1 r s) (.inl ()) (.inr ()) (fun i hi => by
    simp only [grammar_complete_1_h_l1, lt_len hi, cond_true, e1 i hi, e2 i hi, Option.bind_some, w64s i (by omega)]
    cases s.getD (r.args[i]).toNat false <;> rfl) (by simp only [grammar_complete_1_h_l1, lt_len', cond_false])
  refine ⟨?_, ?_, ?_⟩
  · simp only [synthesisref11_all, k1, Option.bind_some]; cases allB r s <;> rfl
  · simp only [grammar_productive_1_h, k2, Option.bind_some]; cases allB r s <;> rfl
  · simp only [grammar_complete_1_h, k3, Option.bind_some]; cases allB r s <;> rfl
theorem setB_same {s : List Bool} {n : Nat} (h : n < s.length) (b : Bool) (hb : s.getD n false = b) : s.set n b = s := by
  have : s[n] = b := by simpa [List.getD, List.getElem?_eq_getElem h] using hb
  rw [← this, List.set_getElem_self]
/-- one rule -/
def prodS (r : Ru) (s : List Bool) : List Bool := if allB r s = true then s.set r.symbol.toNat true else s
theorem prod_step {l : La} (hg : GoodL l) {i : Nat} (hi : i < l.rules.length) {s : List Bool} (hs : s.length = l.symbols.length) :
    grammar_productive_l1 l ((i : Int), s) = some (.inl (((i + 1 : Nat) : Int), prodS l.rules[i] s)) ∧ synthesisref11_productive_l1 l ((i : Int), s) = some (.inl (((i + 1 : Nat) : Int), prodS l.rules[i] s)) := by
  have hr := hg.good _ (List.getElem_mem hi)
  have e1 : idx l.rules (i : Int) = some l.rules[i] := by rw [idx_nat, List.getElem?_eq_getElem hi]
  obtain ⟨a1, a2, _⟩ := all_scan (r := l.rules[i]) (s := s) (by have := hr.few; omega) (fun a ha => by rw [hs]; exact hr.args a ha)
  have e2 := idx_getD (s := s) hr.sym0 (by rw [hs]; exact hr.sym1)
  have hn : l.rules[i].symbol.toNat < s.length := by have := hr.sym0; have := hr.sym1; omega
  have hlen := hg.rules
  constructor
  · simp only [grammar_productive_l1, lt_len hi, cond_true, e1, e2, Option.bind_some, a2, w64s i (by omega)]
    cases hb : s.getD l.rules[i].symbol.toNat false with
    | true =>
      have hset := setB_same hn true hb
      unfold prodS
      rw [hset]
      cases allB l.rules[i] s <;> rfl
    | false =>
      unfold prodS
      cases hc : allB l.rules[i] s with
      | true => rfl
      | false =>
        have hset := setB_same hn false hb
        simp only [cond_false, Option.bind_some, hset]
        rfl
  · simp only [synthesisref11_productive_l1, lt_len hi, cond_true, e1, e2, Option.bind_some, a1, w64s i (by omega)]
    unfold prodS
    cases allB l.rules[i] s <;> rfl
theorem prodS_len (r : Ru) (s : List Bool) : (prodS r s).length = s.length := by unfold prodS; split <;> simp
theorem prod_round {l : La} (hg : GoodL l) : ∀ (k m N : Nat) (s : List Bool), m + k = l.rules.length → k < N → s.length = l.symbols.length →
    loopN (grammar_productive_l1 l) N ((m : Int), s) = some ((l.rules.drop m).foldl (fun s r => prodS r s) s) ∧ loopN (synthesisref11_productive_l1 l) N ((m : Int), s) = some ((l.rules.drop m).foldl (fun s r => prodS r s) s) := by
  intro k
  induction k with
  | zero =>
    intro m N s hm hN hs
    obtain ⟨N, rfl⟩ : ∃ j, N = j + 1 := ⟨N - 1, by omega⟩
    obtain rfl : m = l.rules.length := by omega
    rw [List.drop_length]
    exact ⟨lp_out (by simp only [grammar_productive_l1, lt_len', cond_false]; rfl), lp_out (by simp only [synthesisref11_productive_l1, lt_len', cond_false]; rfl)⟩
  | succ k ih =>
    intro m N s hm hN hs
    obtain ⟨N, rfl⟩ : ∃ j, N = j + 1 := ⟨N - 1, by omega⟩
    have hi : m < l.rules.length := by omega
    obtain ⟨s1, s2⟩ := prod_step hg hi hs
    rw [lp_go s1, lp_go s2, List.drop_eq_getElem_cons hi, List.foldl_cons]
    exact ih (m + 1) N _ (by omega) (by omega) (by rw [prodS_len]; exact hs)
/-- one round over the rules -/
def roundS (l : La) (s : List Bool) : List Bool := l.rules.foldl (fun s r => prodS r s) s
theorem foldl_len (rs : List Ru) : ∀ s : List Bool, (rs.foldl (fun s r => prodS r s) s).length = s.length := by
  induction rs with
  | nil => intro s; rfl
  | cons r rs ih => intro s; rw [List.foldl_cons, ih, prodS_len]
theorem roundS_len (l : La) (s : List Bool) : (roundS l s).length = s.length := foldl_len _ s
def roundsS (l : La) : Nat → List Bool → List Bool
  | 0, s => s
  | k + 1, s => roundsS l k (roundS l s)
theorem roundsS_len (l : La) : ∀ (k : Nat) (s : List Bool), (roundsS l k s).length = s.length
  | 0, s => rfl
  | k + 1, s => by rw [roundsS, roundsS_len l k, roundS_len]
theorem prod_rounds {l : La} (hg : GoodL l) : ∀ (k m N : Nat) (s : List Bool), m + k = l.symbols.length → k < N → s.length = l.symbols.length →
    loopN (grammar_productive_l2 l) N ((m : Int), s) = some (roundsS l k s) ∧ loopN (synthesisref11_productive_l2 l) N ((m : Int), s) = some (roundsS l k s) := by
  have h16 := hg.sym16
  intro k
  induction k with
  | zero =>
    intro m N s hm hN hs
    obtain ⟨N, rfl⟩ : ∃ j, N = j + 1 := ⟨N - 1, by omega⟩
    obtain rfl : m = l.symbols.length := by omega
    exact ⟨lp_out (by simp only [grammar_productive_l2, lt_len', cond_false]; rfl), lp_out (by simp only [synthesisref11_productive_l2, lt_len', cond_false]; rfl)⟩
  | succ k ih =>
    intro m N s hm hN hs
    obtain ⟨N, rfl⟩ : ∃ j, N = j + 1 := ⟨N - 1, by omega⟩
    have hi : m < l.symbols.length := by omega
    obtain ⟨r1, r2⟩ := prod_round hg l.rules.length 0 fuel s (by omega) (lt_fuel (by have := hg.rules; omega)) hs
    rw [List.drop_zero] at r1 r2
    have r1' : loopN (grammar_productive_l1 l) fuel (0, s) = some (roundS l s) := r1
    have r2' : loopN (synthesisref11_productive_l1 l) fuel (0, s) = some (roundS l s) := r2
    have s1 : grammar_productive_l2 l ((m : Int), s) = some (.inl (((m + 1 : Nat) : Int), roundS l s)) := by simp only [grammar_productive_l2, lt_len hi, cond_true, r1', Option.bind_some, w64s m (by omega)]
    have s2 : synthesisref11_productive_l2 l ((m : Int), s) = some (.inl (((m + 1 : Nat) : Int), roundS l s)) := by simp only [synthesisref11_productive_l2, lt_len hi, cond_true, r2', Option.bind_some, w64s m (by omega)]
    rw [lp_go s1, lp_go s2]
    exact ih (m + 1) N _ (by omega) (by omega) (by rw [roundS_len]; exact hs)
/-- the productive symbols -/
def prodL (l : La) : List Bool := roundsS l l.symbols.length (List.replicate l.symbols.length false)
theorem prodL_len (l : La) : (prodL l).length = l.symbols.length := by unfold prodL; rw [roundsS_len, List.length_replicate]
theorem productive_eq {l : La} (hg : GoodL l) : grammar_productive l = some (prodL l) ∧ synthesisref11_productive l = some (prodL l) := by
  have h16 := hg.sym16
  have hm := mkL_eq 1 false l.symbols.length (by omega)
  obtain ⟨r1, r2⟩ := prod_rounds hg l.symbols.length 0 fuel (List.replicate l.symbols.length false) (by omega) (lt_fuel (by omega)) (by simp)
  have r1' : loopN (grammar_productive_l2 l) fuel (0, List.replicate l.symbols.length false) = some (prodL l) := r1
  have r2' : loopN (synthesisref11_productive_l2 l) fuel (0, List.replicate l.symbols.length false) = some (prodL l) := r2
  exact ⟨by simp only [grammar_productive, hm, Option.bind_some, r1'], by simp only [synthesisref11_productive, hm, Option.bind_some, r2']⟩
end Go.Proofs.YtfhmljjkhjifeaaGreatDoor
set_option linter.unusedVariables false
set_option linter.unusedSimpArgs false
set_option maxRecDepth 100000
namespace Go.Proofs.YtfhmljjkhjifeaaGreatDoor
open Go Go.RowKit

def mk (s : List Bool) (i : Nat) : Bool := s.getD i false
/-- how many are not marked -/
def cf (s : List Bool) : Nat := s.countP (! ·)
theorem cf_le : ∀ {s t : List Bool}, s.length = t.length → (∀ i, mk s i = true → mk t i = true) → cf t ≤ cf s
  | [], [], _, _ => Nat.le_refl _
  | a :: s, b :: t, hl, h => by
    have ih := cf_le (s := s) (t := t) (by simpa using hl) fun i hi => by
      have := h (i + 1)
      simpa [mk] using this (by simpa [mk] using hi)
    have h0 := h 0
    simp only [mk, List.getD_cons_zero] at h0
    unfold cf at ih ⊢
    simp only [List.countP_cons]
    cases a <;> cases b <;> simp at h0 ⊢ <;> omega
theorem mk_set {s : List Bool} {i j : Nat} (hi : i < s.length) : mk (s.set i true) j = (if i = j then true else mk s j) := by
  unfold mk
  by_cases h : i = j
  · subst h
    simp [List.getD, hi]
  · rw [if_neg h]
    simp [List.getD, List.getElem?_set, h]
def Reach (succ : Nat → List Nat) (x y : Nat) : Prop := Relation.TransGen (fun x y => y ∈ succ x) x y
end Go.Proofs.YtfhmljjkhjifeaaGreatDoor
set_option linter.unusedVariables false
set_option linter.unusedSimpArgs false
set_option maxRecDepth 100000
namespace Go.Proofs.YtfhmljjkhjifeaaGreatDoor
open Go Go.RowKit

theorem cf_lt : ∀ {s t : List Bool}, s.length = t.length → (∀ i, mk s i = true → mk t i = true) → s ≠ t → cf t < cf s
  | [], [], _, _, h => absurd rfl h
  | a :: s, b :: t, hl, h, hne => by
    have hl' : s.length = t.length := by simpa using hl
    have h' : ∀ i, mk s i = true → mk t i = true := fun i hi => by
      have := h (i + 1)
      simpa [mk] using this (by simpa [mk] using hi)
    have h0 := h 0
    simp only [mk, List.getD_cons_zero] at h0
    have hle := cf_le hl' h'
    by_cases hst : s = t
    · subst hst
      have hab : a ≠ b := fun h => hne (by rw [h])
      unfold cf
      simp only [List.countP_cons]
      cases a <;> cases b <;> simp at h0 hab ⊢
    · have ih := cf_lt hl' h' hst
      unfold cf at ih ⊢
      simp only [List.countP_cons]
      cases a <;> cases b <;> simp at h0 ⊢ <;> omega
def iterL (f : List Bool → List Bool) : Nat → List Bool → List Bool
  | 0, s => s
  | k + 1, s => iterL f k (f s)
theorem iter_fix {f : List Bool → List Bool} {s : List Bool} (h : f s = s) : ∀ k, iterL f k s = s
  | 0 => rfl
  | k + 1 => by rw [iterL, h, iter_fix h k]
/-- all of these are marked -/
def markAll (as' : List Nat) (s : List Bool) : List Bool := as'.foldl (fun s a => s.set a true) s
end Go.Proofs.YtfhmljjkhjifeaaGreatDoor
set_option linter.unusedVariables false
set_option linter.unusedSimpArgs false
set_option maxRecDepth 100000
namespace Go.Proofs.YtfhmljjkhjifeaaGreatDoor
open Go Go.RowKit

def argN (r : Ru) : List Nat := r.args.map Int.toNat
/-- one rule -/
def refS (adm : Ru → Bool) (fr : Nat) (s : List Bool) (r : Ru) : List Bool := if (r.symbol.toNat = fr ∨ mk s r.symbol.toNat = true) ∧ adm r = true then markAll (argN r) s else s
end Go.Proofs.YtfhmljjkhjifeaaGreatDoor
set_option linter.unusedVariables false
set_option linter.unusedSimpArgs false
set_option maxRecDepth 100000
namespace Go.Proofs.YtfhmljjkhjifeaaGreatDoor
open Go Go.RowKit

def roundF (adm : Ru → Bool) (fr : Nat) (l : La) (s : List Bool) : List Bool := l.rules.foldl (refS adm fr) s
/-- what the reference says can be reached -/
def refReach (adm : Ru → Bool) (fr : Nat) (l : La) : List Bool := iterL (roundF adm fr l) (l.symbols.length + 1) (List.replicate l.symbols.length false)
end Go.Proofs.YtfhmljjkhjifeaaGreatDoor
set_option linter.unusedVariables false
set_option linter.unusedSimpArgs false
set_option maxRecDepth 100000
namespace Go.Proofs.YtfhmljjkhjifeaaGreatDoor
open Go Go.RowKit

theorem mk_rep (n i : Nat) : mk (List.replicate n false) i = false := by
  unfold mk
  simp [List.getD, List.getElem?_replicate]
  split <;> rfl
theorem cf_rep (n : Nat) : cf (List.replicate n false) = n := by unfold cf; simp [List.countP_replicate]
end Go.Proofs.YtfhmljjkhjifeaaGreatDoor
set_option linter.unusedVariables false
set_option linter.unusedSimpArgs false
set_option maxRecDepth 100000
namespace Go.Proofs.YtfhmljjkhjifeaaGreatDoor
open Go Go.RowKit

end Go.Proofs.YtfhmljjkhjifeaaGreatDoor
set_option linter.unusedVariables false
set_option linter.unusedSimpArgs false
set_option maxRecDepth 100000
namespace Go.Proofs.YtfhmljjkhjifeaaGreatDoor
open Go Go.RowKit

end Go.Proofs.YtfhmljjkhjifeaaGreatDoor
set_option linter.unusedVariables false
set_option linter.unusedSimpArgs false
set_option maxRecDepth 100000
namespace Go.Proofs.YtfhmljjkhjifeaaGreatDoor
open Go Go.RowKit

end Go.Proofs.YtfhmljjkhjifeaaGreatDoor
set_option linter.unusedVariables false
set_option linter.unusedSimpArgs false
set_option maxRecDepth 100000
namespace Go.Proofs.YtfhmljjkhjifeaaGreatDoor
open Go Go.RowKit

theorem mk_ext {s t : List Bool} (hl : s.length = t.length) (h : ∀ i, i < s.length → (mk s i = true ↔ mk t i = true)) : s = t := by
  apply List.ext_getElem hl
  intro i h1 h2
  have := h i h1
  simp only [mk, List.getD_eq_getElem?_getD, List.getElem?_eq_getElem h1, List.getElem?_eq_getElem h2, Option.getD_some] at this
  cases hs : s[i] <;> cases ht : t[i] <;> simp [hs, ht] at this ⊢
/-- what the program marks: the reference's marks, and the start where it is asked for -/
def selfR (self : Bool) (fr : Nat) (s : List Bool) : List Bool := if self = true then s.set fr true else s
end Go.Proofs.YtfhmljjkhjifeaaGreatDoor
