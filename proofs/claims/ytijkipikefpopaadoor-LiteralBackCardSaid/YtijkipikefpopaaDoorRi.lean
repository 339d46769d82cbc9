/- LiteralPrints, LiteralPrefixes. -/
import Derived.Test.YtijkipikefpopaaDoorRh
set_option linter.unusedVariables false
set_option linter.unusedSimpArgs false
set_option maxRecDepth 100000
namespace Go.Proofs.YtijkipikefpopaaDoor
open Go Go.RowKit

theorem loop_scan {β : Type} {step : Int → Option (Int ⊕ β)} {P : Nat → Prop} {R : β → Prop} {b0 : β} (n : Nat) (hs : ∀ i : Nat, i < n → (step (i : Int) = some (.inl ((i + 1 : Nat) : Int)) ∧ P i) ∨ ∃ b, R b ∧ step (i : Int) = some (.inr b)) (he : step (n : Int) = some (.inr b0)) :
    ∀ (k m N : Nat), m + k = n → k < N → (∀ i, i < m → P i) → (loopN step N (m : Int) = some b0 ∧ ∀ i, i < n → P i) ∨ ∃ b, R b ∧ loopN step N (m : Int) = some b := by
  intro k
  induction k with
  | zero =>
    intro m N hm hN hP
    obtain ⟨N, rfl⟩ : ∃ j, N = j + 1 := ⟨N - 1, by omega⟩
    obtain rfl : m = n := by omega
    exact .inl ⟨lp_out he, hP⟩
  | succ k ih =>
    intro m N hm hN hP
    obtain ⟨N, rfl⟩ : ∃ j, N = j + 1 := ⟨N - 1, by omega⟩
    rcases hs m (by omega) with ⟨h1, h2⟩ | ⟨b, h1, h2⟩
    · rw [lp_go h1]
      exact ih (m + 1) N (by omega) (by omega) fun i hi => by
        rcases Nat.lt_succ_iff_lt_or_eq.1 hi with h | rfl
        · exact hP i h
        · exact h2
    · exact .inr ⟨b, h1, lp_out h2⟩
/-! sizes -/
theorem size_loop {l : List Va} {B : Nat} {r27 : Va → Option Int} (hl : l.length ≤ 40) (hB : B ≤ 100000000000) (x : Va) (hx : x.items = l) (H : ∀ y ∈ l, ∃ z : Nat, r27 y = some (z : Int) ∧ z ≤ B) : ∀ (k m acc N : Nat), m + k = l.length → k < N → acc ≤ 1 + m * B → ∃ z : Nat, loopN (synthesisref01_Size_l1 x r27) N ((acc : Int), (m : Int)) = some (z : Int) ∧ z ≤ 1 + l.length * B := by
  intro k
  induction k with
  | zero =>
    intro m acc N hm hN ha
    obtain ⟨N, rfl⟩ : ∃ j, N = j + 1 := ⟨N - 1, by omega⟩
    obtain rfl : m = l.length := by omega
    have d1 : decide (((l.length : Nat) : Int) < (x.items.length : Int)) = false := decide_eq_false (by rw [hx]; omega)
    exact ⟨acc, lp_out (by simp only [synthesisref01_Size_l1, d1, cond_false]), ha⟩
  | succ k ih =>
    intro m acc N hm hN ha
    obtain ⟨N, rfl⟩ : ∃ j, N = j + 1 := ⟨N - 1, by omega⟩
    have hml : m < l.length := by omega
    have d1 : decide ((m : Int) < (x.items.length : Int)) = true := decide_eq_true (by rw [hx]; omega)
    have e1 : idx x.items (m : Int) = some l[m] := by rw [hx, idx_nat, List.getElem?_eq_getElem hml]
    obtain ⟨z, hz, hzB⟩ := H _ (List.getElem_mem hml)
    have hmB : m * B ≤ 40 * 100000000000 := Nat.mul_le_mul (by omega) hB
    obtain ⟨r, hr, hrB⟩ := ih (m + 1) (acc + z) N (by omega) (by omega) (by rw [Nat.add_mul, Nat.one_mul]; omega)
    refine ⟨r, ?_, hrB⟩
    rw [← hr]
    refine lp_go ?_
    have ew : w64 ((acc : Int) + (z : Int)) = ((acc + z : Nat) : Int) := w64_eq (by omega) (by omega)
    simp only [synthesisref01_Size_l1, d1, cond_true, e1, Option.bind_some, hz, ew, w64s m (by omega)]
theorem size_some : ∀ (d n : Nat) (x : Va), depV x ≤ d → d ≤ 6 → d ≤ n → wideV 40 x → ∃ z : Nat, synthesisref01_Size n x = some (z : Int) ∧ z ≤ 50 ^ d := by
  intro d
  induction d with
  | zero =>
    intro n x h
    obtain ⟨t, m, s, l⟩ := x
    exact absurd h (by unfold depV; omega)
  | succ d ih =>
    intro n x h hd hn hw
    obtain ⟨n, rfl⟩ : ∃ j, n = j + 1 := ⟨n - 1, by omega⟩
    obtain ⟨w1, w2⟩ := wide_items hw
    have hB : 50 ^ d ≤ 50 ^ 5 := Nat.pow_le_pow_right (by omega) (by omega)
    have hp5 : (50 : Nat) ^ 5 = 312500000 := by decide
    have hpos : 1 ≤ 50 ^ d := Nat.pow_pos (by omega)
    obtain ⟨z, hz, hzB⟩ := size_loop (l := x.items) (B := 50 ^ d) w1 (by omega) x rfl (fun y hy => ih n y (by have := dep_items hy; omega) (by omega) (by omega) (w2 y hy)) x.items.length 0 1 fuel (by omega) (lt_fuel (by omega)) (by omega)
    have hmul : x.items.length * 50 ^ d ≤ 40 * 50 ^ d := Nat.mul_le_mul_right _ w1
    refine ⟨z, ?_, by rw [Nat.pow_succ]; omega⟩
    show synthesisref01_Size_b (synthesisref01_Size n) x = _
    have hz' : loopN (synthesisref01_Size_l1 x (synthesisref01_Size n)) fuel (1, 0) = some (z : Int) := hz
    simp only [synthesisref01_Size_b, hz', Option.bind_some]
theorem small_some : ∀ (k n : Nat) (x : Va), k ≤ 5 → inV x → k < n → ∃ b, synthesislaw02_small n x (k : Int) = some b ∧ (b = true → depV x ≤ k ∧ wideV 40 x) := by
  intro k
  induction k with
  | zero =>
    intro n x _ hx hn
    obtain ⟨n, rfl⟩ : ∃ j, n = j + 1 := ⟨n - 1, by omega⟩
    refine ⟨false, ?_, fun h => by cases h⟩
    show synthesislaw02_small_b (synthesislaw02_small n) x 0 = _
    simp only [synthesislaw02_small_b, show ((0 : Int) == 0) = true from rfl, cond_true, Option.bind_some]
  | succ k ih =>
    intro n x hk hx hn
    obtain ⟨n, rfl⟩ : ∃ j, n = j + 1 := ⟨n - 1, by omega⟩
    obtain ⟨lx, sx, wx⟩ := inV_items hx
    have e0 : (((k + 1 : Nat) : Int) == 0) = false := by rw [beq_eq_false_iff_ne]; omega
    have goal : ∃ b, synthesislaw02_small_b (synthesislaw02_small n) x ((k + 1 : Nat) : Int) = some b ∧ (b = true → depV x ≤ k + 1 ∧ wideV 40 x) := by
      by_cases h1 : (200 : Int) < (x.text.size : Int)
      · exact ⟨false, by simp only [synthesislaw02_small_b, e0, cond_false, decide_eq_true h1, cond_true, Option.bind_some], fun h => by cases h⟩
      by_cases h2 : (40 : Int) < (x.items.length : Int)
      · exact ⟨false, by simp only [synthesislaw02_small_b, e0, cond_false, decide_eq_false h1, decide_eq_true h2, cond_true, Option.bind_some], fun h => by cases h⟩
      have ew : w64 (((k + 1 : Nat) : Int) - 1) = (k : Int) := by rw [show ((k + 1 : Nat) : Int) - 1 = (k : Int) by omega]; exact w64_eq (by omega) (by omega)
      have hsc := loop_scan (step := synthesislaw02_small_l1 x ((k + 1 : Nat) : Int) (synthesislaw02_small n)) (P := fun i => ∀ y, x.items[i]? = some y → depV y ≤ k ∧ wideV 40 y) (R := fun b => b = .inr false) (b0 := .inl ()) x.items.length (fun i hi => by
        have e1 : idx x.items (i : Int) = some x.items[i] := by rw [idx_nat, List.getElem?_eq_getElem hi]
        obtain ⟨b, hb, hb2⟩ := ih n x.items[i] (by omega) (wx _ (List.getElem_mem hi)) (by omega)
        cases b with
        | true =>
          refine .inl ⟨?_, fun y hy => ?_⟩
          · simp only [synthesislaw02_small_l1, lt_len hi, cond_true, e1, Option.bind_some, ew, hb, Bool.not_true, cond_false, w64s i (by omega)]
          · rw [List.getElem?_eq_getElem hi] at hy
            rw [← Option.some.inj hy]
            exact hb2 rfl
        | false => exact .inr ⟨_, rfl, by simp only [synthesislaw02_small_l1, lt_len hi, cond_true, e1, Option.bind_some, ew, hb, Bool.not_false]⟩) (by simp only [synthesislaw02_small_l1, lt_len', cond_false]) x.items.length 0 fuel (by omega) (lt_fuel (by omega)) (fun i hi => by omega)
      rcases hsc with ⟨a1, a2⟩ | ⟨b, rfl, a1⟩
      · have a1' : loopN (synthesislaw02_small_l1 x ((k + 1 : Nat) : Int) (synthesislaw02_small n)) fuel 0 = some (.inl ()) := a1
        have all : ∀ y ∈ x.items, depV y ≤ k ∧ wideV 40 y := fun y hy => by
          obtain ⟨i, hi⟩ := List.mem_iff_getElem?.1 hy
          exact a2 i (get_lt hi) y hi
        have hd : depV x ≤ k + 1 := depV_le fun y hy => (all y hy).1
        have hw : wideV 40 x := by
          obtain ⟨t, m, s, l⟩ := x
          have gen : ∀ l : List Va, (∀ x ∈ l, wideV 40 x) → wideVs 40 l := fun l => by
            induction l with
            | nil => exact fun _ => trivial
            | cons y l ih => exact fun h => ⟨h y (List.mem_cons_self ..), ih fun z hz => h z (List.mem_cons_of_mem _ hz)⟩
          exact ⟨by have : ¬ (40 : Int) < (l.length : Int) := h2; omega, gen l fun y hy => (all y hy).2⟩
        obtain ⟨z, hz, _⟩ := size_some (k + 1) fuel x hd (by omega) (Nat.le_of_lt (lt_fuel (by omega))) hw
        exact ⟨decide ((z : Int) ≤ 200), by simp only [synthesislaw02_small_b, e0, cond_false, decide_eq_false h1, decide_eq_false h2, Option.bind_some, a1', Sum.elim_inl, hz], fun _ => ⟨hd, hw⟩⟩
      · have a1' : loopN (synthesislaw02_small_l1 x ((k + 1 : Nat) : Int) (synthesislaw02_small n)) fuel 0 = some (.inr false) := a1
        exact ⟨false, by simp only [synthesislaw02_small_b, e0, cond_false, decide_eq_false h1, decide_eq_false h2, Option.bind_some, a1', Sum.elim_inr], fun h => by cases h⟩
    exact goal
theorem small5 {x : Va} (hx : inV x) : ∃ b, synthesislaw02_small fuel x 5 = some b := by
  obtain ⟨b, hb, _⟩ := small_some 5 fuel x (by omega) hx (lt_fuel (by omega))
  exact ⟨b, hb⟩
/-! printing -/
theorem print_loops {l : List Va} (hl : l.length ≤ 1000) (hv : ∀ x ∈ l, inV x) : ∀ (k m N : Nat), m + k = l.length → k < N →
    (∃ c, c ≠ 0 ∧ loopN (literal_PrintAll_h_l1 l) N (m : Int) = some (.inr c) ∧ loopN (synthesisref02_PrintAll_l1 l) N (m : Int) = some (.inr (⟨#[]⟩, c))) ∨
      (loopN (literal_PrintAll_h_l1 l) N (m : Int) = some (.inl ()) ∧ loopN (synthesisref02_PrintAll_l1 l) N (m : Int) = some (.inl ()) ∧ ∀ x ∈ l.drop m, value_Check fuel x = some 0) := by
  intro k
  induction k with
  | zero =>
    intro m N hm hN
    obtain ⟨N, rfl⟩ : ∃ j, N = j + 1 := ⟨N - 1, by omega⟩
    obtain rfl : m = l.length := by omega
    refine .inr ⟨lp_out (by simp only [literal_PrintAll_h_l1, lt_len', cond_false]), lp_out (by simp only [synthesisref02_PrintAll_l1, lt_len', cond_false]), fun x hx => ?_⟩
    rw [List.drop_length] at hx
    cases hx
  | succ k ih =>
    intro m N hm hN
    obtain ⟨N, rfl⟩ : ∃ j, N = j + 1 := ⟨N - 1, by omega⟩
    have hml : m < l.length := by omega
    have e1 : idx l (m : Int) = some l[m] := by rw [idx_nat, List.getElem?_eq_getElem hml]
    obtain ⟨c, c1, c2, _⟩ := Check_u (hv _ (List.getElem_mem hml))
    cases hc : (c != 0) with
    | true => exact .inl ⟨c, by simpa using hc, lp_out (by simp only [literal_PrintAll_h_l1, lt_len hml, cond_true, e1, Option.bind_some, c1, hc]), lp_out (by simp only [synthesisref02_PrintAll_l1, lt_len hml, cond_true, e1, Option.bind_some, c2, hc])⟩
    | false =>
      have g1 : literal_PrintAll_h_l1 l (m : Int) = some (.inl ((m + 1 : Nat) : Int)) := by simp only [literal_PrintAll_h_l1, lt_len hml, cond_true, cond_false, e1, Option.bind_some, c1, hc, w64s m (by omega)]
      have g2 : synthesisref02_PrintAll_l1 l (m : Int) = some (.inl ((m + 1 : Nat) : Int)) := by simp only [synthesisref02_PrintAll_l1, lt_len hml, cond_true, cond_false, e1, Option.bind_some, c2, hc, w64s m (by omega)]
      rw [lp_go g1, lp_go g2]
      rcases ih (m + 1) N (by omega) (by omega) with h | ⟨h1, h2, h3⟩
      · exact .inl h
      · refine .inr ⟨h1, h2, fun x hx => ?_⟩
        rw [List.drop_eq_getElem_cons hml] at hx
        rcases List.mem_cons.1 hx with rfl | hx
        · rw [c1]; rw [bne_eq_false_iff_eq] at hc; rw [hc]
        · exact h3 x hx
theorem ok_of {x : Va} (hx : inV x) (h : value_Check fuel x = some 0) : valOk x := check_ok fuel x (Nat.le_trans (Nat.mul_le_mul_left 2 (rkT_le x.type)) (Nat.le_of_lt (lt_fuel (by omega)))) hx h
theorem PrintAll_eq {l : List Va} (hl : l.length ≤ 1000) (hv : ∀ x ∈ l, inV x) : (∃ c, c ≠ 0 ∧ literal_PrintAll_h l = some (⟨#[]⟩, c) ∧ synthesisref02_PrintAll l = some (⟨#[]⟩, c)) ∨
    (literal_PrintAll_h l = some (mkB (joinB (l.map showV)), 0) ∧ synthesisref02_PrintAll l = some (mkB (joinB (l.map showV)), 0) ∧ ∀ x ∈ l, valOk x ∧ value_Check fuel x = some 0) := by
  rcases print_loops hl hv l.length 0 fuel (by omega) (lt_fuel (by omega)) with ⟨c, h0, h1, h2⟩ | ⟨h1, h2, h3⟩
  · have h1' : loopN (literal_PrintAll_h_l1 l) fuel 0 = some (.inr c) := h1
    have h2' : loopN (synthesisref02_PrintAll_l1 l) fuel 0 = some (.inr (⟨#[]⟩, c)) := h2
    exact .inl ⟨c, h0, by simp only [literal_PrintAll_h, h1', Option.bind_some, Sum.elim_inr], by simp only [synthesisref02_PrintAll, h2', Option.bind_some, Sum.elim_inr]⟩
  · have h1' : loopN (literal_PrintAll_h_l1 l) fuel 0 = some (.inl ()) := h1
    have h2' : loopN (synthesisref02_PrintAll_l1 l) fuel 0 = some (.inl ()) := h2
    rw [List.drop_zero] at h3
    have hok : ∀ x ∈ l, valOk x := fun x hx => ok_of (hv x hx) (h3 x hx)
    obtain ⟨w1, w2, _⟩ := written hl hok
    refine .inr ⟨?_, ?_, fun x hx => ⟨hok x hx, h3 x hx⟩⟩
    · simp only [literal_PrintAll_h, h1', Option.bind_some, Sum.elim_inl, w1, strings_Builder_String_h, toBA_iB]
    · simp only [synthesisref02_PrintAll, h2', Option.bind_some, Sum.elim_inl, w2]
theorem Print_eq {x : Va} (hx : inV x) : (∃ c, c ≠ 0 ∧ literal_Print_h x = some (⟨#[]⟩, c) ∧ synthesisref02_Print x = some (⟨#[]⟩, c)) ∨
    (literal_Print_h x = some (mkB (showV x), 0) ∧ synthesisref02_Print x = some (mkB (showV x), 0) ∧ valOk x) := by
  obtain ⟨c, c1, c2, _⟩ := Check_u hx
  rcases PrintAll_eq (l := [x]) (by simp) (fun y hy => by rw [List.mem_singleton.1 hy]; exact hx) with ⟨c', h0, h1, h2⟩ | ⟨h1, h2, h3⟩
  · have h2' := h2
    -- the check is the same one
    have hcc : c = c' := by
      cases hc : (c != 0) with
      | true =>
        have g1 : literal_PrintAll_h_l1 [x] 0 = some (.inr (.inr c)) := by
          simp only [literal_PrintAll_h_l1, show decide ((0 : Int) < (([x] : List Va).length : Int)) = true from rfl, show idx [x] 0 = some x from rfl, cond_true, Option.bind_some, c1, hc]
        obtain ⟨n, hn⟩ : ∃ n, fuel = n + 1 := ⟨_, fuel_succ⟩
        have g2 : loopN (literal_PrintAll_h_l1 [x]) fuel 0 = some (.inr c) := by rw [hn]; exact lp_out g1
        simp only [literal_PrintAll_h, g2, Option.bind_some, Sum.elim_inr, Option.some.injEq, Prod.mk.injEq, true_and] at h1
        exact h1
      | false =>
        exfalso
        rw [bne_eq_false_iff_eq] at hc
        subst hc
        rcases print_loops (l := [x]) (by simp) (fun y hy => by rw [List.mem_singleton.1 hy]; exact hx) 1 0 fuel (by simp) (lt_fuel (by omega)) with ⟨c, q0, q1, q2⟩ | ⟨q1, q2, q3⟩
        · have g1 : literal_PrintAll_h_l1 [x] 0 = some (.inl 1) := by
            simp only [literal_PrintAll_h_l1, show decide ((0 : Int) < (([x] : List Va).length : Int)) = true from rfl, show idx [x] 0 = some x from rfl, cond_true, Option.bind_some, c1, show ((0 : Int) != 0) = false from rfl, cond_false]
            rfl
          have g2 : literal_PrintAll_h_l1 [x] 1 = some (.inr (.inl ())) := rfl
          obtain ⟨n, hn⟩ : ∃ n, fuel = n + 2 := ⟨18446744073709551614, by unfold fuel; omega⟩
          have q1' : loopN (literal_PrintAll_h_l1 [x]) fuel 0 = some (.inr c) := q1
          rw [hn, lp_go g1, lp_out g2] at q1'
          cases q1'
        · have q1' : loopN (literal_PrintAll_h_l1 [x]) fuel 0 = some (.inl ()) := q1
          have hok := ok_of hx c1
          obtain ⟨w1, _, _⟩ := written (l := [x]) (by simp) (fun y hy => by rw [List.mem_singleton.1 hy]; exact hok)
          simp only [literal_PrintAll_h, q1', Option.bind_some, Sum.elim_inl, w1, strings_Builder_String_h, toBA_iB, Option.some.injEq, Prod.mk.injEq] at h1
          exact h0 h1.2.symm
    subst hcc
    refine .inl ⟨c, h0, by simp only [literal_Print_h, h1, Option.bind_some], ?_⟩
    have : (c != 0) = true := by simpa using h0
    simp only [synthesisref02_Print, c2, Option.bind_some, this, cond_true]
  · have hok := h3 x (List.mem_singleton.2 rfl)
    refine .inr ⟨by simp only [literal_Print_h, h1, Option.bind_some]; rfl, ?_, hok.1⟩
    rw [hok.2] at c1
    obtain rfl := Option.some.inj c1
    obtain ⟨k, hk⟩ := fuel9
    have ht : synthesisref02_text fuel x = some (mkB (showV x)) := by rw [hk]; exact (okW_val hok.1 (k + 4) (k + 4)).2.1
    simp only [synthesisref02_Print, c2, Option.bind_some, show ((0 : Int) != 0) = false from rfl, cond_false, ht]
/-- a value's own text is read to its end -/
theorem show_ev {x : Va} (h : valOk x) : oneP.ev (mkB (showV x)) 0 = (some x, (mkB (showV x)).size) := by
  have e1 := ev_run (mkB (showV x)) oneP 0
  have e2 := one_run h (m := []) ⟨.inl (by decide), by decide⟩
  rw [List.drop_zero, mkB_data] at e1
  rw [List.append_nil] at e2
  rw [e2] at e1
  have h1 := congrArg Prod.fst e1
  have h2 := congrArg Prod.snd e1
  simp only at h1 h2
  have hle := one_le (mkB (showV x))
  have h3 := congrArg List.length h2
  rw [List.length_drop, List.length_nil] at h3
  rw [mkB_size] at hle ⊢
  exact Prod.ext h1.symm (by show _ = (showV x).length; omega)
end Go.Proofs.YtijkipikefpopaaDoor
