/- Costs of terms by both texts; the law WeightCosts. -/
import Derived.Test.YtpcfkflhnkfjjaaWa
import Derived.Test.YtpcfkflhnkfjjaaTc
set_option linter.unusedVariables false
set_option linter.unusedSimpArgs false
namespace Go.Proofs.Ytpcfkflhnkfjjaa
open Go Go.RowKit

/-- the weight of a rule; whether it has one -/
def rW (w : List Int) (r : Int) : Int := (w[r.toNat]?).getD 0
def rOk (w : List Int) (r : Int) : Bool := decide (0 ≤ r) && (decide (r < (w.length : Int)) && !badW (rW w r))
def sumW (w : List Int) (rs : List Int) : Int := (rs.map (rW w)).sum
theorem rW_idx {w : List Int} {r : Int} (h : rOk w r = true) : idx w r = some (rW w r) ∧ 0 ≤ r ∧ r < (w.length : Int) ∧ 0 ≤ rW w r ∧ rW w r ≤ 1000 := by
  unfold rOk badW at h
  simp only [Bool.and_eq_true, decide_eq_true_eq, Bool.not_eq_true', Bool.or_eq_false_iff, decide_eq_false_iff_not] at h
  obtain ⟨h0, h1, h2, h3⟩ := h
  have hlt : r.toNat < w.length := by omega
  refine ⟨?_, h0, h1, by omega, by omega⟩
  unfold idx rW
  rw [if_pos h0, List.getElem?_eq_getElem hlt]
  rfl
theorem rOk_rules (w : List Int) (t : Tm) : t.rules.all (rOk w) = (rOk w t.rule && (Tm.preL Tm.rule t.args).all (rOk w)) := by
  show (t.pre Tm.rule).all _ = _
  rw [pre_mk]
  rfl
theorem sumW_rules (w : List Int) (t : Tm) : sumW w t.rules = rW w t.rule + sumW w (Tm.preL Tm.rule t.args) := by
  show sumW w (t.pre Tm.rule) = _
  rw [pre_mk]
  simp [sumW]
theorem sumW_append (w : List Int) (a b : List Int) : sumW w (a ++ b) = sumW w a + sumW w b := by simp [sumW]
theorem sumW_range (w : List Int) : ∀ rs : List Int, rs.all (rOk w) = true → 0 ≤ sumW w rs ∧ sumW w rs ≤ 1000 * (rs.length : Int)
  | [], _ => by simp [sumW]
  | r :: rs, h => by
    simp only [List.all_cons, Bool.and_eq_true] at h
    obtain ⟨_, _, _, h1, h2⟩ := rW_idx h.1
    obtain ⟨h3, h4⟩ := sumW_range w rs h.2
    have : sumW w (r :: rs) = rW w r + sumW w rs := by simp [sumW]
    rw [this, List.length_cons]
    omega
def costC (w : List Int) (rs : List Int) : Int × Int := if rs.all (rOk w) = true then (sumW w rs, 0) else (0, 1)
theorem cost_run (w : List Int) (r : Tm → Option (Int × Int)) : ∀ (xs : List Tm) (s : Int), 0 ≤ s → s + 1000 * (Tm.sizeL xs : Int) ≤ 1000000000 → (∀ x ∈ xs, r x = some (costC w x.rules)) →
    runL (fun (s : Int) x => Option.bind (r x) fun v => (bif v.2 != 0 then some (.inr ((0 : Int), v.2)) else some (.inl (w64 (s + v.1))) : Option (Int ⊕ (Int × Int)))) xs s = some (if (Tm.preL Tm.rule xs).all (rOk w) = true then .inl (s + sumW w (Tm.preL Tm.rule xs)) else .inr (0, 1))
  | [], s, _, _, _ => by simp [runL, Tm.preL, sumW]
  | x :: xs, s, h0, hl, h => by
    have hs : Tm.sizeL (x :: xs) = x.size + Tm.sizeL xs := rfl
    have hp : Tm.preL Tm.rule (x :: xs) = x.rules ++ Tm.preL Tm.rule xs := rfl
    rw [runL, h x (List.mem_cons_self ..), Option.bind_some, hp, List.all_append]
    unfold costC
    by_cases hx : x.rules.all (rOk w) = true
    · obtain ⟨g1, g2⟩ := sumW_range w _ hx
      rw [Tm.rules_length] at g2
      rw [if_pos hx]
      simp only [hx, Bool.true_and, show ((0 : Int) != 0) = false from rfl, cond_false, Option.bind_some, Sum.elim_inl]
      rw [w64_eq (by omega) (by omega), cost_run w r xs (s + sumW w x.rules) (by omega) (by omega) fun y hy => h y (List.mem_cons_of_mem _ hy), sumW_append, Int.add_assoc]
    · rw [if_neg hx]
      have hf : x.rules.all (rOk w) = false := by simpa using hx
      simp only [hf, Bool.false_and, Bool.false_eq_true, if_false, show ((1 : Int) != 0) = true from rfl, cond_true, Option.bind_some, Sum.elim_inr]
theorem cost_eq (w : List Int) (hw : w.length ≤ 9223372036854775807) : ∀ (n : Nat) (t : Tm), t.size ≤ n → t.size ≤ 1000 → weight_Cost n w t = some (costC w t.rules)
  | 0, t, h, _ => by have := Tm.size_pos t; omega
  | n + 1, t, h, hl => by
    show weight_Cost_b (weight_Cost n) w t = _
    have hal := args_len t
    have hsa := sizeT_args (t := t)
    unfold weight_Cost_b costC
    rw [rOk_rules]
    have hg : (bif decide (t.rule < 0) then some true else bif decide ((w.length : Int) ≤ t.rule) then some true else Option.bind (idx w t.rule) fun v1 => Option.bind (weight_valid v1) fun v2 => some (!v2) : Option Bool) = some (!rOk w t.rule) := by
      unfold rOk
      by_cases h0 : t.rule < 0
      · rw [decide_eq_true h0, decide_eq_false (show ¬ 0 ≤ t.rule by omega)]; rfl
      by_cases h1 : (w.length : Int) ≤ t.rule
      · rw [decide_eq_false h0, decide_eq_true h1, decide_eq_false (show ¬ t.rule < (w.length : Int) by omega), decide_eq_true (show 0 ≤ t.rule by omega)]; rfl
      rw [decide_eq_false h0, decide_eq_false h1, decide_eq_true (show t.rule < (w.length : Int) by omega), decide_eq_true (show 0 ≤ t.rule by omega)]
      have hi : idx w t.rule = some (rW w t.rule) := by
        unfold idx rW
        rw [if_pos (by omega), List.getElem?_eq_getElem (by omega)]
        rfl
      simp only [cond_false, hi, Option.bind_some, (valid_eq _).1, Bool.true_and]
    rw [hg, Option.bind_some]
    cases hr : rOk w t.rule with
    | false => rfl
    | true =>
      obtain ⟨hi, _, _, g0, g1⟩ := rW_idx hr
      simp only [Bool.not_true, cond_false, hi, Option.bind_some, Bool.true_and]
      rw [loop_run (step := weight_Cost_l1 w t (weight_Cost n)) t.args (fun (s : Int) x => Option.bind (weight_Cost n w x) fun v => (bif v.2 != 0 then some (.inr ((0 : Int), v.2)) else some (.inl (w64 (s + v.1))) : Option (Int ⊕ (Int × Int)))) (fun s i => (s, i)) id (by omega) (fun i x s hx => by
        have hi := get_lt hx
        simp only [weight_Cost_l1, lt_len hi, cond_true, idx_nat, hx, Option.bind_some, w64_succ' hi (show t.args.length ≤ 9223372036854775807 by omega)]
        cases weight_Cost n w x with
        | none => rfl
        | some v =>
          simp only [Option.bind_some]
          cases v.2 != 0 <;> rfl) (fun s => by simp only [weight_Cost_l1, lt_len', cond_false]; rfl)]
      rw [cost_run w (weight_Cost n w) t.args _ g0 (by omega) fun x hx => cost_eq w hw n x (by have := args_size hx; omega) (by have := args_size hx; omega)]
      cases ha : (Tm.preL Tm.rule t.args).all (rOk w) with
      | true =>
        simp only [if_true, Option.map_some, Option.bind_some, id, Sum.elim_inl]
        rw [← sumW_rules]
      | false => rfl
theorem or_two (x y : Int) : cmp_Or_int [x, y] = some (if x ≠ 0 then x else y) := by
  unfold cmp_Or_int
  have h : loopN (cmp_Or_int_l1 [x, y]) fuel 0 = some (if x ≠ 0 then .inr x else if y ≠ 0 then .inr y else .inl ()) := by
    have h0 : cmp_Or_int_l1 [x, y] 0 = if x ≠ 0 then some (.inr (.inr x)) else some (.inl 1) := by
      have e : idx [x, y] 0 = some x := idx_nat [x, y] 0
      show (bif decide ((0 : Int) < (([x, y] : List Int).length : Int)) then _ else _) = _
      rw [show decide ((0 : Int) < (([x, y] : List Int).length : Int)) = true from rfl, cond_true, e, Option.bind_some]
      by_cases hx : x = 0
      · subst hx; rfl
      · rw [show (x != 0) = true by rw [bne_iff_ne]; exact hx, if_pos hx]; rfl
    have h1 : cmp_Or_int_l1 [x, y] 1 = if y ≠ 0 then some (.inr (.inr y)) else some (.inl 2) := by
      have e : idx [x, y] 1 = some y := idx_nat [x, y] 1
      show (bif decide ((1 : Int) < (([x, y] : List Int).length : Int)) then _ else _) = _
      rw [show decide ((1 : Int) < (([x, y] : List Int).length : Int)) = true from rfl, cond_true, e, Option.bind_some]
      by_cases hy : y = 0
      · subst hy; rfl
      · rw [show (y != 0) = true by rw [bne_iff_ne]; exact hy, if_pos hy]; rfl
    have h2 : cmp_Or_int_l1 [x, y] 2 = some (.inr (.inl ())) := rfl
    rw [show fuel = 18446744073709551613 + 1 + 1 + 1 from rfl, loopN, h0]
    by_cases hx : x = 0
    · rw [if_neg (by simpa using hx), if_neg (by simpa using hx)]
      simp only
      rw [loopN, h1]
      by_cases hy : y = 0
      · rw [if_neg (by simpa using hy), if_neg (by simpa using hy)]
        simp only
        rw [loopN, h2]
      · rw [if_pos hy, if_pos hy]
    · rw [if_pos hx, if_pos hx]
  rw [h, Option.bind_some]
  by_cases hx : x = 0 <;> by_cases hy : y = 0 <;> simp [hx, hy]
/-- the order by cost -/
def cmpW (w : List Int) (a b : Tm) : Int := if (costC w a.rules).2 = 0 ∧ (costC w b.rules).2 = 0 then (if (costC w a.rules).1 < (costC w b.rules).1 then -1 else if (costC w b.rules).1 < (costC w a.rules).1 then 1 else cmpT a b) else cmpT a b
theorem wcmp_prog (w : List Int) (hw : w.length ≤ 9223372036854775807) (a b : Tm) (ha : a.size ≤ 1000) (hb : b.size ≤ 1000) : weight_Compare w a b = some (cmpW w a b) := by
  unfold weight_Compare cmpW
  rw [cost_eq w hw fuel a (Nat.le_of_lt (lt_fuel (by omega))) ha, cost_eq w hw fuel b (Nat.le_of_lt (lt_fuel (by omega))) hb]
  simp only [Option.bind_some, cmp_prog a b ha hb]
  by_cases e1 : (costC w a.rules).2 = 0
  · by_cases e2 : (costC w b.rules).2 = 0
    · rw [if_pos ⟨e1, e2⟩, show ((costC w a.rules).2 != 0) = false by rw [bne_eq_false_iff_eq]; exact e1, show ((costC w b.rules).2 != 0) = false by rw [bne_eq_false_iff_eq]; exact e2]
      simp only [cond_false, Option.bind_some, cmp_Compare_int, cmp_isNaN_int, bne_self_eq_false]
      by_cases h1 : (costC w a.rules).1 < (costC w b.rules).1
      · rw [decide_eq_true h1, if_pos h1]
        simp only [cond_true, Option.bind_some, or_two]
        rfl
      · rw [decide_eq_false h1, if_neg h1]
        by_cases h2 : (costC w b.rules).1 < (costC w a.rules).1
        · rw [decide_eq_true h2, if_pos h2]
          simp only [cond_true, cond_false, Option.bind_some, or_two]
          rfl
        · rw [decide_eq_false h2, if_neg h2]
          simp only [cond_false, Option.bind_some, or_two]
          rfl
    · rw [if_neg (fun h => e2 h.2), show ((costC w a.rules).2 != 0) = false by rw [bne_eq_false_iff_eq]; exact e1, show ((costC w b.rules).2 != 0) = true by rw [bne_iff_ne]; exact e2]
      rfl
  · rw [if_neg (fun h => e1 h.1), show ((costC w a.rules).2 != 0) = true by rw [bne_iff_ne]; exact e1]
    rfl
end Go.Proofs.Ytpcfkflhnkfjjaa
