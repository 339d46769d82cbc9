/- Weights: the check, the uniform weights; the law WeightChecks. -/
import Derived.Test.YtpcfkflhnkfjjaaGt
set_option linter.unusedVariables false
set_option linter.unusedSimpArgs false
namespace Go.Proofs.Ytpcfkflhnkfjjaa
open Go Go.RowKit

set_option maxRecDepth 100000 in
theorem awake38 : synthesislaw38_awake = some true := by kernel_rfl
/-- a number that is no weight -/
def badW (x : Int) : Bool := decide (x < 0) || decide (1000 < x)
theorem valid_eq (x : Int) : weight_valid x = some (!badW x) ∧ weight_valid_h x = some (!badW x) := by
  unfold weight_valid weight_valid_h badW
  by_cases h0 : 0 ≤ x
  · rw [decide_eq_true h0, decide_eq_false (show ¬ x < 0 by omega)]
    by_cases h1 : x ≤ 1000
    · rw [decide_eq_true h1, decide_eq_false (show ¬ 1000 < x by omega)]; exact ⟨rfl, rfl⟩
    · rw [decide_eq_false h1, decide_eq_true (show 1000 < x by omega)]; exact ⟨rfl, rfl⟩
  · rw [decide_eq_false h0, decide_eq_true (show x < 0 by omega)]; exact ⟨rfl, rfl⟩
theorem contains_bad (w : List Int) (hw : w.length ≤ 9223372036854775807) : slices_ContainsFunc_int_int_h w = some (w.any badW) := by
  unfold slices_ContainsFunc_int_int_h slices_IndexFunc_int_int_h
  rcases loop_find (step := slices_IndexFunc_int_int_h_l1 w) w.length (by omega) (fun i => badW (w[i]?.getD 0)) (fun i => .inr (i : Int)) (.inl ()) (fun i hi => by
    have e1 : w[i]? = some w[i] := List.getElem?_eq_getElem hi
    simp only [slices_IndexFunc_int_int_h_l1, lt_len hi, cond_true, idx_nat, e1, Option.bind_some, weight_Check_1_h, (valid_eq w[i]).2, Bool.not_not, w64_succ' hi hw, Option.getD_some]
    cases badW w[i] <;> rfl) (by simp only [slices_IndexFunc_int_int_h_l1, lt_len', cond_false]) with ⟨i, hi, hb, _, h⟩ | ⟨hb, h⟩
  · rw [h]
    simp only [Option.bind_some, Sum.elim_inr]
    have e1 : w[i]? = some w[i] := List.getElem?_eq_getElem hi
    rw [e1] at hb
    rw [decide_eq_true (show (0 : Int) ≤ (i : Int) by omega), List.any_eq_true.2 ⟨w[i], List.getElem_mem hi, hb⟩]
  · rw [h]
    simp only [Option.bind_some, Sum.elim_inl]
    rw [show decide ((0 : Int) ≤ -1) = false from rfl, List.any_eq_false.2 fun x hx => ?_]
    obtain ⟨i, hi, rfl⟩ := List.mem_iff_getElem.1 hx
    have := hb i hi
    rw [List.getElem?_eq_getElem hi] at this
    simpa using this
theorem refbad (w : List Int) (hw : w.length ≤ 9223372036854775807) : loopN (synthesisref38_Check_l1 w) fuel 0 = some (if w.any badW = true then .inr 1 else .inl ()) := by
  rcases loop_find (step := synthesisref38_Check_l1 w) w.length (by omega) (fun i => badW (w[i]?.getD 0)) (fun i => .inr 1) (.inl ()) (fun i hi => by
    have e1 : w[i]? = some w[i] := List.getElem?_eq_getElem hi
    have e2 : (bif decide (w[i] < 0) then some true else some (decide (1000 < w[i])) : Option Bool) = some (badW w[i]) := by
      unfold badW
      cases decide (w[i] < 0) <;> rfl
    simp only [synthesisref38_Check_l1, lt_len hi, cond_true, idx_nat, e1, Option.bind_some, e2, w64_succ' hi hw, Option.getD_some]
    cases badW w[i] <;> rfl) (by simp only [synthesisref38_Check_l1, lt_len', cond_false]) with ⟨i, hi, hb, _, h⟩ | ⟨hb, h⟩
  · have e1 : w[i]? = some w[i] := List.getElem?_eq_getElem hi
    rw [e1] at hb
    rw [h, if_pos (List.any_eq_true.2 ⟨w[i], List.getElem_mem hi, hb⟩)]
  · rw [h, if_neg]
    rw [Bool.not_eq_true]
    refine List.any_eq_false.2 fun x hx => ?_
    obtain ⟨i, hi, rfl⟩ := List.mem_iff_getElem.1 hx
    have := hb i hi
    rw [List.getElem?_eq_getElem hi] at this
    simpa using this
theorem wcheck_both (l : La) (w : List Int) (hl : wideL l) (hw : w.length ≤ 9223372036854775807) : ∃ c, weight_Check l w = some c ∧ synthesisref38_Check l w = some c ∧ (c = 0 → GoodL l ∧ w.length = l.rules.length ∧ ∀ x ∈ w, 0 ≤ x ∧ x ≤ 1000) := by
  obtain ⟨c, c1, c2, c3⟩ := lang_u l hl
  unfold weight_Check synthesisref38_Check
  rw [c1, c2]
  simp only [Option.bind_some]
  by_cases hc : c = 0
  · subst hc
    rw [show ((0 : Int) != 0) = false from rfl]
    simp only [cond_false]
    cases hlen : ((w.length : Int) != (l.rules.length : Int)) with
    | true => exact ⟨2, rfl, rfl, fun h => absurd h (by decide)⟩
    | false =>
      have hlen := bne_eq_false_iff_eq.1 hlen
      simp only [cond_false, contains_bad w hw, refbad w hw, Option.bind_some]
      cases hb : w.any badW with
      | true => exact ⟨1, rfl, rfl, fun h => absurd h (by decide)⟩
      | false =>
        refine ⟨0, rfl, rfl, fun _ => ⟨c3 rfl, by omega, fun x hx => ?_⟩⟩
        have := List.any_eq_false.1 hb x hx
        unfold badW at this
        simp only [Bool.or_eq_true, decide_eq_true_eq, not_or] at this
        omega
  · rw [show (c != 0) = true by rw [bne_iff_ne]; exact hc]
    exact ⟨c, rfl, rfl, fun h => absurd h hc⟩
theorem few_some (l : La) (w : List Int) : ∃ b, synthesislaw38_few l w = some b ∧ (b = true → l.rules.length ≤ 20 ∧ l.symbols.length ≤ 8 ∧ w.length ≤ 30) := by
  unfold synthesislaw38_few
  by_cases h1 : (l.rules.length : Int) ≤ 20
  · rw [decide_eq_true h1]
    by_cases h2 : (l.symbols.length : Int) ≤ 8
    · rw [decide_eq_true h2]
      by_cases h3 : (w.length : Int) ≤ 30
      · rw [decide_eq_true h3]; exact ⟨true, rfl, fun _ => by omega⟩
      · rw [decide_eq_false h3]; exact ⟨false, rfl, fun h => by cases h⟩
    · rw [decide_eq_false h2]; exact ⟨false, rfl, fun h => by cases h⟩
  · rw [decide_eq_false h1]; exact ⟨false, rfl, fun h => by cases h⟩
end Go.Proofs.Ytpcfkflhnkfjjaa
