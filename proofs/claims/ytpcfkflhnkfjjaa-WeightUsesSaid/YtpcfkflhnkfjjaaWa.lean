/- Weights: the check, the uniform weights; the law WeightChecks. -/
import Derived.Test.YtpcfkflhnkfjjaaGt
set_option linter.unusedVariables false
set_option linter.unusedSimpArgs false
namespace Go.Proofs.Ytpcfkflhnkfjjaa
open Go Go.RowKit

set_option maxRecDepth 100000 in
theorem awake38 : synthesislaw38_awake = some true := by kernel_rfl
/-- a number that is no weight -/
def badW (x : Int) : Bool := decide (x < 0) || decide (1000 < x)
theorem valid_eq (x : Int) : weight_valid x = some (!badW x) ∧ weight_valid_h x = some (!badW x) := by
  unfold weight_valid weight_valid_h badW
  by_cases h0 : 0 ≤ x
  · rw [decide_eq_true h0, decide_eq_false (show ¬ x < 0 by omega)]
    by_cases h1 : x ≤ 1000
    · rw [decide_eq_true h1, decide_eq_false (show ¬ 1000 < x by omega)]; exact ⟨rfl, rfl⟩
    · rw [decide_eq_false h1, decide_eq_true (show 1000 < x by omega)]; exact ⟨rfl, rfl⟩
  · rw [decide_eq_false h0, decide_eq_true (show x < 0 by omega)]; exact ⟨rfl, rfl⟩
theorem refbad (w : List Int) (hw : w.length ≤ 9223372036854775807) : loopN (synthesisref38_Check_l1 w) fuel 0 = some (if w.any badW = true then .inr 1 else .inl ()) := by
  rcases loop_find (step := synthesisref38_Check_l1 w) w.length (by omega) (fun i => badW (w[i]?.getD 0)) (fun i => .inr 1) (.inl ()) (fun i hi => by
    have e1 : w[i]? = some w[i] := List.getElem?_eq_getElem hi
    have e2 : (bif decide (w[i] < 0) then some true else some (decide (1000 < w[i])) : Option Bool) = some (badW w[i]) := by
      unfold badW
      cases decide (w[i] < 0) <;> rfl
    simp only [synthesisref38_Check_l1, lt_len hi, cond_true, idx_nat, e1, Option.bind_some, e2, w64_succ' hi hw, Option.getD_some]
    cases badW w[i] <;> rfl) (by simp only [synthesisref38_Check_l1, lt_len', cond_false]) with ⟨i, hi, hb, _, h⟩ | ⟨hb, h⟩
  · have e1 : w[i]? = some w[i] := List.getElem?_eq_getElem hi
    rw [e1] at hb
    rw [h, if_pos (List.any_eq_true.2 ⟨w[i], List.getElem_mem hi, hb⟩)]
  · rw [h, if_neg]
    rw [Bool.not_eq_true]
    refine List.any_eq_false.2 fun x hx => ?_
    obtain ⟨i, hi, rfl⟩ := List.mem_iff_getElem.1 hx
    have := hb i hi
    rw [List.getElem?_eq_getElem hi] at this
    simpa using this
theorem mkL_eq {α : Type} (b : Nat) (z : α) (n : Nat) (h : (b + 1) * n ≤ 281474976710656) : mkL b z (n : Int) = some (List.replicate n z) := by
  unfold mkL
  have h2 : b * n + n ≤ 281474976710656 := by rw [Nat.add_mul, Nat.one_mul] at h; exact h
  have h3 : (b : Int) * (n : Int) = ((b * n : Nat) : Int) := (Int.natCast_mul b n).symm
  rw [if_pos ⟨by omega, by rw [h3]; omega, by omega⟩]
  simp
theorem uniform_both (l : La) (hl : wideL l) : ∃ x, weight_Uniform l = some x ∧ synthesisref38_Uniform l = some x ∧ x.length ≤ 96 ∧ (∀ c, grammar_Check l = some c → x = if c = 0 then List.replicate l.rules.length 1 else []) := by
  obtain ⟨c, c1, c2, c3⟩ := lang_u l hl
  unfold weight_Uniform synthesisref38_Uniform
  rw [c1, c2]
  simp only [Option.bind_some]
  by_cases hc : c = 0
  · subst hc
    have hg := c3 rfl
    have h96 := hg.rules
    rw [show ((0 : Int) != 0) = false from rfl]
    have h1 := loop_map (step := weight_Uniform_l1 l) l.rules (fun _ => (1 : Int)) [] (by omega) (fun i x hx => by
      have hi := get_lt hx
      have hlen : ((l.rules.take i).map fun _ => (1 : Int)).length = i := by rw [List.length_map, List.length_take]; omega
      simp only [List.nil_append, weight_Uniform_l1, lt_len hi, cond_true, app_eq (show (((l.rules.take i).map fun _ => (1 : Int)).length + ([1] : List Int).length) * (8 + 1) ≤ 140737488355328 by rw [hlen, List.length_singleton]; omega), Option.bind_some, w64_succ' hi (by omega)]) (by simp only [weight_Uniform_l1, lt_len', cond_false])
    have h2 : loopN synthesisref38_Uniform_l1 fuel (0, List.replicate l.rules.length 0) = some (List.replicate l.rules.length 1) := by
      have := loop_end (step := synthesisref38_Uniform_l1) l.rules.length (by omega) (fun i => ((i : Int), List.replicate i (1 : Int) ++ List.replicate (l.rules.length - i) 0)) (List.replicate l.rules.length 1) (fun i hi => by
        have hlen : (List.replicate i (1 : Int) ++ List.replicate (l.rules.length - i) 0).length = l.rules.length := by rw [List.length_append, List.length_replicate, List.length_replicate]; omega
        have e1 : (List.replicate i (1 : Int) ++ List.replicate (l.rules.length - i) 0)[i]? = some 0 := by
          rw [List.getElem?_append_right (by rw [List.length_replicate]; omega), List.length_replicate, Nat.sub_self, List.getElem?_replicate, if_pos (by omega)]
        have e2 : (List.replicate i (1 : Int) ++ List.replicate (l.rules.length - i) 0).set i 1 = List.replicate (i + 1) (1 : Int) ++ List.replicate (l.rules.length - (i + 1)) 0 := by
          rw [List.set_append_right _ _ (by rw [List.length_replicate]; omega), List.length_replicate, Nat.sub_self, show l.rules.length - i = (l.rules.length - (i + 1)) + 1 by omega, List.replicate_succ, List.set_cons_zero, List.replicate_succ', List.append_assoc]
          rfl
        simp only [synthesisref38_Uniform_l1, hlen, lt_len hi, cond_true, idx_nat, e1, Option.bind_some, w64_succ' hi (show l.rules.length ≤ 9223372036854775807 by omega), Int.toNat_natCast, e2]) (by
        have hlen : (List.replicate l.rules.length (1 : Int) ++ List.replicate (l.rules.length - l.rules.length) 0).length = l.rules.length := by simp
        simp only [synthesisref38_Uniform_l1, hlen, lt_len', cond_false]
        simp)
      simpa using this
    have h1' : loopN (weight_Uniform_l1 l) fuel (0, []) = some (List.replicate l.rules.length 1) := by
      rw [h1]
      simp [List.map_const']
    simp only [cond_false, h1', mkL_eq 8 (0 : Int) l.rules.length (by omega), Option.bind_some, h2]
    refine ⟨_, rfl, rfl, by rw [List.length_replicate]; omega, fun c h => ?_⟩
    cases h
    rfl
  · rw [show (c != 0) = true by rw [bne_iff_ne]; exact hc]
    refine ⟨[], rfl, rfl, by simp, fun c' h => ?_⟩
    cases h
    rw [if_neg hc]
theorem few_some (l : La) (w : List Int) : ∃ b, synthesislaw38_few l w = some b ∧ (b = true → l.rules.length ≤ 20 ∧ l.symbols.length ≤ 8 ∧ w.length ≤ 30) := by
  unfold synthesislaw38_few
  by_cases h1 : (l.rules.length : Int) ≤ 20
  · rw [decide_eq_true h1]
    by_cases h2 : (l.symbols.length : Int) ≤ 8
    · rw [decide_eq_true h2]
      by_cases h3 : (w.length : Int) ≤ 30
      · rw [decide_eq_true h3]; exact ⟨true, rfl, fun _ => by omega⟩
      · rw [decide_eq_false h3]; exact ⟨false, rfl, fun h => by cases h⟩
    · rw [decide_eq_false h2]; exact ⟨false, rfl, fun h => by cases h⟩
  · rw [decide_eq_false h1]; exact ⟨false, rfl, fun h => by cases h⟩
end Go.Proofs.Ytpcfkflhnkfjjaa
