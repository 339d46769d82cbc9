/- Weights: the check, the uniform weights; the law WeightChecks. -/
import Derived.Test.YtpcfkflhnkfjjaaGt
set_option linter.unusedVariables false
set_option linter.unusedSimpArgs false
namespace Go.Proofs.Ytpcfkflhnkfjjaa
open Go Go.RowKit

set_option maxRecDepth 100000 in
theorem awake38 : synthesislaw38_awake = some true := by kernel_rfl
theorem sameInts_self (x : List Int) (hx : x.length ≤ 9223372036854775807) : synthesisref11_SameInts x x = some true := by
  unfold synthesisref11_SameInts
  have h : loopN (synthesisref11_SameInts_l1 x x) fuel 0 = some (.inl ()) := by
    have := loop_end (step := synthesisref11_SameInts_l1 x x) x.length (by omega) (fun i => (i : Int)) (.inl ()) (fun i hi => by
      simp only [synthesisref11_SameInts_l1, lt_len hi, cond_true, idx_nat, List.getElem?_eq_getElem hi, Option.bind_some, bne_self_eq_false, cond_false, w64_succ' hi hx]) (by simp only [synthesisref11_SameInts_l1, lt_len', cond_false])
    simpa using this
  rw [show ((x.length : Int) != (x.length : Int)) = false from bne_self_eq_false _, cond_false, h]
  rfl
theorem mkL_eq {α : Type} (b : Nat) (z : α) (n : Nat) (h : (b + 1) * n ≤ 281474976710656) : mkL b z (n : Int) = some (List.replicate n z) := by
  unfold mkL
  have h2 : b * n + n ≤ 281474976710656 := by rw [Nat.add_mul, Nat.one_mul] at h; exact h
  have h3 : (b : Int) * (n : Int) = ((b * n : Nat) : Int) := (Int.natCast_mul b n).symm
  rw [if_pos ⟨by omega, by rw [h3]; omega, by omega⟩]
  simp
theorem few_some (l : La) (w : List Int) : ∃ b, synthesislaw38_few l w = some b ∧ (b = true → l.rules.length ≤ 20 ∧ l.symbols.length ≤ 8 ∧ w.length ≤ 30) := by
  unfold synthesislaw38_few
  by_cases h1 : (l.rules.length : Int) ≤ 20
  · rw [decide_eq_true h1]
    by_cases h2 : (l.symbols.length : Int) ≤ 8
    · rw [decide_eq_true h2]
      by_cases h3 : (w.length : Int) ≤ 30
      · rw [decide_eq_true h3]; exact ⟨true, rfl, fun _ => by omega⟩
      · rw [decide_eq_false h3]; exact ⟨false, rfl, fun h => by cases h⟩
    · rw [decide_eq_false h2]; exact ⟨false, rfl, fun h => by cases h⟩
  · rw [decide_eq_false h1]; exact ⟨false, rfl, fun h => by cases h⟩
end Go.Proofs.Ytpcfkflhnkfjjaa
