/- Languages by name. -/
import Derived.Test.YtaeicmnimjfbaaaLp
set_option linter.unusedVariables false
set_option linter.unusedSimpArgs false
namespace Go.Proofs.Ytaeicmnimjfbaaa
open Go Go.RowKit

theorem get_both (a : ByteArray) : ∃ l e, languages_Get a = some (l, e) ∧ synthesisref16_Get a = some (l, e) ∧ okL l := by
  obtain ⟨l1, e1, a1, b1, k1⟩ := strings_both [⟨#[32]⟩, ⟨#[45]⟩, ⟨#[46]⟩] [0, 1, (-1)] (by simp) (by simp) (fun s hs => by
    simp only [List.mem_cons, List.not_mem_nil, or_false] at hs
    rcases hs with rfl | rfl | rfl <;> exact of_decide_eq_true rfl)
  obtain ⟨l2, e2, a2, b2, k2⟩ := patterns_both ⟨#[97, 98]⟩ (of_decide_eq_true rfl)
  obtain ⟨l3, e3, a3, b3, k3⟩ := lists_both [0, 1, 2] (by simp)
  obtain ⟨l4, e4, a4, b4, k4⟩ := vectors_both [1, 15, 128] (by simp)
  obtain ⟨l5, e5, a5, b5, k5⟩ := reshaping_both [0, 1] (by simp)
  unfold languages_Get synthesisref16_Get
  simp only [a1, a2, a3, a4, a5, b1, b2, b3, b4, b5, Option.bind_some]
  cases a.toList == (⟨#[115, 116, 114, 105, 110, 103, 115]⟩ : ByteArray).toList with
  | true => exact ⟨_, _, rfl, rfl, k1⟩
  | false =>
    simp only [cond_false]
    cases a.toList == (⟨#[112, 97, 116, 116, 101, 114, 110, 115]⟩ : ByteArray).toList with
    | true => exact ⟨_, _, rfl, rfl, k2⟩
    | false =>
      simp only [cond_false]
      cases a.toList == (⟨#[108, 105, 115, 116, 115]⟩ : ByteArray).toList with
      | true => exact ⟨_, _, rfl, rfl, k3⟩
      | false =>
        simp only [cond_false]
        cases a.toList == (⟨#[118, 101, 99, 116, 111, 114, 115]⟩ : ByteArray).toList with
        | true => exact ⟨_, _, rfl, rfl, k4⟩
        | false =>
          simp only [cond_false]
          cases a.toList == (⟨#[116, 97, 98, 108, 101, 115]⟩ : ByteArray).toList with
          | true => exact ⟨_, _, rfl, rfl, k5⟩
          | false => exact ⟨nilL, 5, rfl, rfl, nilL_ok⟩
set_option maxRecDepth 100000 in
theorem names_tail : (Option.bind (languages_Names ) fun v7 => (Option.bind (synthesisref16_Names ) fun v8 => (Option.bind (loopN (synthesislaw16_LanguagesGets_l1 v7 v8) fuel (0)) fun (v14 : ((Unit) ⊕ (Bool))) => Sum.elim (fun v15 => (Option.bind ((bif ((List.length v7 : Int) == (List.length v8 : Int)) then (Option.bind (synthesislaw16_alive ) fun v16 => (some (v16))) else (some (false))) : Option ((Bool))) fun (v18 : (Bool)) => (some v18))) (fun v19 => (some v19)) v14))) = some true := by kernel_rfl
theorem law_LanguagesGets (a : ByteArray) (hn : a.size ≤ 9223372036854775807) : synthesislaw16_LanguagesGets a = some true := by
  unfold synthesislaw16_LanguagesGets
  by_cases h : (60 : Int) < (a.size : Int)
  · simp only [decide_eq_true h, cond_true, alive16, Option.bind_some]
  · obtain ⟨l, e, h1, h2, k⟩ := get_both a
    simp only [decide_eq_false h, cond_false, h1, h2, Option.bind_some, k.same, Bool.not_true, bne_self_eq_false]
    exact names_tail
end Go.Proofs.Ytaeicmnimjfbaaa
