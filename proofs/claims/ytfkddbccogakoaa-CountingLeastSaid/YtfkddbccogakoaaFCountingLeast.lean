/- CountingLeast: the law returns true for every input. -/
import Derived.Test.YtfkddbccogakoaaCa
import Derived.Test.YtfkddbccogakoaaCb
import Derived.Test.YtfkddbccogakoaaCc
import Derived.Test.YtfkddbccogakoaaCd
import Derived.Test.YtfkddbccogakoaaGv
import Derived.Test.YtfkddbccogakoaaKb
set_option linter.unusedVariables false
set_option linter.unusedSimpArgs false
namespace Go.Proofs.Ytfkddbccogakoaa
open Go Go.RowKit Go.ChangeShapes Go.WideShapes Go.ChangeAt
set_option maxRecDepth 100000 in
theorem countingLeast_lifted (os : Os) (started : os.Started) (H : Type) (enc : TypeId × Value → H) :
    ReturnsInHanded {} Try.checked os 4 .any (Rows.countingLeastSpec.pre6 enc Try.prog Try.f4 Rows.countingLeastRow.domain false) (Rows.countingLeastSpec.post enc Try.prog Try.f4 false true false false) := by
  refine returnsInHanded_of_change (C := Try.checked) own_knob started (by kernel_rfl) Try.func4
    (ChangeSpec.witness6 (enc := enc) (C := Try.checked) false ⟨#[], #[.agg #[.string ⟨#[]⟩, .slice none 0 0, .slice none 0 0, .slice none 0 0]], []⟩ 8 (by kernel_rfl) (by kernel_rfl) (by kernel_rfl) (by kernel_rfl)) ?_
  intro W base args ds gs before hval0 hW _ _
  have hval : ∀ (j : Nat) t v, Try.f4.params[j]? = some t → args[j]? = some v → Value.okWide Try.prog W .any base t v := hval0
  have hW' := hW
  obtain ⟨p, q, hA0, hV, rfl, hfz, hnd⟩ := hW
  have hA : DataW.TrodAll enc Try.prog W 0 (fun _ => true) true Try.f4.params.toList args.toList ds p := hA0
  rw [Try.params4] at hA hval
  obtain ⟨v0, vs0, d0, ds0, p0, q0, hargs, rfl, rfl, h0, r0⟩ := trodAll_cons hA
  obtain ⟨rfl, rfl, rfl⟩ := trodAll_nil r0
  obtain rfl : args = #[v0] := by cases args; simp_all
  obtain ⟨rfl, rfl⟩ := trodVars_none hV
  obtain ⟨x0, e0, b0⟩ := in_La (hval 0 26 v0 rfl rfl) h0
  refine (law_calls (synthesislaw12_CountingLeast_ok x0 true (law_CountingLeast x0 b0)) rfl ?_).mono fun e W' ⟨he, hg⟩ => ?_
  · intro i v x hv hx
    match i with
    | 0 => simp at hv hx; subst hv hx; exact e0
    | i + 1 => simp at hv
  subst he
  exact ⟨_, rfl, law_post laid_out (by rw [Try.params4]; intro t ht; simp at ht; rcases ht with rfl <;> exact ⟨by kernel_rfl, of_decide_eq_true (by kernel_rfl)⟩) rfl Try.underlying4 rfl rfl hW' hg⟩
set_option maxHeartbeats 4000000 in
theorem countingLeast_closed : joinedFacts Try.checked.prog 4 Try.f4 Rows.countingLeastSpec Rows.countingLeastRow = true := by
  unfold joinedFacts
  simp only [c_mayEnter, c_lifts, c_make, c_laid, c_rowed, c_heard, Bool.and_eq_true, Bool.and_true]
  repeat' apply And.intro
  all_goals (as_aux_lemma => kernel_rfl)
theorem countingLeast_holds : Rows.CountingLeastSaid :=
  OpenClaim.holds_of_wide 4 Try.f4 rfl rfl rfl rfl rfl rfl rfl ⟨rfl, rfl, rfl, rfl, rfl⟩ rfl rfl rfl rfl rfl (by kernel_rfl) Try.func4 countingLeast_closed
    (of_decide_eq_true (by kernel_rfl)) (by unfold Func.isWrapper; rw [if_neg (of_decide_eq_false (by kernel_rfl))]; exact ⟨rfl, rfl⟩)
    (fun os started H enc _ => countingLeast_lifted os started H enc)
end Go.Proofs.Ytfkddbccogakoaa
