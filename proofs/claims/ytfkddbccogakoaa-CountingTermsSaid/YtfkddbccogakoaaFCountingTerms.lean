/- CountingTerms: the law returns true for every input. -/
import Derived.Test.YtfkddbccogakoaaCa
import Derived.Test.YtfkddbccogakoaaCb
import Derived.Test.YtfkddbccogakoaaCc
import Derived.Test.YtfkddbccogakoaaCd
import Derived.Test.YtfkddbccogakoaaGv
import Derived.Test.YtfkddbccogakoaaKk
import Derived.Test.YtfkddbccogakoaaKs
set_option linter.unusedVariables false
set_option linter.unusedSimpArgs false
namespace Go.Proofs.Ytfkddbccogakoaa
open Go Go.RowKit Go.ChangeShapes Go.WideShapes Go.ChangeAt
set_option maxRecDepth 100000 in
theorem countingTerms_lifted (os : Os) (started : os.Started) (H : Type) (enc : TypeId × Value → H) :
    ReturnsInHanded {} Try.checked os 5 .any (Rows.countingTermsSpec.pre6 enc Try.prog Try.f5 Rows.countingTermsRow.domain false) (Rows.countingTermsSpec.post enc Try.prog Try.f5 false true false false) := by
  refine returnsInHanded_of_change (C := Try.checked) own_knob started (by kernel_rfl) Try.func5
    (ChangeSpec.witness6 (enc := enc) (C := Try.checked) false ⟨#[], #[.agg #[.string ⟨#[]⟩, .slice none 0 0, .slice none 0 0, .slice none 0 0], .agg #[.int .i64 0, .int .i64 0], .int .i64 0], []⟩ 8 (by kernel_rfl) (by kernel_rfl) (by kernel_rfl) (by kernel_rfl)) ?_
  intro W base args ds gs before hval0 hW _ _
  have hval : ∀ (j : Nat) t v, Try.f5.params[j]? = some t → args[j]? = some v → Value.okWide Try.prog W .any base t v := hval0
  have hW' := hW
  obtain ⟨p, q, hA0, hV, rfl, hfz, hnd⟩ := hW
  have hA : DataW.TrodAll enc Try.prog W 0 (fun _ => true) true Try.f5.params.toList args.toList ds p := hA0
  rw [Try.params5] at hA hval
  obtain ⟨v0, vs0, d0, ds0, p0, q0, hargs, rfl, rfl, h0, r0⟩ := trodAll_cons hA
  obtain ⟨v1, vs1, d1, ds1, p1, q1, rfl, rfl, rfl, h1, r1⟩ := trodAll_cons r0
  obtain ⟨v2, vs2, d2, ds2, p2, q2, rfl, rfl, rfl, h2, r2⟩ := trodAll_cons r1
  obtain ⟨rfl, rfl, rfl⟩ := trodAll_nil r2
  obtain rfl : args = #[v0, v1, v2] := by cases args; simp_all
  obtain ⟨rfl, rfl⟩ := trodVars_none hV
  obtain ⟨x0, e0, b0⟩ := in_La (hval 0 26 v0 rfl rfl) h0
  obtain ⟨x1, e1, b1⟩ := in_Ar2 (hval 1 39 v1 rfl rfl) h1
  obtain ⟨x2, e2, b2⟩ := in_int Try.underlying2 (hval 2 2 v2 rfl rfl) h2
  refine (law_calls (synthesislaw12_CountingTerms_ok x0 x1 x2 true (law_CountingTerms x0 x1 x2 b0 b1 b2)) rfl ?_).mono fun e W' ⟨he, hg⟩ => ?_
  · intro i v x hv hx
    match i with
    | 0 => simp at hv hx; subst hv hx; exact e0
    | 1 => simp at hv hx; subst hv hx; exact e1
    | 2 => simp at hv hx; subst hv hx; exact e2
    | i + 3 => simp at hv
  subst he
  exact ⟨_, rfl, law_post laid_out (by rw [Try.params5]; intro t ht; simp at ht; rcases ht with rfl | rfl | rfl <;> exact ⟨by kernel_rfl, of_decide_eq_true (by kernel_rfl)⟩) rfl Try.underlying4 rfl rfl hW' hg⟩
set_option maxHeartbeats 4000000 in
theorem countingTerms_closed : joinedFacts Try.checked.prog 5 Try.f5 Rows.countingTermsSpec Rows.countingTermsRow = true := by
  unfold joinedFacts
  simp only [c_mayEnter, c_lifts, c_make, c_laid, c_rowed, c_heard, Bool.and_eq_true, Bool.and_true]
  repeat' apply And.intro
  all_goals (as_aux_lemma => kernel_rfl)
theorem countingTerms_holds : Rows.CountingTermsSaid :=
  OpenClaim.holds_of_wide 5 Try.f5 rfl rfl rfl rfl rfl rfl rfl ⟨rfl, rfl, rfl, rfl, rfl⟩ rfl rfl rfl rfl rfl (by kernel_rfl) Try.func5 countingTerms_closed
    (of_decide_eq_true (by kernel_rfl)) (by unfold Func.isWrapper; rw [if_neg (of_decide_eq_false (by kernel_rfl))]; exact ⟨rfl, rfl⟩)
    (fun os started H enc _ => countingTerms_lifted os started H enc)
end Go.Proofs.Ytfkddbccogakoaa
