/- WeightOrders, where what it reads is of bulk at most 1048576: the law returns true. -/
import Derived.Test.YtpcfkflhnkfjjaaCa
import Derived.Test.YtpcfkflhnkfjjaaCb
import Derived.Test.YtpcfkflhnkfjjaaCc
import Derived.Test.YtpcfkflhnkfjjaaCd
import Derived.Test.YtpcfkflhnkfjjaaGv
import Derived.Test.YtpcfkflhnkfjjaaWo
import Derived.Test.YtpcfkflhnkfjjaaWp
set_option linter.unusedVariables false
set_option linter.unusedSimpArgs false
namespace Go.Proofs.Ytpcfkflhnkfjjaa
open Go Go.RowKit Go.ChangeShapes Go.WideShapes Go.ChangeAt
set_option maxRecDepth 100000 in
theorem weightOrders_lifted (os : Os) (started : os.Started) (H : Type) (enc : TypeId × Value → H) (F : Stop.Interp) :
    ReturnsInHanded {} Try.checked os 7 .any ((Rows.OpenSpec.upto Rows.weightOrdersSpec).pre6 enc Try.prog Try.f7 Rows.weightOrdersUptoRow.domain false) (((Rows.OpenSpec.upto Rows.weightOrdersSpec).at F).post enc Try.prog Try.f7 false true false false) := by
  refine returnsInHanded_of_cond (C := Try.checked) (s := Rows.OpenSpec.upto Rows.weightOrdersSpec) (k := Rows.uptoSmall) rfl own_knob started (by kernel_rfl) Try.func7
    (OpenSpec.witness (enc := enc) (C := Try.checked) (s := Rows.OpenSpec.upto Rows.weightOrdersSpec) (k := Rows.uptoSmall) rfl false ⟨#[], #[.slice none 0 0, .slice none 0 0], []⟩ 8 (by kernel_rfl) (by kernel_rfl) (by kernel_rfl)
      (x := ([.nil, .nil], [], [])) (by kernel_rfl) rfl (by kernel_rfl)) ?_
  intro W base args ds gs before hval0 hW _ hk _
  have hval : ∀ (j : Nat) t v, Try.f7.params[j]? = some t → args[j]? = some v → Value.okWide Try.prog W .any base t v := hval0
  have hW' := hW
  obtain ⟨p, q, hA0, hV, rfl, hfz, hnd⟩ := hW
  have hA : DataW.TrodAll enc Try.prog W 0 (fun _ => true) true Try.f7.params.toList args.toList ds p := hA0
  rw [Try.params7] at hA hval
  obtain ⟨v0, vs0, d0, ds0, p0, q0, hargs, rfl, rfl, h0, r0⟩ := trodAll_cons hA
  obtain ⟨v1, vs1, d1, ds1, p1, q1, rfl, rfl, rfl, h1, r1⟩ := trodAll_cons r0
  obtain ⟨rfl, rfl, rfl⟩ := trodAll_nil r1
  obtain rfl : args = #[v0, v1] := by cases args; simp_all
  obtain ⟨rfl, rfl⟩ := trodVars_none hV
  obtain ⟨x0, e0, b0, c0⟩ := in_ints Try.underlying22 Try.underlying3 (by kernel_rfl) (hval 0 22 v0 rfl rfl) h0
  have hbulk : Rows.uptoBulkAll ([d0, d1] ++ [] : List (DataW H)) ≤ 1048576 := of_decide_eq_true hk
  obtain ⟨x1, e1, _, b1⟩ := in_TmsB (hval 1 33 v1 rfl rfl) h1
  have hsz : ∀ t ∈ x1, t.size ≤ 2000000 := fun t ht => by
    have h2 := Tm.sizeL_mem ht
    simp only [List.cons_append, List.nil_append, Rows.uptoBulkAll] at hbulk
    omega
  refine (law_calls (synthesislaw38_WeightOrders_ok x0 x1 true (law_WeightOrders x0 x1 b0 hsz)) rfl ?_).mono fun e W' ⟨he, hg⟩ => ?_
  · intro i v x hv hx
    match i with
    | 0 => simp at hv hx; subst hv hx; exact e0
    | 1 => simp at hv hx; subst hv hx; exact e1
    | i + 2 => simp at hv
  subst he
  exact ⟨_, rfl, law_post laid_out (by rw [Try.params7]; intro t ht; simp at ht; rcases ht with rfl | rfl <;> exact ⟨by kernel_rfl, of_decide_eq_true (by kernel_rfl)⟩) rfl Try.underlying4 rfl rfl hW' hg⟩
set_option maxHeartbeats 4000000 in
theorem weightOrders_closed : joinedFacts Try.checked.prog 7 Try.f7 (Rows.OpenSpec.upto Rows.weightOrdersSpec).bare Rows.weightOrdersUptoRow = true := by
  unfold joinedFacts
  simp only [c_mayEnter, c_lifts, c_make, c_laid, c_rowed, c_heard, Bool.and_eq_true, Bool.and_true]
  repeat' apply And.intro
  all_goals (as_aux_lemma => kernel_rfl)
theorem weightOrders_holds : Rows.WeightOrdersUptoSaid :=
  OpenClaim.holds_of_cond 7 Try.f7 rfl rfl rfl rfl rfl rfl rfl ⟨rfl, rfl, rfl, rfl, rfl⟩ rfl rfl rfl rfl rfl (by kernel_rfl) Try.func7 weightOrders_closed
    (of_decide_eq_true (by kernel_rfl)) (by unfold Func.isWrapper; rw [if_neg (of_decide_eq_false (by kernel_rfl))]; exact ⟨rfl, rfl⟩)
    (fun os started H enc _ F => weightOrders_lifted os started H enc F)
end Go.Proofs.Ytpcfkflhnkfjjaa
