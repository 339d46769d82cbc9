/- GrammarProductive: the law returns true for every input where the listed tables hold what the program lays into them. -/
import Derived.Test.YtfhmljjkhjifeaaGreatDoorCa
import Derived.Test.YtfhmljjkhjifeaaGreatDoorCb
import Derived.Test.YtfhmljjkhjifeaaGreatDoorCc
import Derived.Test.YtfhmljjkhjifeaaGreatDoorCd
import Derived.Test.YtfhmljjkhjifeaaGreatDoorGvl
import Derived.Test.YtfhmljjkhjifeaaGreatDoorUc
import Derived.Test.YtfhmljjkhjifeaaGreatDoorCards
import Derived.Test.YtfhmljjkhjifeaaGreatDoorTie
import Derived.Test.YtfhmljjkhjifeaaGreatDoorGl
import Derived.SevenTiedAt
import Derived.JoinedOf
set_option linter.unusedVariables false
set_option linter.unusedSimpArgs false
namespace Go.Proofs.YtfhmljjkhjifeaaGreatDoor
open Go Go.RowKit Go.ChangeShapes Go.WideShapes Go.ChangeAt
set_option maxRecDepth 100000 in
theorem grammarProductive_lifted (os : Os) (started : os.Started) (H : Type) (enc : TypeId × Value → H) :
    ReturnsInHanded {} Tryz.checked os 9 .any (fun w args => (Rows.grammarProductiveSpec.pre enc Tryz.prog Tryz.f9 Rows.grammarProductiveRow.domain false w args ∧ laidMetH Tryz.prog Rows.grammarProductiveRow.laid w) ∧ sizedMet enc Tryz.prog Tryz.f9 (OpenSpec.ofChange Rows.grammarProductiveSpec) false w args) (Rows.grammarProductiveSpec.post enc Tryz.prog Tryz.f9 false true false false) := by
  refine returnsInHanded_of_change_and (C := Tryz.checked) (X := fun w _ => laidMetH Tryz.prog gLaid w) (fun _ _ _ hh h => h.of_heap hh) own_knob started (by kernel_rfl) Tryz.func9
    (ChangeSpec.witness_at (enc := enc) (C := Tryz.checked) (os := os) (X := fun w _ => laidMetH Tryz.prog gLaid w) false (laidWorld os) #[.agg #[.string ⟨#[]⟩, .slice none 0 0, .slice none 0 0, .slice none 0 0]] 8 rfl (by kernel_rfl) (by kernel_rfl) (by kernel_rfl) (by kernel_rfl) (by kernel_rfl) (laidWorld_met os _)) ?_
  intro W base args ds gs before hval0 hW _ _ hL _
  have hval : ∀ (j : Nat) t v, Tryz.f9.params[j]? = some t → args[j]? = some v → Value.okWide Tryz.prog W .any base t v := hval0
  have hW' := hW
  obtain ⟨p, q, hA0, hV, rfl, hfz, hnd⟩ := hW
  have hA : DataW.TrodAll enc Tryz.prog W 0 (fun _ => true) true Tryz.f9.params.toList args.toList ds p := hA0
  rw [Tryz.params9] at hA hval
  obtain ⟨v0, vs0, d0, ds0, p0, q0, hargs, rfl, rfl, h0, r0⟩ := trodAll_cons hA
  obtain ⟨rfl, rfl, rfl⟩ := trodAll_nil r0
  obtain rfl : args = #[v0] := by cases args; simp_all
  obtain ⟨rfl, rfl⟩ := trodVars_none hV
  obtain ⟨x0, e0, b0⟩ := in_La (hval 0 26 v0 rfl rfl) h0
  refine (law_callsG (args := [eLa x0]) (synthesislaw11_GrammarProductive_h_ok x0 true (law_GrammarProductive x0 b0)) rfl ?_ (gl_met hL)).mono fun e W' ⟨he, hg⟩ => ?_
  · intro i v x hv hx
    match i with
    | 0 => simp at hv hx; subst hv hx; exact e0
    | i + 1 => simp at hv
  subst he
  exact ⟨_, rfl, law_post laid_out (by rw [Tryz.params9]; intro t ht; simp at ht; rcases ht with rfl <;> exact ⟨by kernel_rfl, of_decide_eq_true (by kernel_rfl)⟩) rfl Tryz.underlying4 rfl rfl hW' hg⟩
set_option maxHeartbeats 4000000 in
theorem grammarProductive_closed : joinedFacts Tryz.checked.prog 9 Tryz.f9 Rows.grammarProductiveSpec Rows.grammarProductiveRow = true := by
  unfold joinedFacts
  simp only [c_mayEnter, c_lifts, c_make, c_laid, c_rowed, c_heard, Bool.and_eq_true, Bool.and_true]
  repeat' apply And.intro
  all_goals (as_aux_lemma => kernel_rfl)
theorem grammarProductive_holds : Rows.GrammarProductiveSaid :=
  OpenClaim.holds_of_wide 9 Tryz.f9 rfl rfl rfl rfl rfl rfl rfl ⟨rfl, rfl, rfl, rfl, rfl⟩ rfl rfl rfl rfl rfl (by kernel_rfl) Tryz.func9 grammarProductive_closed
    (of_decide_eq_true (by kernel_rfl)) (by unfold Func.isWrapper; rw [if_neg (of_decide_eq_false (by kernel_rfl))]; exact ⟨rfl, rfl⟩)
    (fun os started H enc _ => grammarProductive_lifted os started H enc)
theorem grammarProductive_card_holds : Rows.GrammarProductiveCardSaid :=
  Claim7.holds_tied_plain_at .later [] [.data, .data, .data, .data, .pinned] true (true, "43b418d873b68172dcfc9a86a10bf184ec857a7f1202b33403d205f642371a76") false grammarProductive_holds (fun _ h => by cases h) (by kernel_rfl) (fun _ h => by cases h) grammarProductive_row_tie rfl ⟨rfl, rfl⟩ (by kernel_rfl) rfl
    (fun f fn hf hfn => by
      obtain rfl : f = 9 := Option.some.inj ((show Tryz.prog.funcNamed "synthesis/synthesislaw11.GrammarProductive" = some 9 by kernel_rfl).symm.trans hf) |>.symm
      obtain rfl : fn = Tryz.f9 := (Option.some.inj (Tryz.func9.symm.trans hfn)).symm
      exact ⟨by kernel_rfl, fun j t ht => by
        rw [Tryz.params9] at ht
        match j with
        | 0 => obtain rfl := Option.some.inj ht; exact (show Tryz.prog.wantsStandIn 26 = false by kernel_rfl)
        | j + 1 => simp at ht⟩)
    (by kernel_rfl)
end Go.Proofs.YtfhmljjkhjifeaaGreatDoor
