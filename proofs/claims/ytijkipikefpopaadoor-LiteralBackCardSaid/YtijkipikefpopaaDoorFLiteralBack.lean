/- LiteralBack: the law returns true for every input where the listed tables hold what the program lays into them. -/
import Derived.Test.YtijkipikefpopaaDoorCa
import Derived.Test.YtijkipikefpopaaDoorCb
import Derived.Test.YtijkipikefpopaaDoorCc
import Derived.Test.YtijkipikefpopaaDoorCd
import Derived.Test.YtijkipikefpopaaDoorGr
import Derived.Test.YtijkipikefpopaaDoorRl
import Derived.Test.YtijkipikefpopaaDoorCards
import Derived.Test.YtijkipikefpopaaDoorTie
import Derived.Test.YtijkipikefpopaaDoorGl
import Derived.SevenTiedAt
import Derived.JoinedOf
set_option linter.unusedVariables false
set_option linter.unusedSimpArgs false
namespace Go.Proofs.YtijkipikefpopaaDoor
open Go Go.RowKit Go.ChangeShapes Go.WideShapes Go.ChangeAt
set_option maxRecDepth 100000 in
theorem literalBack_lifted (os : Os) (started : os.Started) (H : Type) (enc : TypeId × Value → H) :
    ReturnsInHanded {} Tryd.checked os 7 .any (fun w args => (Rows.literalBackSpec.pre enc Tryd.prog Tryd.f7 Rows.literalBackRow.domain false w args ∧ laidMetH Tryd.prog Rows.literalBackRow.laid w) ∧ sizedMet enc Tryd.prog Tryd.f7 (OpenSpec.ofChange Rows.literalBackSpec) false w args) (Rows.literalBackSpec.post enc Tryd.prog Tryd.f7 false true false false) := by
  refine returnsInHanded_of_change_and (C := Tryd.checked) (X := fun w _ => laidMetH Tryd.prog gLaid w) (fun _ _ _ hh h => h.of_heap hh) own_knob started (by kernel_rfl) Tryd.func7
    (ChangeSpec.witness_at (enc := enc) (C := Tryd.checked) (os := os) (X := fun w _ => laidMetH Tryd.prog gLaid w) false (laidWorld os) #[.slice none 0 0, .string ⟨#[]⟩] 8 rfl (by kernel_rfl) (by kernel_rfl) (by kernel_rfl) (by kernel_rfl) (by kernel_rfl) (laidWorld_met os _)) ?_
  intro W base args ds gs before hval0 hW _ _ hL _
  have hval : ∀ (j : Nat) t v, Tryd.f7.params[j]? = some t → args[j]? = some v → Value.okWide Tryd.prog W .any base t v := hval0
  have hW' := hW
  obtain ⟨p, q, hA0, hV, rfl, hfz, hnd⟩ := hW
  have hA : DataW.TrodAll enc Tryd.prog W 0 (fun _ => true) true Tryd.f7.params.toList args.toList ds p := hA0
  rw [Tryd.params7] at hA hval
  obtain ⟨v0, vs0, d0, ds0, p0, q0, hargs, rfl, rfl, h0, r0⟩ := trodAll_cons hA
  obtain ⟨v1, vs1, d1, ds1, p1, q1, rfl, rfl, rfl, h1, r1⟩ := trodAll_cons r0
  obtain ⟨rfl, rfl, rfl⟩ := trodAll_nil r1
  obtain rfl : args = #[v0, v1] := by cases args; simp_all
  obtain ⟨rfl, rfl⟩ := trodVars_none hV
  obtain ⟨x0, e0, b0⟩ := in_Vas (hval 0 22 v0 rfl rfl) h0
  obtain ⟨x1, e1, b1⟩ := in_str Tryd.underlying9 (hval 1 9 v1 rfl rfl) h1
  refine (law_callsG (args := [eL 4 eVaR x0, eS x1]) (synthesislaw02_LiteralBack_h_ok x0 x1 true (law_LiteralBack x0 x1 b0 b1)) rfl ?_ (gl_met hL)).mono fun e W' ⟨he, hg⟩ => ?_
  · intro i v x hv hx
    match i with
    | 0 => simp at hv hx; subst hv hx; exact e0
    | 1 => simp at hv hx; subst hv hx; exact e1
    | i + 2 => simp at hv
  subst he
  exact ⟨_, rfl, law_post laid_out (by rw [Tryd.params7]; intro t ht; simp at ht; rcases ht with rfl | rfl <;> exact ⟨by kernel_rfl, of_decide_eq_true (by kernel_rfl)⟩) rfl Tryd.underlying4 rfl rfl hW' hg⟩
set_option maxHeartbeats 4000000 in
theorem literalBack_closed : joinedFacts Tryd.checked.prog 7 Tryd.f7 Rows.literalBackSpec Rows.literalBackRow = true := by
  unfold joinedFacts
  simp only [c_mayEnter, c_lifts, c_make, c_laid, c_rowed, c_heard, Bool.and_eq_true, Bool.and_true]
  repeat' apply And.intro
  all_goals (as_aux_lemma => kernel_rfl)
theorem literalBack_holds : Rows.LiteralBackSaid :=
  OpenClaim.holds_of_wide 7 Tryd.f7 rfl rfl rfl rfl rfl rfl rfl ⟨rfl, rfl, rfl, rfl, rfl⟩ rfl rfl rfl rfl rfl (by kernel_rfl) Tryd.func7 literalBack_closed
    (of_decide_eq_true (by kernel_rfl)) (by unfold Func.isWrapper; rw [if_neg (of_decide_eq_false (by kernel_rfl))]; exact ⟨rfl, rfl⟩)
    (fun os started H enc _ => literalBack_lifted os started H enc)
theorem literalBack_card_holds : Rows.LiteralBackCardSaid :=
  Claim7.holds_tied_plain_at .later [] [.data, .data, .data, .data, .pinned] true (true, "dd05a1eff4f76bf64292c7e3bfe411821afa300e9e21aaca76d036bfa2676b88") false literalBack_holds (fun _ h => by cases h) (by kernel_rfl) (fun _ h => by cases h) literalBack_row_tie rfl ⟨rfl, rfl⟩ (by kernel_rfl) rfl
    (fun f fn hf hfn => by
      obtain rfl : f = 7 := Option.some.inj ((show Tryd.prog.funcNamed "synthesis/synthesislaw02.LiteralBack" = some 7 by kernel_rfl).symm.trans hf) |>.symm
      obtain rfl : fn = Tryd.f7 := (Option.some.inj (Tryd.func7.symm.trans hfn)).symm
      exact ⟨by kernel_rfl, fun j t ht => by
        rw [Tryd.params7] at ht
        match j with
        | 0 => obtain rfl := Option.some.inj ht; exact (show Tryd.prog.wantsStandIn 22 = false by kernel_rfl)
        | 1 => obtain rfl := Option.some.inj ht; exact (show Tryd.prog.wantsStandIn 9 = false by kernel_rfl)
        | j + 2 => simp at ht⟩)
    (by kernel_rfl)
end Go.Proofs.YtijkipikefpopaaDoor
