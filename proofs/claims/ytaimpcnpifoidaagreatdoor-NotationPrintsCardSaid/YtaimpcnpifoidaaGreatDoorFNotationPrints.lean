import Derived.Test.YtaimpcnpifoidaaGreatDoorCa
import Derived.Test.YtaimpcnpifoidaaGreatDoorCb
import Derived.Test.YtaimpcnpifoidaaGreatDoorCc
import Derived.Test.YtaimpcnpifoidaaGreatDoorCd
import Derived.Test.YtaimpcnpifoidaaGreatDoorGv
import Derived.Test.YtaimpcnpifoidaaGreatDoorNe
import Derived.Test.YtaimpcnpifoidaaGreatDoorCards
import Derived.Test.YtaimpcnpifoidaaGreatDoorTie
import Derived.Test.YtaimpcnpifoidaaGreatDoorGl
import Derived.SevenTiedAt
import Derived.JoinedOf
set_option linter.unusedVariables false
set_option linter.unusedSimpArgs false
namespace Go.Proofs.YtaimpcnpifoidaaGreatDoor
open Go Go.RowKit Go.ChangeShapes Go.WideShapes Go.ChangeAt
set_option maxRecDepth 100000 in
theorem kqy (os : Os) (started : os.Started) (H : Type) (enc : TypeId × Value → H) :
  ReturnsInHanded {} Tryz.checked os 3 .any (fun w args => (Rows.notationPrintsSpec.pre enc Tryz.prog Tryz.f3 Rows.notationPrintsRow.domain false w args ∧ laidMetH Tryz.prog Rows.notationPrintsRow.laid w) ∧ sizedMet enc Tryz.prog Tryz.f3 (OpenSpec.ofChange Rows.notationPrintsSpec) false w args) (Rows.notationPrintsSpec.post enc Tryz.prog Tryz.f3 false true false false) := by
 refine ksz (C := Tryz.checked) (X := fun w _ => laidMetH Tryz.prog ktz w) (fun _ _ _ hh h => h.of_heap hh) k7j started (by kernel_rfl) Tryz.func3
  (ChangeSpec.witness_at (enc := enc) (C := Tryz.checked) (os := os) (X := fun w _ => laidMetH Tryz.prog ktz w) false (kx6 os) #[.agg #[.string ⟨#[]⟩, .slice none 0 0, .slice none 0 0, .slice none 0 0], .agg #[.int .i64 0, .slice none 0 0]] 8 rfl (by kernel_rfl) (by kernel_rfl) (by kernel_rfl) (by kernel_rfl) (by kernel_rfl) (kyg os _)) ?_
 intro W base args ds gs before hval0 hW hL hsh
 have hval : ∀ (j : Nat) t v, Tryz.f3.params[j]? = some t → args[j]? = some v → Value.okWide Tryz.prog W .any base t v := hval0
 have hW' := hW
 obtain ⟨p, q, hA0, hV, rfl, hfz, hnd⟩ := hW
 have hA : DataW.TrodAll enc Tryz.prog W 0 (fun _ => true) true Tryz.f3.params.toList args.toList ds p := hA0
 rw [Tryz.params3] at hA hval
 obtain ⟨v0, vs0, d0, ds0, p0, q0, hargs, rfl, rfl, h0, r0⟩ := trodAll_cons hA
 obtain ⟨v1, vs1, d1, ds1, p1, q1, rfl, rfl, rfl, h1, r1⟩ := trodAll_cons r0
 obtain ⟨rfl, rfl, rfl⟩ := trodAll_nil r1
 obtain rfl : args = #[v0, v1] := by cases args; simp_all
 obtain ⟨rfl, rfl⟩ := trodVars_none hV
 obtain ⟨x0, e0, b0⟩ := in_La (hval 0 26 v0 rfl rfl) h0
 obtain ⟨x1, e1, _⟩ := in_Tm (hval 1 29 v1 rfl rfl) h1
 have b1 := kaaq e1
 refine (k4m (args := [eLa x0, eTm x1]) (kke x0 x1 true (ktj x0 x1 b0 b1)) rfl ?_ (kac3 hL hsh)).mono fun e W' ⟨he, hg⟩ => ?_
 ·intro i v x hv hx
  match i with
  | 0 => simp at hv hx; subst hv hx; exact e0
  | 1 => simp at hv hx; subst hv hx; exact e1
  | i + 2 => simp at hv
 subst he
 exact ⟨_, rfl, k8k k7r (by rw [Tryz.params3]; intro t ht; simp at ht; rcases ht with rfl | rfl <;> exact ⟨by kernel_rfl, of_decide_eq_true (by kernel_rfl)⟩) rfl Tryz.underlying4 rfl rfl hW' hg⟩
set_option maxHeartbeats 4000000 in
theorem kqt : joinedFacts Tryz.checked.prog 3 Tryz.f3 Rows.notationPrintsSpec Rows.notationPrintsRow = true := by
 unfold joinedFacts
 simp only [k4c, kaaj, kacn, kac2, kaaf, kabw, Bool.and_eq_true, Bool.and_true]
 repeat' apply And.intro
 all_goals (as_aux_lemma => kernel_rfl)
theorem kse : Rows.NotationPrintsSaid :=
 OpenClaim.holds_of_wide 3 Tryz.f3 rfl rfl rfl rfl rfl rfl rfl ⟨rfl, rfl, rfl, rfl, rfl⟩ rfl rfl rfl rfl rfl (by kernel_rfl) Tryz.func3 kqt
  (of_decide_eq_true (by kernel_rfl)) (by unfold Func.isWrapper; rw [if_neg (of_decide_eq_false (by kernel_rfl))]; exact ⟨rfl, rfl⟩)
  (fun os started H enc _ => kqy os started H enc)
theorem notationPrints_card_holds : Rows.NotationPrintsCardSaid :=
 Claim7.holds_tied_plain_at .later [] [.data, .data, .data, .data, .pinned] true (true, "aad9bf91ff3f5c2232ad5298ebe3199df4dc9cce42722f6e274e8872ef87a7c0") true kse (fun _ h => by cases h) (by kernel_rfl) (fun _ h => by cases h) notationPrints_row_tie rfl ⟨rfl, rfl⟩ (by kernel_rfl) rfl
  (fun f fn hf hfn => by
   obtain rfl : f = 3 := Option.some.inj ((show Tryz.prog.funcNamed "synthesis/synthesislaw14.NotationPrints" = some 3 by kernel_rfl).symm.trans hf) |>.symm
   obtain rfl : fn = Tryz.f3 := (Option.some.inj (Tryz.func3.symm.trans hfn)).symm
   exact ⟨by kernel_rfl, fun j t ht => by
    rw [Tryz.params3] at ht
    match j with
    | 0 => obtain rfl := Option.some.inj ht; exact (show Tryz.prog.wantsStandIn 26 = false by kernel_rfl)
    | 1 => obtain rfl := Option.some.inj ht; exact (show Tryz.prog.wantsStandIn 29 = false by kernel_rfl)
    | j + 2 => simp at ht⟩)
  (by kernel_rfl)
end Go.Proofs.YtaimpcnpifoidaaGreatDoor
