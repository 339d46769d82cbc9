/- SpaceTrims: the law returns true for every input where the listed tables hold what the program lays into them. -/
import Derived.ChangeMaps5
import Derived.JoinedOf
import Derived.Test.YtpnnpkmjohkgiaaGreatDoorRows
import Derived.Test.YtpnnpkmjohkgiaaGreatDoorMem
import Derived.Test.YtpnnpkmjohkgiaaGreatDoorGv
import Derived.Test.YtpnnpkmjohkgiaaGreatDoorSd
import Derived.Test.YtpnnpkmjohkgiaaGreatDoorSc
import Derived.Test.YtpnnpkmjohkgiaaGreatDoorCards
import Derived.Test.YtpnnpkmjohkgiaaGreatDoorTie
import Derived.Test.YtpnnpkmjohkgiaaGreatDoorGl
import Derived.SevenTiedAt
set_option linter.all false
set_option maxRecDepth 100000
namespace Go.Proofs.YtpnnpkmjohkgiaaGreatDoor
open Go Go.RowKit Go.ChangeShapes Go.WideShapes Go.Proofs.Tryz
theorem k1u:laidOutB Tryz.checked.prog=true:=by as_aux_lemma=>kernel_rfl
theorem kyc:mapsRowed Tryz.checked.prog=true:=by as_aux_lemma=>kernel_rfl
theorem ky4:Tryz.checked.prog.stopsHeard=true:=by as_aux_lemma=>kernel_rfl
theorem kyt:Tryz.checked.prog.liftsFinal=false:=by as_aux_lemma=>kernel_rfl
theorem kse:Tryz.checked.prog.mayEnter=true:=by as_aux_lemma=>kernel_rfl
theorem k1s:Tryz.checked.prog.make=some .cut:=by as_aux_lemma=>kernel_rfl
open Go Go.RowKit Go.ChangeShapes Go.WideShapes Go.ChangeAt Go.Proofs.Tryz
set_option maxRecDepth 100000 in
theorem kkv (os:Os) (started:os.Started) (H:Type) (enc:TypeId×Value->H):
  ReturnsInHanded {} Tryz.checked os 5 .any (fun w args=>(Rows.spaceTrimsSpec.pre enc prog Tryz.f5 Rows.spaceTrimsRow.domain false w args/\laidMetH prog Rows.spaceTrimsRow.laid w)/\sizedMet enc prog Tryz.f5 (OpenSpec.ofChange Rows.spaceTrimsSpec) false w args) (Rows.spaceTrimsSpec.post enc prog Tryz.f5 false true false false):=by
 refine kjm (C:=Tryz.checked) (X:=fun w _=>laidMetH prog krf w) (fun _ _ _ r h=>h.of_heap r) kvk started (by kernel_rfl) func5
  (ChangeSpec.witness_at (enc:=enc) (C:=Tryz.checked) (os:=os) (X:=fun w _=>laidMetH prog krf w) false (km9 os) #[.agg #[.slice none 0 0, .slice none 0 0]] 8 rfl (by kernel_rfl) (by kernel_rfl) (by kernel_rfl) (by kernel_rfl) (by kernel_rfl) (kn0 os _)) ?_
 intro W base args ds gs before b n B c;have a:∀ (j:Nat) t v,Tryz.f5.params[j]?=some t->args[j]?=some v->Value.okWide prog W .any base t v:=b;have f:=n;obtain ⟨p,q,g,s,rfl,u,y⟩:=n;have hA:DataW.TrodAll enc prog W 0 (fun _=>true) true Tryz.f5.params.toList args.toList ds p:=g;have d:=ql.1 c;rw [Tryz.params5] at hA a d;obtain ⟨v0,vs0,d0,ds0,p0,q0,l,rfl,rfl,h0,r0⟩:=trodAll_cons hA;obtain ⟨rfl,rfl,rfl⟩:=trodAll_nil r0;obtain rfl:args=#[v0]:=by cases args;simp_all
 obtain ⟨rfl,rfl⟩:=trodVars_none s;have m:=kmy (fun k hk=>of_decide_eq_true (d k hk));obtain ⟨x0,e0,b0⟩:=k1f (a 0 29 v0 rfl rfl) h0 (m 0 _ _ rfl rfl);refine (kui (args:=[kbc x0]) (kga x0 true (kmq x0 b0)) rfl ?_).mono fun e W' ⟨z,A⟩=>?_
 ·intro i v x hv o
  match i with
  | 0=>simp at hv o;subst hv o;exact e0
  | i+1=>simp at hv
 subst z;exact ⟨_,rfl,kwh kwl (by rw [Tryz.params5];intro t ht;simp at ht;rcases ht with rfl <;> exact ⟨by kernel_rfl,of_decide_eq_true (by kernel_rfl)⟩) rfl underlying4 rfl rfl f A⟩
set_option maxHeartbeats 4000000 in
theorem kkw:joinedFacts Tryz.checked.prog 5 Tryz.f5 Rows.spaceTrimsSpec Rows.spaceTrimsRow=true:=by
 unfold joinedFacts;simp only [kse,kyt,k1s,k1u,kyc,ky4,qn,Bool.and_true]
 repeat' apply And.intro
 all_goals (as_aux_lemma=>kernel_rfl)
theorem kk7:Rows.SpaceTrimsSaid:=
 OpenClaim.holds_of_wide 5 Tryz.f5 rfl rfl rfl rfl rfl rfl rfl ⟨rfl,rfl,rfl,rfl,rfl⟩ rfl rfl rfl rfl rfl (by kernel_rfl) func5 kkw
  (of_decide_eq_true (by kernel_rfl)) (by unfold Func.isWrapper;rw [qh (of_decide_eq_false (by kernel_rfl))];exact ⟨rfl,rfl⟩)
  (fun os started H enc _=>kkv os started H enc)
theorem spaceTrims_card_holds:Rows.SpaceTrimsCardSaid:=
 Claim7.holds_tied_plain_at .later [] [.data, .data, .data] true (true, "9b112f8c1b49446c8055dc5e2bf22bf3d1b52285d4be3f11a6733062987cedf8") true kk7 (fun _ h => by cases h) (by kernel_rfl) (fun _ h => by cases h) spaceTrims_row_tie rfl ⟨rfl, rfl⟩ (by kernel_rfl) rfl
  (fun f fn hf a=>by
   obtain rfl : f = 5 := qag ((show prog.funcNamed "synthesis/synthesislaw25.SpaceTrims" = some 5 by kernel_rfl).symm.trans hf) |>.symm;obtain rfl:fn=Tryz.f5:=(qag (func5.symm.trans a)).symm;exact ⟨by kernel_rfl,fun j t ht=>by
    rw [Tryz.params5] at ht
    match j with
    | 0=>obtain rfl:=qag ht;exact (show prog.wantsStandIn 29=false by kernel_rfl)
    | j+1=>simp at ht⟩)
  (by kernel_rfl)
end Go.Proofs.YtpnnpkmjohkgiaaGreatDoor
