/- SpaceContains: the law returns true for every input where the listed tables hold what the program lays into them. -/
import Derived.ChangeMaps5
import Derived.JoinedOf
import Derived.Test.YtpnnpkmjohkgiaaGreatDoorRows
import Derived.Test.YtpnnpkmjohkgiaaGreatDoorLaw
import Derived.Test.YtpnnpkmjohkgiaaGreatDoorGv
import Derived.Test.YtpnnpkmjohkgiaaGreatDoorSc
import Derived.Test.YtpnnpkmjohkgiaaGreatDoorSb
import Derived.Test.YtpnnpkmjohkgiaaGreatDoorCards
import Derived.Test.YtpnnpkmjohkgiaaGreatDoorTie
import Derived.Test.YtpnnpkmjohkgiaaGreatDoorGl
import Derived.SevenTiedAt
set_option linter.all false
set_option maxRecDepth 100000
namespace Go.Proofs.YtpnnpkmjohkgiaaGreatDoor
open Go Go.RowKit Go.ChangeShapes Go.WideShapes Go.Proofs.Tryz
theorem k18:laidOutB Tryz.checked.prog=true:=by as_aux_lemma=>kernel_rfl
theorem kyu:mapsRowed Tryz.checked.prog=true:=by as_aux_lemma=>kernel_rfl
theorem kzk:Tryz.checked.prog.stopsHeard=true:=by as_aux_lemma=>kernel_rfl
theorem ksx:Tryz.checked.prog.mayEnter=true:=by as_aux_lemma=>kernel_rfl
theorem k16:Tryz.checked.prog.make=some .cut:=by as_aux_lemma=>kernel_rfl
open Go Go.RowKit Go.ChangeShapes Go.WideShapes Go.ChangeAt Go.Proofs.Tryz
set_option maxRecDepth 100000 in
theorem kjv (os:Os) (started:os.Started) (H:Type) (enc:TypeId×Value->H):
  ReturnsInHanded {} Tryz.checked os 4 .any (fun w args=>(Rows.spaceContainsSpec.pre enc prog Tryz.f4 Rows.spaceContainsRow.domain false w args/\laidMetH prog Rows.spaceContainsRow.laid w)/\sizedMet enc prog Tryz.f4 (OpenSpec.ofChange Rows.spaceContainsSpec) false w args) (Rows.spaceContainsSpec.post enc prog Tryz.f4 false true false false):=by
 refine kkd (C:=Tryz.checked) (X:=fun w _=>laidMetH prog krw w) (fun _ _ _ r h=>h.of_heap r) kv4 started (by kernel_rfl) func4
  (ChangeSpec.witness_at (enc:=enc) (C:=Tryz.checked) (os:=os) (X:=fun w _=>laidMetH prog krw w) false (knr os) #[.agg #[.slice none 0 0, .slice none 0 0], .agg #[.int .i64 0, .slice none 0 0]] 8 rfl (by kernel_rfl) (by kernel_rfl) (by kernel_rfl) (by kernel_rfl) (by kernel_rfl) (kog os _)) ?_
 intro W base args ds gs before b o B c;have a:∀ (j:Nat) t v,Tryz.f4.params[j]?=some t->args[j]?=some v->Value.okWide prog W .any base t v:=b;have g:=o;obtain ⟨p,q,l,s,rfl,u,y⟩:=o;have hA:DataW.TrodAll enc prog W 0 (fun _=>true) true Tryz.f4.params.toList args.toList ds p:=l;have d:=ql.1 c;rw [Tryz.params4] at hA a d;obtain ⟨v0,vs0,d0,ds0,p0,q0,m,rfl,rfl,h0,r0⟩:=trodAll_cons hA;obtain ⟨v1,vs1,d1,ds1,p1,q1,rfl,rfl,rfl,h1,r1⟩:=trodAll_cons r0;obtain ⟨rfl,rfl,rfl⟩:=trodAll_nil r1;obtain rfl:args=#[v0,v1]:=by cases args;simp_all
 obtain ⟨rfl,rfl⟩:=trodVars_none s;have n:=knh (fun k hk=>of_decide_eq_true (d k hk));obtain ⟨x0,e0,b0⟩:=k1t (a 0 29 v0 rfl rfl) h0 (n 0 _ _ rfl rfl);obtain ⟨x1,e1,_⟩:=in_Tm (a 1 38 v1 rfl rfl) h1;refine (ku2 (args:=[kat x0,eTm x1]) (kga x0 x1 true (klf x0 x1 b0)) rfl ?_).mono fun e W' ⟨z,A⟩=>?_
 ·intro i v x hv f
  match i with
  | 0=>simp at hv f;subst hv f;exact e0
  | 1=>simp at hv f;subst hv f;exact e1
  | i+2=>simp at hv
 subst z;exact ⟨_,rfl,kwz kw3 (by rw [Tryz.params4];intro t ht;simp at ht;rcases ht with rfl | rfl <;> exact ⟨by kernel_rfl,of_decide_eq_true (by kernel_rfl)⟩) rfl underlying4 rfl rfl g A⟩
set_option maxHeartbeats 4000000 in
theorem kjk:joinedFacts Tryz.checked.prog 4 Tryz.f4 Rows.spaceContainsSpec Rows.spaceContainsRow=true:=by
 unfold joinedFacts;simp only [ksx,kza,k16,k18,kyu,kzk,qm,Bool.and_true]
 repeat' apply And.intro
 all_goals (as_aux_lemma=>kernel_rfl)
theorem kjz:Rows.SpaceContainsSaid:=
 OpenClaim.holds_of_wide 4 Tryz.f4 rfl rfl rfl rfl rfl rfl rfl ⟨rfl,rfl,rfl,rfl,rfl⟩ rfl rfl rfl rfl rfl (by kernel_rfl) func4 kjk
  (of_decide_eq_true (by kernel_rfl)) (by unfold Func.isWrapper;rw [qh (of_decide_eq_false (by kernel_rfl))];exact ⟨rfl,rfl⟩)
  (fun os started H enc _=>kjv os started H enc)
theorem spaceContains_card_holds:Rows.SpaceContainsCardSaid:=
 Claim7.holds_tied_plain_at .later [] [.data, .data, .data] true (true, "9b112f8c1b49446c8055dc5e2bf22bf3d1b52285d4be3f11a6733062987cedf8") true kjz (fun _ h => by cases h) (by kernel_rfl) (fun _ h => by cases h) spaceContains_row_tie rfl ⟨rfl, rfl⟩ (by kernel_rfl) rfl
  (fun f fn hf a=>by
   obtain rfl : f = 4 := qad ((show prog.funcNamed "synthesis/synthesislaw25.SpaceContains" = some 4 by kernel_rfl).symm.trans hf) |>.symm;obtain rfl:fn=Tryz.f4:=(qad (func4.symm.trans a)).symm;exact ⟨by kernel_rfl,fun j t ht=>by
    rw [Tryz.params4] at ht
    match j with
    | 0=>obtain rfl:=qad ht;exact (show prog.wantsStandIn 29=false by kernel_rfl)
    | 1=>obtain rfl:=qad ht;exact (show prog.wantsStandIn 38=false by kernel_rfl)
    | j+2=>simp at ht⟩)
  (by kernel_rfl)
end Go.Proofs.YtpnnpkmjohkgiaaGreatDoor
