/- NotationTexts: the law returns true for every input where the listed tables hold what the program lays into them. -/
import Derived.Test.YtaimpcnpifoidaaGreatDoorRows
import Derived.Test.YtaimpcnpifoidaaGreatDoorCd
import Derived.ProofKit
import Derived.OpenShut
import Derived.JoinedCond
import Derived.Carry
import Derived.ChangeSame
import Derived.Test.YtaimpcnpifoidaaGreatDoorEnc
import Derived.Test.YtaimpcnpifoidaaGreatDoorTy
import Derived.ChangeMaps5
import Derived.Deep.Fields
import Derived.Test.YtaimpcnpifoidaaGreatDoorGu
import Derived.JoinedOf
import Derived.Test.YtaimpcnpifoidaaGreatDoorNo
import Derived.Test.YtaimpcnpifoidaaGreatDoorCards
import Derived.Test.YtaimpcnpifoidaaGreatDoorTie
import Derived.Test.YtaimpcnpifoidaaGreatDoorGl
import Derived.SevenTiedAt
set_option linter.unusedVariables false
set_option linter.unusedSimpArgs false
namespace Go.Proofs.YtaimpcnpifoidaaGreatDoor
open Go Go.RowKit Go.ChangeShapes Go.WideShapes Go.ChangeAt
theorem kad9:ownKnob Tryz.prog.godebug=none:=by kernel_rfl
theorem kacz:laidOutB Tryz.prog=true:=by kernel_rfl
section
variable {H:Type} {enc:TypeId×Value→H} {P:Program}
theorem ku4 (hl:laidOutB P=true) {W W':World} {sp:Nat→Bool} (hb:Below W.heap.size W W'):∀ {ts:List TypeId} {vs:List Value} {ds:List (DataW H)} {ps:List MemPlace},
  (∀ t∈ts,P.readableRec t=true∧t<P.types.size)→DataW.TrodAll enc P W 0 (fun _=>true) true ts vs ds ps→(∀ x∈ps,x.block<W.heap.size)→(∀ x∈ps,sp x.block=true)→DataW.TrodAll enc P W' 0 sp true ts vs ds ps
 | [],vs,ds,ps,_,h,_,_=>by
  obtain ⟨rfl,rfl,rfl⟩:=trodAll_nil h
  exact trodAll_mk0
 | t::ts,vs,ds,ps,ht,h,hlt,hsp=>by
  obtain ⟨v,vs',d,ds',p,q,rfl,rfl,rfl,h0,h1⟩:=trodAll_cons h
  exact trodAll_cons_mk (WideElems.Trod_stays hl (ht t (by simp)).1 (ht t (by simp)).2 h0 (fun x hx=>hb.same (hlt x (by simp [hx]))) (fun x hx=>hsp x (by simp [hx])))
   (ku4 hl hb (fun t' h'=>ht t' (by simp [h'])) h1 (fun x hx=>hlt x (by simp [hx])) (fun x hx=>hsp x (by simp [hx])))
theorem kace {f:Func} {s:ChangeSpec} {W W':World} {args:Array Value} {ds gs:List (DataW H)} {before:List MemPlace} {tb:TypeId}
  (hl:laidOutB P=true) (hts:∀ t∈f.params.toList,P.readableRec t=true∧t<P.types.size) (hvars:s.vars=[]) (hb:P.underlying tb=some .bool) (hr:f.resultTypes=#[tb])
  (hfn:s.fn H (ds++gs)={ results:=[.lit (.bool true)],args:=ds })
  (hW:DataW.Whole enc P f.params.toList s.vars false W args.toList ds gs before) (hg:Below W.heap.size W W'):
  s.post enc P f false true false false W args (.bool true) W':=by
 have hW':=hW
 obtain ⟨p,q,hA,hV,rfl,hz,hn⟩:=hW
 have hV':DataW.TrodVars enc P W (fun _=>true) [] gs q:=by rw [hvars] at hV;exact hV
 obtain ⟨rfl,rfl⟩:=trodVars_none hV'
 have hlt:∀ x∈p,x.block<W.heap.size:=fun x hx=>hW'.lt x (by simpa using hx)
 have hAs:∀ sp:Nat→Bool,(∀ x∈p,sp x.block=true)→DataW.TrodAll enc P W' 0 sp true f.params.toList args.toList (s.fn H (ds++[])).args p:=fun sp hsp=>by
  rw [hfn];exact ku4 hl hg hts hA hlt hsp
 have hVs:∀ sp:Nat→Bool,DataW.TrodVars enc P W' sp s.vars (s.fn H (ds++[])).vars []:=fun sp=>by rw [hvars,hfn];rfl
 have hold:∀ x∈p,(fun b=>decide (b<W.heap.size)) x.block=true:=fun x hx=>by simpa using hlt x hx
 have hres:∀ (b:Nat) (sp:Nat→Bool) (hd:Bool),DataW.TrodAll enc P W' b sp hd f.resultTypes.toList ((Value.bool true).resultList f.resultTypes.size) (s.fn H (ds++[])).results []:=fun b sp hd=>by
  rw [hfn,hr];exact trodAll_cons_mk (shut_bool hb true) trodAll_mk0
 refine ⟨ds,[],p++[],[],p,[],hW',hres _ _ _,hAs _ hold,hVs _,World.keptBut_mono (fun x hx=>⟨hx,?_⟩) (hg.frame (·∈p++[])),fun h=>by cases h⟩
 simp at hx ⊢
 exact hx
variable {w:World} {base:Nat} {spare:Nat→Bool} {held:Bool}
end
end Go.Proofs.YtaimpcnpifoidaaGreatDoor
set_option linter.unusedVariables false
set_option linter.unusedSimpArgs false
namespace Go.Proofs.YtaimpcnpifoidaaGreatDoor
open Go Go.RowKit Go.ChangeShapes Go.WideShapes Go.ChangeAt Go.ChangeMaps
section
variable {T:Type} {P:Program} {H:Type} {enc:TypeId×Value→H} {w:World} {base:Nat} {spare:Nat→Bool} {held:Bool}
theorem kajj {r:Reach} {b0:Nat} {t:TypeId} {v:Value} {d:DataW H} {p:List MemPlace} (ht:P.underlying t=some .string) (hv:Value.okWide P w r b0 t v) (h:DataW.Trod enc P w base spare held t v d p):∃ s,RF Any w v (eS s)∧s.size≤9223372036854775807:=by
 obtain ⟨s,rfl,_,_,hl⟩:=open_string ht hv h
 exact ⟨s, .atom rfl,by unfold maxLen at hl;exact hl⟩
end
end Go.Proofs.YtaimpcnpifoidaaGreatDoor
set_option linter.unusedVariables false
set_option linter.unusedSimpArgs false
set_option maxRecDepth 100000
namespace Go.Proofs.YtaimpcnpifoidaaGreatDoor
open Go Go.RowKit Go.ChangeShapes Go.WideShapes Go.ChangeAt
section
variable {H:Type} {enc:TypeId×Value→H} {w:World} {base:Nat} {spare:Nat→Bool} {held:Bool}
end
end Go.Proofs.YtaimpcnpifoidaaGreatDoor
set_option linter.unusedVariables false
set_option linter.unusedSimpArgs false
set_option maxRecDepth 100000
namespace Go.Proofs.YtaimpcnpifoidaaGreatDoor
open Go Go.RowKit Go.ChangeShapes Go.WideShapes Go.ChangeAt
section
variable {H:Type} {enc:TypeId×Value→H} {w:World} {base:Nat} {spare:Nat→Bool} {held:Bool}
end
end Go.Proofs.YtaimpcnpifoidaaGreatDoor
set_option linter.unusedVariables false
set_option linter.unusedSimpArgs false
set_option maxRecDepth 100000
namespace Go.Proofs.YtaimpcnpifoidaaGreatDoor
open Go Go.RowKit Go.ChangeShapes Go.WideShapes Go.ChangeAt
section
variable {w:World}
end
section
variable {H:Type} {enc:TypeId×Value→H} {w:World} {base:Nat} {spare:Nat→Bool} {held:Bool}
end
end Go.Proofs.YtaimpcnpifoidaaGreatDoor
set_option linter.unusedVariables false
set_option linter.unusedSimpArgs false
set_option maxRecDepth 100000
namespace Go.Proofs.YtaimpcnpifoidaaGreatDoor
open Go Go.RowKit Go.ChangeShapes Go.WideShapes
theorem kaf9:Tryz.checked.prog.liftsFinal=false:=by as_aux_lemma=>kernel_rfl
end Go.Proofs.YtaimpcnpifoidaaGreatDoor
set_option linter.unusedVariables false
set_option linter.unusedSimpArgs false
set_option maxRecDepth 100000
namespace Go.Proofs.YtaimpcnpifoidaaGreatDoor
open Go Go.RowKit Go.ChangeShapes Go.WideShapes
theorem kaik:Tryz.checked.prog.make=some .cut:=by as_aux_lemma=>kernel_rfl
end Go.Proofs.YtaimpcnpifoidaaGreatDoor
set_option linter.unusedVariables false
set_option linter.unusedSimpArgs false
namespace Go.Proofs.YtaimpcnpifoidaaGreatDoor
open Go Go.RowKit Go.ChangeShapes Go.WideShapes Go.ChangeAt
set_option maxRecDepth 100000 in
theorem kuv (os:Os) (started:os.Started) (H:Type) (enc:TypeId×Value→H):
  ReturnsInHanded {} Tryz.checked os 7 .any (fun w args=>(Rows.notationTextsSpec.pre enc Tryz.prog Tryz.f7 Rows.notationTextsRow.domain false w args∧laidMetH Tryz.prog Rows.notationTextsRow.laid w)∧sizedMet enc Tryz.prog Tryz.f7 (OpenSpec.ofChange Rows.notationTextsSpec) false w args) (Rows.notationTextsSpec.post enc Tryz.prog Tryz.f7 false true false false):=by
 refine kvd (C:=Tryz.checked) (X:=fun w _=>laidMetH Tryz.prog kwo w) (fun _ _ _ hh h=>h.of_heap hh) kad9 started (by kernel_rfl) Tryz.func7
  (ChangeSpec.witness_at (enc:=enc) (C:=Tryz.checked) (os:=os) (X:=fun w _=>laidMetH Tryz.prog kwo w) false (k1m os) #[.string ⟨#[]⟩] 8 rfl (by kernel_rfl) (by kernel_rfl) (by kernel_rfl) (by kernel_rfl) (by kernel_rfl) (k15 os _)) ?_
 intro W base args ds gs before hval0 hW hL hsh
 have hval:∀ (j:Nat) t v,Tryz.f7.params[j]?=some t→args[j]?=some v→Value.okWide Tryz.prog W .any base t v:=hval0
 have hW':=hW
 obtain ⟨p,q,hA0,hV,rfl,hfz,hnd⟩:=hW
 have hA:DataW.TrodAll enc Tryz.prog W 0 (fun _=>true) true Tryz.f7.params.toList args.toList ds p:=hA0
 rw [Tryz.params7] at hA hval
 obtain ⟨v0,vs0,d0,ds0,p0,q0,hargs,rfl,rfl,h0,r0⟩:=trodAll_cons hA
 obtain ⟨rfl,rfl,rfl⟩:=trodAll_nil r0
 obtain rfl:args=#[v0]:=by cases args;simp_all
 obtain ⟨rfl,rfl⟩:=trodVars_none hV
 obtain ⟨x0,e0,b0⟩:=kajj Tryz.underlying9 (hval 0 9 v0 rfl rfl) h0
 refine (k7r (args:=[eS x0]) (kmh x0 true (kxb x0 b0)) rfl ?_ (kai7 hL hsh)).mono fun e W' ⟨he,hg⟩=>?_
 ·intro i v x hv hx
  match i with
  | 0=>simp at hv hx;subst hv hx;exact e0
  | i+1=>simp at hv
 subst he
 exact ⟨_,rfl,kace kacz (by rw [Tryz.params7];intro t ht;simp at ht;rcases ht with rfl <;> exact ⟨by kernel_rfl,qae (by kernel_rfl)⟩) rfl Tryz.underlying4 rfl rfl hW' hg⟩
set_option maxHeartbeats 4000000 in
theorem kto:joinedFacts Tryz.checked.prog 7 Tryz.f7 Rows.notationTextsSpec Rows.notationTextsRow=true:=by
 unfold joinedFacts
 simp only [k8z,kaf9,kaik,kaix,kahj,kafj,qy,Bool.and_true]
 repeat' apply And.intro
 all_goals (as_aux_lemma=>kernel_rfl)
theorem ku8:Rows.NotationTextsSaid:=
 OpenClaim.holds_of_wide 7 Tryz.f7 rfl rfl rfl rfl rfl rfl rfl ⟨rfl,rfl,rfl,rfl,rfl⟩ rfl rfl rfl rfl rfl (by kernel_rfl) Tryz.func7 kto
  (qae (by kernel_rfl)) (by unfold Func.isWrapper;rw [if_neg (qan (by kernel_rfl))];exact ⟨rfl,rfl⟩)
  (fun os started H enc _=>kuv os started H enc)
theorem notationTexts_card_holds:Rows.NotationTextsCardSaid:=
 Claim7.holds_tied_plain_at .later [] [.data, .data, .data, .data, .pinned] true (true, "aad9bf91ff3f5c2232ad5298ebe3199df4dc9cce42722f6e274e8872ef87a7c0") true ku8 (fun _ h => by cases h) (by kernel_rfl) (fun _ h => by cases h) notationTexts_row_tie rfl ⟨rfl, rfl⟩ (by kernel_rfl) rfl
  (fun f fn hf hfn=>by
   obtain rfl : f = 7 := qm ((show Tryz.prog.funcNamed "synthesis/synthesislaw14.NotationTexts" = some 7 by kernel_rfl).symm.trans hf) |>.symm
   obtain rfl:fn=Tryz.f7:=(qm (Tryz.func7.symm.trans hfn)).symm
   exact ⟨by kernel_rfl,fun j t ht=>by
    rw [Tryz.params7] at ht
    match j with
    | 0=>obtain rfl:=qm ht;exact (show Tryz.prog.wantsStandIn 9=false by kernel_rfl)
    | j+1=>simp at ht⟩)
  (by kernel_rfl)
end Go.Proofs.YtaimpcnpifoidaaGreatDoor
