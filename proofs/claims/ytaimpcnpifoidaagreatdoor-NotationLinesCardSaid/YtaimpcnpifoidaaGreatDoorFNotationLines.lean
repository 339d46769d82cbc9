/- NotationLines: the law returns true for every input where the listed tables hold what the program lays into them. -/
import Derived.Test.YtaimpcnpifoidaaGreatDoorRows
import Derived.Test.YtaimpcnpifoidaaGreatDoorCd
import Derived.ProofKit
import Derived.OpenShut
import Derived.JoinedCond
import Derived.Carry
import Derived.ChangeSame
import Derived.Test.YtaimpcnpifoidaaGreatDoorEnc
import Derived.Test.YtaimpcnpifoidaaGreatDoorTy
import Derived.ChangeMaps5
import Derived.Deep.Fields
import Derived.Test.YtaimpcnpifoidaaGreatDoorGu
import Derived.Test.YtaimpcnpifoidaaGreatDoorNm
import Derived.JoinedOf
import Derived.Test.YtaimpcnpifoidaaGreatDoorCards
import Derived.Test.YtaimpcnpifoidaaGreatDoorTie
import Derived.Test.YtaimpcnpifoidaaGreatDoorGl
import Derived.SevenTiedAt
set_option linter.unusedVariables false
set_option linter.unusedSimpArgs false
namespace Go.Proofs.YtaimpcnpifoidaaGreatDoor
open Go Go.RowKit Go.ChangeShapes Go.WideShapes Go.ChangeAt
theorem kabz:ownKnob Tryz.prog.godebug=none:=by kernel_rfl
theorem kab4:laidOutB Tryz.prog=true:=by kernel_rfl
section
variable {H:Type} {enc:TypeId×Value→H} {P:Program}
theorem ks9 (hl:laidOutB P=true) {W W':World} {sp:Nat→Bool} (hb:Below W.heap.size W W'):∀ {ts:List TypeId} {vs:List Value} {ds:List (DataW H)} {ps:List MemPlace},
  (∀ t∈ts,P.readableRec t=true∧t<P.types.size)→DataW.TrodAll enc P W 0 (fun _=>true) true ts vs ds ps→(∀ x∈ps,x.block<W.heap.size)→(∀ x∈ps,sp x.block=true)→DataW.TrodAll enc P W' 0 sp true ts vs ds ps
 | [],vs,ds,ps,_,h,_,_=>by
  obtain ⟨rfl,rfl,rfl⟩:=trodAll_nil h
  exact trodAll_mk0
 | t::ts,vs,ds,ps,ht,h,hlt,hsp=>by
  obtain ⟨v,vs',d,ds',p,q,rfl,rfl,rfl,h0,h1⟩:=trodAll_cons h
  exact trodAll_cons_mk (WideElems.Trod_stays hl (ht t (by simp)).1 (ht t (by simp)).2 h0 (fun x hx=>hb.same (hlt x (by simp [hx]))) (fun x hx=>hsp x (by simp [hx])))
   (ks9 hl hb (fun t' h'=>ht t' (by simp [h'])) h1 (fun x hx=>hlt x (by simp [hx])) (fun x hx=>hsp x (by simp [hx])))
theorem kaau {f:Func} {s:ChangeSpec} {W W':World} {args:Array Value} {ds gs:List (DataW H)} {before:List MemPlace} {tb:TypeId}
  (hl:laidOutB P=true) (hts:∀ t∈f.params.toList,P.readableRec t=true∧t<P.types.size) (hvars:s.vars=[]) (hb:P.underlying tb=some .bool) (hr:f.resultTypes=#[tb])
  (hfn:s.fn H (ds++gs)={ results:=[.lit (.bool true)],args:=ds })
  (hW:DataW.Whole enc P f.params.toList s.vars false W args.toList ds gs before) (hg:Below W.heap.size W W'):
  s.post enc P f false true false false W args (.bool true) W':=by
 have hW':=hW
 obtain ⟨p,q,hA,hV,rfl,hz,hn⟩:=hW
 have hV':DataW.TrodVars enc P W (fun _=>true) [] gs q:=by rw [hvars] at hV;exact hV
 obtain ⟨rfl,rfl⟩:=trodVars_none hV'
 have hlt:∀ x∈p,x.block<W.heap.size:=fun x hx=>hW'.lt x (by simpa using hx)
 have hAs:∀ sp:Nat→Bool,(∀ x∈p,sp x.block=true)→DataW.TrodAll enc P W' 0 sp true f.params.toList args.toList (s.fn H (ds++[])).args p:=fun sp hsp=>by
  rw [hfn];exact ks9 hl hg hts hA hlt hsp
 have hVs:∀ sp:Nat→Bool,DataW.TrodVars enc P W' sp s.vars (s.fn H (ds++[])).vars []:=fun sp=>by rw [hvars,hfn];rfl
 have hold:∀ x∈p,(fun b=>decide (b<W.heap.size)) x.block=true:=fun x hx=>by simpa using hlt x hx
 have hres:∀ (b:Nat) (sp:Nat→Bool) (hd:Bool),DataW.TrodAll enc P W' b sp hd f.resultTypes.toList ((Value.bool true).resultList f.resultTypes.size) (s.fn H (ds++[])).results []:=fun b sp hd=>by
  rw [hfn,hr];exact trodAll_cons_mk (shut_bool hb true) trodAll_mk0
 refine ⟨ds,[],p++[],[],p,[],hW',hres _ _ _,hAs _ hold,hVs _,World.keptBut_mono (fun x hx=>⟨hx,?_⟩) (hg.frame (·∈p++[])),fun h=>by cases h⟩
 simp at hx ⊢
 exact hx
variable {w:World} {base:Nat} {spare:Nat→Bool} {held:Bool}
end
end Go.Proofs.YtaimpcnpifoidaaGreatDoor
set_option linter.unusedVariables false
set_option linter.unusedSimpArgs false
namespace Go.Proofs.YtaimpcnpifoidaaGreatDoor
open Go Go.RowKit Go.ChangeShapes Go.WideShapes Go.ChangeAt Go.ChangeMaps
section
variable {T:Type} {P:Program} {H:Type} {enc:TypeId×Value→H} {w:World} {base:Nat} {spare:Nat→Bool} {held:Bool}
theorem kagg {r:Reach} {b0:Nat} {t:TypeId} {v:Value} {d:DataW H} {p:List MemPlace} (ht:P.underlying t=some .string) (hv:Value.okWide P w r b0 t v) (h:DataW.Trod enc P w base spare held t v d p):∃ s,RF Any w v (eS s)∧s.size≤9223372036854775807:=by
 obtain ⟨s,rfl,_,_,hl⟩:=open_string ht hv h
 exact ⟨s, .atom rfl,by unfold maxLen at hl;exact hl⟩
end
end Go.Proofs.YtaimpcnpifoidaaGreatDoor
set_option linter.unusedVariables false
set_option linter.unusedSimpArgs false
set_option maxRecDepth 100000
namespace Go.Proofs.YtaimpcnpifoidaaGreatDoor
open Go Go.RowKit Go.ChangeShapes Go.WideShapes Go.ChangeAt
section
variable {H:Type} {enc:TypeId×Value→H} {w:World} {base:Nat} {spare:Nat→Bool} {held:Bool}
end
end Go.Proofs.YtaimpcnpifoidaaGreatDoor
set_option linter.unusedVariables false
set_option linter.unusedSimpArgs false
set_option maxRecDepth 100000
namespace Go.Proofs.YtaimpcnpifoidaaGreatDoor
open Go Go.RowKit Go.ChangeShapes Go.WideShapes Go.ChangeAt
section
variable {H:Type} {enc:TypeId×Value→H} {w:World} {base:Nat} {spare:Nat→Bool} {held:Bool}
end
end Go.Proofs.YtaimpcnpifoidaaGreatDoor
set_option linter.unusedVariables false
set_option linter.unusedSimpArgs false
set_option maxRecDepth 100000
namespace Go.Proofs.YtaimpcnpifoidaaGreatDoor
open Go Go.RowKit Go.ChangeShapes Go.WideShapes Go.ChangeAt
section
variable {w:World}
end
section
variable {H:Type} {enc:TypeId×Value→H} {w:World} {base:Nat} {spare:Nat→Bool} {held:Bool}
end
end Go.Proofs.YtaimpcnpifoidaaGreatDoor
set_option linter.unusedVariables false
set_option linter.unusedSimpArgs false
set_option maxRecDepth 100000
namespace Go.Proofs.YtaimpcnpifoidaaGreatDoor
open Go Go.RowKit
end Go.Proofs.YtaimpcnpifoidaaGreatDoor
set_option linter.unusedVariables false
set_option linter.unusedSimpArgs false
set_option maxRecDepth 100000
namespace Go.Proofs.YtaimpcnpifoidaaGreatDoor
open Go Go.RowKit
theorem kafy (l:La):La.mk l.name l.inputs l.symbols l.rules=l:=rfl
theorem kaga {s:List UInt8} (h:(outL s).2.2=0):ValidL (outL s).1∧kiq (outL s).1∧kl6 (outL s).1=s:=by
 unfold outL at h ⊢
 split at h
 ·exact absurd h (by decide)
 ·rename_i h0
  rw [if_neg h0]
  cases hR:kio 0 laD s with
  | inl p=>
   obtain ⟨k,c⟩:=p
   rw [hR] at h
   have h:c=0:=h
   subst h
   exfalso
   have key:∀ (k n:Nat) (l:La) (s:List UInt8) (m c:Int),kid k n l s = .inl (m,c)→c≠0:=by
    intro k
    induction k with
    | zero=>intro n l s m c h;rw [kid] at h;cases h
    | succ k ih=>
     intro n l s m c h
     rw [kid] at h
     split at h
     ·cases h
     ·split at h
      ·cases h;decide
      ·split at h
       ·rename_i e he
        cases h
        intro e0
        subst e0
        unfold kj3 at he
        repeat' split at he
        all_goals first | (cases he;done) | skip
        rename_i e hru
        cases he
        exact k7s hru rfl
       ·exact ih _ _ _ _ _ h
   exact key _ _ _ _ _ _ hR rfl
  | inr p=>
   obtain ⟨n,l⟩:=p
   rw [hR] at h
   obtain ⟨hB,hn⟩:=k1a (by omega) hR
   simp only [finL] at h ⊢
   by_cases h2:n<2
   ·rw [if_pos h2] at h;exact absurd (show (8:Int)=0 from h) (by decide)
   ·rw [if_neg h2] at h ⊢
    by_cases hz:chk l=0
    ·rw [if_neg fun h=>h hz]
     have hw:=hB.wide (by omega)
     exact ⟨(k1c hw).2.2.1 hz,hw,k75 hR (by omega)⟩
    ·rw [if_pos hz] at h;exact absurd h hz
theorem kadg {s:List UInt8} (h:(outL s).2.2≠0):(outL s).1=laD:=by
 unfold outL at h ⊢
 split at h
 ·rename_i h0;rw [if_pos h0]
 ·rename_i h0
  rw [if_neg h0]
  cases hR:kio 0 laD s with
  | inl p=>rfl
  | inr p=>
   obtain ⟨n,l⟩:=p
   rw [hR] at h
   simp only [finL] at h ⊢
   split at h
   ·rename_i h2;rw [if_pos h2]
   ·rename_i h2
    rw [if_neg h2]
    split at h
    ·rename_i hz;rw [if_pos hz]
    ·exact absurd rfl h
theorem kvc (s:BA) (_:s.size≤9223372036854775807):kew s=some true:=by
 unfold kew
 rw [kaey]
 cases decide (2000<(s.size:Int)) with
 | true=>rfl
 | false=>
  have hp:=kae7 (bsOf s)
  rw [kkf] at hp
  rw [qb,hp]
  simp only [qa,kafy]
  by_cases he:(outL (bsOf s)).2.2=0
  ·obtain ⟨o1,o2,o3⟩:=kaga he
   obtain ⟨c,c1,c2,c3⟩:=kaay o2
   have c0:c=0:=c2.2 o1
   subst c0
   have r1:kb4 (outL (bsOf s)).1=some 0:=by
    have:=k1c o2
    rw [this.2.1,this.2.2.2 o1]
   rw [he,show ((0:Int) != 0)=false from rfl,qb,c3,if_pos rfl,qa,o3,kkf,r1]
   have hb:(s.toList == s.toList)=true:=beq_self_eq_true _
   simp only [hb,beq_self_eq_true,qd,qa]
  ·rw [show ((outL (bsOf s)).2.2 != 0)=true by rw [bne_iff_ne];exact he,kadg he]
   rfl
end Go.Proofs.YtaimpcnpifoidaaGreatDoor
set_option linter.unusedVariables false
set_option linter.unusedSimpArgs false
set_option maxRecDepth 100000
namespace Go.Proofs.YtaimpcnpifoidaaGreatDoor
open Go Go.RowKit Go.ChangeShapes Go.WideShapes
theorem kadi:Tryz.checked.prog.liftsFinal=false:=by as_aux_lemma=>kernel_rfl
end Go.Proofs.YtaimpcnpifoidaaGreatDoor
set_option linter.unusedVariables false
set_option linter.unusedSimpArgs false
set_option maxRecDepth 100000
namespace Go.Proofs.YtaimpcnpifoidaaGreatDoor
open Go Go.RowKit Go.ChangeShapes Go.WideShapes
theorem kagz:Tryz.checked.prog.make=some .cut:=by as_aux_lemma=>kernel_rfl
end Go.Proofs.YtaimpcnpifoidaaGreatDoor
set_option linter.unusedVariables false
set_option linter.unusedSimpArgs false
namespace Go.Proofs.YtaimpcnpifoidaaGreatDoor
open Go Go.RowKit Go.ChangeShapes Go.WideShapes Go.ChangeAt
set_option maxRecDepth 100000 in
theorem kst (os:Os) (started:os.Started) (H:Type) (enc:TypeId×Value→H):
  ReturnsInHanded {} Tryz.checked os 8 .any (fun w args=>(Rows.notationLinesSpec.pre enc Tryz.prog Tryz.f8 Rows.notationLinesRow.domain false w args∧laidMetH Tryz.prog Rows.notationLinesRow.laid w)∧sizedMet enc Tryz.prog Tryz.f8 (OpenSpec.ofChange Rows.notationLinesSpec) false w args) (Rows.notationLinesSpec.post enc Tryz.prog Tryz.f8 false true false false):=by
 refine kt6 (C:=Tryz.checked) (X:=fun w _=>laidMetH Tryz.prog ku2 w) (fun _ _ _ hh h=>h.of_heap hh) kabz started (by kernel_rfl) Tryz.func8
  (ChangeSpec.witness_at (enc:=enc) (C:=Tryz.checked) (os:=os) (X:=fun w _=>laidMetH Tryz.prog ku2 w) false (kyo os) #[.string ⟨#[]⟩] 8 rfl (by kernel_rfl) (by kernel_rfl) (by kernel_rfl) (by kernel_rfl) (by kernel_rfl) (kzw os _)) ?_
 intro W base args ds gs before hval0 hW hL hsh
 have hval:∀ (j:Nat) t v,Tryz.f8.params[j]?=some t→args[j]?=some v→Value.okWide Tryz.prog W .any base t v:=hval0
 have hW':=hW
 obtain ⟨p,q,hA0,hV,rfl,hfz,hnd⟩:=hW
 have hA:DataW.TrodAll enc Tryz.prog W 0 (fun _=>true) true Tryz.f8.params.toList args.toList ds p:=hA0
 rw [Tryz.params8] at hA hval
 obtain ⟨v0,vs0,d0,ds0,p0,q0,hargs,rfl,rfl,h0,r0⟩:=trodAll_cons hA
 obtain ⟨rfl,rfl,rfl⟩:=trodAll_nil r0
 obtain rfl:args=#[v0]:=by cases args;simp_all
 obtain ⟨rfl,rfl⟩:=trodVars_none hV
 obtain ⟨x0,e0,b0⟩:=kagg Tryz.underlying9 (hval 0 9 v0 rfl rfl) h0
 refine (k51 (args:=[eS x0]) (kk3 x0 true (kvc x0 b0)) rfl ?_ (kagn hL hsh)).mono fun e W' ⟨he,hg⟩=>?_
 ·intro i v x hv hx
  match i with
  | 0=>simp at hv hx;subst hv hx;exact e0
  | i+1=>simp at hv
 subst he
 exact ⟨_,rfl,kaau kab4 (by rw [Tryz.params8];intro t ht;simp at ht;rcases ht with rfl <;> exact ⟨by kernel_rfl,qad (by kernel_rfl)⟩) rfl Tryz.underlying4 rfl rfl hW' hg⟩
set_option maxHeartbeats 4000000 in
theorem krx:joinedFacts Tryz.checked.prog 8 Tryz.f8 Rows.notationLinesSpec Rows.notationLinesRow=true:=by
 unfold joinedFacts
 simp only [k50,kadi,kagz,kaf6,kad8,kadt,qv,Bool.and_true]
 repeat' apply And.intro
 all_goals (as_aux_lemma=>kernel_rfl)
theorem kte:Rows.NotationLinesSaid:=
 OpenClaim.holds_of_wide 8 Tryz.f8 rfl rfl rfl rfl rfl rfl rfl ⟨rfl,rfl,rfl,rfl,rfl⟩ rfl rfl rfl rfl rfl (by kernel_rfl) Tryz.func8 krx
  (qad (by kernel_rfl)) (by unfold Func.isWrapper;rw [if_neg (qal (by kernel_rfl))];exact ⟨rfl,rfl⟩)
  (fun os started H enc _=>kst os started H enc)
theorem notationLines_card_holds:Rows.NotationLinesCardSaid:=
 Claim7.holds_tied_plain_at .later [] [.data, .data, .data, .data, .pinned] true (true, "aad9bf91ff3f5c2232ad5298ebe3199df4dc9cce42722f6e274e8872ef87a7c0") true kte (fun _ h => by cases h) (by kernel_rfl) (fun _ h => by cases h) notationLines_row_tie rfl ⟨rfl, rfl⟩ (by kernel_rfl) rfl
  (fun f fn hf hfn=>by
   obtain rfl : f = 8 := qo ((show Tryz.prog.funcNamed "synthesis/synthesislaw14.NotationLines" = some 8 by kernel_rfl).symm.trans hf) |>.symm
   obtain rfl:fn=Tryz.f8:=(qo (Tryz.func8.symm.trans hfn)).symm
   exact ⟨by kernel_rfl,fun j t ht=>by
    rw [Tryz.params8] at ht
    match j with
    | 0=>obtain rfl:=qo ht;exact (show Tryz.prog.wantsStandIn 9=false by kernel_rfl)
    | j+1=>simp at ht⟩)
  (by kernel_rfl)
end Go.Proofs.YtaimpcnpifoidaaGreatDoor
