import Derived.Test.YtpcfkflhnkfjjaaGreatRows
import Derived.Test.YtpcfkflhnkfjjaaGreatMem
import Derived.ProofKit
import Derived.OpenShut
import Derived.JoinedCond
import Derived.Carry
import Derived.ChangeSame
set_option linter.all false
namespace Go.Proofs.YtpcfkflhnkfjjaaGreat
open Go Go.RowKit Go.ChangeShapes Go.WideShapes Go.ChangeAt
theorem k5x:ownKnob Tryz.prog.godebug=none:=by kernel_rfl
theorem k60:laidOutB Tryz.prog=true:=by kernel_rfl
section
variable {H:Type} {enc:TypeId×Value->H} {P:Program}
theorem krk (hl:laidOutB P=true) {W W':World} {sp:Nat->Bool} (e:Below W.heap.size W W'):∀ {ts:List TypeId} {vs:List Value} {ds:List (DataW H)} {ps:List MemPlace},
  (∀ t∈ts,P.readableRec t=true/\t<P.types.size)->DataW.TrodAll enc P W 0 (fun _=>true) true ts vs ds ps->(∀ x∈ps,x.block<W.heap.size)->(∀ x∈ps,sp x.block=true)->DataW.TrodAll enc P W' 0 sp true ts vs ds ps
 | [],vs,ds,ps,_,h,_,_=>by obtain ⟨rfl,rfl,rfl⟩:=trodAll_nil h;exact trodAll_mk0
 | t::ts,vs,ds,ps,ht,h,b,c=>by
  obtain ⟨v,vs',d,ds',p,q,rfl,rfl,rfl,h0,h1⟩:=trodAll_cons h;exact trodAll_cons_mk (WideElems.Trod_stays hl (ht t (by simp)).1 (ht t (by simp)).2 h0 (fun x a=>e.same (b x (by simp [a]))) (fun x a=>c x (by simp [a])))
   (krk hl e (fun t' f=>ht t' (by simp [f])) h1 (fun x a=>b x (by simp [a])) (fun x a=>c x (by simp [a])))
theorem k6t {f:Func} {s:ChangeSpec} {W W':World} {args:Array Value} {ds gs:List (DataW H)} {before:List MemPlace} {tb:TypeId}
  (hl:laidOutB P=true) (k:∀ t∈f.params.toList,P.readableRec t=true/\t<P.types.size) (a:s.vars=[]) (y:P.underlying tb=some .bool) (hr:f.resultTypes=#[tb])
  (c:s.fn H (ds++gs)={ results:=[.lit (.bool true)],args:=ds })
  (r:DataW.Whole enc P f.params.toList s.vars false W args.toList ds gs before) (u:Below W.heap.size W W'):
  s.post enc P f false true false false W args (.bool true) W':=by
 have e:=r;obtain ⟨p,q,hA,v,rfl,z,hn⟩:=r;have l:DataW.TrodVars enc P W (fun _=>true) [] gs q:=by rw [a] at v;exact v
 obtain ⟨rfl,rfl⟩:=trodVars_none l;have g:∀ x∈p,x.block<W.heap.size:=fun x d=>e.lt x (by simpa using d);have m:∀ sp:Nat->Bool,(∀ x∈p,sp x.block=true)->DataW.TrodAll enc P W' 0 sp true f.params.toList args.toList (s.fn H (ds++[])).args p:=fun sp n=>by rw [c];exact krk hl u k hA g n
 have o:∀ sp:Nat->Bool,DataW.TrodVars enc P W' sp s.vars (s.fn H (ds++[])).vars []:=fun sp=>by rw [a,c];rfl
 have i:∀ x∈p,(fun b=>decide (b<W.heap.size)) x.block=true:=fun x d=>by simpa using g x d
 have j:∀ (b:Nat) (sp:Nat->Bool) (w:Bool),DataW.TrodAll enc P W' b sp w f.resultTypes.toList ((Value.bool true).resultList f.resultTypes.size) (s.fn H (ds++[])).results []:=fun b sp w=>by rw [c,hr];exact trodAll_cons_mk (shut_bool y true) trodAll_mk0
 refine ⟨ds,[],p++[],[],p,[],e,j _ _ _,m _ i,o _,World.keptBut_mono (fun x d=>⟨d,?_⟩) (u.frame (·∈p++[])),fun h=>by cases h⟩;simp at d ⊢;exact d
variable {w:World} {base:Nat} {spare:Nat->Bool} {held:Bool}
theorem k1b {T:Type} {Q:Nat->T->Prop}:∀ n:Nat,(∀ i,i<n->∃ z,Q i z)->∃ xs:List T,xs.length=n/\∀ (i:Nat) (z:T),xs[i]?=some z->Q i z
 | 0,_=>⟨[],rfl,fun i z h=>by simp at h⟩
 | n+1,h=>by
  obtain ⟨xs,hl,b⟩:=k1b (Q:=Q) n fun i hi=>h i (by omega);obtain ⟨z,c⟩:=h n (by omega);refine ⟨xs++[z],by simp [hl],fun i y a=>?_⟩;by_cases hi:i<n;rw [q9 (by omega)] at a;exact b i y a
  ·rw [qai (by omega)] at a;have:i=n:=(by have:=(qj.1 a).1;simp at this;omega);subst this;simp [hl] at a;subst a;exact c
theorem kp9 {T:Type} {R:List Value->T->Prop} {t e:TypeId} {size fuel:Nat} {cs:List Value} {x:DataW H×List MemPlace} (ht:P.underlying t=some (.slice e)) (D:P.cellsOf e=size) (d:0<size)
  (h:DataW.trod enc P w base spare held fuel t cs=some x) (p:∀ n cs' y,n<fuel->DataW.trod enc P w base spare held n e cs'=some y->∃ z,R cs' z):
  ∃ v xs,cs=[v]/\RepSl Any w size R v xs:=by
 rcases DataW.trod_slice ht h with ⟨rfl,_⟩ | ⟨a,len,cap,elems,rest,n,E,rfl,_,_,F,f,A,g,_⟩;exact ⟨_,[],rfl,RepSl.nil (by omega)⟩
 ·have each:∀ i,i<len->∃ cs' z,R cs' z/\cs'.length=size/\∀ j,j<size->w.cell? ((a.add (i*size)).add j)=cs'[j]?:=fun i hi=>by have h1:=g i hi;have q:elems[i]?=some elems[i]:=qb (by omega);rw [q,D] at h1;obtain ⟨cs',hc,r⟩:=qd.1 h1;obtain ⟨_,hl,c⟩:=World.cells?_some hc;obtain ⟨z,m⟩:=p n cs' _ (by omega) r;exact ⟨cs',z,m,hl,c⟩
  obtain ⟨xs,s,B⟩:=k1b (Q:=fun i z=>∃ cs',R cs' z/\cs'.length=size/\∀ j,j<size->w.cell? ((a.add (i*size)).add j)=cs'[j]?) len (fun i hi=>by obtain ⟨cs',z,h⟩:=each i hi;exact ⟨z,cs',h⟩);refine ⟨_,xs,rfl,some a,cap,by rw [s],by omega,by unfold maxLen at f;exact f,fun i z m=>?_⟩;obtain ⟨cs',hr,hl,c⟩:=B i z m;have k:a.spot=none:=by
   have h0:0<xs.length:=(by have:=(qj.1 m).1;omega);obtain ⟨cs0,_,G,l⟩:=B 0 _ (qb h0);have h1:=l 0 d;simp only [Nat.zero_mul,Addr.add,if_true] at h1;rw [qb (by omega)] at h1;unfold World.cell? at h1;split at h1
   ·split at h1;cases h1
    ·rename_i hs;simpa using hs
   ·cases h1
  obtain ⟨b,o,sp⟩:=a;simp only at k;subst k;refine ⟨b,o,cs',rfl,trivial,fun j u C=>?_,hl,hr⟩;have I:j<size:=by have:=(qj.1 C).1;omega
  rw [<- C,<- c j I];congr 1;unfold Addr.add;by_cases h1:i*size=0 <;> by_cases q:j=0 <;> simp [h1,q,Nat.add_assoc]
end
end Go.Proofs.YtpcfkflhnkfjjaaGreat
