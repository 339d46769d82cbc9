import Derived.Test.YtpnnpkmjohkgiaaGreatDoorRel
import Derived.Maps.AppendAt
import Derived.Deep.AppendLies
import Derived.ChangeMaps5
import Derived.JoinedOf
import Derived.Test.YtpnnpkmjohkgiaaGreatDoorRows
import Derived.ProofKit
import Derived.OpenShut
import Derived.JoinedCond
import Derived.Carry
import Derived.ChangeSame
set_option linter.all false
namespace Go.Proofs.YtpnnpkmjohkgiaaGreatDoor
open Go Go.RowKit
def kgf (n:Int):Prop := -9223372036854775808<=n/\n<=9223372036854775807
def At (w:World) (b o:Nat) (cs:List Value):Prop:=∀ j u,cs[j]?=some u->w.cell? ⟨b,o+j,none⟩=some u
def Same (S:Nat->Prop) (w w':World):Prop:=∀ b,S b->b<w.heap.size->w'.heap[b]?=w.heap[b]?
abbrev Grow (w w':World):Prop:=Below w.heap.size w w'
theorem Below.step {a b c:World} (h:Grow a b) (k:Grow b c):Grow a c:=Below.trans h (k.mono h.size)
theorem ka8 (w:World) (o:Obj):Grow w (w.alloc o):=(Below.refl _ _).alloc (qx _) _
theorem ktx (w:World):Grow w w.drew:=(Below.refl _ _).drew
theorem kag (w:World):Grow w w:=Below.refl _ _
section
variable {T:Type} {S S':Nat->Prop} {w w' w'':World} {b o:Nat} {cs:List Value}
theorem knq {w:World} {a:Addr} {u:Value} (h:w.cell? a=some u):a.block<w.heap.size:=by
 rcases qam a.block w.heap.size with b | b;exact b
 ·simp [World.cell?,Array.getElem?_eq_none b] at h
theorem Same.of_grow (h:Grow w w'):Same S w w':=fun b _ a=>h.block b a
theorem At.keep (h:At w b o cs) (hS:S b) (hk:Same S w w'):At w' b o cs:=fun j u a=>by
 have h1:=h j u a;rw [World.cell?_of_block (w:=w)];exact h1
 ·exact hk b hS (knq h1)
def RepSl (S:Nat->Prop) (w:World) (size:Nat) (R:List Value->T->Prop) (v:Value) (xs:List T):Prop:=
 ∃ A cap,v = .slice A xs.length cap/\xs.length<=cap/\cap<=9223372036854775807 /\
  ∀ (i:Nat) (x:T),xs[i]?=some x->∃ b o cs,A=some ⟨b,o,none⟩/\S b/\At w b (o+i*size) cs/\cs.length=size/\R cs x
theorem RepSl.nil {size cap:Nat} {R:List Value->T->Prop} {A:Option Addr} (hc:cap<=9223372036854775807):RepSl S w size R (.slice A 0 cap) []:=
 ⟨A,cap,rfl,by simp,hc,fun i x h=>by simp at h⟩
def Any:Nat->Prop:=fun _=>True
def IntR (cs:List Value) (n:Int):Prop:=cs=[.int .i64 n]/\kgf n
def Ints (S:Nat->Prop) (w:World) (v:Value) (ns:List Int):Prop:=RepSl S w 1 IntR v ns
structure Kept (size:Nat) (R:(Nat->Prop)->World->List Value->T->Prop):Prop where
 pos:0<size
 keep:∀ {S w w' cs x},R S w cs x->Same S w w'->R S w' cs x
 mono:∀ {S S':Nat->Prop} {w cs x},R S w cs x->(∀ b,S b->S' b)->R S' w cs x
 bound:∀ {S w cs x},R S w cs x->R (fun b=>S b/\b<w.heap.size) w cs x
 len:∀ {S w cs x},R S w cs x->cs.length=size
 one:∀ {S w cs x},R S w cs x->∀ u∈cs,u.oneCell'=true
variable {D:Nat->Prop} {lo:Nat} {e:TypeId} {size:Nat} {R:(Nat->Prop)->World->List Value->T->Prop} {v:Value} {xs:List T}
theorem krc {b:Nat} {Q:List Value->T->Prop}:∀ (ys:List T) (o:Nat),(∀ (i:Nat) (y:T),ys[i]?=some y->∃ cs,At w b (o+i*size) cs/\cs.length=size/\Q cs y) ->
  ∃ news:List Value,news.length=ys.length*size/\At w b o news/\∀ (i:Nat) (y:T),ys[i]?=some y->Q ((news.drop (i*size)).take size) y
 | [],o,_=>⟨[],by simp,fun j u h=>by simp at h,fun i y h=>by simp at h⟩
 | y::ys,o,h=>by
  obtain ⟨cs,e,hl,g⟩:=h 0 y rfl;obtain ⟨news,hn,a,f⟩:=krc (b:=b) (Q:=Q) ys (o+size) fun i z c=>by
   have:=h (i+1) z (by simpa using c)
   rwa [show o+(i+1)*size=o+size+i*size by rw [qa1];omega] at this
  refine ⟨cs++news,by simp [hl,hn,qa1];omega,fun j u d=>?_,fun i z c=>?_⟩
  ·by_cases k:j<size;rw [qaa (by omega)] at d;have:=e j u d;simpa using this
   ·rw [qae (by omega),hl] at d;have:=a _ u d
    rwa [show o+size+(j - size)=o+j by omega] at this
  ·cases i with
   | zero=>
    simp at c;subst c;simp only [Nat.zero_mul,List.drop_zero];rw [List.take_append_of_le_length (by omega),List.take_of_length_le (by omega)];exact g
   | succ i=>
    have:=f i z (by simpa using c);rw [show (i+1)*size=cs.length+i*size by rw [hl,qa1];omega,<- List.drop_drop,List.drop_left];exact this
theorem klh {P:Program} (lo:Nat) (t ty e:TypeId) (i:TypeInfo) (size:Nat) (ht:P.underlying t=some (.slice e)) (hi:P.info? e=some i)
  (v:Value) (n:Nat) (xs:List Value) (a:w.ownsRow lo e size v n xs) (c:Nat):(Builtin.append_ #[t,t] ty #[v, .slice none 0 c]).run P w = .ok v w:=by
 rcases a.2 with ⟨rfl,rfl⟩ | ⟨g,cap,cur,rfl,_,_,b,_⟩;simp [Builtin.append_,run_underlying ht,sizeOf,typeInfo,hi,Builtin.lenOf,Builtin.firstCells]
 ·simp [Builtin.append_,run_underlying ht,sizeOf,typeInfo,hi,Builtin.lenOf,Builtin.firstCells,b,storeCells]
end
set_option maxRecDepth 100000
open Go Go.RowKit Go.ChangeShapes Go.WideShapes
theorem kza:Tryz.checked.prog.liftsFinal=false:=by as_aux_lemma=>kernel_rfl
open Go Go.RowKit Go.ChangeShapes Go.WideShapes Go.ChangeAt
theorem kv4:ownKnob Tryz.prog.godebug=none:=by kernel_rfl
theorem kw3:laidOutB Tryz.prog=true:=by kernel_rfl
section
variable {H:Type} {enc:TypeId×Value->H} {P:Program}
theorem kjy (hl:laidOutB P=true) {W W':World} {sp:Nat->Bool} (e:Below W.heap.size W W'):∀ {ts:List TypeId} {vs:List Value} {ds:List (DataW H)} {ps:List MemPlace},
  (∀ t∈ts,P.readableRec t=true/\t<P.types.size)->DataW.TrodAll enc P W 0 (fun _=>true) true ts vs ds ps->(∀ x∈ps,x.block<W.heap.size)->(∀ x∈ps,sp x.block=true)->DataW.TrodAll enc P W' 0 sp true ts vs ds ps
 | [],vs,ds,ps,_,h,_,_=>by obtain ⟨rfl,rfl,rfl⟩:=trodAll_nil h;exact trodAll_mk0
 | t::ts,vs,ds,ps,ht,h,b,c=>by
  obtain ⟨v,vs',d,ds',p,q,rfl,rfl,rfl,h0,h1⟩:=trodAll_cons h;exact trodAll_cons_mk (WideElems.Trod_stays hl (ht t (by simp)).1 (ht t (by simp)).2 h0 (fun x a=>e.same (b x (by simp [a]))) (fun x a=>c x (by simp [a])))
   (kjy hl e (fun t' f=>ht t' (by simp [f])) h1 (fun x a=>b x (by simp [a])) (fun x a=>c x (by simp [a])))
theorem kwz {f:Func} {s:ChangeSpec} {W W':World} {args:Array Value} {ds gs:List (DataW H)} {before:List MemPlace} {tb:TypeId}
  (hl:laidOutB P=true) (k:∀ t∈f.params.toList,P.readableRec t=true/\t<P.types.size) (a:s.vars=[]) (y:P.underlying tb=some .bool) (hr:f.resultTypes=#[tb])
  (c:s.fn H (ds++gs)={ results:=[.lit (.bool true)],args:=ds })
  (r:DataW.Whole enc P f.params.toList s.vars false W args.toList ds gs before) (u:Below W.heap.size W W'):
  s.post enc P f false true false false W args (.bool true) W':=by
 have e:=r;obtain ⟨p,q,hA,v,rfl,z,hn⟩:=r;have l:DataW.TrodVars enc P W (fun _=>true) [] gs q:=by rw [a] at v;exact v
 obtain ⟨rfl,rfl⟩:=trodVars_none l;have g:∀ x∈p,x.block<W.heap.size:=fun x d=>e.lt x (by simpa using d);have m:∀ sp:Nat->Bool,(∀ x∈p,sp x.block=true)->DataW.TrodAll enc P W' 0 sp true f.params.toList args.toList (s.fn H (ds++[])).args p:=fun sp n=>by rw [c];exact kjy hl u k hA g n
 have o:∀ sp:Nat->Bool,DataW.TrodVars enc P W' sp s.vars (s.fn H (ds++[])).vars []:=fun sp=>by rw [a,c];rfl
 have i:∀ x∈p,(fun b=>decide (b<W.heap.size)) x.block=true:=fun x d=>by simpa using g x d
 have j:∀ (b:Nat) (sp:Nat->Bool) (w:Bool),DataW.TrodAll enc P W' b sp w f.resultTypes.toList ((Value.bool true).resultList f.resultTypes.size) (s.fn H (ds++[])).results []:=fun b sp w=>by rw [c,hr];exact trodAll_cons_mk (shut_bool y true) trodAll_mk0
 refine ⟨ds,[],p++[],[],p,[],e,j _ _ _,m _ i,o _,World.keptBut_mono (fun x d=>⟨d,?_⟩) (u.frame (·∈p++[])),fun h=>by cases h⟩;simp at d ⊢;exact d
variable {w:World} {base:Nat} {spare:Nat->Bool} {held:Bool}
theorem kno {T:Type} {Q:Nat->T->Prop}:∀ n:Nat,(∀ i,i<n->∃ z,Q i z)->∃ xs:List T,xs.length=n/\∀ (i:Nat) (z:T),xs[i]?=some z->Q i z
 | 0,_=>⟨[],rfl,fun i z h=>by simp at h⟩
 | n+1,h=>by
  obtain ⟨xs,hl,a⟩:=kno (Q:=Q) n fun i hi=>h i (by omega);obtain ⟨z,b⟩:=h n (by omega);refine ⟨xs++[z],by simp [hl],fun i y hy=>?_⟩;by_cases hi:i<n;rw [qaa (by omega)] at hy;exact a i y hy
  ·rw [qae (by omega)] at hy;have:i=n:=(by have:=(qd.1 hy).1;simp at this;omega);subst this;simp [hl] at hy;subst hy;exact b
theorem kz5 {T:Type} {R:List Value->T->Prop} {t e:TypeId} {size fuel:Nat} {cs:List Value} {x:DataW H×List MemPlace} (ht:P.underlying t=some (.slice e)) (D:P.cellsOf e=size) (d:0<size)
  (h:DataW.trod enc P w base spare held fuel t cs=some x) (p:∀ n cs' y,n<fuel->DataW.trod enc P w base spare held n e cs'=some y->∃ z,R cs' z):
  ∃ v xs,cs=[v]/\RepSl Any w size R v xs:=by
 rcases DataW.trod_slice ht h with ⟨rfl,_⟩ | ⟨a,len,cap,elems,rest,n,E,rfl,_,_,F,f,A,g,_⟩;exact ⟨_,[],rfl,RepSl.nil (by omega)⟩
 ·have each:∀ i,i<len->∃ cs' z,R cs' z/\cs'.length=size/\∀ j,j<size->w.cell? ((a.add (i*size)).add j)=cs'[j]?:=fun i hi=>by have h1:=g i hi;have q:elems[i]?=some elems[i]:=qa (by omega);rw [q,D] at h1;obtain ⟨cs',hc,r⟩:=qw.1 h1;obtain ⟨_,hl,c⟩:=World.cells?_some hc;obtain ⟨z,m⟩:=p n cs' _ (by omega) r;exact ⟨cs',z,m,hl,c⟩
  obtain ⟨xs,s,B⟩:=kno (Q:=fun i z=>∃ cs',R cs' z/\cs'.length=size/\∀ j,j<size->w.cell? ((a.add (i*size)).add j)=cs'[j]?) len (fun i hi=>by obtain ⟨cs',z,h⟩:=each i hi;exact ⟨z,cs',h⟩);refine ⟨_,xs,rfl,some a,cap,by rw [s],by omega,by unfold maxLen at f;exact f,fun i z m=>?_⟩;obtain ⟨cs',hr,hl,c⟩:=B i z m;have k:a.spot=none:=by
   have h0:0<xs.length:=(by have:=(qd.1 m).1;omega);obtain ⟨cs0,_,G,l⟩:=B 0 _ (qa h0);have h1:=l 0 d;simp only [Nat.zero_mul,Addr.add,if_true] at h1;rw [qa (by omega)] at h1;unfold World.cell? at h1;split at h1
   ·split at h1;cases h1
    ·rename_i hs;simpa using hs
   ·cases h1
  obtain ⟨b,o,sp⟩:=a;simp only at k;subst k;refine ⟨b,o,cs',rfl,trivial,fun j u C=>?_,hl,hr⟩;have I:j<size:=by have:=(qd.1 C).1;omega
  rw [<- C,<- c j I];congr 1;unfold Addr.add;by_cases h1:i*size=0 <;> by_cases q:j=0 <;> simp [h1,q,Nat.add_assoc]
end
end Go.Proofs.YtpnnpkmjohkgiaaGreatDoor
