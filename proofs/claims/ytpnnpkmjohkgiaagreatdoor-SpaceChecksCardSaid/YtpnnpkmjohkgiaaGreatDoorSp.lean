import Derived.Test.YtpnnpkmjohkgiaaGreatDoorLaw
import Derived.Test.YtpnnpkmjohkgiaaGreatDoorFin
import Derived.Deep.Fields
import Derived.Test.YtpnnpkmjohkgiaaGreatDoorGu
import Derived.Test.YtpnnpkmjohkgiaaGreatDoorZE
set_option linter.all false
set_option maxRecDepth 100000
namespace Go.Proofs.YtpnnpkmjohkgiaaGreatDoor
open Go Go.RowKit Go.ChangeShapes Go.WideShapes Go.ChangeAt Go.Proofs.Tryz
theorem kqq {n:Int} (h:(Lit.int .i64 n).wf=true):kf0 n:=by simpa [Lit.wf,IntKind.min,IntKind.max,IntKind.signed,IntKind.bits,kf0] using h
section
variable {H:Type} {enc:TypeId×Value->H} {w:World} {base:Nat} {spare:Nat->Bool} {held:Bool}
theorem cells_ty:prog.cellsOf 3=1/\prog.cellsOf 2=1/\prog.cellsOf 9=1/\prog.cellsOf 22=1/\prog.cellsOf 59=1/\prog.cellsOf 23=1/\prog.cellsOf 24=1 /\
  prog.cellsOf 61=4/\prog.cellsOf 113=2/\prog.cellsOf 63=9/\prog.cellsOf 26=4:=⟨by kernel_rfl,by kernel_rfl,by kernel_rfl,by kernel_rfl,by kernel_rfl,by kernel_rfl,by kernel_rfl,by kernel_rfl,by kernel_rfl,by kernel_rfl,by kernel_rfl⟩
theorem kmj {fuel:Nat} {cs:List Value} {x:DataW H×List MemPlace} (h:DataW.trod enc prog w base spare held fuel 9 cs=some x):∃ s,cs=[.string s]/\kmb s:=by obtain ⟨s,hs,_,hl⟩:=DataW.trod_string underlying9 h;exact ⟨s,hs,by unfold maxLen at hl;exact hl⟩
theorem kfy {fuel:Nat} {cs:List Value} {x:DataW H×List MemPlace} (h:DataW.trod enc prog w base spare held fuel 3 cs=some x):∃ n,cs=[.int .i64 n]/\kf0 n:=by obtain ⟨n,hn,_,a⟩:=DataW.trod_int underlying3 h;exact ⟨n,hn,kqq a⟩
theorem kzm {fuel:Nat} {cs:List Value} {x:DataW H×List MemPlace} (h:DataW.trod enc prog w base spare held fuel 2 cs=some x):∃ n,cs=[.int .i64 n]/\kf0 n:=by obtain ⟨n,hn,_,a⟩:=DataW.trod_int underlying2 h;exact ⟨n,hn,kqq a⟩
theorem kp4 {fuel:Nat} {cs:List Value} {x:DataW H×List MemPlace} (h:DataW.trod enc prog w base spare held fuel 22 cs=some x):∃ v ns,cs=[v]/\Ints Any w v ns:=
 kol (R:=IntR) (size:=1) underlying22 cells_ty.1 (by omega) h fun n cs' y _ hy=>by obtain ⟨k,h1,a⟩:=kfy hy;exact ⟨k,h1,a⟩
theorem kwe:∀ (fuel:Nat) (cs:List Value) (x:DataW H×List MemPlace),DataW.trod enc prog w base spare held fuel 61 cs=some x->∃ t,RepVa Any w cs t:=by
 obtain ⟨z1,z2,z3,z4,z5,z6,z7,z8,z9,z10,z11⟩:=cells_ty;intro fuel
 induction fuel using Nat.strongRecOn with
 | _ fuel ih=>
  intro cs x h;obtain ⟨xs,n,f,_,a,c,b⟩:=DataW.trod_struct underlying61 h;rw [z8] at a
  match cs,a with
  | [c0,c1,c2,c3],_=>
   have h0:=b 0 _ rfl;have h1:=b 1 _ rfl;have d:=b 2 _ rfl;have e:=b 3 _ rfl;rw [qa (by rw [c];decide)] at h0 h1 d e;obtain ⟨t,e0,ht⟩:=kfy h0;obtain ⟨m,e1,hm⟩:=kzm h1;obtain ⟨s,e2,hs⟩:=kmj d;obtain ⟨v,ts,e3,g⟩:=kol (R:=RepVa Any w) (size:=4) underlying59 z8 (by omega) e fun k cs' y hk hy=>ih k (by omega) cs' y hy;simp [z1,z2,z3,z4,z5,z6,z7,z8] at e0 e1 e2 e3;subst e0 e1 e2 e3;exact ⟨.mk t m s ts,RepVa.of ht hm hs g⟩
theorem ku5 {fuel:Nat} {cs:List Value} {x:DataW H×List MemPlace} (h:DataW.trod enc prog w base spare held fuel 113 cs=some x):∃ t,ksy Any w cs t:=by
 obtain ⟨z1,z2,z3,z4,z5,z6,z7,z8,z9,z10,z11⟩:=cells_ty;obtain ⟨xs,n,d,_,a,b,c⟩:=DataW.trod_struct underlying113 h;rw [z9] at a
 match cs,a with
 | [c0,c1],_=>
  have h0:=c 0 _ rfl;have h1:=c 1 _ rfl;rw [qa (by rw [b];decide)] at h0 h1;obtain ⟨s,e0,hs⟩:=kmj h0;obtain ⟨t,e1,ht⟩:=kfy h1;simp [z1,z2,z3,z4,z5,z6,z7,z8] at e0 e1;subst e0 e1;exact ⟨⟨s,t⟩,rfl,hs,ht⟩
theorem kzh {fuel:Nat} {cs:List Value} {x:DataW H×List MemPlace} (h:DataW.trod enc prog w base spare held fuel 63 cs=some x):∃ t,kss Any w cs t:=by
 obtain ⟨z1,z2,z3,z4,z5,z6,z7,z8,z9,z10,z11⟩:=cells_ty;obtain ⟨xs,n,m,_,d,f,e⟩:=DataW.trod_struct underlying63 h;rw [z10] at d
 match cs,d with
 | [c0,c1,c2,c3,c4,c5,c6,c7,c8],_=>
  have h0:=e 0 _ rfl;have h1:=e 1 _ rfl;have i:=e 2 _ rfl;have j:=e 3 _ rfl;have k:=e 4 _ rfl;have l:=e 5 _ rfl;rw [qa (by rw [f];decide)] at h0 h1 i j k l;obtain ⟨a,e0,ha⟩:=kfy h0;obtain ⟨b,e1,o⟩:=kfy h1;obtain ⟨c,e2,hc⟩:=kfy i;obtain ⟨v,hv⟩:=kwe _ _ _ j;obtain ⟨s,e4,hs⟩:=kmj k;obtain ⟨u,ns,e5,g⟩:=kp4 l;simp [z1,z2,z3,z4,z5,z6,z7,z8] at e0 e1 e2 e4 e5 hv;subst e0 e1 e2 e4 e5;exact ⟨⟨a,b,c,v,s,ns⟩,c3,c4,c5,c6,_,rfl,ha,o,hc,hs,hv,g⟩
theorem kso {fuel:Nat} {cs:List Value} {x:DataW H×List MemPlace} (h:DataW.trod enc prog w base spare held fuel 26 cs=some x):∃ t,k3v Any w cs t:=by
 obtain ⟨z1,z2,z3,z4,z5,z6,z7,z8,z9,z10,z11⟩:=cells_ty;obtain ⟨xs,n,j,_,a,c,b⟩:=DataW.trod_struct underlying26 h;rw [z11] at a
 match cs,a with
 | [c0,c1,c2,c3],_=>
  have h0:=b 0 _ rfl;have h1:=b 1 _ rfl;have g:=b 2 _ rfl;have i:=b 3 _ rfl;rw [qa (by rw [c];decide)] at h0 h1 g i;obtain ⟨s,e0,hs⟩:=kmj h0;obtain ⟨v1,n1,e1,d⟩:=kp4 h1;obtain ⟨v2,n2,e2,e⟩:=kol (R:=ksy Any w) (size:=2) underlying23 z9 (by omega) g fun k cs' y hk hy=>ku5 hy;obtain ⟨v3,n3,e3,f⟩:=kol (R:=kss Any w) (size:=9) underlying24 z10 (by omega) i fun k cs' y hk hy=>kzh hy;simp [z1,z2,z3,z4,z5,z6,z7,z8] at e0 e1 e2 e3;subst e0 e1 e2 e3;exact ⟨⟨s,n1,n2,n3⟩,_,_,_,rfl,hs,d,e,f⟩
theorem kre {r:Reach} {b0:Nat} {v:Value} {d:DataW H} {p:List MemPlace} (hv:Value.okWide prog w r b0 26 v) (h:DataW.Trod enc prog w base spare held 26 v d p):∃ t,LaV Any w v t:=by obtain ⟨cs,rfl,a⟩:=okWide_struct underlying26 hv;obtain ⟨fuel,b⟩:=h;obtain ⟨t,ht⟩:=kso b;exact ⟨t,cs.toList,by simp,by simpa [Value.cells] using ht⟩
end
section
variable {H:Type} {enc:TypeId×Value->H} {w:World} {base:Nat} {spare:Nat->Bool} {held:Bool}
end
section
variable {w:World}
def CRw (w:World) (cs:List Value) (x:FV) (size:Nat):Prop:=x.cells.length=size/\(∀ y∈x.cells,y.single=true)/\∀ (j:Nat) (u:Value) (y:FV),cs[j]?=some u->x.cells[j]?=some y->RF Any w u y
theorem kiu {cs:List Value} {xs:List FV} (hl:cs.length=xs.length) (h:∀ (j:Nat) (y:FV),xs[j]?=some y->y.single=true/\∀ u,cs[j]?=some u->RF Any w u y):CRw w cs (.agg xs) xs.length:=by refine ⟨rfl,fun y hy=>?_,fun j u y a hy=>(h j y hy).2 u a⟩;obtain ⟨j,b⟩:=qaj.1 hy;exact (h j y b).1
theorem knx {v:Value} {ns:List Int} (h:Ints Any w v ns):RF Any w v (eL 1 eI ns):=
 kmy (R:=IntR) (by omega) h fun cs x _ a=>k7f a.1 rfl
theorem k3p:∀ (x:Va) (cs:List Value),RepVa Any w cs x->CRw w cs (eVaR x) 4/\inV x:=by
 refine Va.ind fun t n s l ih=>?_;intro cs h;obtain ⟨v,rfl,ht,hn,hs,hv⟩:=h.form;have d:RF Any w v (.lst 4 l.length (kmn l)):=by have:=kmy (ec:=eVaR) (size:=4) (by omega) hv fun cs x c hr=>(ih x c cs hr).1;rw [kpf];have f:eL 4 eVaR l = .lst 4 l.length (l.map eVaR):=rfl;rw [<- f];exact this
 refine ⟨kiu (xs:=[eI t,eI n,eS s, .lst 4 l.length (kmn l)]) rfl fun j y hy=>?_,?_⟩
 ·match j with
  | 0=>simp at hy;subst hy;exact ⟨rfl,fun u a=>by simp at a;subst a;exact .atom rfl⟩
  | 1=>simp at hy;subst hy;exact ⟨rfl,fun u a=>by simp at a;subst a;exact .atom rfl⟩
  | 2=>simp at hy;subst hy;exact ⟨rfl,fun u a=>by simp at a;subst a;exact .atom rfl⟩
  | 3=>simp at hy;subst hy;exact ⟨rfl,fun u a=>by simp at a;subst a;exact d⟩
  | j+4=>simp at hy
 ·obtain ⟨A,cap,_,h1,k,g⟩:=hv;have all:∀ x∈l,inV x:=fun x c=>by obtain ⟨i,hi⟩:=qaj.1 c;obtain ⟨b,o,cs,_,_,_,_,hr⟩:=g i x hi;exact (ih x c cs hr).2
  have gen:∀ l:List Va,(∀ x∈l,inV x)->kqf 9223372036854775807 l/\kn6 l:=fun l=>by
   induction l with
   | nil=>exact fun _=>⟨trivial,trivial⟩
   | cons y l ih=>exact fun h=>⟨⟨(h y (q9 ..)).1,(ih fun z e=>h z (qu _ e)).1⟩,(h y (q9 ..)).2,(ih fun z e=>h z (qu _ e)).2⟩
  obtain ⟨g1,g2⟩:=gen l all;exact ⟨⟨by omega,g1⟩,hs,g2⟩
theorem sy_cr {cs:List Value} {x:Sy} (h:ksy Any w cs x):CRw w cs (eSy x) 2:=by
 obtain ⟨rfl,hs,ht⟩:=h;refine kiu (xs:=[eS x.name,eI x.type]) rfl fun j y hy=>?_
 match j with
 | 0=>simp at hy;subst hy;exact ⟨rfl,fun u a=>by simp at a;subst a;exact .atom rfl⟩
 | 1=>simp at hy;subst hy;exact ⟨rfl,fun u a=>by simp at a;subst a;exact .atom rfl⟩
 | j+2=>simp at hy
theorem k3o {cs:List Value} {x:Ru} (h:kss Any w cs x):CRw w cs (eRu x) 9/\kqj x:=by
 obtain ⟨c0,c1,c2,c3,v,rfl,h1,g,i,m,e,f⟩:=h;obtain ⟨k,kw⟩:=k3p _ _ e;obtain ⟨sy,kd,inp,c,op,ar⟩:=x;obtain ⟨t,n,s,l⟩:=c;obtain ⟨v',b,ht,hn,hs,hv⟩:=e.form;simp only [List.cons.injEq,and_true] at b;obtain ⟨rfl,rfl,rfl,rfl⟩:=b;have d:RF Any w c3 (eL 4 eVaR l):=kmy (ec:=eVaR) (size:=4) (by omega) hv fun cs x o hr=>(k3p x cs hr).1;refine ⟨kiu (xs:=[eI sy,eI kd,eI inp,eI t,eI n,eS s,eL 4 eVaR l,eS op,eL 1 eI ar]) rfl fun j y hy=>?_,(by obtain ⟨A,cap,_,q1,q2,_⟩:=f;exact qap q1 q2),kw⟩
 match j with
 | 0=>simp at hy;subst hy;exact ⟨rfl,fun u a=>by simp at a;subst a;exact .atom rfl⟩
 | 1=>simp at hy;subst hy;exact ⟨rfl,fun u a=>by simp at a;subst a;exact .atom rfl⟩
 | 2=>simp at hy;subst hy;exact ⟨rfl,fun u a=>by simp at a;subst a;exact .atom rfl⟩
 | 3=>simp at hy;subst hy;exact ⟨rfl,fun u a=>by simp at a;subst a;exact .atom rfl⟩
 | 4=>simp at hy;subst hy;exact ⟨rfl,fun u a=>by simp at a;subst a;exact .atom rfl⟩
 | 5=>simp at hy;subst hy;exact ⟨rfl,fun u a=>by simp at a;subst a;exact .atom rfl⟩
 | 6=>simp at hy;subst hy;exact ⟨rfl,fun u a=>by simp at a;subst a;exact d⟩
 | 7=>simp at hy;subst hy;exact ⟨rfl,fun u a=>by simp at a;subst a;exact .atom rfl⟩
 | 8=>simp at hy;subst hy;exact ⟨rfl,fun u a=>by simp at a;subst a;exact knx f⟩
 | j+9=>simp at hy
theorem kzz {cs:List Value} {xs:List FV} (hl:cs.length=xs.length) (h:CRw w cs (.agg xs) xs.length):RF Any w (.agg cs.toArray) (.agg xs):=
 .agg (by simpa using hl) (fun x a=>h.2.1 x a) fun i v x hv a=>h.2.2 i v x (by simpa using hv) a
theorem la_rf {v:Value} {x:La} (h:LaV Any w v x):RF Any w v (eLa x)/\koo x:=by
 obtain ⟨cs,rfl,v1,v2,v3,rfl,hn,h1,c,d⟩:=h;have r1:=knx h1;have r2:RF Any w v2 (eL 2 eSy x.symbols):=kmy (ec:=eSy) (size:=2) (by omega) c fun cs x _ hr=>sy_cr hr;have r3:RF Any w v3 (eL 9 eRu x.rules):=kmy (ec:=eRu) (size:=9) (by omega) d fun cs x _ hr=>(k3o hr).1;refine ⟨kzz (xs:=[eS x.name,eL 1 eI x.inputs,eL 2 eSy x.symbols,eL 9 eRu x.rules]) rfl (kiu rfl fun j y hy=>?_),?_⟩
 ·match j with
  | 0=>simp at hy;subst hy;exact ⟨rfl,fun u a=>by simp at a;subst a;exact .atom rfl⟩
  | 1=>simp at hy;subst hy;exact ⟨rfl,fun u a=>by simp at a;subst a;exact r1⟩
  | 2=>simp at hy;subst hy;exact ⟨rfl,fun u a=>by simp at a;subst a;exact r2⟩
  | 3=>simp at hy;subst hy;exact ⟨rfl,fun u a=>by simp at a;subst a;exact r3⟩
  | j+4=>simp at hy
 ·refine ⟨hn,?_,?_,?_,fun y hy=>?_,fun r hr=>?_⟩;obtain ⟨A,cap,_,q1,q2,_⟩:=h1;exact qap q1 q2;obtain ⟨A,cap,_,q1,q2,_⟩:=c;exact qap q1 q2;obtain ⟨A,cap,_,q1,q2,_⟩:=d;exact qap q1 q2;obtain ⟨A,cap,_,_,_,e⟩:=c;obtain ⟨i,hi⟩:=qaj.1 hy;obtain ⟨b,o,cs,_,_,_,_,f⟩:=e i y hi;exact f.2.1
  ·obtain ⟨A,cap,_,_,_,e⟩:=d;obtain ⟨i,hi⟩:=qaj.1 hr;obtain ⟨b,o,cs,_,_,_,_,f⟩:=e i r hi;exact (k3o f).2
end
section
variable {H:Type} {enc:TypeId×Value->H} {w:World} {base:Nat} {spare:Nat->Bool} {held:Bool}
theorem in_La {r:Reach} {b0:Nat} {v:Value} {d:DataW H} {p:List MemPlace} (hv:Value.okWide prog w r b0 26 v) (h:DataW.Trod enc prog w base spare held 26 v d p):∃ x,RF Any w v (eLa x)/\koo x:=by obtain ⟨x,a⟩:=kre hv h;exact ⟨x,la_rf a⟩
end
section
variable {H:Type} {enc:TypeId×Value->H} {P:Program} {w:World} {base:Nat} {spare:Nat->Bool} {held:Bool}
def Wt (P:Program) (t:TypeId) (d:DataW H):Prop:=∀ k∈DataW.weights P t d,k<=140737488351232
theorem kyt {e:TypeId}:∀ {ds:List (DataW H)},(∀ k∈DataW.weightsAll P e ds,k<=140737488351232)->∀ d∈ds,Wt P e d
 | [],_,d,a=>by cases a
 | x::ds,h,d,a=>by
  simp only [DataW.weightsAll,qao] at h;rcases qaw.1 a with rfl | a;exact fun k hk=>h k (.inl hk)
  ·exact kyt (fun k hk=>h k (.inr hk)) d a
theorem kra:∀ {ts:List TypeId} {ds:List (DataW H)},(∀ k∈DataW.weightsEach P ts ds,k<=140737488351232)->∀ (i:Nat) (t:TypeId) (d:DataW H),ts[i]?=some t->ds[i]?=some d->Wt P t d
 | [],_,_,i,t,d,ht,_=>by cases ht
 | _::_,[],_,i,t,d,_,a=>by cases a
 | t::ts,x::ds,h,i,t',d,ht,a=>by
  simp only [DataW.weightsEach,qao] at h;cases i with
  | zero=>simp at ht a;subst ht a;exact fun k hk=>h k (.inl hk)
  | succ i=>exact kra (fun k hk=>h k (.inr hk)) i t' d (by simpa using ht) (by simpa using a)
theorem kpq {T:Type} {R:List Value->T->Prop} {t e:TypeId} {size fuel:Nat} {cs:List Value} {x:DataW H×List MemPlace} (ht:P.underlying t=some (.slice e)) (G:P.cellsOf e=size) (d:0<size)
  (h:DataW.trod enc P w base spare held fuel t cs=some x) (q:Wt P t x.1) (s:∀ n cs' y,n<fuel->DataW.trod enc P w base spare held n e cs'=some y->Wt P e y.1->∃ z,R cs' z):
  ∃ v xs,cs=[v]/\RepSl Any w size R v xs/\xs.length*P.bytesOf e<=140737488351232:=by
 rcases DataW.trod_slice ht h with ⟨rfl,_⟩ | ⟨a,len,cap,elems,rest,n,I,rfl,rfl,_,J,f,D,g,_⟩;exact ⟨_,[],rfl,RepSl.nil (by omega),by simp⟩
 ·have l:(elems.length+rest.length)*P.bytesOf e<=140737488351232/\∀ k∈DataW.weightsAll P e (elems.map (·.1)),k<=140737488351232:=by unfold Wt at q;simp only [DataW.weights,ht,qaw,qao,qat] at q;exact ⟨q _ (.inl rfl),fun k hk=>q k (.inr (.inl hk))⟩
  have each:∀ i,i<len->∃ cs' z,R cs' z/\cs'.length=size/\∀ j,j<size->w.cell? ((a.add (i*size)).add j)=cs'[j]?:=fun i hi=>by have h1:=g i hi;have A:elems[i]?=some elems[i]:=qa (by omega);rw [A,G] at h1;obtain ⟨cs',hc,B⟩:=qx.1 h1;obtain ⟨_,hl,c⟩:=World.cells?_some hc;obtain ⟨z,r⟩:=s n cs' _ (by omega) B (kyt l.2 _ (qau.2 ⟨_,qs (by omega),rfl⟩));exact ⟨cs',z,r,hl,c⟩
  obtain ⟨xs,C,E⟩:=krj (Q:=fun i z=>∃ cs',R cs' z/\cs'.length=size/\∀ j,j<size->w.cell? ((a.add (i*size)).add j)=cs'[j]?) len (fun i hi=>by obtain ⟨cs',z,h⟩:=each i hi;exact ⟨z,cs',h⟩);refine ⟨_,xs,rfl,⟨some a,cap,by rw [C],by omega,by unfold maxLen at f;exact f,fun i z r=>?_⟩,qap (qay _ (by omega)) l.1⟩;obtain ⟨cs',hr,hl,c⟩:=E i z r;have m:a.spot=none:=by
   have h0:0<xs.length:=(by have:=(qg.1 r).1;omega);obtain ⟨cs0,_,K,p⟩:=E 0 _ (qa h0);have h1:=p 0 d;simp only [Nat.zero_mul,Addr.add,if_true] at h1;rw [qa (by omega)] at h1;unfold World.cell? at h1;split at h1
   ·split at h1;cases h1
    ·rename_i hs;simpa using hs
   ·cases h1
  obtain ⟨b,o,sp⟩:=a;simp only at m;subst m;refine ⟨b,o,cs',rfl,trivial,fun j u F=>?_,hl,hr⟩;have L:j<size:=by have:=(qg.1 F).1;omega
  rw [<- F,<- c j L];congr 1;unfold Addr.add;by_cases h1:i*size=0 <;> by_cases A:j=0 <;> simp [h1,A,Nat.add_assoc]
theorem knu {t:TypeId} {fs:Array Field} {ds:List (DataW H)} (ht:P.underlying t=some (.struct fs)) (a:Wt P t (.agg ds)):∀ (i:Nat) (f:Field) (d:DataW H),fs[i]?=some f->ds[i]?=some d->Wt P f.type d:=fun i f d b c=>by unfold Wt at a;simp only [DataW.weights,ht] at a;exact kra a i _ d (by simp [b]) c
end
section
variable {w:World}
def ks6 (w:World) (cs:List Value) (o:Sac):Prop:=∃ v,cs=[.int .i64 o.f_Rule,v]/\Ints Any w v o.f_Args/\o.f_Args.length*8<=140737488351232
def kqa (w:World) (cs:List Value) (n:Saa):Prop:=∃ v,cs=[.int .i64 n.f_Symbol, .int .i64 n.f_Size,v]/\RepSl Any w 2 (ks6 w) v n.f_Options/\n.f_Options.length*32<=140737488351232
def k3c (w:World) (cs:List Value) (s:Sad):Prop:=∃ v u,cs=[v,u]/\RepSl Any w 3 (kqa w) v s.f_Nodes/\s.f_Nodes.length*40<=140737488351232/\Ints Any w u s.f_Roots/\s.f_Roots.length*8<=140737488351232
theorem op_cr {cs:List Value} {x:Sac} (h:ks6 w cs x):CRw w cs (kah x) 2:=by
 obtain ⟨v,rfl,h1,_⟩:=h;refine kiu (xs:=[eI x.f_Rule,eL 1 eI x.f_Args]) rfl fun j y hy=>?_
 match j with
 | 0=>simp at hy;subst hy;exact ⟨rfl,fun u a=>by simp at a;subst a;exact .atom rfl⟩
 | 1=>simp at hy;subst hy;exact ⟨rfl,fun u a=>by simp at a;subst a;exact knx h1⟩
 | j+2=>simp at hy
theorem no_cr {cs:List Value} {x:Saa} (h:kqa w cs x):CRw w cs (kad x) 3:=by
 obtain ⟨v,rfl,h1,_⟩:=h;have r1:RF Any w v (eL 2 kah x.f_Options):=kmy (ec:=kah) (size:=2) (by omega) h1 fun cs x _ hr=>op_cr hr;refine kiu (xs:=[eI x.f_Symbol,eI x.f_Size,eL 2 kah x.f_Options]) rfl fun j y hy=>?_
 match j with
 | 0=>simp at hy;subst hy;exact ⟨rfl,fun u a=>by simp at a;subst a;exact .atom rfl⟩
 | 1=>simp at hy;subst hy;exact ⟨rfl,fun u a=>by simp at a;subst a;exact .atom rfl⟩
 | 2=>simp at hy;subst hy;exact ⟨rfl,fun u a=>by simp at a;subst a;exact r1⟩
 | j+3=>simp at hy
structure SpW (s:Sad):Prop where
 nodes:s.f_Nodes.length<=3518437208780
 roots:s.f_Roots.length<=17592186043904
 opts:∀ n∈s.f_Nodes,n.f_Options.length<=4398046510976
 args:∀ n∈s.f_Nodes,∀ o∈n.f_Options,o.f_Args.length<=17592186043904
theorem sp_rf {v:Value} {x:Sad} {cs:Array Value} (hv:v = .agg cs) (h:k3c w cs.toList x):RF Any w v (kcf x)/\SpW x:=by
 subst hv;obtain ⟨v1,v2,h0,h1,q1,d,q2⟩:=h;have r1:RF Any w v1 (eL 3 kad x.f_Nodes):=kmy (ec:=kad) (size:=3) (by omega) h1 fun cs x _ hr=>no_cr hr;have r2:=knx d;have hc:cs=#[v1,v2]:=by cases cs;simp_all
 subst hc;have each:∀ n∈x.f_Nodes,∃ cs,kqa w cs n:=fun n hn=>by obtain ⟨A,cap,_,_,_,c⟩:=h1;obtain ⟨i,hi⟩:=qaj.1 hn;obtain ⟨b,o,cs,_,_,_,_,hr⟩:=c i n hi;exact ⟨cs,hr⟩
 refine ⟨kzz (cs:=[v1,v2]) (xs:=[eL 3 kad x.f_Nodes,eL 1 eI x.f_Roots]) rfl (kiu rfl fun j y hy=>?_),⟨by omega,by omega,fun n hn=>?_,fun n hn o e=>?_⟩⟩
 ·match j with
  | 0=>simp at hy;subst hy;exact ⟨rfl,fun u a=>by simp at a;subst a;exact r1⟩
  | 1=>simp at hy;subst hy;exact ⟨rfl,fun u a=>by simp at a;subst a;exact r2⟩
  | j+2=>simp at hy
 obtain ⟨cs,v,_,_,f⟩:=each n hn;omega
 ·obtain ⟨cs,v,_,⟨A,cap,_,_,_,c⟩,_⟩:=each n hn;obtain ⟨i,hi⟩:=qaj.1 e;obtain ⟨b,o',cs',_,_,_,_,⟨v',_,_,f⟩⟩:=c i o hi;omega
end
section
variable {H:Type} {enc:TypeId×Value->H} {w:World} {base:Nat} {spare:Nat->Bool} {held:Bool}
theorem sp_ty:prog.cellsOf 3=1/\prog.cellsOf 22=1/\prog.cellsOf 65=1/\prog.cellsOf 27=1/\prog.cellsOf 69=2/\prog.cellsOf 67=3/\prog.cellsOf 29=2 /\
  prog.bytesOf 3=8/\prog.bytesOf 69=32/\prog.bytesOf 67=40:=⟨by kernel_rfl,by kernel_rfl,by kernel_rfl,by kernel_rfl,by kernel_rfl,by kernel_rfl,by kernel_rfl,by kernel_rfl,by kernel_rfl,by kernel_rfl⟩
theorem kqw {fuel:Nat} {cs:List Value} {x:DataW H×List MemPlace} (h:DataW.trod enc prog w base spare held fuel 22 cs=some x) (c:Wt prog 22 x.1):∃ v ns,cs=[v]/\Ints Any w v ns/\ns.length*8<=140737488351232:=by
 obtain ⟨v,xs,h1,a,b⟩:=kpq (R:=IntR) (size:=1) underlying22 cells_ty.1 (by omega) h c fun n cs' y _ hy _=>by obtain ⟨k,h1,a⟩:=kfy hy;exact ⟨k,h1,a⟩
 rw [sp_ty.2.2.2.2.2.2.2.1] at b;exact ⟨v,xs,h1,a,b⟩
theorem k4l {fuel:Nat} {cs:List Value} {x:DataW H×List MemPlace} (h:DataW.trod enc prog w base spare held fuel 69 cs=some x) (f:Wt prog 69 x.1):∃ t,ks6 w cs t:=by
 obtain ⟨z1,z2,z3,z4,z5,z6,z7,z8,z9,z10⟩:=sp_ty;obtain ⟨xs,n,g,rfl,a,b,e⟩:=DataW.trod_struct underlying69 h;have c:=knu underlying69 f;rw [z5] at a
 match cs,a with
 | [c0,c1],_=>
  have h0:=e 0 _ rfl;have h1:=e 1 _ rfl;rw [qa (by rw [b];decide)] at h0 h1;obtain ⟨t,e0,ht⟩:=kfy h0;obtain ⟨u,ns,e1,d,i⟩:=kqw h1 (c 1 _ _ rfl (by rw [qv,qa (by rw [b];decide)];rfl));simp [z1,z2] at e0 e1;subst e0 e1;exact ⟨⟨t,ns⟩,_,rfl,d,i⟩
theorem k5e {fuel:Nat} {cs:List Value} {x:DataW H×List MemPlace} (h:DataW.trod enc prog w base spare held fuel 67 cs=some x) (e:Wt prog 67 x.1):∃ t,kqa w cs t:=by
 obtain ⟨z1,z2,z3,z4,z5,z6,z7,z8,z9,z10⟩:=sp_ty;obtain ⟨xs,n,m,rfl,c,d,f⟩:=DataW.trod_struct underlying67 h;have g:=knu underlying67 e;rw [z6] at c
 match cs,c with
 | [c0,c1,c2],_=>
  have h0:=f 0 _ rfl;have h1:=f 1 _ rfl;have j:=f 2 _ rfl;rw [qa (by rw [d];decide)] at h0 h1 j;obtain ⟨a,e0,_⟩:=kfy h0;obtain ⟨b,e1,_⟩:=kfy h1;obtain ⟨v,os,e2,i,l⟩:=kpq (R:=ks6 w) (size:=2) underlying65 z5 (by omega) j (g 2 _ _ rfl (by rw [qv,qa (by rw [d];decide)];rfl)) fun k cs' y hk hy e=>k4l hy e;rw [z9] at l;simp [z1,z3] at e0 e1 e2;subst e0 e1 e2;exact ⟨⟨a,b,os⟩,_,rfl,i,l⟩
theorem k4v {fuel:Nat} {cs:List Value} {x:DataW H×List MemPlace} (h:DataW.trod enc prog w base spare held fuel 29 cs=some x) (d:Wt prog 29 x.1):∃ t,k3c w cs t:=by
 obtain ⟨z1,z2,z3,z4,z5,z6,z7,z8,z9,z10⟩:=sp_ty;obtain ⟨xs,n,l,rfl,a,b,i⟩:=DataW.trod_struct underlying29 h;have c:=knu underlying29 d;rw [z7] at a
 match cs,a with
 | [c0,c1],_=>
  have h0:=i 0 _ rfl;have h1:=i 1 _ rfl;rw [qa (by rw [b];decide)] at h0 h1;obtain ⟨v,ns,e0,e,j⟩:=kpq (R:=kqa w) (size:=3) underlying27 z6 (by omega) h0 (c 0 _ _ rfl (by rw [qv,qa (by rw [b];decide)];rfl)) fun k cs' y hk hy d=>k5e hy d;obtain ⟨u,is,e1,f,g⟩:=kqw h1 (c 1 _ _ rfl (by rw [qv,qa (by rw [b];decide)];rfl));rw [z10] at j;simp [z2,z4] at e0 e1;subst e0 e1;exact ⟨⟨ns,is⟩,_,_,rfl,e,j,f,g⟩
theorem k7c {r:Reach} {b0:Nat} {v:Value} {d:DataW H} {p:List MemPlace} (hv:Value.okWide prog w r b0 29 v) (h:DataW.Trod enc prog w base spare held 29 v d p) (a:Wt prog 29 d):∃ x,RF Any w v (kcf x)/\SpW x:=by obtain ⟨cs,rfl,b⟩:=okWide_struct underlying29 hv;obtain ⟨fuel,c⟩:=h;obtain ⟨t,ht⟩:=k4v c a;exact ⟨t,sp_rf rfl (by simpa [Value.cells] using ht)⟩
end
end Go.Proofs.YtpnnpkmjohkgiaaGreatDoor
