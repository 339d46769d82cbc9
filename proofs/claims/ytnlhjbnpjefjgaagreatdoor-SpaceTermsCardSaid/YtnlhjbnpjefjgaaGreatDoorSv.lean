import Derived.Test.YtnlhjbnpjefjgaaGreatDoorDrawE
import Derived.Test.YtnlhjbnpjefjgaaGreatDoorZE
import Derived.Test.YtnlhjbnpjefjgaaGreatDoorDrawE
set_option linter.all false
set_option maxRecDepth 100000
namespace Go.Proofs.YtnlhjbnpjefjgaaGreatDoor
open Go Go.RowKit Go.ChangeShapes Go.WideShapes Go.ChangeAt Go.Proofs.Tryz
variable {w:World}
def CRw (w:World) (cs:List Value) (x:FV) (size:Nat):Prop:=x.cells.length=size/\(∀ y∈x.cells,y.single=true)/\∀ (j:Nat) (u:Value) (y:FV),cs[j]?=some u->x.cells[j]?=some y->RF Any w u y
theorem krw {cs:List Value} (xs:List FV) (h:∀ (j:Nat) (y:FV),xs[j]?=some y->y.single=true/\∀ u,cs[j]?=some u->RF Any w u y) (hl:cs.length=xs.length:=by rfl):CRw w cs (.agg xs) xs.length:=by refine ⟨rfl,fun y hy=>?_,fun j u y a hy=>(h j y hy).2 u a⟩;obtain ⟨j,b⟩:=qal.1 hy;exact (h j y b).1
theorem kzo {v:Value} {ns:List Int} (h:Ints Any w v ns):RF Any w v (eL 1 eI ns):=
 kwq (R:=IntR) _ _ h fun cs x _ a=>kaaw a.1 rfl
theorem k3y (cs:List Value) (xs:List FV) (hl:cs.length=xs.length) (h:CRw w cs (.agg xs) xs.length):RF Any w (.agg cs.toArray) (.agg xs):=
 .agg (by simpa using hl) (fun x a=>h.2.1 x a) fun i v x hv a=>h.2.2 i v x (by simpa using hv) a
theorem tm_cr:∀ (x:Tm) (cs:List Value),RepTm Any w cs x->CRw w cs (eTmR x) 2:=by
 refine Tm.ind fun r l ih=>?_;intro cs h;obtain ⟨v,rfl,hr,hv⟩:=h.form;have b:RF Any w v (.lst 2 l.length (kpp l)):=by have:=kwq eTmR 2 hv fun cs x c hr=>ih x c cs hr;rw [kst];have d:eL 2 eTmR l = .lst 2 l.length (l.map eTmR):=rfl;rw [<- d];exact this
 refine krw [eI r, .lst 2 l.length (kpp l)] fun j y hy=>?_
 match j with
 | 0=>simp at hy;subst hy;exact ⟨rfl,fun u a=>by simp at a;subst a;exact .atom rfl⟩
 | 1=>simp at hy;subst hy;exact ⟨rfl,fun u a=>by simp at a;subst a;exact b⟩
 | j+2=>simp at hy
theorem tm_rf {v:Value} {x:Tm} (h:TmV Any w v x):RF Any w v (eTm x):=by obtain ⟨c0,c1,rfl,hr⟩:=h;have k:=tm_cr x _ hr;rw [kj8] at k;exact k3y [c0,c1] [eI x.rule,eL 2 eTmR x.args] rfl k
variable {H:Type} {enc:TypeId×Value->H} {base:Nat} {spare:Nat->Bool} {held:Bool}
theorem in_Tm {r:Reach} {b0:Nat} {v:Value} {d:DataW H} {p:List MemPlace} (hv:Value.okWide prog w r b0 28 v) (h:DataW.Trod enc prog w base spare held 28 v d p):∃ x,RF Any w v (eTm x)/\True:=by obtain ⟨x,a⟩:=k00 hv h;exact ⟨x,tm_rf a,trivial⟩
variable {P:Program}
def Wt (P:Program) (t:TypeId) (d:DataW H):Prop:=∀ k∈DataW.weights P t d,k<=140737488351232
theorem k2p {e:TypeId}:∀ {ds:List (DataW H)},(∀ k∈DataW.weightsAll P e ds,k<=140737488351232)->∀ d∈ds,Wt P e d
 | [],_,d,a=>by cases a
 | x::ds,h,d,a=>by
  simp only [DataW.weightsAll,qab] at h;rcases qat.1 a with rfl | a;exact fun k hk=>h k (.inl hk)
  ·exact k2p (fun k hk=>h k (.inr hk)) d a
theorem kup:∀ {ts:List TypeId} {ds:List (DataW H)},(∀ k∈DataW.weightsEach P ts ds,k<=140737488351232)->∀ (i:Nat) (t:TypeId) (d:DataW H),ts[i]?=some t->ds[i]?=some d->Wt P t d
 | [],_,_,i,t,d,ht,_=>by cases ht
 | _::_,[],_,i,t,d,_,a=>by cases a
 | t::ts,x::ds,h,i,t',d,ht,a=>by
  simp only [DataW.weightsEach,qab] at h;cases i with
  | zero=>simp at ht a;subst ht a;exact fun k hk=>h k (.inl hk)
  | succ i=>exact kup (fun k hk=>h k (.inr hk)) i t' d (by simpa using ht) (by simpa using a)
theorem kta {T:Type} (R:List Value->T->Prop) {t e:TypeId} (size:Nat) {fuel:Nat} {cs:List Value} {x:DataW H×List MemPlace} (ht:P.underlying t=some (.slice e)) (hC:P.cellsOf e=size) (h:DataW.trod enc P w base spare held fuel t cs=some x) (q:Wt P t x.1) (s:∀ n cs' y,n<fuel->DataW.trod enc P w base spare held n e cs'=some y->Wt P e y.1->∃ z,R cs' z) (d:0<size:=by omega):
  ∃ v xs,cs=[v]/\RepSl Any w size R v xs/\xs.length*P.bytesOf e<=140737488351232:=by
 rcases DataW.trod_slice ht h with ⟨rfl,_⟩ | ⟨a,len,cap,elems,rest,n,G,rfl,rfl,_,I,f,D,g,_⟩;exact ⟨_,[],rfl,RepSl.nil (by omega),by simp⟩
 ·have l:(elems.length+rest.length)*P.bytesOf e<=140737488351232/\∀ k∈DataW.weightsAll P e (elems.map (·.1)),k<=140737488351232:=by unfold Wt at q;simp only [DataW.weights,ht,qat,qab,qaa] at q;exact ⟨q _ (.inl rfl),fun k hk=>q k (.inr (.inl hk))⟩
  have each:∀ i,i<len->∃ cs' z,R cs' z/\cs'.length=size/\∀ j,j<size->w.cell? ((a.add (i*size)).add j)=cs'[j]?:=fun i hi=>by have h1:=g i hi;have A:elems[i]?=some elems[i]:=qa (by omega);rw [A,hC] at h1;obtain ⟨cs',hc,B⟩:=qg.1 h1;obtain ⟨_,hl,c⟩:=World.cells?_some hc;obtain ⟨z,r⟩:=s n cs' _ (by omega) B (k2p l.2 _ (qaf.2 ⟨_,qo (by omega),rfl⟩));exact ⟨cs',z,r,hl,c⟩
  obtain ⟨xs,C,E⟩:=ku1 (Q:=fun i z=>∃ cs',R cs' z/\cs'.length=size/\∀ j,j<size->w.cell? ((a.add (i*size)).add j)=cs'[j]?) len (fun i hi=>by obtain ⟨cs',z,h⟩:=each i hi;exact ⟨z,cs',h⟩);refine ⟨_,xs,rfl,⟨some a,cap,by rw [C],by omega,by unfold maxLen at f;exact f,fun i z r=>?_⟩,qap (qbe _ (by omega)) l.1⟩;obtain ⟨cs',hr,hl,c⟩:=E i z r;have m:a.spot=none:=by
   have h0:0<xs.length:=(by have:=(qd.1 r).1;omega);obtain ⟨cs0,_,J,p⟩:=E 0 _ (qa h0);have h1:=p 0 d;simp only [Nat.zero_mul,Addr.add,if_true] at h1;rw [qa (by omega)] at h1;unfold World.cell? at h1;split at h1
   ·split at h1;cases h1
    ·rename_i hs;simpa using hs
   ·cases h1
  obtain ⟨b,o,sp⟩:=a;simp only at m;subst m;refine ⟨b,o,cs',rfl,trivial,fun j u F=>?_,hl,hr⟩;have K:j<size:=by have:=(qd.1 F).1;omega
  rw [<- F,<- c j K];congr 1;unfold Addr.add;by_cases h1:i*size=0 <;> by_cases A:j=0 <;> simp [h1,A,Nat.add_assoc]
theorem kq2 {t:TypeId} {fs:Array Field} {ds:List (DataW H)} (ht:P.underlying t=some (.struct fs)) (a:Wt P t (.agg ds)):∀ (i:Nat) (f:Field) (d:DataW H),fs[i]?=some f->ds[i]?=some d->Wt P f.type d:=fun i f d hf b=>by unfold Wt at a;simp only [DataW.weights,ht] at a;exact kup a i _ d (by simp [hf]) b
def kwt (w:World) (cs:List Value) (o:Sab):Prop:=∃ v,cs=[.int .i64 o.yd,v]/\Ints Any w v o.yb/\o.yb.length*8<=140737488351232/\inI o.yd=true
def ktv (w:World) (cs:List Value) (n:Saa):Prop:=∃ v,cs=[.int .i64 n.yg, .int .i64 n.yf,v]/\RepSl Any w 2 (kwt w) v n.yc/\n.yc.length*32<=140737488351232
def k6q (w:World) (cs:List Value) (s:Sac):Prop:=∃ v u,cs=[v,u]/\RepSl Any w 3 (ktv w) v s.ya/\s.ya.length*40<=140737488351232/\Ints Any w u s.ye/\s.ye.length*8<=140737488351232
theorem op_cr {cs:List Value} {x:Sab} (h:kwt w cs x):CRw w cs (kab x) 2:=by
 obtain ⟨v,rfl,h1,_⟩:=h;refine krw [eI x.yd,eL 1 eI x.yb] fun j y hy=>?_
 match j with
 | 0=>simp at hy;subst hy;exact ⟨rfl,fun u a=>by simp at a;subst a;exact .atom rfl⟩
 | 1=>simp at hy;subst hy;exact ⟨rfl,fun u a=>by simp at a;subst a;exact kzo h1⟩
 | j+2=>simp at hy
theorem no_cr {cs:List Value} {x:Saa} (h:ktv w cs x):CRw w cs (kae x) 3:=by
 obtain ⟨v,rfl,h1,_⟩:=h;have r1:RF Any w v (eL 2 kab x.yc):=kwq kab 2 h1 fun cs x _ hr=>op_cr hr;refine krw [eI x.yg,eI x.yf,eL 2 kab x.yc] fun j y hy=>?_
 match j with
 | 0=>simp at hy;subst hy;exact ⟨rfl,fun u a=>by simp at a;subst a;exact .atom rfl⟩
 | 1=>simp at hy;subst hy;exact ⟨rfl,fun u a=>by simp at a;subst a;exact .atom rfl⟩
 | 2=>simp at hy;subst hy;exact ⟨rfl,fun u a=>by simp at a;subst a;exact r1⟩
 | j+3=>simp at hy
structure SpW (s:Sac):Prop where
 nodes:s.ya.length<=3518437208780
 roots:s.ye.length<=17592186043904
 opts:∀ n∈s.ya,n.yc.length<=4398046510976
 args:∀ n∈s.ya,∀ o∈n.yc,o.yb.length<=17592186043904
 rule:∀ n∈s.ya,∀ o∈n.yc,inI o.yd=true
theorem sp_rf {v:Value} {x:Sac} {cs:Array Value} (hv:v = .agg cs) (h:k6q w cs.toList x):RF Any w v (kaw x)/\SpW x:=by
 subst hv;obtain ⟨v1,v2,h0,h1,q1,e,q2⟩:=h;have r1:RF Any w v1 (eL 3 kae x.ya):=kwq kae 3 h1 fun cs x _ hr=>no_cr hr;have r2:=kzo e;have hc:cs=#[v1,v2]:=by cases cs;simp_all
 subst hc;have each:∀ n∈x.ya,∃ cs,ktv w cs n:=fun n hn=>by obtain ⟨A,cap,_,_,_,a⟩:=h1;obtain ⟨i,hi⟩:=qal.1 hn;obtain ⟨b,o,cs,_,_,_,_,hr⟩:=a i n hi;exact ⟨cs,hr⟩
 refine ⟨k3y [v1,v2] [eL 3 kae x.ya,eL 1 eI x.ye] rfl (krw _ fun j y hy=>?_),⟨by omega,by omega,fun n hn=>?_,fun n hn o ho=>?_,fun n hn o ho=>?_⟩⟩
 ·match j with
  | 0=>simp at hy;subst hy;exact ⟨rfl,fun u c=>by simp at c;subst c;exact r1⟩
  | 1=>simp at hy;subst hy;exact ⟨rfl,fun u c=>by simp at c;subst c;exact r2⟩
  | j+2=>simp at hy
 obtain ⟨cs,v,_,_,d⟩:=each n hn;omega;obtain ⟨cs,v,_,⟨A,cap,_,_,_,a⟩,_⟩:=each n hn;obtain ⟨i,hi⟩:=qal.1 ho;obtain ⟨b,o',cs',_,_,_,_,⟨v',_,_,d,_⟩⟩:=a i o hi;omega
 ·obtain ⟨cs,v,_,⟨A,cap,_,_,_,a⟩,_⟩:=each n hn;obtain ⟨i,hi⟩:=qal.1 ho;obtain ⟨b,o',cs',_,_,_,_,⟨v',_,_,_,d⟩⟩:=a i o hi;exact d
theorem sp_ty:prog.cellsOf 3=1/\prog.cellsOf 23=1/\prog.cellsOf 39=1/\prog.cellsOf 22=1/\prog.cellsOf 43=2/\prog.cellsOf 41=3/\prog.cellsOf 25=2 /\
  prog.bytesOf 3=8/\prog.bytesOf 43=32/\prog.bytesOf 41=40:=⟨by kernel_rfl,by kernel_rfl,by kernel_rfl,by kernel_rfl,by kernel_rfl,by kernel_rfl,by kernel_rfl,by kernel_rfl,by kernel_rfl,by kernel_rfl⟩
theorem kuc {fuel:Nat} {cs:List Value} {x:DataW H×List MemPlace} (h:DataW.trod enc prog w base spare held fuel 23 cs=some x) (c:Wt prog 23 x.1):∃ v ns,cs=[v]/\Ints Any w v ns/\ns.length*8<=140737488351232:=by
 obtain ⟨v,xs,h1,a,b⟩:=kta IntR 1 underlying23 cells_ty.1 h c fun n cs' y _ hy _=>by obtain ⟨k,h1,a⟩:=ko9 hy;exact ⟨k,h1,a⟩
 rw [sp_ty.2.2.2.2.2.2.2.1] at b;exact ⟨v,xs,h1,a,b⟩
theorem k70 {fuel:Nat} {cs:List Value} {x:DataW H×List MemPlace} (h:DataW.trod enc prog w base spare held fuel 43 cs=some x) (e:Wt prog 43 x.1):∃ t,kwt w cs t:=by
 obtain ⟨z1,z2,z3,z4,z5,z6,z7,z8,z9,z10⟩:=sp_ty;obtain ⟨xs,n,f,rfl,a,b,hf⟩:=DataW.trod_struct underlying43 h;have c:=kq2 underlying43 e;rw [z5] at a
 match cs,a with
 | [c0,c1],_=>
  have h0:=hf 0 _ rfl;have h1:=hf 1 _ rfl;rw [qa (by rw [b];decide)] at h0 h1;obtain ⟨t,e0,ht⟩:=ko9 h0;obtain ⟨u,ns,e1,d,g⟩:=kuc h1 (c 1 _ _ rfl (by rw [ql,qa (by rw [b];decide)];rfl));simp [z1,z2] at e0 e1;subst e0 e1;exact ⟨⟨t,ns⟩,_,rfl,d,g,by obtain ⟨t1,t2⟩:=ht;unfold inI;rw [qv,qay,qay];exact ⟨t1,t2⟩⟩
theorem k8p {fuel:Nat} {cs:List Value} {x:DataW H×List MemPlace} (h:DataW.trod enc prog w base spare held fuel 41 cs=some x) (e:Wt prog 41 x.1):∃ t,ktv w cs t:=by
 obtain ⟨z1,z2,z3,z4,z5,z6,z7,z8,z9,z10⟩:=sp_ty;obtain ⟨xs,n,l,rfl,c,d,hf⟩:=DataW.trod_struct underlying41 h;have f:=kq2 underlying41 e;rw [z6] at c
 match cs,c with
 | [c0,c1,c2],_=>
  have h0:=hf 0 _ rfl;have h1:=hf 1 _ rfl;have i:=hf 2 _ rfl;rw [qa (by rw [d];decide)] at h0 h1 i;obtain ⟨a,e0,_⟩:=ko9 h0;obtain ⟨b,e1,_⟩:=ko9 h1;obtain ⟨v,os,e2,g,j⟩:=kta (kwt w) 2 underlying39 z5 i (f 2 _ _ rfl (by rw [ql,qa (by rw [d];decide)];rfl)) fun k cs' y hk hy e=>k70 hy e;rw [z9] at j;simp [z1,z3] at e0 e1 e2;subst e0 e1 e2;exact ⟨⟨a,b,os⟩,_,rfl,g,j⟩
theorem k77 {fuel:Nat} {cs:List Value} {x:DataW H×List MemPlace} (h:DataW.trod enc prog w base spare held fuel 25 cs=some x) (d:Wt prog 25 x.1):∃ t,k6q w cs t:=by
 obtain ⟨z1,z2,z3,z4,z5,z6,z7,z8,z9,z10⟩:=sp_ty;obtain ⟨xs,n,j,rfl,a,b,hf⟩:=DataW.trod_struct underlying25 h;have c:=kq2 underlying25 d;rw [z7] at a
 match cs,a with
 | [c0,c1],_=>
  have h0:=hf 0 _ rfl;have h1:=hf 1 _ rfl;rw [qa (by rw [b];decide)] at h0 h1;obtain ⟨v,ns,e0,e,i⟩:=kta (ktv w) 3 underlying22 z6 h0 (c 0 _ _ rfl (by rw [ql,qa (by rw [b];decide)];rfl)) fun k cs' y hk hy d=>k8p hy d;obtain ⟨u,is,e1,f,g⟩:=kuc h1 (c 1 _ _ rfl (by rw [ql,qa (by rw [b];decide)];rfl));rw [z10] at i;simp [z2,z4] at e0 e1;subst e0 e1;exact ⟨⟨ns,is⟩,_,_,rfl,e,i,f,g⟩
theorem kaat {r:Reach} {b0:Nat} {v:Value} {d:DataW H} {p:List MemPlace} (hv:Value.okWide prog w r b0 25 v) (h:DataW.Trod enc prog w base spare held 25 v d p) (a:Wt prog 25 d):∃ x,RF Any w v (kaw x)/\SpW x:=by obtain ⟨cs,rfl,b⟩:=okWide_struct underlying25 hv;obtain ⟨fuel,hf⟩:=h;obtain ⟨t,ht⟩:=k77 hf a;exact ⟨t,sp_rf rfl (by simpa [Value.cells] using ht)⟩
end Go.Proofs.YtnlhjbnpjefjgaaGreatDoor
