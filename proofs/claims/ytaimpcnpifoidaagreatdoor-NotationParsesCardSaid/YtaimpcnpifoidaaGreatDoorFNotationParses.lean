/- NotationParses: the law returns true for every input where the listed tables hold what the program lays into them. -/
import Derived.Test.YtaimpcnpifoidaaGreatDoorDrawE
import Derived.Test.YtaimpcnpifoidaaGreatDoorLang
import Derived.Deep.Fields
import Derived.Test.YtaimpcnpifoidaaGreatDoorGu
import Derived.Test.YtaimpcnpifoidaaGreatDoorTT
import Derived.Test.YtaimpcnpifoidaaGreatDoorRows
import Derived.Lib.LaidTab
import Derived.LaidLaws
import Derived.LaidHandle
import Derived.OpenShut
import Derived.ChangeSame
import Derived.Test.YtaimpcnpifoidaaGreatDoorBd
import Derived.Test.YtaimpcnpifoidaaGreatDoorBg
import Derived.ChangeMaps5
import Derived.JoinedOf
import Derived.Test.YtaimpcnpifoidaaGreatDoorCards
import Derived.Test.YtaimpcnpifoidaaGreatDoorTie
import Derived.SevenTiedAt
set_option linter.all false
set_option maxRecDepth 100000
namespace Go.Proofs.YtaimpcnpifoidaaGreatDoor
open Go Go.RowKit Go.ChangeShapes Go.WideShapes Go.ChangeAt Go.Proofs.Tryz
theorem k22 {n:Int} (h:(Lit.int .i64 n).wf=true):kjs n:=by simpa [Lit.wf,IntKind.min,IntKind.max,IntKind.signed,IntKind.bits,kjs] using h
section
variable {H:Type} {enc:TypeId×Value->H} {w:World} {base:Nat} {spare:Nat->Bool} {held:Bool}
theorem cells_ty:prog.cellsOf 3=1/\prog.cellsOf 2=1/\prog.cellsOf 9=1/\prog.cellsOf 22=1/\prog.cellsOf 41=1/\prog.cellsOf 23=1/\prog.cellsOf 24=1 /\
  prog.cellsOf 43=4/\prog.cellsOf 92=2/\prog.cellsOf 45=9/\prog.cellsOf 26=4:=⟨by kernel_rfl,by kernel_rfl,by kernel_rfl,by kernel_rfl,by kernel_rfl,by kernel_rfl,by kernel_rfl,by kernel_rfl,by kernel_rfl,by kernel_rfl,by kernel_rfl⟩
theorem kwz {fuel:Nat} {cs:List Value} {x:DataW H×List MemPlace} (h:DataW.trod enc prog w base spare held fuel 9 cs=some x):∃ s,cs=[.string s]/\kwf s:=by obtain ⟨s,hs,_,hl⟩:=DataW.trod_string underlying9 h;exact ⟨s,hs,by unfold maxLen at hl;exact hl⟩
theorem kqf {fuel:Nat} {cs:List Value} {x:DataW H×List MemPlace} (h:DataW.trod enc prog w base spare held fuel 3 cs=some x):∃ n,cs=[.int .i64 n]/\kjs n:=by obtain ⟨n,hn,_,a⟩:=DataW.trod_int underlying3 h;exact ⟨n,hn,k22 a⟩
theorem kadp {fuel:Nat} {cs:List Value} {x:DataW H×List MemPlace} (h:DataW.trod enc prog w base spare held fuel 2 cs=some x):∃ n,cs=[.int .i64 n]/\kjs n:=by obtain ⟨n,hn,_,a⟩:=DataW.trod_int underlying2 h;exact ⟨n,hn,k22 a⟩
theorem k2v {fuel:Nat} {cs:List Value} {x:DataW H×List MemPlace} (h:DataW.trod enc prog w base spare held fuel 22 cs=some x):∃ v ns,cs=[v]/\Ints Any w v ns:=
 kzp (R:=IntR) (size:=1) underlying22 cells_ty.1 (by omega) h fun n cs' y _ a=>by obtain ⟨k,h1,h2⟩:=kqf a;exact ⟨k,h1,h2⟩
theorem kaat:∀ (fuel:Nat) (cs:List Value) (x:DataW H×List MemPlace),DataW.trod enc prog w base spare held fuel 43 cs=some x->∃ t,RepVa Any w cs t:=by
 obtain ⟨z1,z2,z3,z4,z5,z6,z7,z8,z9,z10,z11⟩:=cells_ty;intro fuel
 induction fuel using Nat.strongRecOn with
 | _ fuel ih=>
  intro cs x h;obtain ⟨xs,n,d,_,a,c,b⟩:=DataW.trod_struct underlying43 h;rw [z8] at a
  match cs,a with
  | [c0,c1,c2,c3],_=>
   have h0:=b 0 _ rfl;have h1:=b 1 _ rfl;have h2:=b 2 _ rfl;have h3:=b 3 _ rfl;rw [qc (by rw [c];decide)] at h0 h1 h2 h3;obtain ⟨t,e0,ht⟩:=kqf h0;obtain ⟨m,e1,hm⟩:=kadp h1;obtain ⟨s,e2,hs⟩:=kwz h2;obtain ⟨v,ts,e3,e⟩:=kzp (R:=RepVa Any w) (size:=4) underlying41 z8 (by omega) h3 fun k cs' y hk f=>ih k (by omega) cs' y f;simp [z1,z2,z3,z4,z5,z6,z7,z8] at e0 e1 e2 e3;subst e0 e1 e2 e3;exact ⟨.mk t m s ts,RepVa.of ht hm hs e⟩
theorem k8v {fuel:Nat} {cs:List Value} {x:DataW H×List MemPlace} (h:DataW.trod enc prog w base spare held fuel 92 cs=some x):∃ t,k5o Any w cs t:=by
 obtain ⟨z1,z2,z3,z4,z5,z6,z7,z8,z9,z10,z11⟩:=cells_ty;obtain ⟨xs,n,d,_,a,b,c⟩:=DataW.trod_struct underlying92 h;rw [z9] at a
 match cs,a with
 | [c0,c1],_=>
  have h0:=c 0 _ rfl;have h1:=c 1 _ rfl;rw [qc (by rw [b];decide)] at h0 h1;obtain ⟨s,e0,hs⟩:=kwz h0;obtain ⟨t,e1,ht⟩:=kqf h1;simp [z1,z2,z3,z4,z5,z6,z7,z8] at e0 e1;subst e0 e1;exact ⟨⟨s,t⟩,rfl,hs,ht⟩
theorem kafs {fuel:Nat} {cs:List Value} {x:DataW H×List MemPlace} (h:DataW.trod enc prog w base spare held fuel 45 cs=some x):∃ t,k5s Any w cs t:=by
 obtain ⟨z1,z2,z3,z4,z5,z6,z7,z8,z9,z10,z11⟩:=cells_ty;obtain ⟨xs,n,k,_,d,f,e⟩:=DataW.trod_struct underlying45 h;rw [z10] at d
 match cs,d with
 | [c0,c1,c2,c3,c4,c5,c6,c7,c8],_=>
  have h0:=e 0 _ rfl;have h1:=e 1 _ rfl;have h2:=e 2 _ rfl;have h3:=e 3 _ rfl;have i:=e 4 _ rfl;have j:=e 5 _ rfl;rw [qc (by rw [f];decide)] at h0 h1 h2 h3 i j;obtain ⟨a,e0,ha⟩:=kqf h0;obtain ⟨b,e1,l⟩:=kqf h1;obtain ⟨c,e2,hc⟩:=kqf h2;obtain ⟨v,hv⟩:=kaat _ _ _ h3;obtain ⟨s,e4,hs⟩:=kwz i;obtain ⟨u,ns,e5,g⟩:=k2v j;simp [z1,z2,z3,z4,z5,z6,z7,z8] at e0 e1 e2 e4 e5 hv;subst e0 e1 e2 e4 e5;exact ⟨⟨a,b,c,v,s,ns⟩,c3,c4,c5,c6,_,rfl,ha,l,hc,hs,hv,g⟩
theorem k45 {fuel:Nat} {cs:List Value} {x:DataW H×List MemPlace} (h:DataW.trod enc prog w base spare held fuel 26 cs=some x):∃ t,kajf Any w cs t:=by
 obtain ⟨z1,z2,z3,z4,z5,z6,z7,z8,z9,z10,z11⟩:=cells_ty;obtain ⟨xs,n,i,_,a,c,b⟩:=DataW.trod_struct underlying26 h;rw [z11] at a
 match cs,a with
 | [c0,c1,c2,c3],_=>
  have h0:=b 0 _ rfl;have h1:=b 1 _ rfl;have h2:=b 2 _ rfl;have h3:=b 3 _ rfl;rw [qc (by rw [c];decide)] at h0 h1 h2 h3;obtain ⟨s,e0,hs⟩:=kwz h0;obtain ⟨v1,n1,e1,d⟩:=k2v h1;obtain ⟨v2,n2,e2,e⟩:=kzp (R:=k5o Any w) (size:=2) underlying23 z9 (by omega) h2 fun k cs' y hk f=>k8v f;obtain ⟨v3,n3,e3,g⟩:=kzp (R:=k5s Any w) (size:=9) underlying24 z10 (by omega) h3 fun k cs' y hk f=>kafs f;simp [z1,z2,z3,z4,z5,z6,z7,z8] at e0 e1 e2 e3;subst e0 e1 e2 e3;exact ⟨⟨s,n1,n2,n3⟩,_,_,_,rfl,hs,d,e,g⟩
theorem k3d {r:Reach} {b0:Nat} {v:Value} {d:DataW H} {p:List MemPlace} (hv:Value.okWide prog w r b0 26 v) (h:DataW.Trod enc prog w base spare held 26 v d p):∃ t,LaV Any w v t:=by obtain ⟨cs,rfl,a⟩:=okWide_struct underlying26 hv;obtain ⟨fuel,b⟩:=h;obtain ⟨t,ht⟩:=k45 b;exact ⟨t,cs.toList,by simp,by simpa [Value.cells] using ht⟩
end
section
variable {H:Type} {enc:TypeId×Value->H} {w:World} {base:Nat} {spare:Nat->Bool} {held:Bool}
end
section
variable {w:World}
def CR (w:World) (cs:List Value) (x:FV) (size:Nat):Prop:=x.cells.length=size/\(∀ y∈x.cells,y.single=true)/\∀ (j:Nat) (u:Value) (y:FV),cs[j]?=some u->x.cells[j]?=some y->RF Any w u y
theorem kyq {cs:List Value} {xs:List FV} (hl:cs.length=xs.length) (h:∀ (j:Nat) (y:FV),xs[j]?=some y->y.single=true/\∀ u,cs[j]?=some u->RF Any w u y):CR w cs (.agg xs) xs.length:=by refine ⟨rfl,fun y a=>?_,fun j u y b a=>(h j y a).2 u b⟩;obtain ⟨j,c⟩:=qbs.1 a;exact (h j y c).1
theorem kaan {v:Value} {ns:List Int} (h:Ints Any w v ns):RF Any w v (eL 1 eI ns):=
 k1v (R:=IntR) (by omega) h fun cs x _ a=>kanp a.1 rfl
theorem kai8:∀ (x:Va) (cs:List Value),RepVa Any w cs x->CR w cs (eVaR x) 4/\inV x:=by
 refine Va.ind fun t n s l ih=>?_;intro cs h;obtain ⟨v,rfl,ht,hn,hs,hv⟩:=h.form;have e:RF Any w v (.lst 4 l.length (kv5 l)):=by have:=k1v (ec:=eVaR) (size:=4) (by omega) hv fun cs x d hr=>(ih x d cs hr).1;rw [k0v];have g:eL 4 eVaR l = .lst 4 l.length (l.map eVaR):=rfl;rw [<- g];exact this
 refine ⟨kyq (xs:=[eI t,eI n,eS s, .lst 4 l.length (kv5 l)]) rfl fun j y c=>?_,?_⟩
 ·match j with
  | 0=>simp at c;subst c;exact ⟨rfl,fun u a=>by simp at a;subst a;exact .atom rfl⟩
  | 1=>simp at c;subst c;exact ⟨rfl,fun u a=>by simp at a;subst a;exact .atom rfl⟩
  | 2=>simp at c;subst c;exact ⟨rfl,fun u a=>by simp at a;subst a;exact .atom rfl⟩
  | 3=>simp at c;subst c;exact ⟨rfl,fun u a=>by simp at a;subst a;exact e⟩
  | j+4=>simp at c
 ·obtain ⟨A,cap,_,h1,h2,h3⟩:=hv;have all:∀ x∈l,inV x:=fun x d=>by obtain ⟨i,hi⟩:=qbs.1 d;obtain ⟨b,o,cs,_,_,_,_,hr⟩:=h3 i x hi;exact (ih x d cs hr).2
  have gen:∀ l:List Va,(∀ x∈l,inV x)->ksq 9223372036854775807 l/\kzl l:=fun l=>by
   induction l with
   | nil=>exact fun _=>⟨trivial,trivial⟩
   | cons y l ih=>exact fun h=>⟨⟨(h y (qt ..)).1,(ih fun z f=>h z (qn _ f)).1⟩,(h y (qt ..)).2,(ih fun z f=>h z (qn _ f)).2⟩
  obtain ⟨g1,g2⟩:=gen l all;exact ⟨⟨by omega,g1⟩,hs,g2⟩
theorem sy_cr {cs:List Value} {x:Sy} (h:k5o Any w cs x):CR w cs (eSy x) 2:=by
 obtain ⟨rfl,hs,ht⟩:=h;refine kyq (xs:=[eS x.name,eI x.type]) rfl fun j y a=>?_
 match j with
 | 0=>simp at a;subst a;exact ⟨rfl,fun u b=>by simp at b;subst b;exact .atom rfl⟩
 | 1=>simp at a;subst a;exact ⟨rfl,fun u b=>by simp at b;subst b;exact .atom rfl⟩
 | j+2=>simp at a
theorem kaiw {cs:List Value} {x:Ru} (h:k5s Any w cs x):CR w cs (eRu x) 9/\kt1 x:=by
 obtain ⟨c0,c1,c2,c3,v,rfl,h1,h2,h3,i,f,g⟩:=h;obtain ⟨k,kw⟩:=kai8 _ _ f;obtain ⟨sy,kd,inp,c,op,ar⟩:=x;obtain ⟨t,n,s,l⟩:=c;obtain ⟨v',d,ht,hn,hs,hv⟩:=f.form;simp only [List.cons.injEq,and_true] at d;obtain ⟨rfl,rfl,rfl,rfl⟩:=d;have e:RF Any w c3 (eL 4 eVaR l):=k1v (ec:=eVaR) (size:=4) (by omega) hv fun cs x m hr=>(kai8 x cs hr).1;refine ⟨kyq (xs:=[eI sy,eI kd,eI inp,eI t,eI n,eS s,eL 4 eVaR l,eS op,eL 1 eI ar]) rfl fun j y b=>?_,(by obtain ⟨A,cap,_,q1,q2,_⟩:=g;exact qbd q1 q2),kw⟩
 match j with
 | 0=>simp at b;subst b;exact ⟨rfl,fun u a=>by simp at a;subst a;exact .atom rfl⟩
 | 1=>simp at b;subst b;exact ⟨rfl,fun u a=>by simp at a;subst a;exact .atom rfl⟩
 | 2=>simp at b;subst b;exact ⟨rfl,fun u a=>by simp at a;subst a;exact .atom rfl⟩
 | 3=>simp at b;subst b;exact ⟨rfl,fun u a=>by simp at a;subst a;exact .atom rfl⟩
 | 4=>simp at b;subst b;exact ⟨rfl,fun u a=>by simp at a;subst a;exact .atom rfl⟩
 | 5=>simp at b;subst b;exact ⟨rfl,fun u a=>by simp at a;subst a;exact .atom rfl⟩
 | 6=>simp at b;subst b;exact ⟨rfl,fun u a=>by simp at a;subst a;exact e⟩
 | 7=>simp at b;subst b;exact ⟨rfl,fun u a=>by simp at a;subst a;exact .atom rfl⟩
 | 8=>simp at b;subst b;exact ⟨rfl,fun u a=>by simp at a;subst a;exact kaan g⟩
 | j+9=>simp at b
theorem kamt {cs:List Value} {xs:List FV} (hl:cs.length=xs.length) (h:CR w cs (.agg xs) xs.length):RF Any w (.agg cs.toArray) (.agg xs):=
 .agg (by simpa using hl) (fun x a=>h.2.1 x a) fun i v x hv a=>h.2.2 i v x (by simpa using hv) a
theorem la_rf {v:Value} {x:La} (h:LaV Any w v x):RF Any w v (eLa x)/\kk5 x:=by
 obtain ⟨cs,rfl,v1,v2,v3,rfl,hn,h1,h2,h3⟩:=h;have r1:=kaan h1;have r2:RF Any w v2 (eL 2 eSy x.symbols):=k1v (ec:=eSy) (size:=2) (by omega) h2 fun cs x _ hr=>sy_cr hr;have r3:RF Any w v3 (eL 9 eRu x.rules):=k1v (ec:=eRu) (size:=9) (by omega) h3 fun cs x _ hr=>(kaiw hr).1;refine ⟨kamt (xs:=[eS x.name,eL 1 eI x.inputs,eL 2 eSy x.symbols,eL 9 eRu x.rules]) rfl (kyq rfl fun j y a=>?_),?_⟩
 ·match j with
  | 0=>simp at a;subst a;exact ⟨rfl,fun u c=>by simp at c;subst c;exact .atom rfl⟩
  | 1=>simp at a;subst a;exact ⟨rfl,fun u c=>by simp at c;subst c;exact r1⟩
  | 2=>simp at a;subst a;exact ⟨rfl,fun u c=>by simp at c;subst c;exact r2⟩
  | 3=>simp at a;subst a;exact ⟨rfl,fun u c=>by simp at c;subst c;exact r3⟩
  | j+4=>simp at a
 ·refine ⟨hn,?_,?_,?_,fun y a=>?_,fun r hr=>?_⟩;obtain ⟨A,cap,_,q1,q2,_⟩:=h1;exact qbd q1 q2;obtain ⟨A,cap,_,q1,q2,_⟩:=h2;exact qbd q1 q2;obtain ⟨A,cap,_,q1,q2,_⟩:=h3;exact qbd q1 q2;obtain ⟨A,cap,_,_,_,d⟩:=h2;obtain ⟨i,hi⟩:=qbs.1 a;obtain ⟨b,o,cs,_,_,_,_,e⟩:=d i y hi;exact e.2.1
  ·obtain ⟨A,cap,_,_,_,d⟩:=h3;obtain ⟨i,hi⟩:=qbs.1 hr;obtain ⟨b,o,cs,_,_,_,_,e⟩:=d i r hi;exact (kaiw e).2
end
section
variable {H:Type} {enc:TypeId×Value->H} {w:World} {base:Nat} {spare:Nat->Bool} {held:Bool}
theorem in_La {r:Reach} {b0:Nat} {v:Value} {d:DataW H} {p:List MemPlace} (hv:Value.okWide prog w r b0 26 v) (h:DataW.Trod enc prog w base spare held 26 v d p):∃ x,RF Any w v (eLa x)/\kk5 x:=by obtain ⟨x,a⟩:=k3d hv h;exact ⟨x,la_rf a⟩
end
open Go Go.RowKit Go.Proofs Go.Proofs.Tryz
section
variable {P:Program} {H:Type} {enc:TypeId×Value->H} {w:World} {base:Nat} {sp:Nat->Bool} {held:Bool}
theorem kyg {nm:String} {cs:Array Value} {g:Nat} (h:w.var? P nm=some cs) (a:P.globalNamed nm=some g):∃ e d,w.heap[g]?=some (.cells cs e d):=by
 unfold World.var? at h;rw [a,qa] at h;split at h;rename_i cs' e d b;injection h with h;subst h;exact ⟨e,d,b⟩
 ·cases h
theorem kahi {fuel:Nat} {t e:TypeId} {n:Nat} {k:IntKind} {f0 f1:Field} {cs:List Value} {zs:List (Int×Int)} {p:List MemPlace} (ht:P.underlying t=some (.array n e)) (B:P.underlying e=some (.struct #[f0,f1])) (h0:P.underlying f0.type=some (.int k)) (h1:P.underlying f1.type=some (.int k))
  (o0:f0.offset=0) (o1:f1.offset=1) (c0:P.cellsOf f0.type=1) (c1:P.cellsOf f1.type=1) (d:P.cellsOf e=2) (r:P.cellsOf t=2*n)
  (h:DataW.trod enc P w base sp held fuel t cs=some (.agg (zs.map fun z => .agg [.lit (.int k z.1), .lit (.int k z.2)]),p)):cs=zs.flatMap fun z=>[.int k z.1, .int k z.2]:=by
 obtain ⟨xs,m,_,C,hl,D,s⟩:=DataW.trod_array ht h;have f:zs.map (fun z=>(.agg [.lit (.int k z.1), .lit (.int k z.2)]:DataW H))=xs.map (·.1):=by have:=q9 Prod.fst C;simpa using this
 have g:zs.length=n:=by have:=q9 List.length f;simp at this;omega
 have one:∀ i (z:Int×Int),zs[i]?=some z->(cs.drop (i*2)).take 2=[.int k z.1, .int k z.2]:=fun i z j=>by
  have hi:i<n:=by rw [<- g];exact (qo.1 j).1
  have e1:=s i hi;rw [d] at e1;have o:xs[i]?=some xs[i]:=qc (by omega);rw [o] at e1;have hd:(xs[i]'(by omega)).1=(.agg [.lit (.int k z.1), .lit (.int k z.2)]:DataW H):=by have:=q9 (·[i]?) f;simp only [qp,j,o,qbk,ql] at this;exact this.symm
  obtain ⟨y0,y1,q,x,c,t0,t1⟩:=Go.ChangeShapes.trod_struct2 B e1;rw [o0,c0] at t0;rw [o1,c1] at t1;obtain ⟨a,ha,rfl,_⟩:=DataW.trod_int h0 t0;obtain ⟨b,A,rfl,_⟩:=DataW.trod_int h1 t1;rw [x] at hd;simp only [DataW.agg.injEq,List.cons.injEq,DataW.lit.injEq,Lit.int.injEq,true_and,and_true] at hd;obtain ⟨rfl,rfl⟩:=hd;rw [d] at c;generalize (cs.drop (i*2)).take 2=l at *
  match l,c with
  | [u,v],_=>
   simp at ha A;rw [ha,A]
 have key:∀ (zs:List (Int×Int)) (cs:List Value),cs.length=2*zs.length->(∀ i (z:Int×Int),zs[i]?=some z->(cs.drop (i*2)).take 2=[.int k z.1, .int k z.2])->cs=zs.flatMap fun z=>[.int k z.1, .int k z.2]:=by
  intro zs
  induction zs with
  | nil=>intro cs h _;exact qar (by simpa using h)
  | cons z zs ih=>
   intro cs h j
   match cs,h with
   | u::v::cs,h=>
    have e:=j 0 z rfl;simp at e;rw [qa0,<- ih cs (by simp at h;omega) fun i y x=>by have:=j (i+1) y (by simpa using x);rw [qbn,Nat.one_mul,<- List.drop_drop] at this;rw [show (u::v::cs).drop (i*2)=(u::v::cs).drop (i*2) from rfl,List.drop_drop] at this;rw [show i*2+2=(i*2)+1+1 from rfl,List.drop_succ_cons,List.drop_succ_cons] at this;exact this];rw [e.1,e.2];rfl
   | [_],h=>simp at h;omega
   | [],h=>simp at h
 exact key zs cs (by rw [hl,r,g]) one
end
theorem gl4_n : prog.globalNamed "math/bits.deBruijn32tab" = some 4 := by kernel_rfl
theorem gl4_t:(prog.globals[4]?).map (·.type)=some 250:=by kernel_rfl
theorem gl4_d:(Rows.laid_math_bits_deBruijn32tab:DataW Unit)=Lib.tabData .u8 gt4:=by kernel_rfl
theorem gl4_c:(gt4.map fun z=>Value.int .u8 z).toArray=gv4:=by kernel_rfl
theorem gl4_v {W : World} {cs : Array Value} {fuel : Nat} {p : List MemPlace} (hv : W.var? prog "math/bits.deBruijn32tab" = some cs) (h : DataW.trod (fun _ => ()) prog W 0 (fun _ => true) false fuel 250 cs.toList = some (Rows.laid_math_bits_deBruijn32tab, p)) : ∃ e d, W.heap[4]? = some (.cells gv4 e d) := by
 rw [gl4_d] at h;have:=Lib.cells_of_tab underlying250 underlying5 (by kernel_rfl) (by kernel_rfl) h;have e:cs=gv4:=by rw [<- gl4_c,<- this]
 rw [e] at hv;exact kyg hv gl4_n
theorem gl5_n : prog.globalNamed "math/bits.deBruijn64tab" = some 5 := by kernel_rfl
theorem gl5_t:(prog.globals[5]?).map (·.type)=some 251:=by kernel_rfl
theorem gl5_d:(Rows.laid_math_bits_deBruijn64tab:DataW Unit)=Lib.tabData .u8 gt5:=by kernel_rfl
theorem gl5_c:(gt5.map fun z=>Value.int .u8 z).toArray=gv5:=by kernel_rfl
theorem gl5_v {W : World} {cs : Array Value} {fuel : Nat} {p : List MemPlace} (hv : W.var? prog "math/bits.deBruijn64tab" = some cs) (h : DataW.trod (fun _ => ()) prog W 0 (fun _ => true) false fuel 251 cs.toList = some (Rows.laid_math_bits_deBruijn64tab, p)) : ∃ e d, W.heap[5]? = some (.cells gv5 e d) := by
 rw [gl5_d] at h;have:=Lib.cells_of_tab underlying251 underlying5 (by kernel_rfl) (by kernel_rfl) h;have e:cs=gv5:=by rw [<- gl5_c,<- this]
 rw [e] at hv;exact kyg hv gl5_n
theorem gl1_n : prog.globalNamed "internal/strconv.uint64pow10" = some 1 := by kernel_rfl
theorem gl1_t:(prog.globals[1]?).map (·.type)=some 236:=by kernel_rfl
theorem gl1_d:(Rows.laid_internal_strconv_uint64pow10:DataW Unit)=Lib.tabData .u64 gt1:=by kernel_rfl
theorem gl1_c:(gt1.map fun z=>Value.int .u64 z).toArray=gv1:=by kernel_rfl
theorem gl1_v {W : World} {cs : Array Value} {fuel : Nat} {p : List MemPlace} (hv : W.var? prog "internal/strconv.uint64pow10" = some cs) (h : DataW.trod (fun _ => ()) prog W 0 (fun _ => true) false fuel 236 cs.toList = some (Rows.laid_internal_strconv_uint64pow10, p)) : ∃ e d, W.heap[1]? = some (.cells gv1 e d) := by
 rw [gl1_d] at h;have:=Lib.cells_of_tab underlying236 underlying218 (by kernel_rfl) (by kernel_rfl) h;have e:cs=gv1:=by rw [<- gl1_c,<- this]
 rw [e] at hv;exact kyg hv gl1_n
theorem gl3_n : prog.globalNamed "unicode/utf8.acceptRanges" = some 3 := by kernel_rfl
theorem gl3_t:(prog.globals[3]?).map (·.type)=some 249:=by kernel_rfl
def gp3:List (Int×Int):=[(128,191),(160,191),(128,159),(144,191),(128,143),(0,0),(0,0),(0,0),(0,0),(0,0),(0,0),(0,0),(0,0),(0,0),(0,0),(0,0)]
theorem gl3_d:(Rows.laid_unicode_utf8_acceptRanges:DataW Unit) = .agg (gp3.map fun z => .agg [.lit (.int .u8 z.1), .lit (.int .u8 z.2)]):=by kernel_rfl
theorem gl3_c:(gp3.flatMap fun z=>[Value.int .u8 z.1,Value.int .u8 z.2]).toArray=gv3:=by kernel_rfl
theorem gl3_v {W : World} {cs : Array Value} {fuel : Nat} {p : List MemPlace} (hv : W.var? prog "unicode/utf8.acceptRanges" = some cs) (h : DataW.trod (fun _ => ()) prog W 0 (fun _ => true) false fuel 249 cs.toList = some (Rows.laid_unicode_utf8_acceptRanges, p)) : ∃ e d, W.heap[3]? = some (.cells gv3 e d) := by
 rw [gl3_d] at h;have:=kahi underlying249 underlying248 underlying5 underlying5 rfl rfl (by kernel_rfl) (by kernel_rfl) (by kernel_rfl) (by kernel_rfl) h;have e:cs=gv3:=by rw [<- gl3_c,<- this]
 rw [e] at hv;exact kyg hv gl3_n
theorem gl2_n : prog.globalNamed "unicode/utf8.first" = some 2 := by kernel_rfl
theorem gl2_t:(prog.globals[2]?).map (·.type)=some 246:=by kernel_rfl
theorem gl2_d:(Rows.laid_unicode_utf8_first:DataW Unit)=Lib.tabData .u8 gt2:=by kernel_rfl
theorem gl2_c:(gt2.map fun z=>Value.int .u8 z).toArray=gv2:=by kernel_rfl
theorem gl2_v {W : World} {cs : Array Value} {fuel : Nat} {p : List MemPlace} (hv : W.var? prog "unicode/utf8.first" = some cs) (h : DataW.trod (fun _ => ()) prog W 0 (fun _ => true) false fuel 246 cs.toList = some (Rows.laid_unicode_utf8_first, p)) : ∃ e d, W.heap[2]? = some (.cells gv2 e d) := by
 rw [gl2_d] at h;have:=Lib.cells_of_tab underlying246 underlying5 (by kernel_rfl) (by kernel_rfl) h;have e:cs=gv2:=by rw [<- gl2_c,<- this]
 rw [e] at hv;exact kyg hv gl2_n
def kyz : List (String × DataW Unit) := [("math/bits.deBruijn32tab", Rows.laid_math_bits_deBruijn32tab), ("math/bits.deBruijn64tab", Rows.laid_math_bits_deBruijn64tab), ("internal/strconv.uint64pow10", Rows.laid_internal_strconv_uint64pow10), ("unicode/utf8.acceptRanges", Rows.laid_unicode_utf8_acceptRanges), ("unicode/utf8.first", Rows.laid_unicode_utf8_first)]
theorem kam3 {W:World} (h:W.ShapedOpen prog):GlbR W 0 #[]:=by
 obtain ⟨m,hm⟩:=Go.Proofs.cell_of_shapedOpen_int (zero:=#[.int .i64 0]) (g:=0) (t:=3) (k := .i64) h (qal (by kernel_rfl)) (by kernel_rfl) rfl (by kernel_rfl) (by kernel_rfl) underlying3;obtain ⟨cs,a,hs,_⟩:=h.1 0 #[.int .i64 0] 3 (qal (by kernel_rfl)) (by kernel_rfl);refine .inr ⟨rfl,m,3,(0,0),?_⟩;obtain ⟨l⟩:=cs
 match l,hs with
 | [u],_=>
  simp only [World.cell?,a] at hm;have b:u = .int .i64 m:=by simpa using hm
  rw [a,b]
theorem kxq {H:Type} {enc:TypeId×Value->H} {a:Assume} {C:Checked} {os:Os} {f:FuncId} {fn:Func} {s:ChangeSpec} {conds:List PathCond} {apart fresh b again:Bool} {X:World->Array Value->Prop}
  (o:∀ (w w':World) (args:Array Value),w.heap=w'.heap->X w args->X w' args)
  (own:ownKnob C.prog.godebug=none) (started:os.Started) (noInit:C.prog.inits.idxOf? f=none) (k:C.prog.funcs[f]?=some fn)
  (witness:∃ (w:World) (tape:Tape) (i:Input),w.os=os/\(w.forCall tape i).Shaped C.prog/\i.vars=[]/\Input.okWide C.prog (w.forCall tape i) .any w.heap.size f i /\
   ((s.pre enc C.prog fn conds apart (w.forCall tape i).memory i.args/\X (w.forCall tape i).memory i.args)/\sizedMet enc C.prog fn (OpenSpec.ofChange s) apart (w.forCall tape i).memory i.args)/\a.holds C.prog (lone (Frame.enter C.prog f i.args .normal) [] (w.forCall tape i)))
  (contract:∀ (W:World) (base:Nat) (args:Array Value) (ds gs:List (DataW H)) (before:List MemPlace),
   (∀ (j:Nat) t v,fn.params[j]?=some t->args[j]?=some v->Value.okWide C.prog W .any base t v) ->
   DataW.Whole enc C.prog fn.params.toList s.vars apart W args.toList ds gs before->X W args->W.ShapedOpen C.prog ->
   Calls C.prog f args W fun e W'=>∃ v,e = .returned v/\s.post enc C.prog fn apart fresh b again W args v W'):
  ReturnsInHanded a C os f .any (fun w args=>(s.pre enc C.prog fn conds apart w args/\X w args)/\sizedMet enc C.prog fn (OpenSpec.ofChange s) apart w args) (s.post enc C.prog fn apart fresh b again):=by
 refine returnsInHanded_of_calls own started noInit witness ?_;intro w tape i _ l _ m c h;obtain ⟨_,_,_,fn',d,_,_,_,_,g⟩:=m;have e:fn'=fn:=qq (d.symm.trans k);subst e;obtain ⟨⟨⟨ds,gs,before,p,hc⟩,q⟩,u⟩:=c;have n:=DataW.Whole.of_heap (w':=w.forCall tape i) (by rfl) p;refine (contract (w.forCall tape i) w.heap.size i.args ds gs before g n (o _ _ _ (by rfl) q) l).mono fun e W' ⟨v,r,hp⟩=>?_;subst r;exact ChangeSpec.post_blind hp
theorem kamg {W:World} (h:laidMetH prog kyz W) (a:W.ShapedOpen prog):∀ p,p∈GV->GlbR W p.1 p.2:=by
 have h:laidMet prog kyz W:=h;obtain ⟨ps,hl,_⟩:=h;simp only [kyz,DataW.LaidVars] at hl;obtain ⟨g0,t0,c0,u0,p0,q0,n0,y0,v0,d0,⟨g1,t1,c1,u1,p1,q1,n1,y1,v1,d1,⟨g2,t2,c2,u2,p2,q2,n2,y2,v2,d2,⟨g3,t3,c3,u3,p3,q3,n3,y3,v3,d3,⟨g4,t4,c4,u4,p4,q4,n4,y4,v4,d4,_,_⟩,_⟩,_⟩,_⟩,_⟩:=hl;obtain rfl:=qq (gl4_t.symm.trans (by rw [qq (gl4_n.symm.trans n0)];exact y0));have z4:=gl4_v v0 d0;obtain rfl:=qq (gl5_t.symm.trans (by rw [qq (gl5_n.symm.trans n1)];exact y1));have z5:=gl5_v v1 d1;obtain rfl:=qq (gl1_t.symm.trans (by rw [qq (gl1_n.symm.trans n2)];exact y2));have z1:=gl1_v v2 d2;obtain rfl:=qq (gl3_t.symm.trans (by rw [qq (gl3_n.symm.trans n3)];exact y3));have z3:=gl3_v v3 d3;obtain rfl:=qq (gl2_t.symm.trans (by rw [qq (gl2_n.symm.trans n4)];exact y4));have z2:=gl2_v v4 d4;intro p hp;simp only [GV,qac,List.not_mem_nil,or_false] at hp;rcases hp with rfl | rfl | rfl | rfl | rfl | rfl;exact .inl ⟨qal (by kernel_rfl),z1⟩;exact .inl ⟨qal (by kernel_rfl),z2⟩;exact .inl ⟨qal (by kernel_rfl),z3⟩;exact .inl ⟨qal (by kernel_rfl),z4⟩;exact .inl ⟨qal (by kernel_rfl),z5⟩
 ·exact kam3 a
noncomputable def k3w (os:Os):World:=
 let w0:=World.holding prog os ⟨#[],#[],[]⟩
 { w0 with heap:=(((((w0.heap).modify 1 (fun | Obj.cells _ t fr=>Obj.cells gv1 t fr | o=>o)).modify 2 (fun | Obj.cells _ t fr=>Obj.cells gv2 t fr | o=>o)).modify 3 (fun | Obj.cells _ t fr=>Obj.cells gv3 t fr | o=>o)).modify 4 (fun | Obj.cells _ t fr=>Obj.cells gv4 t fr | o=>o)).modify 5 (fun | Obj.cells _ t fr=>Obj.cells gv5 t fr | o=>o) }
theorem k49 (os:Os) (args:Array Value):laidMetH prog kyz ((k3w os).forCall (fun _ _=>0) ⟨#[],args,[]⟩).memory:=
 laidMetH_of_parts (laidMet_of_run' 8 (by kernel_rfl) (by kernel_rfl)) (by kernel_rfl)
open Go Go.RowKit Go.Proofs.Tryz
def chk (l:La):Int:=(kep l).getD 0
theorem kal9 {l:La} (h:kk5 l):kep l=some (chk l)/\kcq l=some (chk l)/\(chk l=0↔klh l):=by
 obtain ⟨c,c1,c2,c3,_⟩:=kaeh h;have e:chk l=c:=by unfold chk;rw [c1];rfl
 rw [e];exact ⟨c1,c2,c3⟩
theorem k4x:∀ (n:Nat) (t:Tm),t.size<=n->t.size<=1000->khx n t=some t
 | 0,t,h,_=>by have:=Tm.size_pos t;omega
 | n+1, .mk i ys,hn,hs=>by
  have c:(Tm.mk i ys).size=Tm.sizeL ys+1:=rfl;have d:=km8 ys;show kjn (khx n) (.mk i ys)=_;unfold kjn;have main:kaa (ki0 (.mk i ys) (khx n)) fuel (0,[])=some ys:=by
   refine Ev.eq (kj5 ys.length (fun k v=>v=((k:Int),ys.take k)) (by omega) rfl (fun k v hk a=>?_) fun v a=>?_);subst a;have hm:=Tm.sizeL_mem (qv hk);have ih:=k4x n ys[k] (by omega) (by omega);refine knn (s:=(((k+1:Nat):Int),ys.take (k+1))) ?_ rfl;simp only [ki0,show (Tm.mk i ys).args=ys from rfl,kbd hk,qf,kak,qc hk,qa,ih,ki2 (b:=32) (xs:=ys.take k) (ys:=[ys[k]]) (by simp only [qah,qu,qaf];omega),ki3 hk (show ys.length<=9223372036854775807 by omega)];rw [List.take_succ_eq_append_getElem hk]
   ·subst a;refine knl (b:=ys) ?_ rfl;simp only [ki0,show (Tm.mk i ys).args=ys from rfl,kfm,qd,List.take_length]
  rw [main];rfl
theorem kaco {l:La} (hl:kk5 l) (s:Int) {t:List UInt8} (ht:t.length<=200):∃ r:Tm×Int×Int,kgl l s (mkB t)=some r/\kh5 l s (mkB t)=some r/\r.1.size<=1000:=by
 have h0:(Tm.mk 0 []).size<=1000:=by simp [Tm.size,Tm.sizeL]
 unfold kgl kh5;obtain ⟨k1,k2,k3⟩:=kal9 hl;rw [k1,k2,qa,qa];by_cases hc:chk l≠0;rw [show (chk l != 0)=true by rw [qbl];exact hc,qf,qf];exact ⟨_,rfl,rfl,h0⟩;have hc:chk l=0:=Decidable.not_not.1 hc;have hv:=k3.1 hc;rw [hc,bne_self_eq_false,qd,qd];by_cases s0:s<0;rw [qe s0,qf,qa,qa,qf,qf];exact ⟨_,rfl,rfl,h0⟩;rw [qb s0,qd,qa,qa];by_cases s1:(l.symbols.length:Int)<=s;rw [qe s1,qf,qf];exact ⟨_,rfl,rfl,h0⟩;have hr:=k99 (s:=t) (by omega) fuel t (List.suffix_refl t) (kbk (by omega));rw [show pos t t=0 by unfold pos;simp] at hr;rw [qb s1,qd,qd,kb8,qb (show ¬ 65536<(t.length:Int) by omega),qd,qd,kamb (by omega),hr,qa,qa];unfold kabj;have a:=ktb fuel t;have b:=ex_c fuel t;cases g:exM fuel t with
 | inr m=>exact ⟨_,rfl,rfl,h0⟩
 | inl p=>
  obtain ⟨x,m⟩:=p;rw [g] at a b;have d:=krk a.1;rw [kb8] at d;rw [show decide ((ExR t (.inl (x,m))).2.1<(t.length:Int))=decide (m≠[]) from d];simp only [ExR,qab,qd,qa];cases m with
  | cons c u=>
   rw [qe (by simp)];exact ⟨_,rfl,rfl,h0⟩
  | nil=>
   obtain ⟨xc,xz⟩:=b;have j:szX x<=200:=(by simp only [qaf] at xz;omega);have f:szX x<=fuel:=Nat.le_of_lt (kbk (by omega));rw [qb (by simp)];simp only [bne_self_eq_false,qd];rw [k7e hl hv fuel x s xc.ok f,k4i hl hv fuel x xc f,qa,qa,k7m (by omega) (by omega),k8e (by omega) (by omega)];cases hd:drvM l fuel x s with
   | none=>exact ⟨_,rfl,rfl,h0⟩
   | some u=>
    obtain ⟨d1,d2⟩:=k35 hv fuel x s u xc.ok hd;have h:u.size<=200:=(by have:=(x_ok hl hv u s d1).2;rw [d2] at this;omega);obtain ⟨c,c1,c2,_⟩:=kabs l s u hl (by omega);have i:Tm.mk u.rule u.args=u:=(by cases u;rfl);simp only [drR,qbq,qa2,qab,qd,qa,i,c1,c2];by_cases e:c=0;subst e;rw [bne_self_eq_false,qd,qd,k4x fuel u (Nat.le_of_lt (kbk (by omega))) (by omega)];exact ⟨_,rfl,rfl,by show u.size<=1000;omega⟩
    ·rw [show (c != 0)=true by rw [qbl];exact e,qf,qf];exact ⟨_,rfl,rfl,h0⟩
theorem kyk (l:La) (s:Int) (t:BA) (hl:kk5 l) {p:Prop} (_:p) (_:t.size<=9223372036854775807):kfg l s t=some true:=by
 unfold kfg;rw [kam1,qa,kaki];cases (decide (l.rules.length<=20) && decide (l.symbols.length<=8)) with
 | false=>rfl
 | true=>
  rw [qab,qd,qa];by_cases h:200<(t.size:Int);rw [qe h];rfl;obtain ⟨r,r1,r2,r3⟩:=kaco hl s (t:=bsOf t) (by rw [kafx];omega);rw [k0d] at r1 r2;rw [qb h,qd,r1,r2,qa,qa,kak3 _ _ r3 r3,show cmpT r.1 r.1=0 by unfold cmpT;rw [qg (Nat.lt_irrefl _),qg (Nat.lt_irrefl _),kx1,kx1];rfl];simp only [qa,qbr,qf]
open Go Go.RowKit Go.ChangeShapes Go.WideShapes Go.Proofs.Tryz
theorem kalp:Tryz.checked.prog.liftsFinal=false:=by as_aux_lemma=>kernel_rfl
theorem kano:Tryz.checked.prog.make=some .cut:=by as_aux_lemma=>kernel_rfl
set_option maxRecDepth 100000 in
theorem ku7 (os:Os) (started:os.Started) (H:Type) (enc:TypeId×Value->H):
  ReturnsInHanded {} Tryz.checked os 4 .any (fun w args=>(Rows.notationParsesSpec.pre enc prog Tryz.f4 Rows.notationParsesRow.domain false w args/\laidMetH prog Rows.notationParsesRow.laid w)/\sizedMet enc prog Tryz.f4 (OpenSpec.ofChange Rows.notationParsesSpec) false w args) (Rows.notationParsesSpec.post enc prog Tryz.f4 false true false false):=by
 refine kxq (C:=Tryz.checked) (X:=fun w _=>laidMetH prog kyz w) (fun _ _ _ m h=>h.of_heap m) kaht started (by kernel_rfl) func4
  (ChangeSpec.witness_at (enc:=enc) (C:=Tryz.checked) (os:=os) (X:=fun w _=>laidMetH prog kyz w) false (k3w os) #[.agg #[.string ⟨#[]⟩, .slice none 0 0, .slice none 0 0, .slice none 0 0], .int .i64 0, .string ⟨#[]⟩] 8 rfl (by kernel_rfl) (by kernel_rfl) (by kernel_rfl) (by kernel_rfl) (by kernel_rfl) (k49 os _)) ?_
 intro W base args ds gs before b l n d;have a:∀ (j:Nat) t v,Tryz.f4.params[j]?=some t->args[j]?=some v->Value.okWide prog W .any base t v:=b;have f:=l;obtain ⟨p,q,g,o,rfl,r,s⟩:=l;have hA:DataW.TrodAll enc prog W 0 (fun _=>true) true Tryz.f4.params.toList args.toList ds p:=g;rw [Tryz.params4] at hA a;obtain ⟨v0,vs0,d0,ds0,p0,q0,k,rfl,rfl,h0,r0⟩:=trodAll_cons hA;obtain ⟨v1,vs1,d1,ds1,p1,q1,rfl,rfl,rfl,h1,r1⟩:=trodAll_cons r0;obtain ⟨v2,vs2,d2,ds2,p2,q2,rfl,rfl,rfl,h2,r2⟩:=trodAll_cons r1;obtain ⟨rfl,rfl,rfl⟩:=trodAll_nil r2;obtain rfl:args=#[v0,v1,v2]:=by cases args;simp_all
 obtain ⟨rfl,rfl⟩:=trodVars_none o;obtain ⟨x0,e0,b0⟩:=in_La (a 0 26 v0 rfl rfl) h0;obtain ⟨x1,e1,b1⟩:=kamh underlying3 (a 1 3 v1 rfl rfl) h1;obtain ⟨x2,e2,b2⟩:=kanb underlying9 (a 2 9 v2 rfl rfl) h2;refine (kabr (args:=[eLa x0,eI x1,eS x2]) (kn7 x0 x1 x2 true (kyk x0 x1 x2 b0 b1 b2)) rfl ?_ (kamg n d)).mono fun e W' ⟨u,y⟩=>?_
 ·intro i v x hv c
  match i with
  | 0=>simp at hv c;subst hv c;exact e0
  | 1=>simp at hv c;subst hv c;exact e1
  | 2=>simp at hv c;subst hv c;exact e2
  | i+3=>simp at hv
 subst u;exact ⟨_,rfl,kahg kaf4 (by rw [Tryz.params4];intro t ht;simp at ht;rcases ht with rfl | rfl | rfl <;> exact ⟨by kernel_rfl,qal (by kernel_rfl)⟩) rfl underlying4 rfl rfl f y⟩
set_option maxHeartbeats 4000000 in
theorem kvn:joinedFacts Tryz.checked.prog 4 Tryz.f4 Rows.notationParsesSpec Rows.notationParsesRow=true:=by
 unfold joinedFacts;simp only [kacu,kalp,kano,kamz,kakt,kakg,q8,Bool.and_true]
 repeat' apply And.intro
 all_goals (as_aux_lemma=>kernel_rfl)
theorem kw4:Rows.NotationParsesSaid:=
 OpenClaim.holds_of_wide 4 Tryz.f4 rfl rfl rfl rfl rfl rfl rfl ⟨rfl,rfl,rfl,rfl,rfl⟩ rfl rfl rfl rfl rfl (by kernel_rfl) func4 kvn
  (qal (by kernel_rfl)) (by unfold Func.isWrapper;rw [qg (qa1 (by kernel_rfl))];exact ⟨rfl,rfl⟩)
  (fun os started H enc _=>ku7 os started H enc)
theorem notationParses_card_holds:Rows.NotationParsesCardSaid:=
 Claim7.holds_tied_plain_at .later [] [.data, .data, .data, .data, .pinned] true (true, "aad9bf91ff3f5c2232ad5298ebe3199df4dc9cce42722f6e274e8872ef87a7c0") true kw4 (fun _ h => by cases h) (by kernel_rfl) (fun _ h => by cases h) notationParses_row_tie rfl ⟨rfl, rfl⟩ (by kernel_rfl) rfl
  (fun f fn b a=>by
   obtain rfl : f = 4 := qq ((show prog.funcNamed "synthesis/synthesislaw14.NotationParses" = some 4 by kernel_rfl).symm.trans b) |>.symm;obtain rfl:fn=Tryz.f4:=(qq (func4.symm.trans a)).symm;exact ⟨by kernel_rfl,fun j t ht=>by
    rw [Tryz.params4] at ht
    match j with
    | 0=>obtain rfl:=qq ht;exact (show prog.wantsStandIn 26=false by kernel_rfl)
    | 1=>obtain rfl:=qq ht;exact (show prog.wantsStandIn 3=false by kernel_rfl)
    | 2=>obtain rfl:=qq ht;exact (show prog.wantsStandIn 9=false by kernel_rfl)
    | j+3=>simp at ht⟩)
  (by kernel_rfl)
end Go.Proofs.YtaimpcnpifoidaaGreatDoor
