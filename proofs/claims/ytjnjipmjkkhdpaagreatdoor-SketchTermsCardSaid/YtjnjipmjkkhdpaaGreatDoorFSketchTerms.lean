/- SketchTerms: the law returns true for every input where the listed tables hold what the program lays into them. -/
import Derived.Test.YtjnjipmjkkhdpaaGreatDoorHd
import Derived.Test.YtjnjipmjkkhdpaaGreatDoorZE
import Derived.Test.YtjnjipmjkkhdpaaGreatDoorMc
import Derived.Test.YtjnjipmjkkhdpaaGreatDoorEE
import Derived.Test.YtjnjipmjkkhdpaaGreatDoorMc
import Derived.Test.YtjnjipmjkkhdpaaGreatDoorGk
import Derived.Test.YtjnjipmjkkhdpaaGreatDoorRows
import Derived.Lib.LaidTab
import Derived.LaidLaws
import Derived.LaidHandle
import Derived.OpenShut
import Derived.ChangeSame
import Derived.ChangeMaps5
import Derived.JoinedOf
import Derived.Test.YtjnjipmjkkhdpaaGreatDoorSim
import Derived.Test.YtjnjipmjkkhdpaaGreatDoorCards
import Derived.Test.YtjnjipmjkkhdpaaGreatDoorTie
import Derived.SevenTiedAt
set_option linter.all false
set_option maxRecDepth 100000
namespace Go.Proofs.YtjnjipmjkkhdpaaGreatDoor
open Go Go.RowKit Go.Proofs.Tryz
variable {w:World}
def CRw (w:World) (cs:List Value) (x:FV) (size:Nat):Prop:=x.cells.length=size/\(∀ y∈x.cells,y.single=true)/\∀ (j:Nat) (u:Value) (y:FV),cs[j]?=some u->x.cells[j]?=some y->RF Any w u y
theorem kj0 {cs:List Value} (xs:List FV) (h:∀ (j:Nat) (y:FV),xs[j]?=some y->y.single=true/\∀ u,cs[j]?=some u->RF Any w u y) (hl:cs.length=xs.length:=by rfl):CRw w cs (.agg xs) xs.length:=by refine ⟨rfl,fun y hy=>?_,fun j u y a hy=>(h j y hy).2 u a⟩;obtain ⟨j,b⟩:=qbm.1 hy;exact (h j y b).1
theorem k0l {v:Value} {ns:List Int} (h:Ints Any w v ns):RF Any w v (eL 1 eI ns):=
 kld (R:=IntR) _ _ h fun cs x _ hx=>k3v hx.1 rfl
theorem k7v:∀ (x:Va) (cs:List Value),RepVa Any w cs x->CRw w cs (eVaR x) 4/\inV x:=by
 refine Va.ind fun t n s l ih=>?_;intro cs h;obtain ⟨v,rfl,ht,hn,hs,hv⟩:=h.form;have c:RF Any w v (.lst 4 l.length (kpc l)):=by have:=kld eVaR 4 hv fun cs x hx hr=>(ih x hx cs hr).1;rw [ksx];have e:eL 4 eVaR l = .lst 4 l.length (l.map eVaR):=rfl;rw [<- e];exact this
 refine ⟨kj0 [eI t,eI n,eS s, .lst 4 l.length (kpc l)] fun j y hy=>?_,?_⟩
 ·match j with
  | 0=>simp at hy;subst hy;exact ⟨rfl,fun u a=>by simp at a;subst a;exact .atom rfl⟩
  | 1=>simp at hy;subst hy;exact ⟨rfl,fun u a=>by simp at a;subst a;exact .atom rfl⟩
  | 2=>simp at hy;subst hy;exact ⟨rfl,fun u a=>by simp at a;subst a;exact .atom rfl⟩
  | 3=>simp at hy;subst hy;exact ⟨rfl,fun u a=>by simp at a;subst a;exact c⟩
  | j+4=>simp at hy
 ·obtain ⟨A,cap,_,h1,g,f⟩:=hv;have all:∀ x∈l,inV x:=fun x hx=>by obtain ⟨i,hi⟩:=qbm.1 hx;obtain ⟨b,o,cs,_,_,_,_,hr⟩:=f i x hi;exact (ih x hx cs hr).2
  have gen:∀ l:List Va,(∀ x∈l,inV x)->kt5 9223372036854775807 l/\krl l:=fun l=>by
   induction l with
   | nil=>exact fun _=>⟨trivial,trivial⟩
   | cons y l ih=>exact fun h=>⟨⟨(h y (qt ..)).1,(ih fun z d=>h z (qf _ d)).1⟩,(h y (qt ..)).2,(ih fun z d=>h z (qf _ d)).2⟩
  obtain ⟨g1,g2⟩:=gen l all;exact ⟨⟨by omega,g1⟩,hs,g2⟩
theorem sy_cr {cs:List Value} {x:Sy} (h:kxb Any w cs x):CRw w cs (eSy x) 2:=by
 obtain ⟨rfl,hs,ht⟩:=h;refine kj0 [eS x.name,eI x.type] fun j y hy=>?_
 match j with
 | 0=>simp at hy;subst hy;exact ⟨rfl,fun u a=>by simp at a;subst a;exact .atom rfl⟩
 | 1=>simp at hy;subst hy;exact ⟨rfl,fun u a=>by simp at a;subst a;exact .atom rfl⟩
 | j+2=>simp at hy
theorem k7u {cs:List Value} {x:Ru} (h:kw5 Any w cs x):CRw w cs (eRu x) 9/\kxk x:=by
 obtain ⟨c0,c1,c2,c3,v,rfl,h1,g,i,m,e,f⟩:=h;obtain ⟨k,kw⟩:=k7v _ _ e;obtain ⟨sy,kd,inp,c,op,ar⟩:=x;obtain ⟨t,n,s,l⟩:=c;obtain ⟨v',b,ht,hn,hs,hv⟩:=e.form;simp only [List.cons.injEq,and_true] at b;obtain ⟨rfl,rfl,rfl,rfl⟩:=b;have d:RF Any w c3 (eL 4 eVaR l):=kld eVaR 4 hv fun cs x hx hr=>(k7v x cs hr).1;refine ⟨kj0 [eI sy,eI kd,eI inp,eI t,eI n,eS s,eL 4 eVaR l,eS op,eL 1 eI ar] fun j y hy=>?_,(by obtain ⟨A,cap,_,q1,q2,_⟩:=f;exact qar q1 q2),kw⟩
 match j with
 | 0=>simp at hy;subst hy;exact ⟨rfl,fun u a=>by simp at a;subst a;exact .atom rfl⟩
 | 1=>simp at hy;subst hy;exact ⟨rfl,fun u a=>by simp at a;subst a;exact .atom rfl⟩
 | 2=>simp at hy;subst hy;exact ⟨rfl,fun u a=>by simp at a;subst a;exact .atom rfl⟩
 | 3=>simp at hy;subst hy;exact ⟨rfl,fun u a=>by simp at a;subst a;exact .atom rfl⟩
 | 4=>simp at hy;subst hy;exact ⟨rfl,fun u a=>by simp at a;subst a;exact .atom rfl⟩
 | 5=>simp at hy;subst hy;exact ⟨rfl,fun u a=>by simp at a;subst a;exact .atom rfl⟩
 | 6=>simp at hy;subst hy;exact ⟨rfl,fun u a=>by simp at a;subst a;exact d⟩
 | 7=>simp at hy;subst hy;exact ⟨rfl,fun u a=>by simp at a;subst a;exact .atom rfl⟩
 | 8=>simp at hy;subst hy;exact ⟨rfl,fun u a=>by simp at a;subst a;exact k0l f⟩
 | j+9=>simp at hy
theorem k4y {cs:List Value} (xs:List FV) (hl:cs.length=xs.length) (h:CRw w cs (.agg xs) xs.length):RF Any w (.agg cs.toArray) (.agg xs):=
 .agg (by simpa using hl) (fun x hx=>h.2.1 x hx) fun i v x hv hx=>h.2.2 i v x (by simpa using hv) hx
theorem la_rf {v:Value} {x:La} (h:LaV Any w v x):RF Any w v (eLa x)/\kul x:=by
 obtain ⟨cs,rfl,v1,v2,v3,rfl,hn,h1,c,d⟩:=h;have r1:=k0l h1;have r2:RF Any w v2 (eL 2 eSy x.symbols):=kld eSy 2 c fun cs x _ hr=>sy_cr hr;have r3:RF Any w v3 (eL 9 eRu x.rules):=kld eRu 9 d fun cs x _ hr=>(k7u hr).1;refine ⟨k4y [eS x.name,eL 1 eI x.inputs,eL 2 eSy x.symbols,eL 9 eRu x.rules] rfl (kj0 _ fun j y hy=>?_),?_⟩
 ·match j with
  | 0=>simp at hy;subst hy;exact ⟨rfl,fun u a=>by simp at a;subst a;exact .atom rfl⟩
  | 1=>simp at hy;subst hy;exact ⟨rfl,fun u a=>by simp at a;subst a;exact r1⟩
  | 2=>simp at hy;subst hy;exact ⟨rfl,fun u a=>by simp at a;subst a;exact r2⟩
  | 3=>simp at hy;subst hy;exact ⟨rfl,fun u a=>by simp at a;subst a;exact r3⟩
  | j+4=>simp at hy
 ·refine ⟨hn,?_,?_,?_,fun y hy=>?_,fun r hr=>?_⟩;obtain ⟨A,cap,_,q1,q2,_⟩:=h1;exact qar q1 q2;obtain ⟨A,cap,_,q1,q2,_⟩:=c;exact qar q1 q2;obtain ⟨A,cap,_,q1,q2,_⟩:=d;exact qar q1 q2;obtain ⟨A,cap,_,_,_,hx⟩:=c;obtain ⟨i,hi⟩:=qbm.1 hy;obtain ⟨b,o,cs,_,_,_,_,e⟩:=hx i y hi;exact e.2.1
  ·obtain ⟨A,cap,_,_,_,hx⟩:=d;obtain ⟨i,hi⟩:=qbm.1 hr;obtain ⟨b,o,cs,_,_,_,_,e⟩:=hx i r hi;exact (k7u e).2
theorem tm_cr:∀ (x:Tm) (cs:List Value),RepTm Any w cs x->CRw w cs (eTmR x) 2:=by
 refine Tm.ind fun r l ih=>?_;intro cs h;obtain ⟨v,rfl,hr,hv⟩:=h.form;have b:RF Any w v (.lst 2 l.length (kpp l)):=by have:=kld eTmR 2 hv fun cs x hx hr=>ih x hx cs hr;rw [kss];have c:eL 2 eTmR l = .lst 2 l.length (l.map eTmR):=rfl;rw [<- c];exact this
 refine kj0 [eI r, .lst 2 l.length (kpp l)] fun j y hy=>?_
 match j with
 | 0=>simp at hy;subst hy;exact ⟨rfl,fun u a=>by simp at a;subst a;exact .atom rfl⟩
 | 1=>simp at hy;subst hy;exact ⟨rfl,fun u a=>by simp at a;subst a;exact b⟩
 | j+2=>simp at hy
variable {H:Type} {enc:TypeId×Value->H} {base:Nat} {spare:Nat->Bool} {held:Bool}
theorem in_La {r:Reach} {b0:Nat} {v:Value} {d:DataW H} {p:List MemPlace} (hv:Value.okWide prog w r b0 26 v) (h:DataW.Trod enc prog w base spare held 26 v d p):∃ x,RF Any w v (eLa x)/\kul x:=by obtain ⟨x,hx⟩:=kve hv h;exact ⟨x,la_rf hx⟩
open Go Go.RowKit Go.ChangeShapes Go.WideShapes Go.ChangeAt Go.Proofs.Tryz
inductive RepDk (w:World):List Value->Dk->Prop where
 | mk (r h:Int) (kids:List Dk) (A:Option Addr) (cap:Nat) (css:Nat->List Value) (hc:kids.length<=cap) (hm:cap<=9223372036854775807)
  (hA:∀ (i:Nat) (x:Dk),kids[i]?=some x->∃ b o,A=some ⟨b,o,none⟩/\At w b (o+i*3) (css i))
  (hk:∀ (i:Nat) (x:Dk),kids[i]?=some x->RepDk w (css i) x):RepDk w [.int .i64 r, .int .i64 h, .slice A kids.length cap] (.mk r h kids)
theorem RepDk.len {cs:List Value} {x:Dk} (h:RepDk w cs x):cs.length=3:=by cases h;rfl
theorem RepDk.form {cs:List Value} {r k:Int} {l:List Dk} (h:RepDk w cs (.mk r k l)):∃ s,cs=[.int .i64 r, .int .i64 k,s]/\RepSl Any w 3 (RepDk w) s l:=by
 cases h with
 | mk _ _ _ A cap css hc hm hA hk=>
  refine ⟨_,rfl,A,cap,rfl,hc,hm,fun i x hx=>?_⟩;obtain ⟨b,o,h1,a⟩:=hA i x hx;exact ⟨b,o,css i,h1,trivial,a,(hk i x hx).len,hk i x hx⟩
theorem RepDk.of {s:Value} {r k:Int} {l:List Dk} (h:RepSl Any w 3 (RepDk w) s l):RepDk w [.int .i64 r, .int .i64 k,s] (.mk r k l):=by
 obtain ⟨A,cap,rfl,hc,hm,hx⟩:=h;have:∀ i:Nat,∃ cs:List Value,∀ x:Dk,l[i]?=some x->(∃ b o,A=some ⟨b,o,none⟩/\At w b (o+i*3) cs)/\RepDk w cs x:=fun i=>by
  cases hi:l[i]? with
  | none=>exact ⟨[],fun x h=>by cases h⟩
  | some x=>
   obtain ⟨b,o,cs,h1,e,c,_,d⟩:=hx i x hi;exact ⟨cs,fun y hy=>by cases hy;exact ⟨⟨b,o,h1,c⟩,d⟩⟩
 obtain ⟨css,a⟩:=Classical.axiomOfChoice this;exact .mk r k l A cap css hc hm (fun i x hi=>(a i x hi).1) (fun i x hi=>(a i x hi).2)
theorem dk_cr:∀ (x:Dk) (cs:List Value),RepDk w cs x->CRw w cs (eDkR x) 3:=by
 refine Dk.ind fun r k l ih=>?_;intro cs h;obtain ⟨v,rfl,hv⟩:=h.form;have b:RF Any w v (.lst 3 l.length (kp3 l)):=by have:=kld eDkR 3 hv fun cs x hx hr=>ih x hx cs hr;rw [ksq];have c:eL 3 eDkR l = .lst 3 l.length (l.map eDkR):=rfl;rw [<- c];exact this
 refine kj0 [eI r,eI k, .lst 3 l.length (kp3 l)] fun j y hy=>?_
 match j with
 | 0=>simp at hy;subst hy;exact ⟨rfl,fun u a=>by simp at a;subst a;exact .atom rfl⟩
 | 1=>simp at hy;subst hy;exact ⟨rfl,fun u a=>by simp at a;subst a;exact .atom rfl⟩
 | 2=>simp at hy;subst hy;exact ⟨rfl,fun u a=>by simp at a;subst a;exact b⟩
 | j+3=>simp at hy
def kxf (w:World) (cs:List Value) (h:Sab):Prop:=∃ v,cs=[.int .i64 h.ye,v]/\RepSl Any w 2 (RepTm Any w) v h.yb
theorem ho_cr {cs:List Value} {x:Sab} (h:kxf w cs x):CRw w cs (kav x) 2:=by
 obtain ⟨v,rfl,h1⟩:=h;have r1:RF Any w v (eL 2 eTmR x.yb):=kld eTmR 2 h1 fun cs x _ hr=>tm_cr x cs hr;refine kj0 [eI x.ye,eL 2 eTmR x.yb] fun j y hy=>?_
 match j with
 | 0=>simp at hy;subst hy;exact ⟨rfl,fun u a=>by simp at a;subst a;exact .atom rfl⟩
 | 1=>simp at hy;subst hy;exact ⟨rfl,fun u a=>by simp at a;subst a;exact r1⟩
 | j+2=>simp at hy
def k8b (w:World) (cs:List Value) (d:Saa):Prop:=∃ c0 c1 c2 v,cs=[c0,c1,c2,v]/\RepDk w [c0,c1,c2] d.yc/\RepSl Any w 2 (kxf w) v d.ya
theorem dr_rf {v:Value} {x:Saa} {cs:Array Value} (hv:v = .agg cs) (h:k8b w cs.toList x):RF Any w v (kam x):=by
 subst hv;obtain ⟨c0,c1,c2,v,h0,h1,b⟩:=h;have r2:RF Any w v (eL 2 kav x.ya):=kld kav 2 b fun cs x _ hr=>ho_cr hr;have k:=dk_cr x.yc _ h1;rw [ku6] at k;have hc:cs=#[c0,c1,c2,v]:=by cases cs;simp_all
 subst hc;refine k4y (cs:=[c0,c1,c2,v]) [eI x.yc.rule,eI x.yc.hole,eL 3 eDkR x.yc.args,eL 2 kav x.ya] rfl (kj0 _ fun j y hy=>?_)
 match j with
 | 0=>simp at hy;subst hy;exact ⟨rfl,fun u a=>k.2.2 0 u _ a rfl⟩
 | 1=>simp at hy;subst hy;exact ⟨rfl,fun u a=>k.2.2 1 u _ a rfl⟩
 | 2=>simp at hy;subst hy;exact ⟨rfl,fun u a=>k.2.2 2 u _ a rfl⟩
 | 3=>simp at hy;subst hy;exact ⟨rfl,fun u a=>by simp at a;subst a;exact r2⟩
 | j+4=>simp at hy
theorem k2a:prog.cellsOf 3=1/\prog.cellsOf 27=1/\prog.cellsOf 30=1/\prog.cellsOf 40=1/\prog.cellsOf 29=3/\prog.cellsOf 48=2/\prog.cellsOf 32=4:=⟨by kernel_rfl,by kernel_rfl,by kernel_rfl,by kernel_rfl,by kernel_rfl,by kernel_rfl,by kernel_rfl⟩
theorem k8t:∀ (fuel:Nat) (cs:List Value) (x:DataW H×List MemPlace),DataW.trod enc prog w base spare held fuel 29 cs=some x->∃ t,RepDk w cs t:=by
 obtain ⟨z1,z2,z3,z4,z5,z6,z7⟩:=k2a;intro fuel
 induction fuel using Nat.strongRecOn with
 | _ fuel ih=>
  intro cs x h;obtain ⟨xs,n,g,_,c,d,e⟩:=DataW.trod_struct underlying29 h;rw [z5] at c
  match cs,c with
  | [c0,c1,c2],_=>
   have h0:=e 0 _ rfl;have h1:=e 1 _ rfl;have f:=e 2 _ rfl;rw [qa (by rw [d];decide)] at h0 h1 f;obtain ⟨a,e0,ha⟩:=kg9 h0;obtain ⟨b,e1,j⟩:=kg9 h1;obtain ⟨v,ts,e2,i⟩:=kil (RepDk w) 3 underlying27 z5 f fun k cs' y hk hy=>ih k (by omega) cs' y hy;simp [z1,z2] at e0 e1 e2;subst e0 e1 e2;exact ⟨.mk a b ts,RepDk.of i⟩
theorem kaad {fuel:Nat} {cs:List Value} {x:DataW H×List MemPlace} (h:DataW.trod enc prog w base spare held fuel 48 cs=some x):∃ t,kxf w cs t:=by
 obtain ⟨z1,z2,z3,z4,z5,z6,z7⟩:=k2a;obtain ⟨xs,n,e,_,b,c,d⟩:=DataW.trod_struct underlying48 h;rw [z6] at b
 match cs,b with
 | [c0,c1],_=>
  have h0:=d 0 _ rfl;have h1:=d 1 _ rfl;rw [qa (by rw [c];decide)] at h0 h1;obtain ⟨a,e0,ha⟩:=kg9 h0;obtain ⟨v,ts,e1,f⟩:=kil (RepTm Any w) 2 underlying40 kpo h1 fun k cs' y hk hy=>k5g k cs' y hy;simp [z1,z4] at e0 e1;subst e0 e1;exact ⟨⟨a,ts⟩,_,rfl,f⟩
theorem k9p {fuel:Nat} {cs:List Value} {x:DataW H×List MemPlace} (h:DataW.trod enc prog w base spare held fuel 32 cs=some x):∃ t,k8b w cs t:=by
 obtain ⟨z1,z2,z3,z4,z5,z6,z7⟩:=k2a;obtain ⟨xs,n,f,_,a,c,d⟩:=DataW.trod_struct underlying32 h;rw [z7] at a
 match cs,a with
 | [c0,c1,c2,c3],_=>
  have h0:=d 0 _ rfl;have h1:=d 1 _ rfl;rw [qa (by rw [c];decide)] at h0 h1;obtain ⟨b,e⟩:=k8t _ _ _ h0;obtain ⟨v,hs,e1,g⟩:=kil (kxf w) 2 underlying30 z6 h1 fun k cs' y hk hy=>kaad hy;simp [z3,z5] at e e1;subst e1;exact ⟨⟨b,hs⟩,_,_,_,_,rfl,e,g⟩
theorem kaby {r:Reach} {b0:Nat} {v:Value} {d:DataW H} {p:List MemPlace} (hv:Value.okWide prog w r b0 32 v) (h:DataW.Trod enc prog w base spare held 32 v d p):∃ x,RF Any w v (kam x):=by obtain ⟨cs,rfl,a⟩:=okWide_struct underlying32 hv;obtain ⟨fuel,b⟩:=h;obtain ⟨t,ht⟩:=k9p b;exact ⟨t,dr_rf rfl (by simpa [Value.cells] using ht)⟩
open Go Go.RowKit TV Go.Proofs.Tryz
structure kt1 (l:La) (d:Saa):Prop where
 light:kzf d
 six:d.ya.length<=6
 check:kbn l=some 0
 rules:∀ r∈l.rules,kji l r
 holes:∀ h∈d.ya,kpi l h
 body:kkd l d.ya (-1) d.yc
 depth:∀ c,ChP d.ya c->(kcj d.ya c d.yc).depth<=32
theorem k4a {l:La} {d:Saa} (hl:kul l) (hd:kzf d):Ev (kc0 l d) fun v=>v=0->kt1 l d:=by
 unfold kc0;have no:∀ {c:Int},c≠0->c=0->kt1 l d:=fun h1 o=>absurd o h1;have p:=hd.holes;have j:=hd.nodes;obtain ⟨c,hc,r⟩:=k6q l hl;rw [hc,qb];refine kag (fun h=>⟨_,rfl,no (bne_iff_ne.1 h)⟩) fun h=>?_;obtain rfl:c=0:=qao.1 h;refine kag (fun _=>⟨_,rfl,no (by decide)⟩) fun m=>?_;have m:=qak m;refine kbe (Ev.mono (kf7 (P:=fun i=>∀ h,d.ya[i]?=some h->kpi l h) (B:=fun e=>e≠0) d.ya.length (by omega) (fun i hi _=>?_) (by simp only [kel,kar,qo])) fun q n=>kb2 (fun _ e=>?_) fun e s=>?_);simp only [kel,ka1 hi,qg,kai,qa hi,qb];obtain ⟨c,k1,k2⟩:=k6y hc d.ya[i] (hd.sizes _ (qx hi));rw [k1,qb];exact kag (fun h=>⟨_,rfl,bne_iff_ne.1 h⟩) fun h=>⟨_,rfl,rfl,fun x hx=>by cases hx;exact k2 (qao.1 h)⟩
 ·subst e;have a:∀ h∈d.ya,kpi l h:=fun h f=>by obtain ⟨k,hk,rfl⟩:=qah.1 f;exact n k hk _ (qa hk)
  obtain ⟨b,k1,k2⟩:=kyl l d (by omega) fuel d.yc (-1) (qa3 (kbv (by omega))) (by omega);rw [k1,qb];refine kag (fun h=>⟨_,rfl,no (bne_iff_ne.1 h)⟩) fun h=>?_;have t:=k2 (qao.1 h);obtain ⟨v,g1,k,rfl,g2,g3⟩:=ktu (d:=d) (by omega) (fun h f=>by have:=hd.terms h f;omega) hd.sizes fuel d.yc (qa3 (kbv (by omega))) (by omega);rw [g1,qb];refine kag (fun _=>⟨_,rfl,no (by decide)⟩) fun g=>⟨_,rfl,fun _=>⟨hd,by omega,hc,(r rfl).2,a,t,fun c hc=>by have:=g3 c hc;have:=qak g;omega⟩⟩
 ·subst s;exact ⟨_,rfl,no n⟩
section
variable {l:La} {d:Saa} (hd:kt1 l d)
include hd
theorem kue:khp d.yc (d.ya.length:Int)=some true:=k1g fuel d.yc (-1) (qa3 (kbv (by have:=hd.light.nodes;omega))) (by have:=hd.light.nodes;omega) hd.body
theorem k32 {c:List Int} (hc:ChP d.ya c):ke2 fuel d d.yc c=some (kcj d.ya c d.yc):=kvy (by have:=hd.six;omega) hd.light.sizes hc fuel d.yc (-1) (qa3 (kbv (by have:=hd.light.nodes;omega))) (by have:=hd.light.nodes;omega) hd.body
theorem k3h (c:List Int):(kcj d.ya c d.yc).size<=1000:=by have:=k3c (c:=c) hd.light.sizes d.yc;have:=hd.light.nodes;omega
theorem all_d (l:kdn d.ya<=300) (e:kf0 d=some ((kdn d.ya:Int),0)):Ev (kkc d) fun r=>r.2=0/\SLt r.1/\(∀ t,t∈r.1↔∃ c,ChP d.ya c/\kcj d.ya c d.yc=t)/\r.1.length<=kdn d.ya:=by
 have m:=kqd (hs:=d.ya) fun h f=>(hd.holes h f).pos;obtain ⟨e1,e2,e3⟩:=kt8 hd.six fun h f=>(hd.holes h f).few;unfold kkc;rw [e,qb];simp only [show ((0:Int) != 0)=false from rfl,qo];rw [qae (by omega),qo,kue hd,qb,Bool.not_true,qo,qaj (by omega),qg,e1,qb];have g:=kpf (khg d (chF d.ya)) (chF d.ya) (fun c=>kcj d.ya c d.yc) [] (fun i c hc=>by have hi:=kb1 hc;simp only [khg,ka1 hi,qg,kai,hc,qb];rw [k32 hd ((e3 c).1 (qm hc)),qb,km6 (by simp only [qy,qs,List.length_nil,qas,q9];omega),qb,kbk]) (by simp only [khg,kar,qo]);rw [g,qb,qb,List.nil_append];have j:∀ t∈(chF d.ya).map fun c=>kcj d.ya c d.yc,t.size<=1000:=fun t ht=>by obtain ⟨c,_,rfl⟩:=qap.1 ht;exact k3h hd c
 have hst:km9 ((chF d.ya).map fun c=>kcj d.ya c d.yc)=some (kfm ((chF d.ya).map fun c=>kcj d.ya c d.yc)):=by unfold km9;rw [show Nat.blt ((chF d.ya).map fun c=>kcj d.ya c d.yc).length 4611686018427387904=true from Nat.blt_eq.mpr (by rw [qs];omega),show (((chF d.ya).map fun c=>kcj d.ya c d.yc).all fun t=>Nat.ble t.size 1000)=true from qq.2 fun t ht=>Nat.ble_eq.mpr (j t ht)];rfl
 rw [hst,qb];have n:(kfm ((chF d.ya).map fun c=>kcj d.ya c d.yc)).length=kdn d.ya:=by rw [kfm,List.length_mergeSort,qs,e2]
 obtain ⟨r,r1,r2,r3,r4⟩:=k17 kh3 (kfm ((chF d.ya).map fun c=>kcj d.ya c d.yc)) (fun a ha b o=>by unfold kh3;rw [cmp_prog a b (j a (sorted_mem.1 ha)) (j b (sorted_mem.1 o))];rfl) (k3e _) (by omega);rw [r1,qb];refine ⟨_,rfl,rfl,r2,fun t=>?_,by show r.length<=_;omega⟩;rw [r3,sorted_mem,qap];exact ⟨fun ⟨c,h1,k⟩=>⟨c,(e3 c).1 h1,k⟩,fun ⟨c,h1,k⟩=>⟨c,(e3 c).2 h1,k⟩⟩
theorem k9y (c:List Int) (g:c.length<=1000):Ev (kjh d c) fun r=>r.2=0->ChP d.ya c/\r.1=kcj d.ya c d.yc:=by
 unfold kjh;have m:=hd.six;refine kag (fun _=>⟨_,rfl,fun h=>absurd h (by decide)⟩) fun a=>?_;have a:c.length=d.ya.length:=by have:=qao.1 a;omega
 refine kbe (Ev.mono (kf7 (P:=fun i=>∀ h n,d.ya[i]?=some h->c[i]?=some n->0<=n/\n<(h.yb.length:Int)) (B:=fun p:Tm×Int=>p.2≠0) c.length (by omega) (fun i hi _=>?_) (by simp only [kij,kar,qo])) fun q j=>kb2 (fun _ e=>?_) fun p e=>?_)
 ·have f:i<d.ya.length:=by omega
  have e1:=qa hi;have e2:=qa f;simp only [kij,ka1 hi,qg,kai,e1,e2,qb];refine kat (kag (fun _=>⟨_,rfl,trivial⟩) fun _=>⟨_,rfl,trivial⟩) fun v hv=>kag (fun _=>⟨_,rfl,(by decide:(1:Int)≠0)⟩) fun k=>⟨_,rfl,rfl,fun h n l hn=>?_⟩;subst k;cases l;cases hn;cases h0:decide (c[i]<0) with
  | true=>rw [h0] at hv;cases hv
  | false=>
   rw [h0] at hv;have h1:=qak h0;have o:=qak (qu hv);omega
 subst e;have b:ChP d.ya c:=⟨a,fun i h n e1 e2=>j i (kb1 e2) h n e1 e2⟩;rw [kue hd,qb,Bool.not_true,qo,k32 hd b];exact ⟨_,rfl,fun _=>⟨b,rfl⟩⟩
 ·subst e;exact ⟨_,rfl,fun h=>absurd h j⟩
theorem ok_d {sy:Int} (hs:Ev (bif decide (0<d.yc.hole) then Option.bind (idx d.ya (w64 (d.yc.hole - 1))) fun v16=>some v16.ye else Option.bind (idx l.rules d.yc.rule) fun v17=>some v17.symbol) (·=sy)) {c:List Int} (hc:ChP d.ya c):OkT l sy (kcj d.ya c d.yc):=by
 have i:=hd.six;have key:kkd l d.ya sy d.yc/\0<=sy/\sy<(l.symbols.length:Int):=by
  have f:=hd.body;cases f with
  | hole hx hk ht=>
   rename_i k h;have g:=kb1 hk;rw [qaj (show 0<d.yc.hole by omega),qg,show w64 (d.yc.hole - 1)=(k:Int) by rw [ket];omega,kai,hk] at hs;obtain ⟨_,e,rfl⟩:=hs;cases e;have hp:=hd.holes h (qm hk);have a:=hp.ok _ (qx (show 0<h.yb.length from hp.pos));exact ⟨.hole hx hk fun _=>rfl,a.sym0,a.sym1⟩
  | node hx hr hk ht hl ha=>
   rename_i k r;rw [qae (show ¬ 0<d.yc.hole by omega),qo,hr,kai,hk] at hs;obtain ⟨_,e,rfl⟩:=hs;cases e;have b:=hd.rules r (qm hk);exact ⟨.node hx hr hk (fun _=>rfl) hl ha,b.sym0,b.sym1⟩
 exact ⟨key.2.1,key.2.2,hd.depth c hc,k3r hd.rules hd.holes hc key.1 key.2.1⟩
end
theorem kup (l:La) (d:Saa) (c:List Int) (hl:kul l):kdk l d c=some true:=by
 refine Ev.eq ?_;unfold kdk;have aw:kcy=some true:=rfl;have o:Ev (Option.bind (kdt l) fun v1=>(bif (!v1) then (some (true)) else (Option.bind (kcz d) fun v2=>(bif (!v2) then (some (true)) else (bif (decide (10<(List.length c:Int))) then (some (true)) else (Option.bind (kc0 l d) fun v3=>(some (v3 != 0))))))):Option Bool) fun v=>v=false->c.length<=10/\kt1 l d:=by
  have D:Ev (kdt l) fun _=>True:=by unfold kdt;exact kat (kag (fun _=>⟨_,rfl,trivial⟩) fun _=>⟨_,rfl,trivial⟩) fun _ _=>⟨_,rfl,trivial⟩
  obtain ⟨b,M,N⟩:=k41 d;refine kat D fun _ _=>kag (fun _=>⟨_,rfl,fun h=>by cases h⟩) fun _=>?_;rw [M,qb];refine kag (fun _=>⟨_,rfl,fun h=>by cases h⟩) fun y=>kag (fun _=>⟨_,rfl,fun h=>by cases h⟩) fun E=>?_;have y:b=true:=by simpa using y
  obtain ⟨v,h1,h2⟩:=k4a hl (N y);rw [h1];exact ⟨_,rfl,fun h=>⟨by have:=qak E;omega,h2 (qao.1 h)⟩⟩
 obtain ⟨g,hg,O⟩:=o;rw [hg,qb,aw];refine kag (fun _=>⟨_,rfl,rfl⟩) fun P=>?_;obtain ⟨E,hd⟩:=O P;have F:=fun (c':List Int)=>k3h hd c';obtain ⟨r,hr,R⟩:=k6z d (fun h B=>⟨(hd.holes h B).pos,(hd.holes h B).few⟩) (by have:=hd.six;omega);rw [hr,qb];refine kat (kag (fun _=>⟨_,rfl,trivial⟩) fun _=>⟨_,rfl,trivial⟩) fun v9 p=>kag (fun _=>⟨_,rfl,rfl⟩) fun C=>?_;subst C;have G:r.2=0/\¬ 300<r.1:=by
  cases H:r.2 != 0 with
  | true=>rw [H] at p;cases p
  | false=>
   rw [H] at p;exact ⟨qao.1 H,qak (qu p)⟩
 have S:=R G.1;subst S;have I:kdn d.ya<=300:=by have:=G.2;simp only at this;omega
 obtain ⟨a,ha,T,U,w,al⟩:=all_d hd I hr;rw [ha,qb];have V:a.1≠[]:=fun h=>by
  have ak:=kqd (hs:=d.ya) fun h B=>(hd.holes h B).pos;obtain ⟨_,e2,e3⟩:=kt8 hd.six fun h B=>(hd.holes h B).few;cases J:chF d.ya with
  | nil=>rw [J,List.length_nil] at e2;omega
  | cons c0 rest=>
   have:=(w _).2 ⟨c0,(e3 c0).1 (by rw [J];exact qt ..),rfl⟩;rw [h] at this;cases this
 have X:0<a.1.length:=List.length_pos_iff.2 V;rw [show (a.2 != 0)=false by rw [T];rfl,qo,qae (show ¬ (kdn d.ya:Int)<(a.1.length:Int) by omega),qo,show ((a.1.length:Int) == 0)=false by rw [qa0];omega,qb,qo];obtain ⟨t,ht,Y⟩:=k9y hd c (by omega);rw [ht,qb];refine kag (fun _=>⟨_,rfl,rfl⟩) fun Z=>?_;obtain ⟨aa,K⟩:=Y (qao.1 Z);have x:Ev (bif decide (0<d.yc.hole) then Option.bind (idx d.ya (w64 (d.yc.hole - 1))) fun v16=>some v16.ye else Option.bind (idx l.rules d.yc.rule) fun v17=>some v17.symbol) fun _=>True:=by
  have M:=hd.body;have h6:=hd.six;cases M with
  | hole hx hk ht=>
   rename_i k h;have ab:=kb1 hk;rw [qaj (show 0<d.yc.hole by omega),qg,show w64 (d.yc.hole - 1)=(k:Int) by rw [ket];omega,kai,hk];exact ⟨_,rfl,trivial⟩
  | node hx hr hk ht hl ha=>
   rw [qae (show ¬ 0<d.yc.hole by omega),qo,hr,kai,hk];exact ⟨_,rfl,trivial⟩
 obtain ⟨sy,x,_⟩:=x;rw [x,qb];have m:∀ u∈a.1,u.size<=1000:=fun u hu=>by obtain ⟨c',_,rfl⟩:=(w u).1 hu;exact F c'
 have ac:t.1.size<=1000:=by rw [K];exact F c
 have ad:t.1∈a.1:=(w _).2 ⟨c,aa,K.symm⟩;refine kbe (Ev.mono (keu (Q:=fun r=>r = .inl true) a.1.length (fun i s=>s.2=(i:Int)/\(s.1=true↔t.1∈a.1.take i)) (by omega) ⟨rfl,by rw [qbp];exact ⟨fun h=>absurd h Bool.false_ne_true,fun h=>absurd h List.not_mem_nil⟩⟩ (fun i s hi n=>?_) fun s n=>?_) fun q H=>?_)
 ·obtain ⟨f,j⟩:=s;obtain ⟨rfl,n⟩:=n;simp only at n;have e1:=qa hi;have z:=m _ (qx hi);have ae:=kvf a.1[i] t.1 z ac;have e:Ev (bif f then some true else Option.bind (idx a.1 (i:Int)) fun v21=>Option.bind (kbb v21 t.1) fun v22=>some (v22 == 0):Option Bool) fun b=>b=true↔t.1∈a.1.take (i+1):=by
   rw [qaf hi];refine kag (fun C=>⟨_,rfl,fun _=>List.mem_append_left _ (n.1 C),fun _=>rfl⟩) fun C=>?_;rw [kai,e1,qb,ae,qb];refine ⟨_,rfl,fun h=>List.mem_append_right _ (qat.2 (cmpT_eq0.1 (eq_of_beq h)).symm),fun h=>?_⟩;rcases qaz.1 h with h | h;rw [n.2 h] at C;cases C
   ·rw [<- qat.1 h,cmpT_eq0.2 rfl];rfl
  obtain ⟨f',e,af⟩:=e;obtain ⟨c',ag,ah⟩:=(w _).1 (qx hi);obtain ⟨v,hv,ai⟩:=kwh hd.check sy a.1[i] z;have aj:v=0:=ai.2 (by rw [<- ah];exact ok_d hd ⟨_,x,rfl⟩ ag);subst aj;have L:(Option.bind (idx a.1 (i:Int)) fun v25=>Option.bind (kb7 l sy v25) fun v26=>bif (v26 != 0) then some true else bif decide (0<(i:Int)) then Option.bind (idx a.1 (w64 ((i:Int) - 1))) fun v27=>Option.bind (idx a.1 (i:Int)) fun v28=>Option.bind (kbb v27 v28) fun v29=>some (decide (0<=v29)) else some false:Option Bool)=some false:=by
   rw [kai,e1,qb,hv,qb,show ((0:Int) != 0)=false from rfl,qo];by_cases h0:0<i;have A:i - 1<a.1.length:=(by omega);have ab:cmpT a.1[i - 1] a.1[i]<0:=List.pairwise_iff_getElem.1 U (i - 1) i A hi (by omega);rw [qaj (show (0:Int)<(i:Int) by omega),qg,show w64 ((i:Int) - 1)=((i - 1:Nat):Int) by rw [ket];omega,kai,qa A,qb,qb,kvf _ _ (m _ (qx A)) z,qb,qae (by omega)]
   ·rw [qae (by omega)];rfl
  unfold kco;simp only;rw [ka1 hi,qg,e,qb,L,qb,qo,kbk];exact ⟨_,rfl,rfl,af⟩
 obtain ⟨f,j⟩:=s;obtain ⟨rfl,n⟩:=n;simp only at n;rw [qa8] at n;obtain rfl:=n.2 ad;refine kfr (.inl true) ?_ rfl;unfold kco;simp only;rw [kar,qo]
 ·subst H;exact ⟨true,rfl,rfl⟩
open Go Go.RowKit Go.Proofs Go.Proofs.Tryz
variable {P:Program} {sp:Nat->Bool}
def k1t : List (String × DataW Unit) := [("math/bits.deBruijn32tab", Rows.laid_math_bits_deBruijn32tab), ("math/bits.deBruijn64tab", Rows.laid_math_bits_deBruijn64tab), ("internal/strconv.uint64pow10", Rows.laid_internal_strconv_uint64pow10), ("unicode/utf8.acceptRanges", Rows.laid_unicode_utf8_acceptRanges), ("unicode/utf8.first", Rows.laid_unicode_utf8_first)]
theorem kqr {H:Type} {enc:TypeId×Value->H} {a:Assume} {C:Checked} {os:Os} {f:FuncId} {fn:Func} {s:ChangeSpec} {conds:List PathCond} {apart fresh b again:Bool} {X:World->Array Value->Prop}
  (o:∀ (w w':World) (args:Array Value),w.heap=w'.heap->X w args->X w' args)
  (own:ownKnob C.prog.godebug=none) (started:os.Started) (noInit:C.prog.inits.idxOf? f=none) (k:C.prog.funcs[f]?=some fn)
  (witness:∃ (w:World) (tape:Tape) (i:Input),w.os=os/\(w.forCall tape i).Shaped C.prog/\i.vars=[]/\Input.okWide C.prog (w.forCall tape i) .any w.heap.size f i /\
   ((s.pre enc C.prog fn conds apart (w.forCall tape i).memory i.args/\X (w.forCall tape i).memory i.args)/\sizedMet enc C.prog fn (OpenSpec.ofChange s) apart (w.forCall tape i).memory i.args)/\a.holds C.prog (lone (Frame.enter C.prog f i.args .normal) [] (w.forCall tape i)))
  (contract:∀ (W:World) (base:Nat) (args:Array Value) (ds gs:List (DataW H)) (before:List MemPlace),
   (∀ (j:Nat) t v,fn.params[j]?=some t->args[j]?=some v->Value.okWide C.prog W .any base t v) ->
   DataW.Whole enc C.prog fn.params.toList s.vars apart W args.toList ds gs before->X W args->W.ShapedOpen C.prog ->
   Calls C.prog f args W fun e W'=>∃ v,e = .returned v/\s.post enc C.prog fn apart fresh b again W args v W'):
  ReturnsInHanded a C os f .any (fun w args=>(s.pre enc C.prog fn conds apart w args/\X w args)/\sizedMet enc C.prog fn (OpenSpec.ofChange s) apart w args) (s.post enc C.prog fn apart fresh b again):=by
 refine returnsInHanded_of_calls own started noInit witness ?_;intro w tape i _ l _ m c h;obtain ⟨_,_,_,fn',d,_,_,_,_,g⟩:=m;have e:fn'=fn:=qu (d.symm.trans k);subst e;obtain ⟨⟨⟨ds,gs,before,p,hc⟩,hx⟩,r⟩:=c;have n:=DataW.Whole.of_heap (w':=w.forCall tape i) (by rfl) p;refine (contract (w.forCall tape i) w.heap.size i.args ds gs before g n (o _ _ _ (by rfl) hx) l).mono fun e W' ⟨v,q,hp⟩=>?_;subst q;exact ChangeSpec.post_blind hp
noncomputable def kvq (os:Os):World:=
 let w0:=World.holding prog os ⟨#[],#[],[]⟩
 { w0 with heap:=(((((w0.heap).modify 0 (fun | Obj.cells _ t fr=>Obj.cells gv0 t fr | o=>o)).modify 1 (fun | Obj.cells _ t fr=>Obj.cells gv1 t fr | o=>o)).modify 2 (fun | Obj.cells _ t fr=>Obj.cells gv2 t fr | o=>o)).modify 4 (fun | Obj.cells _ t fr=>Obj.cells gv4 t fr | o=>o)).modify 5 (fun | Obj.cells _ t fr=>Obj.cells gv5 t fr | o=>o) }
theorem kwv (os:Os) (args:Array Value):laidMetH prog k1t ((kvq os).forCall (fun _ _=>0) ⟨#[],args,[]⟩).memory:=
 laidMetH_of_parts (laidMet_of_run' 8 (by kernel_rfl) (by kernel_rfl)) (by kernel_rfl)
open Go Go.RowKit Go.ChangeShapes Go.WideShapes Go.Proofs.Tryz
theorem kabh:laidOutB Tryz.checked.prog=true:=by as_aux_lemma=>kernel_rfl
theorem k8n:mapsRowed Tryz.checked.prog=true:=by as_aux_lemma=>kernel_rfl
theorem k86:Tryz.checked.prog.stopsHeard=true:=by as_aux_lemma=>kernel_rfl
theorem k2m:Tryz.checked.prog.mayEnter=true:=by as_aux_lemma=>kernel_rfl
theorem kabe:Tryz.checked.prog.make=some .cut:=by as_aux_lemma=>kernel_rfl
set_option maxRecDepth 100000 in
theorem kq3 (os:Os) (started:os.Started) (H:Type) (enc:TypeId×Value->H):
  ReturnsInHanded {} Tryz.checked os 3 .any (fun w args=>(Rows.sketchTermsSpec.pre enc prog Tryz.f3 Rows.sketchTermsRow.domain false w args/\laidMetH prog Rows.sketchTermsRow.laid w)/\sizedMet enc prog Tryz.f3 (OpenSpec.ofChange Rows.sketchTermsSpec) false w args) (Rows.sketchTermsSpec.post enc prog Tryz.f3 false true false false):=by
 refine kqr (C:=Tryz.checked) (X:=fun w _=>laidMetH prog k1t w) (fun _ _ _ k h=>h.of_heap k) k5w started (by kernel_rfl) func3
  (ChangeSpec.witness_at (enc:=enc) (C:=Tryz.checked) (os:=os) (X:=fun w _=>laidMetH prog k1t w) false (kvq os) #[.agg #[.string ⟨#[]⟩, .slice none 0 0, .slice none 0 0, .slice none 0 0], .agg #[.int .i64 0, .int .i64 0, .slice none 0 0, .slice none 0 0], .slice none 0 0] 8 rfl (by kernel_rfl) (by kernel_rfl) (by kernel_rfl) (by kernel_rfl) (by kernel_rfl) (kwv os _)) ?_
 intro W base args ds gs before b g y l;have a:∀ (j:Nat) t v,Tryz.f3.params[j]?=some t->args[j]?=some v->Value.okWide prog W .any base t v:=b;have c:=g;obtain ⟨p,q,d,m,rfl,n,o⟩:=g;have hA:DataW.TrodAll enc prog W 0 (fun _=>true) true Tryz.f3.params.toList args.toList ds p:=d;rw [Tryz.params3] at hA a;obtain ⟨v0,vs0,d0,ds0,p0,q0,f,rfl,rfl,h0,r0⟩:=trodAll_cons hA;obtain ⟨v1,vs1,d1,ds1,p1,q1,rfl,rfl,rfl,h1,r1⟩:=trodAll_cons r0;obtain ⟨v2,vs2,d2,ds2,p2,q2,rfl,rfl,rfl,r,r2⟩:=trodAll_cons r1;obtain ⟨rfl,rfl,rfl⟩:=trodAll_nil r2;obtain rfl:args=#[v0,v1,v2]:=by cases args;simp_all
 obtain ⟨rfl,rfl⟩:=trodVars_none m;obtain ⟨x0,e0,b0⟩:=in_La (a 0 26 v0 rfl rfl) h0;obtain ⟨x1,e1⟩:=kaby (a 1 32 v1 rfl rfl) h1;obtain ⟨x2,e2,b2,c2⟩:=k9u underlying22 underlying3 (by kernel_rfl) (a 2 22 v2 rfl rfl) r;refine (k4v [eLa x0,kam x1,eL 1 eI x2] (kkn x0 x1 x2 true (kup x0 x1 x2 b0)) rfl ?_).mono fun e W' ⟨s,u⟩=>?_
 ·intro i v x hv hx
  match i with
  | 0=>simp at hv hx;subst hv hx;exact e0
  | 1=>simp at hv hx;subst hv hx;exact e1
  | 2=>simp at hv hx;subst hv hx;exact e2
  | i+3=>simp at hv
 subst s;exact ⟨_,rfl,k6o k6t (by rw [Tryz.params3];intro t ht;simp at ht;rcases ht with rfl | rfl | rfl <;> exact ⟨by kernel_rfl,qa9 (by kernel_rfl)⟩) rfl underlying4 rfl rfl c u⟩
set_option maxHeartbeats 4000000 in
theorem kqw:joinedFacts Tryz.checked.prog 3 Tryz.f3 Rows.sketchTermsSpec Rows.sketchTermsRow=true:=by
 unfold joinedFacts;simp only [k2m,k80,kabe,kabh,k8n,k86,qk,Bool.and_true]
 repeat' apply And.intro
 all_goals (as_aux_lemma=>kernel_rfl)
theorem kr9:Rows.SketchTermsSaid:=
 OpenClaim.holds_of_wide 3 Tryz.f3 rfl rfl rfl rfl rfl rfl rfl ⟨rfl,rfl,rfl,rfl,rfl⟩ rfl rfl rfl rfl rfl (by kernel_rfl) func3 kqw
  (qa9 (by kernel_rfl)) (by unfold Func.isWrapper;rw [qj (qak (by kernel_rfl))];exact ⟨rfl,rfl⟩)
  (fun os started H enc _=>kq3 os started H enc)
theorem sketchTerms_card_holds:Rows.SketchTermsCardSaid:=
 Claim7.holds_tied_plain_at .later [] [.data, .data, .data, .data, .pinned] true (true, "89dc0324867321e6b3e1fbc08a498afdec739b1c440c52671bdf1cb92cfd5554") true kr9 (fun _ h => by cases h) (by kernel_rfl) (fun _ h => by cases h) sketchTerms_row_tie rfl ⟨rfl, rfl⟩ (by kernel_rfl) rfl
  (fun f fn b a=>by
   obtain rfl : f = 3 := qu ((show prog.funcNamed "synthesis/synthesislaw34.SketchTerms" = some 3 by kernel_rfl).symm.trans b) |>.symm;obtain rfl:fn=Tryz.f3:=(qu (func3.symm.trans a)).symm;exact ⟨by kernel_rfl,fun j t ht=>by
    rw [Tryz.params3] at ht
    match j with
    | 0=>obtain rfl:=qu ht;exact (show prog.wantsStandIn 26=false by kernel_rfl)
    | 1=>obtain rfl:=qu ht;exact (show prog.wantsStandIn 32=false by kernel_rfl)
    | 2=>obtain rfl:=qu ht;exact (show prog.wantsStandIn 22=false by kernel_rfl)
    | j+3=>simp at ht⟩)
  (by kernel_rfl)
end Go.Proofs.YtjnjipmjkkhdpaaGreatDoor
