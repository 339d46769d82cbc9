/- SketchOpens: the law returns true for every input where the listed tables hold what the program lays into them. -/
import Derived.Test.YtjpkdegjcilndaaGreatDoorHd
import Derived.Deep.Fields
import Derived.Test.YtjpkdegjcilndaaGreatDoorHd
import Derived.Test.YtjpkdegjcilndaaGreatDoorZE
import Derived.Test.YtjpkdegjcilndaaGreatDoorNw
import Derived.Test.YtjpkdegjcilndaaGreatDoorTT
import Derived.Test.YtjpkdegjcilndaaGreatDoorRows
import Derived.Lib.LaidTab
import Derived.LaidLaws
import Derived.LaidHandle
import Derived.OpenShut
import Derived.ChangeSame
import Derived.ChangeMaps5
import Derived.JoinedOf
import Derived.Test.YtjpkdegjcilndaaGreatDoorYd
import Derived.Test.YtjpkdegjcilndaaGreatDoorCards
import Derived.Test.YtjpkdegjcilndaaGreatDoorTie
import Derived.SevenTiedAt
set_option linter.all false
set_option maxRecDepth 100000
namespace Go.Proofs.YtjpkdegjcilndaaGreatDoor
open Go Go.RowKit Go.ChangeShapes Go.WideShapes Go.ChangeAt Go.Proofs.Tryz
theorem k2m {n:Int} (h:(Lit.int .i64 n).wf=true):khs n:=by simpa [Lit.wf,IntKind.min,IntKind.max,IntKind.signed,IntKind.bits,khs] using h
variable {H:Type} {enc:TypeId×Value->H} {w:World} {base:Nat} {spare:Nat->Bool} {held:Bool}
theorem cells_ty:prog.cellsOf 3=1/\prog.cellsOf 2=1/\prog.cellsOf 9=1/\prog.cellsOf 22=1/\prog.cellsOf 66=1/\prog.cellsOf 23=1/\prog.cellsOf 24=1 /\
  prog.cellsOf 68=4/\prog.cellsOf 64=2/\prog.cellsOf 70=9/\prog.cellsOf 26=4:=⟨by kernel_rfl,by kernel_rfl,by kernel_rfl,by kernel_rfl,by kernel_rfl,by kernel_rfl,by kernel_rfl,by kernel_rfl,by kernel_rfl,by kernel_rfl,by kernel_rfl⟩
theorem ku3 {fuel:Nat} {cs:List Value} {x:DataW H×List MemPlace} (h:DataW.trod enc prog w base spare held fuel 9 cs=some x):∃ s,cs=[.string s]/\kut s:=by obtain ⟨s,hs,_,hl⟩:=DataW.trod_string underlying9 h;exact ⟨s,hs,by unfold maxLen at hl;exact hl⟩
theorem knb {fuel:Nat} {cs:List Value} {x:DataW H×List MemPlace} (h:DataW.trod enc prog w base spare held fuel 3 cs=some x):∃ n,cs=[.int .i64 n]/\khs n:=by obtain ⟨n,hn,_,a⟩:=DataW.trod_int underlying3 h;exact ⟨n,hn,k2m a⟩
theorem kaeh {fuel:Nat} {cs:List Value} {x:DataW H×List MemPlace} (h:DataW.trod enc prog w base spare held fuel 2 cs=some x):∃ n,cs=[.int .i64 n]/\khs n:=by obtain ⟨n,hn,_,a⟩:=DataW.trod_int underlying2 h;exact ⟨n,hn,k2m a⟩
theorem kva {fuel:Nat} {cs:List Value} {x:DataW H×List MemPlace} (h:DataW.trod enc prog w base spare held fuel 22 cs=some x):∃ v ns,cs=[v]/\Ints Any w v ns:=
 kuf IntR 1 underlying22 cells_ty.1 h fun n cs' y _ hy=>by obtain ⟨k,h1,a⟩:=knb hy;exact ⟨k,h1,a⟩
theorem kabd:∀ (fuel:Nat) (cs:List Value) (x:DataW H×List MemPlace),DataW.trod enc prog w base spare held fuel 68 cs=some x->∃ t,RepVa Any w cs t:=by
 obtain ⟨z1,z2,z3,z4,z5,z6,z7,z8,z9,z10,z11⟩:=cells_ty;intro fuel
 induction fuel using Nat.strongRecOn with
 | _ fuel ih=>
  intro cs x h;obtain ⟨xs,n,f,_,a,c,b⟩:=DataW.trod_struct underlying68 h;rw [z8] at a
  match cs,a with
  | [c0,c1,c2,c3],_=>
   have h0:=b 0 _ rfl;have h1:=b 1 _ rfl;have d:=b 2 _ rfl;have e:=b 3 _ rfl;rw [qb (by rw [c];decide)] at h0 h1 d e;obtain ⟨t,e0,ht⟩:=knb h0;obtain ⟨m,e1,hm⟩:=kaeh h1;obtain ⟨s,e2,hs⟩:=ku3 d;obtain ⟨v,ts,e3,g⟩:=kuf (RepVa Any w) 4 underlying66 z8 e fun k cs' y hk hy=>ih k (by omega) cs' y hy;simp [z1,z2,z3,z4,z5,z6,z7,z8] at e0 e1 e2 e3;subst e0 e1 e2 e3;exact ⟨.mk t m s ts,RepVa.of ht hm hs g⟩
theorem k88 {fuel:Nat} {cs:List Value} {x:DataW H×List MemPlace} (h:DataW.trod enc prog w base spare held fuel 64 cs=some x):∃ t,k5v Any w cs t:=by
 obtain ⟨z1,z2,z3,z4,z5,z6,z7,z8,z9,z10,z11⟩:=cells_ty;obtain ⟨xs,n,d,_,a,b,c⟩:=DataW.trod_struct underlying64 h;rw [z9] at a
 match cs,a with
 | [c0,c1],_=>
  have h0:=c 0 _ rfl;have h1:=c 1 _ rfl;rw [qb (by rw [b];decide)] at h0 h1;obtain ⟨s,e0,hs⟩:=ku3 h0;obtain ⟨t,e1,ht⟩:=knb h1;simp [z1,z2,z3,z4,z5,z6,z7,z8] at e0 e1;subst e0 e1;exact ⟨⟨s,t⟩,rfl,hs,ht⟩
theorem kaeb {fuel:Nat} {cs:List Value} {x:DataW H×List MemPlace} (h:DataW.trod enc prog w base spare held fuel 70 cs=some x):∃ t,k5r Any w cs t:=by
 obtain ⟨z1,z2,z3,z4,z5,z6,z7,z8,z9,z10,z11⟩:=cells_ty;obtain ⟨xs,n,m,_,d,f,e⟩:=DataW.trod_struct underlying70 h;rw [z10] at d
 match cs,d with
 | [c0,c1,c2,c3,c4,c5,c6,c7,c8],_=>
  have h0:=e 0 _ rfl;have h1:=e 1 _ rfl;have i:=e 2 _ rfl;have j:=e 3 _ rfl;have k:=e 4 _ rfl;have l:=e 5 _ rfl;rw [qb (by rw [f];decide)] at h0 h1 i j k l;obtain ⟨a,e0,ha⟩:=knb h0;obtain ⟨b,e1,o⟩:=knb h1;obtain ⟨c,e2,hc⟩:=knb i;obtain ⟨v,hv⟩:=kabd _ _ _ j;obtain ⟨s,e4,hs⟩:=ku3 k;obtain ⟨u,ns,e5,g⟩:=kva l;simp [z1,z2,z3,z4,z5,z6,z7,z8] at e0 e1 e2 e4 e5 hv;subst e0 e1 e2 e4 e5;exact ⟨⟨a,b,c,v,s,ns⟩,c3,c4,c5,c6,_,rfl,ha,o,hc,hs,hv,g⟩
theorem k5m {fuel:Nat} {cs:List Value} {x:DataW H×List MemPlace} (h:DataW.trod enc prog w base spare held fuel 26 cs=some x):∃ t,kaiz Any w cs t:=by
 obtain ⟨z1,z2,z3,z4,z5,z6,z7,z8,z9,z10,z11⟩:=cells_ty;obtain ⟨xs,n,j,_,a,c,b⟩:=DataW.trod_struct underlying26 h;rw [z11] at a
 match cs,a with
 | [c0,c1,c2,c3],_=>
  have h0:=b 0 _ rfl;have h1:=b 1 _ rfl;have g:=b 2 _ rfl;have i:=b 3 _ rfl;rw [qb (by rw [c];decide)] at h0 h1 g i;obtain ⟨s,e0,hs⟩:=ku3 h0;obtain ⟨v1,n1,e1,d⟩:=kva h1;obtain ⟨v2,n2,e2,e⟩:=kuf (k5v Any w) 2 underlying23 z9 g fun k cs' y hk hy=>k88 hy;obtain ⟨v3,n3,e3,f⟩:=kuf (k5r Any w) 9 underlying24 z10 i fun k cs' y hk hy=>kaeb hy;simp [z1,z2,z3,z4,z5,z6,z7,z8] at e0 e1 e2 e3;subst e0 e1 e2 e3;exact ⟨⟨s,n1,n2,n3⟩,_,_,_,rfl,hs,d,e,f⟩
theorem k3k {r:Reach} {b0:Nat} {v:Value} {d:DataW H} {p:List MemPlace} (hv:Value.okWide prog w r b0 26 v) (h:DataW.Trod enc prog w base spare held 26 v d p):∃ t,LaV Any w v t:=by obtain ⟨cs,rfl,a⟩:=okWide_struct underlying26 hv;obtain ⟨fuel,b⟩:=h;obtain ⟨t,ht⟩:=k5m b;exact ⟨t,cs.toList,by simp,by simpa [Value.cells] using ht⟩
theorem kaec {n:Int} (h:(Lit.int .i64 n).wf=true):khs n:=by simpa [Lit.wf,IntKind.min,IntKind.max,IntKind.signed,IntKind.bits,khs] using h
theorem kvp:prog.cellsOf 29=2:=by kernel_rfl
theorem kae8:prog.cellsOf 3=1:=by kernel_rfl
theorem k82:prog.cellsOf 27=1:=by kernel_rfl
theorem kafn:∀ (fuel:Nat) (cs:List Value) (x:DataW H×List MemPlace),DataW.trod enc prog w base spare held fuel 29 cs=some x->∃ t,RepTm Any w cs t:=by
 intro fuel
 induction fuel using Nat.strongRecOn with
 | _ fuel ih=>
  intro cs x h;obtain ⟨xs,n,i,_,a,b,g⟩:=DataW.trod_struct underlying29 h;rw [kvp] at a
  match cs,a with
  | [c0,c1],_=>
   have h0:=g 0 _ rfl;have h1:=g 1 _ rfl;have e0:xs[0]?=some (xs[0]'(by rw [b];decide)):=qb _;have e1:xs[1]?=some (xs[1]'(by rw [b];decide)):=qb _;rw [e0] at h0;rw [e1] at h1;obtain ⟨r,c,_,d⟩:=DataW.trod_int underlying3 h0;obtain ⟨v,ts,hv,hs⟩:=kuf (RepTm Any w) 2 underlying27 kvp h1 fun m cs' y hm hy=>ih m (by omega) cs' y hy;have e:c0 = .int .i64 r:=(by simpa [kae8] using c);have f:c1=v:=(by simpa [k82] using hv);subst e f;exact ⟨.mk r ts,RepTm.of (kaec d) hs⟩
theorem kabo {r:Reach} {b0:Nat} {v:Value} {d:DataW H} {p:List MemPlace} (hv:Value.okWide prog w r b0 29 v) (h:DataW.Trod enc prog w base spare held 29 v d p):∃ t,TmV Any w v t:=by
 obtain ⟨cs,rfl,a⟩:=okWide_struct underlying29 hv;obtain ⟨fuel,b⟩:=h;obtain ⟨t,ht⟩:=kafn fuel _ _ b;rw [kvp] at a;obtain ⟨l⟩:=cs
 match l,a with
 | [c0,c1],_=>exact ⟨t,c0,c1,rfl,ht⟩
open Go Go.RowKit Go.Proofs.Tryz
def CRw (w:World) (cs:List Value) (x:FV) (size:Nat):Prop:=x.cells.length=size/\(∀ y∈x.cells,y.single=true)/\∀ (j:Nat) (u:Value) (y:FV),cs[j]?=some u->x.cells[j]?=some y->RF Any w u y
theorem krd {cs:List Value} (xs:List FV) (h:∀ (j:Nat) (y:FV),xs[j]?=some y->y.single=true/\∀ u,cs[j]?=some u->RF Any w u y) (hl:cs.length=xs.length:=by rfl):CRw w cs (.agg xs) xs.length:=by refine ⟨rfl,fun y hy=>?_,fun j u y a hy=>(h j y hy).2 u a⟩;obtain ⟨j,b⟩:=qbz.1 hy;exact (h j y b).1
theorem k21 {v:Value} {ns:List Int} (h:Ints Any w v ns):RF Any w v (eL 1 eI ns):=
 kyu (R:=IntR) _ _ h fun cs x _ hx=>kamk hx.1 rfl
theorem kaip:∀ (x:Va) (cs:List Value),RepVa Any w cs x->CRw w cs (eVaR x) 4/\inV x:=by
 refine Va.ind fun t n s l ih=>?_;intro cs h;obtain ⟨v,rfl,ht,hn,hs,hv⟩:=h.form;have c:RF Any w v (.lst 4 l.length (ku8 l)):=by have:=kyu eVaR 4 hv fun cs x hx hr=>(ih x hx cs hr).1;rw [k0c];have e:eL 4 eVaR l = .lst 4 l.length (l.map eVaR):=rfl;rw [<- e];exact this
 refine ⟨krd [eI t,eI n,eS s, .lst 4 l.length (ku8 l)] fun j y hy=>?_,?_⟩
 ·match j with
  | 0=>simp at hy;subst hy;exact ⟨rfl,fun u a=>by simp at a;subst a;exact .atom rfl⟩
  | 1=>simp at hy;subst hy;exact ⟨rfl,fun u a=>by simp at a;subst a;exact .atom rfl⟩
  | 2=>simp at hy;subst hy;exact ⟨rfl,fun u a=>by simp at a;subst a;exact .atom rfl⟩
  | 3=>simp at hy;subst hy;exact ⟨rfl,fun u a=>by simp at a;subst a;exact c⟩
  | j+4=>simp at hy
 ·obtain ⟨A,cap,_,h1,g,f⟩:=hv;have all:∀ x∈l,inV x:=fun x hx=>by obtain ⟨i,hi⟩:=qbz.1 hx;obtain ⟨b,o,cs,_,_,_,_,hr⟩:=f i x hi;exact (ih x hx cs hr).2
  have gen:∀ l:List Va,(∀ x∈l,inV x)->k12 9223372036854775807 l/\kya l:=fun l=>by
   induction l with
   | nil=>exact fun _=>⟨trivial,trivial⟩
   | cons y l ih=>exact fun h=>⟨⟨(h y (qu ..)).1,(ih fun z d=>h z (qh _ d)).1⟩,(h y (qu ..)).2,(ih fun z d=>h z (qh _ d)).2⟩
  obtain ⟨g1,g2⟩:=gen l all;exact ⟨⟨by omega,g1⟩,hs,g2⟩
theorem sy_cr {cs:List Value} {x:Sy} (h:k5v Any w cs x):CRw w cs (eSy x) 2:=by
 obtain ⟨rfl,hs,ht⟩:=h;refine krd [eS x.name,eI x.type] fun j y hy=>?_
 match j with
 | 0=>simp at hy;subst hy;exact ⟨rfl,fun u a=>by simp at a;subst a;exact .atom rfl⟩
 | 1=>simp at hy;subst hy;exact ⟨rfl,fun u a=>by simp at a;subst a;exact .atom rfl⟩
 | j+2=>simp at hy
theorem kaio {cs:List Value} {x:Ru} (h:k5r Any w cs x):CRw w cs (eRu x) 9/\k2a x:=by
 obtain ⟨c0,c1,c2,c3,v,rfl,h1,g,i,m,e,f⟩:=h;obtain ⟨k,kw⟩:=kaip _ _ e;obtain ⟨sy,kd,inp,c,op,ar⟩:=x;obtain ⟨t,n,s,l⟩:=c;obtain ⟨v',b,ht,hn,hs,hv⟩:=e.form;simp only [List.cons.injEq,and_true] at b;obtain ⟨rfl,rfl,rfl,rfl⟩:=b;have d:RF Any w c3 (eL 4 eVaR l):=kyu eVaR 4 hv fun cs x hx hr=>(kaip x cs hr).1;refine ⟨krd [eI sy,eI kd,eI inp,eI t,eI n,eS s,eL 4 eVaR l,eS op,eL 1 eI ar] fun j y hy=>?_,(by obtain ⟨A,cap,_,q1,q2,_⟩:=f;exact qav q1 q2),kw⟩
 match j with
 | 0=>simp at hy;subst hy;exact ⟨rfl,fun u a=>by simp at a;subst a;exact .atom rfl⟩
 | 1=>simp at hy;subst hy;exact ⟨rfl,fun u a=>by simp at a;subst a;exact .atom rfl⟩
 | 2=>simp at hy;subst hy;exact ⟨rfl,fun u a=>by simp at a;subst a;exact .atom rfl⟩
 | 3=>simp at hy;subst hy;exact ⟨rfl,fun u a=>by simp at a;subst a;exact .atom rfl⟩
 | 4=>simp at hy;subst hy;exact ⟨rfl,fun u a=>by simp at a;subst a;exact .atom rfl⟩
 | 5=>simp at hy;subst hy;exact ⟨rfl,fun u a=>by simp at a;subst a;exact .atom rfl⟩
 | 6=>simp at hy;subst hy;exact ⟨rfl,fun u a=>by simp at a;subst a;exact d⟩
 | 7=>simp at hy;subst hy;exact ⟨rfl,fun u a=>by simp at a;subst a;exact .atom rfl⟩
 | 8=>simp at hy;subst hy;exact ⟨rfl,fun u a=>by simp at a;subst a;exact k21 f⟩
 | j+9=>simp at hy
theorem k8d (cs:List Value) (xs:List FV) (hl:cs.length=xs.length) (h:CRw w cs (.agg xs) xs.length):RF Any w (.agg cs.toArray) (.agg xs):=
 .agg (by simpa using hl) (fun x hx=>h.2.1 x hx) fun i v x hv hx=>h.2.2 i v x (by simpa using hv) hx
theorem la_rf {v:Value} {x:La} (h:LaV Any w v x):RF Any w v (eLa x)/\ks5 x:=by
 obtain ⟨cs,rfl,v1,v2,v3,rfl,hn,h1,c,d⟩:=h;have r1:=k21 h1;have r2:RF Any w v2 (eL 2 eSy x.symbols):=kyu eSy 2 c fun cs x _ hr=>sy_cr hr;have r3:RF Any w v3 (eL 9 eRu x.rules):=kyu eRu 9 d fun cs x _ hr=>(kaio hr).1;refine ⟨k8d _ [eS x.name,eL 1 eI x.inputs,eL 2 eSy x.symbols,eL 9 eRu x.rules] rfl (krd _ fun j y hy=>?_),?_⟩
 ·match j with
  | 0=>simp at hy;subst hy;exact ⟨rfl,fun u a=>by simp at a;subst a;exact .atom rfl⟩
  | 1=>simp at hy;subst hy;exact ⟨rfl,fun u a=>by simp at a;subst a;exact r1⟩
  | 2=>simp at hy;subst hy;exact ⟨rfl,fun u a=>by simp at a;subst a;exact r2⟩
  | 3=>simp at hy;subst hy;exact ⟨rfl,fun u a=>by simp at a;subst a;exact r3⟩
  | j+4=>simp at hy
 ·refine ⟨hn,?_,?_,?_,fun y hy=>?_,fun r hr=>?_⟩;obtain ⟨A,cap,_,q1,q2,_⟩:=h1;exact qav q1 q2;obtain ⟨A,cap,_,q1,q2,_⟩:=c;exact qav q1 q2;obtain ⟨A,cap,_,q1,q2,_⟩:=d;exact qav q1 q2;obtain ⟨A,cap,_,_,_,hx⟩:=c;obtain ⟨i,hi⟩:=qbz.1 hy;obtain ⟨b,o,cs,_,_,_,_,e⟩:=hx i y hi;exact e.2.1
  ·obtain ⟨A,cap,_,_,_,hx⟩:=d;obtain ⟨i,hi⟩:=qbz.1 hr;obtain ⟨b,o,cs,_,_,_,_,e⟩:=hx i r hi;exact (kaio e).2
theorem tm_cr:∀ (x:Tm) (cs:List Value),RepTm Any w cs x->CRw w cs (eTmR x) 2:=by
 refine Tm.ind fun r l ih=>?_;intro cs h;obtain ⟨v,rfl,hr,hv⟩:=h.form;have b:RF Any w v (.lst 2 l.length (kvq l)):=by have:=kyu eTmR 2 hv fun cs x hx hr=>ih x hx cs hr;rw [kz2];have c:eL 2 eTmR l = .lst 2 l.length (l.map eTmR):=rfl;rw [<- c];exact this
 refine krd [eI r, .lst 2 l.length (kvq l)] fun j y hy=>?_
 match j with
 | 0=>simp at hy;subst hy;exact ⟨rfl,fun u a=>by simp at a;subst a;exact .atom rfl⟩
 | 1=>simp at hy;subst hy;exact ⟨rfl,fun u a=>by simp at a;subst a;exact b⟩
 | j+2=>simp at hy
theorem tm_rf {v:Value} {x:Tm} (h:TmV Any w v x):RF Any w v (eTm x):=by obtain ⟨c0,c1,rfl,hr⟩:=h;have k:=tm_cr x _ hr;rw [kig] at k;exact k8d [c0,c1] [eI x.rule,eL 2 eTmR x.args] rfl k
theorem in_La {r:Reach} {b0:Nat} {v:Value} {d:DataW H} {p:List MemPlace} (hv:Value.okWide prog w r b0 26 v) (h:DataW.Trod enc prog w base spare held 26 v d p):∃ x,RF Any w v (eLa x)/\ks5 x:=by obtain ⟨x,hx⟩:=k3k hv h;exact ⟨x,la_rf hx⟩
theorem in_Tm {r:Reach} {b0:Nat} {v:Value} {d:DataW H} {p:List MemPlace} (hv:Value.okWide prog w r b0 29 v) (h:DataW.Trod enc prog w base spare held 29 v d p):∃ x,RF Any w v (eTm x)/\True:=by obtain ⟨x,hx⟩:=kabo hv h;exact ⟨x,tm_rf hx,trivial⟩
open Go Go.RowKit Go.Proofs Go.Proofs.Tryz
variable {P:Program} {sp:Nat->Bool}
def kabe : List (String × DataW Unit) := [("math/bits.deBruijn32tab", Rows.laid_math_bits_deBruijn32tab), ("math/bits.deBruijn64tab", Rows.laid_math_bits_deBruijn64tab), ("internal/strconv.uint64pow10", Rows.laid_internal_strconv_uint64pow10), ("unicode/utf8.acceptRanges", Rows.laid_unicode_utf8_acceptRanges), ("unicode/utf8.first", Rows.laid_unicode_utf8_first)]
theorem kw7 {H:Type} {enc:TypeId×Value->H} {a:Assume} {C:Checked} {os:Os} {f:FuncId} {fn:Func} {s:ChangeSpec} {conds:List PathCond} {apart fresh b again:Bool} {X:World->Array Value->Prop}
  (o:∀ (w w':World) (args:Array Value),w.heap=w'.heap->X w args->X w' args)
  (own:ownKnob C.prog.godebug=none) (started:os.Started) (noInit:C.prog.inits.idxOf? f=none) (k:C.prog.funcs[f]?=some fn)
  (witness:∃ (w:World) (tape:Tape) (i:Input),w.os=os/\(w.forCall tape i).Shaped C.prog/\i.vars=[]/\Input.okWide C.prog (w.forCall tape i) .any w.heap.size f i /\
   ((s.pre enc C.prog fn conds apart (w.forCall tape i).memory i.args/\X (w.forCall tape i).memory i.args)/\sizedMet enc C.prog fn (OpenSpec.ofChange s) apart (w.forCall tape i).memory i.args)/\a.holds C.prog (lone (Frame.enter C.prog f i.args .normal) [] (w.forCall tape i)))
  (contract:∀ (W:World) (base:Nat) (args:Array Value) (ds gs:List (DataW H)) (before:List MemPlace),
   (∀ (j:Nat) t v,fn.params[j]?=some t->args[j]?=some v->Value.okWide C.prog W .any base t v) ->
   DataW.Whole enc C.prog fn.params.toList s.vars apart W args.toList ds gs before->X W args->W.ShapedOpen C.prog ->
   Calls C.prog f args W fun e W'=>∃ v,e = .returned v/\s.post enc C.prog fn apart fresh b again W args v W'):
  ReturnsInHanded a C os f .any (fun w args=>(s.pre enc C.prog fn conds apart w args/\X w args)/\sizedMet enc C.prog fn (OpenSpec.ofChange s) apart w args) (s.post enc C.prog fn apart fresh b again):=by
 refine returnsInHanded_of_calls own started noInit witness ?_;intro w tape i _ l _ m c h;obtain ⟨_,_,_,fn',d,_,_,_,_,g⟩:=m;have e:fn'=fn:=qw (d.symm.trans k);subst e;obtain ⟨⟨⟨ds,gs,before,p,hc⟩,hx⟩,r⟩:=c;have n:=DataW.Whole.of_heap (w':=w.forCall tape i) (by rfl) p;refine (contract (w.forCall tape i) w.heap.size i.args ds gs before g n (o _ _ _ (by rfl) hx) l).mono fun e W' ⟨v,q,hp⟩=>?_;subst q;exact ChangeSpec.post_blind hp
noncomputable def k33 (os:Os):World:=
 let w0:=World.holding prog os ⟨#[],#[],[]⟩
 { w0 with heap:=(((((w0.heap).modify 0 (fun | Obj.cells _ t fr=>Obj.cells gv0 t fr | o=>o)).modify 1 (fun | Obj.cells _ t fr=>Obj.cells gv1 t fr | o=>o)).modify 2 (fun | Obj.cells _ t fr=>Obj.cells gv2 t fr | o=>o)).modify 4 (fun | Obj.cells _ t fr=>Obj.cells gv4 t fr | o=>o)).modify 5 (fun | Obj.cells _ t fr=>Obj.cells gv5 t fr | o=>o) }
theorem k5j (os:Os) (args:Array Value):laidMetH prog kabe ((k33 os).forCall (fun _ _=>0) ⟨#[],args,[]⟩).memory:=
 laidMetH_of_parts (laidMet_of_run' 8 (by kernel_rfl) (by kernel_rfl)) (by kernel_rfl)
theorem pl_ty:prog.cellsOf 3=1/\prog.cellsOf 22=1/\prog.cellsOf 31=2:=⟨by kernel_rfl,by kernel_rfl,by kernel_rfl⟩
theorem kal9 {r:Reach} {b0:Nat} {v:Value} {d:DataW H} {p:List MemPlace} (hv:Value.okWide prog w r b0 31 v) (h:DataW.Trod enc prog w base spare held 31 v d p):∃ x,RF Any w v (kiy x)/\True:=by
 obtain ⟨z1,z2,z3⟩:=pl_ty;obtain ⟨cs,rfl,g⟩:=okWide_struct underlying31 hv;obtain ⟨fuel,e⟩:=h;obtain ⟨xs,n,i,_,b,f,e⟩:=DataW.trod_struct underlying31 e;rw [z3] at b;obtain ⟨c0,c1,rfl⟩:∃ c0 c1,cs=#[c0,c1]:=by
  have b:cs.toList.length=2:=by simpa [Value.cells] using b
  match hc:cs.toList,b with
  | [c0,c1],_=>exact ⟨c0,c1,by cases cs;simp_all⟩
 have h0:=e 0 _ rfl;have h1:=e 1 _ rfl;rw [qb (by rw [f];decide)] at h0 h1;obtain ⟨v,ns,e0,k⟩:=kva h0;obtain ⟨a,e1,ha⟩:=knb h1;simp [z1,z2,Value.cells] at e0 e1;subst e0 e1;refine ⟨⟨ns,a⟩,k8d [c0, .int .i64 a] [(eL 1 eI) ns,eI a] rfl (krd _ fun j y hy=>?_),trivial⟩
 match j with
 | 0=>simp at hy;subst hy;exact ⟨rfl,fun u c=>by simp at c;subst c;exact k21 k⟩
 | 1=>simp at hy;subst hy;exact ⟨rfl,fun u c=>by simp at c;subst c;exact .atom rfl⟩
 | j+2=>simp at hy
open Go Go.RowKit Go.ChangeShapes Go.WideShapes Go.Proofs.Tryz
theorem kamv:laidOutB Tryz.checked.prog=true:=by as_aux_lemma=>kernel_rfl
theorem kajg:mapsRowed Tryz.checked.prog=true:=by as_aux_lemma=>kernel_rfl
theorem kaj3:Tryz.checked.prog.stopsHeard=true:=by as_aux_lemma=>kernel_rfl
theorem kab7:Tryz.checked.prog.mayEnter=true:=by as_aux_lemma=>kernel_rfl
theorem kamt:Tryz.checked.prog.make=some .cut:=by as_aux_lemma=>kernel_rfl
set_option maxRecDepth 100000 in
theorem kxx (os:Os) (started:os.Started) (H:Type) (enc:TypeId×Value->H):
  ReturnsInHanded {} Tryz.checked os 3 .any (fun w args=>(Rows.sketchOpensSpec.pre enc prog Tryz.f3 Rows.sketchOpensRow.domain false w args/\laidMetH prog Rows.sketchOpensRow.laid w)/\sizedMet enc prog Tryz.f3 (OpenSpec.ofChange Rows.sketchOpensSpec) false w args) (Rows.sketchOpensSpec.post enc prog Tryz.f3 false true false false):=by
 refine kw7 (C:=Tryz.checked) (X:=fun w _=>laidMetH prog kabe w) (fun _ _ _ k h=>h.of_heap k) kaf9 started (by kernel_rfl) func3
  (ChangeSpec.witness_at (enc:=enc) (C:=Tryz.checked) (os:=os) (X:=fun w _=>laidMetH prog kabe w) false (k33 os) #[.agg #[.string ⟨#[]⟩, .slice none 0 0, .slice none 0 0, .slice none 0 0], .agg #[.int .i64 0, .slice none 0 0], .agg #[.slice none 0 0, .int .i64 0]] 8 rfl (by kernel_rfl) (by kernel_rfl) (by kernel_rfl) (by kernel_rfl) (by kernel_rfl) (k5j os _)) ?_
 intro W base args ds gs before b g y l;have a:∀ (j:Nat) t v,Tryz.f3.params[j]?=some t->args[j]?=some v->Value.okWide prog W .any base t v:=b;have c:=g;obtain ⟨p,q,d,m,rfl,n,o⟩:=g;have hA:DataW.TrodAll enc prog W 0 (fun _=>true) true Tryz.f3.params.toList args.toList ds p:=d;rw [Tryz.params3] at hA a;obtain ⟨v0,vs0,d0,ds0,p0,q0,f,rfl,rfl,h0,r0⟩:=trodAll_cons hA;obtain ⟨v1,vs1,d1,ds1,p1,q1,rfl,rfl,rfl,h1,r1⟩:=trodAll_cons r0;obtain ⟨v2,vs2,d2,ds2,p2,q2,rfl,rfl,rfl,r,r2⟩:=trodAll_cons r1;obtain ⟨rfl,rfl,rfl⟩:=trodAll_nil r2;obtain rfl:args=#[v0,v1,v2]:=by cases args;simp_all
 obtain ⟨rfl,rfl⟩:=trodVars_none m;obtain ⟨x0,e0,b0⟩:=in_La (a 0 26 v0 rfl rfl) h0;obtain ⟨x1,e1,_⟩:=in_Tm (a 1 29 v1 rfl rfl) h1;obtain ⟨x2,e2,_⟩:=kal9 (a 2 31 v2 rfl rfl) r;refine (kaey [eLa x0,eTm x1,kiy x2] (koo x0 x1 x2 true (k2h x0 x1 x2 b0)) rfl ?_).mono fun e W' ⟨s,u⟩=>?_
 ·intro i v x hv hx
  match i with
  | 0=>simp at hv hx;subst hv hx;exact e0
  | 1=>simp at hv hx;subst hv hx;exact e1
  | 2=>simp at hv hx;subst hv hx;exact e2
  | i+3=>simp at hv
 subst s;exact ⟨_,rfl,kahc kahi (by rw [Tryz.params3];intro t ht;simp at ht;rcases ht with rfl | rfl | rfl <;> exact ⟨by kernel_rfl,qbt (by kernel_rfl)⟩) rfl underlying4 rfl rfl c u⟩
set_option maxHeartbeats 4000000 in
theorem kxa:joinedFacts Tryz.checked.prog 3 Tryz.f3 Rows.sketchOpensSpec Rows.sketchOpensRow=true:=by
 unfold joinedFacts;simp only [kab7,kaju,kamt,kamv,kajg,kaj3,qp,Bool.and_true]
 repeat' apply And.intro
 all_goals (as_aux_lemma=>kernel_rfl)
theorem ky5:Rows.SketchOpensSaid:=
 OpenClaim.holds_of_wide 3 Tryz.f3 rfl rfl rfl rfl rfl rfl rfl ⟨rfl,rfl,rfl,rfl,rfl⟩ rfl rfl rfl rfl rfl (by kernel_rfl) func3 kxa
  (qbt (by kernel_rfl)) (by unfold Func.isWrapper;rw [qi (qbl (by kernel_rfl))];exact ⟨rfl,rfl⟩)
  (fun os started H enc _=>kxx os started H enc)
theorem sketchOpens_card_holds:Rows.SketchOpensCardSaid:=
 Claim7.holds_tied_plain_at .later [] [.data, .data, .data, .data, .pinned] true (true, "28ac551496ca2e95b96c27fcfbe469a9611d6c27861cb80d755a60df4faae824") true ky5 (fun _ h => by cases h) (by kernel_rfl) (fun _ h => by cases h) sketchOpens_row_tie rfl ⟨rfl, rfl⟩ (by kernel_rfl) rfl
  (fun f fn b a=>by
   obtain rfl : f = 3 := qw ((show prog.funcNamed "synthesis/synthesislaw34.SketchOpens" = some 3 by kernel_rfl).symm.trans b) |>.symm;obtain rfl:fn=Tryz.f3:=(qw (func3.symm.trans a)).symm;exact ⟨by kernel_rfl,fun j t ht=>by
    rw [Tryz.params3] at ht
    match j with
    | 0=>obtain rfl:=qw ht;exact (show prog.wantsStandIn 26=false by kernel_rfl)
    | 1=>obtain rfl:=qw ht;exact (show prog.wantsStandIn 29=false by kernel_rfl)
    | 2=>obtain rfl:=qw ht;exact (show prog.wantsStandIn 31=false by kernel_rfl)
    | j+3=>simp at ht⟩)
  (by kernel_rfl)
end Go.Proofs.YtjpkdegjcilndaaGreatDoor
