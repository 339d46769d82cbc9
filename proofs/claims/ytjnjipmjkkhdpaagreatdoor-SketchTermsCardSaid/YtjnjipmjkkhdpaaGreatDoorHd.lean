import Derived.Test.YtjnjipmjkkhdpaaGreatDoorSim
import Derived.Test.YtjnjipmjkkhdpaaGreatDoorTy
import Derived.ChangeMaps5
import Derived.Deep.Fields
import Derived.Test.YtjnjipmjkkhdpaaGreatDoorSim
import Derived.Lib.Bytealg
set_option linter.all false
set_option linter.unusedSectionVars false
namespace Go.Proofs.YtjnjipmjkkhdpaaGreatDoor
open Go Go.RowKit Go.Proofs.Tryz
variable [Dr]
inductive Va where
 | mk (type num:Int) (text:BA) (items:List Va)
namespace Va
def type:Va->Int | mk t _ _ _=>t
def num:Va->Int | mk _ n _ _=>n
def text:Va->BA | mk _ _ s _=>s
def items:Va->List Va | mk _ _ _ l=>l
theorem ind {P:Va->Prop} (h:∀ t n s l,(∀ v∈l,P v)->P (mk t n s l)) (v:Va):P v:=
 Va.rec (motive_1:=P) (motive_2:=fun l=>∀ t∈l,P t) (fun t n s l ih=>h t n s l ih) (fun _ h=>nomatch h)
  (fun t l h1 a x hx=>(qaa.1 hx).elim (fun e=>e ▸ h1) (a x)) v
end Va
structure Sy where
 name:BA
 type:Int
structure Ru where
 symbol:Int
 kind:Int
 input:Int
 const:Va
 op:BA
 args:List Int
structure La where
 name:BA
 inputs:List Int
 symbols:List Sy
 rules:List Ru
def kox (s:BA):Prop:=s.size<=9223372036854775807
section
variable {S S':Nat->Prop} {w w':World}
inductive RepVa (S:Nat->Prop) (w:World):List Value->Va->Prop where
 | mk (t n:Int) (s:BA) (kids:List Va) (A:Option Addr) (cap:Nat) (css:Nat->List Value) (ht:kdw t) (hn:kdw n) (hs:kox s) (hc:kids.length<=cap) (hm:cap<=9223372036854775807)
  (hA:∀ (i:Nat) (x:Va),kids[i]?=some x->∃ b o,A=some ⟨b,o,none⟩/\S b/\At w b (o+i*4) (css i))
  (hk:∀ (i:Nat) (x:Va),kids[i]?=some x->RepVa S w (css i) x):RepVa S w [.int .i64 t, .int .i64 n, .string s, .slice A kids.length cap] (.mk t n s kids)
abbrev Vas (S:Nat->Prop) (w:World) (v:Value) (l:List Va):Prop:=RepSl S w 4 (RepVa S w) v l
theorem RepVa.len {cs:List Value} {t:Va} (h:RepVa S w cs t):cs.length=4:=by cases h;rfl
theorem RepVa.form {cs:List Value} {t n:Int} {s:BA} {l:List Va} (h:RepVa S w cs (.mk t n s l)):∃ v,cs=[.int .i64 t, .int .i64 n, .string s,v]/\kdw t/\kdw n/\kox s/\Vas S w v l:=by
 cases h with
 | mk _ _ _ _ A cap css ht hn hs hc hm hA hk=>
  refine ⟨_,rfl,ht,hn,hs,A,cap,rfl,hc,hm,fun i x hx=>?_⟩;obtain ⟨b,o,h1,a,c⟩:=hA i x hx;exact ⟨b,o,css i,h1,a,c,(hk i x hx).len,hk i x hx⟩
theorem RepVa.of {v:Value} {t n:Int} {s:BA} {l:List Va} (ht:kdw t) (hn:kdw n) (hs:kox s) (h:Vas S w v l):RepVa S w [.int .i64 t, .int .i64 n, .string s,v] (.mk t n s l):=by
 obtain ⟨A,cap,rfl,hc,hm,hx⟩:=h;have:∀ i:Nat,∃ cs:List Value,∀ x:Va,l[i]?=some x->(∃ b o,A=some ⟨b,o,none⟩/\S b/\At w b (o+i*4) cs)/\RepVa S w cs x:=fun i=>by
  cases hi:l[i]? with
  | none=>exact ⟨[],fun x h=>by cases h⟩
  | some x=>
   obtain ⟨b,o,cs,h1,c,d,_,e⟩:=hx i x hi;exact ⟨cs,fun y hy=>by cases hy;exact ⟨⟨b,o,h1,c,d⟩,e⟩⟩
 obtain ⟨css,a⟩:=Classical.axiomOfChoice this;exact .mk t n s l A cap css ht hn hs hc hm (fun i x hi=>(a i x hi).1) (fun i x hi=>(a i x hi).2)
section
variable {T:Type} {size:Nat} {R:(Nat->Prop)->World->List Value->T->Prop} {v:Value} {l:List T}
end
def kxb (S:Nat->Prop) (w:World) (cs:List Value) (x:Sy):Prop:=cs=[.string x.name, .int .i64 x.type]/\kox x.name/\kdw x.type
def kw5 (S:Nat->Prop) (w:World) (cs:List Value) (x:Ru):Prop:=
 ∃ c0 c1 c2 c3 v,cs=[.int .i64 x.symbol, .int .i64 x.kind, .int .i64 x.input,c0,c1,c2,c3, .string x.op,v]/\kdw x.symbol/\kdw x.kind/\kdw x.input/\kox x.op/\RepVa S w [c0,c1,c2,c3] x.const/\Ints S w v x.args
abbrev Sys (S:Nat->Prop) (w:World) (v:Value) (l:List Sy):Prop:=RepSl S w 2 (kxb S w) v l
abbrev Rus (S:Nat->Prop) (w:World) (v:Value) (l:List Ru):Prop:=RepSl S w 9 (kw5 S w) v l
def k77 (S:Nat->Prop) (w:World) (cs:List Value) (x:La):Prop:=
 ∃ v1 v2 v3,cs=[.string x.name,v1,v2,v3]/\kox x.name/\Ints S w v1 x.inputs/\Sys S w v2 x.symbols/\Rus S w v3 x.rules
def LaV (S:Nat->Prop) (w:World) (v:Value) (x:La):Prop:=∃ cs:List Value,v = .agg cs.toArray/\k77 S w cs x
end
end Go.Proofs.YtjnjipmjkkhdpaaGreatDoor
set_option linter.all false
set_option linter.unusedSectionVars false
namespace Go.Proofs.YtjnjipmjkkhdpaaGreatDoor
open Go Go.RowKit Go.Proofs.Tryz
variable [Dr]
mutual
def eVaR:Va->FV
 | .mk t n s l => .agg [eI t,eI n,eS s, .lst 4 l.length (kpc l)]
def kpc:List Va->List FV
 | []=>[]
 | x::l=>eVaR x::kpc l
end
def eVa (x:Va):FV := .agg [eI x.type,eI x.num,eS x.text,eL 4 eVaR x.items]
theorem ksx:∀ l:List Va,kpc l=l.map eVaR
 | []=>by simp [kpc]
 | x::l=>by simp [kpc,ksx l]
theorem k00 (x:Va):eVaR x=eVa x:=by cases x;simp [eVaR,eVa,ksx,eL,Va.type,Va.num,Va.text,Va.items]
theorem k2v (x:Va):(eVaR x).cells=(eVa x).cells:=by rw [k00]
theorem k5u (x:Va):(eVaR x).cells.length=4:=by rw [k00];rfl
mutual
def eTmR:Tm->FV
 | .mk r l => .agg [eI r, .lst 2 l.length (kpp l)]
def kpp:List Tm->List FV
 | []=>[]
 | x::l=>eTmR x::kpp l
end
def eTm (x:Tm):FV := .agg [eI x.rule,eL 2 eTmR x.args]
theorem kss:∀ l:List Tm,kpp l=l.map eTmR
 | []=>by simp [kpp]
 | x::l=>by simp [kpp,kss l]
theorem kf6 (x:Tm):eTmR x=eTm x:=by cases x;simp [eTmR,eTm,kss,eL,Tm.rule,Tm.args]
theorem kmd (x:Tm):(eTmR x).cells=(eTm x).cells:=by rw [kf6]
theorem k6a (x:Tm):(eTmR x).cells.length=2:=by rw [kf6];rfl
def eSy (x:Sy):FV := .agg [eS x.name,eI x.type]
def eRu (x:Ru):FV := .agg [eI x.symbol,eI x.kind,eI x.input,eI x.const.type,eI x.const.num,eS x.const.text,eL 4 eVaR x.const.items,eS x.op,eL 1 eI x.args]
def eLa (x:La):FV := .agg [eS x.name,eL 1 eI x.inputs,eL 2 eSy x.symbols,eL 9 eRu x.rules]
end Go.Proofs.YtjnjipmjkkhdpaaGreatDoor
set_option linter.all false
namespace Go.Proofs.YtjnjipmjkkhdpaaGreatDoor
open Go Go.RowKit Go.ChangeShapes Go.WideShapes Go.ChangeAt Go.ChangeMaps Go.Proofs.Tryz
section
variable {T:Type} {P:Program} {H:Type} {enc:TypeId×Value->H} {w:World} {base:Nat} {spare:Nat->Bool} {held:Bool}
theorem kld {R:List Value->T->Prop} (ec:T->FV) (size:Nat) {v:Value} {xs:List T} (h:RepSl Any w size R v xs) (e:∀ cs x,x∈xs->R cs x->(ec x).cells.length=size/\(∀ y∈(ec x).cells,y.single=true)/\∀ (j:Nat) (u:Value) (y:FV),cs[j]?=some u->(ec x).cells[j]?=some y->RF Any w u y) (f:0<size:=by omega):RF Any w v (eL size ec xs):=by
 obtain ⟨A,cap,rfl,h1,g,k⟩:=h;have d:∀ i:Nat,∃ cs:List Value,∀ x,xs[i]?=some x->∃ b o,A=some ⟨b,o,none⟩/\At w b (o+i*size) cs/\cs.length=size/\R cs x:=fun i=>by
  cases hx:xs[i]? with
  | none=>exact ⟨[],fun x h=>by cases h⟩
  | some x=>
   obtain ⟨b,o,cs,e1,_,e2,e3,e4⟩:=k i x hx;exact ⟨cs,fun y hy=>by injection hy with hy;subst hy;exact ⟨b,o,e1,e2,e3,e4⟩⟩
 obtain ⟨css,c⟩:=Classical.axiomOfChoice d;refine .lst css (by simp) h1 g f (fun i x hx=>?_) (fun i x hx=>?_) fun i x j v y hx hv hy=>?_;simp only [ql,qn] at hx;obtain ⟨z,a,rfl⟩:=hx;obtain ⟨b,o,e1,e2,_⟩:=c i z a;exact ⟨b,o,e1,trivial,e2⟩;simp only [ql,qn] at hx;obtain ⟨z,a,rfl⟩:=hx;obtain ⟨b,o,e1,e2,e3,e4⟩:=c i z a;obtain ⟨g1,g2,_⟩:=e _ z (qm a) e4;exact ⟨e3,g1,g2⟩
 ·simp only [ql,qn] at hx;obtain ⟨z,a,rfl⟩:=hx;obtain ⟨b,o,e1,e2,e3,e4⟩:=c i z a;exact (e _ z (qm a) e4).2.2 j v y hv hy
theorem k3v {x:Value} {cs:List Value} (a:cs=[x]) (hx:x.oneCell'=true):(FV.atom x).cells.length=1/\(∀ y∈(FV.atom x).cells,y.single=true)/\∀ (j:Nat) (u:Value) (y:FV),cs[j]?=some u->(FV.atom x).cells[j]?=some y->RF Any w u y:=by
 subst a;refine ⟨rfl,fun y hy=>?_,fun j u y b hy=>?_⟩;simp [FV.cells] at hy;subst hy;exact hx
 ·cases j with
  | zero=>
   simp [FV.cells] at b hy;subst b hy;exact .atom hx
  | succ j=>simp at b
theorem kaan {n:Int} (h:(Lit.int .i64 n).wf=true):kdw n:=by simpa [Lit.wf,IntKind.min,IntKind.max,IntKind.signed,IntKind.bits,kdw] using h
theorem in_sl (R:List Value->T->Prop) (ec:T->FV) {size:Nat} {r:Reach} {b0:Nat} {t e:TypeId} {v:Value} {d:DataW H} {p:List MemPlace} (ht:P.underlying t=some (.slice e)) (k:P.cellsOf e=size) (g:0<size) (hv:Value.okWide P w r b0 t v) (h:DataW.Trod enc P w base spare held t v d p) (f:∀ n cs' y,DataW.trod enc P w base spare held n e cs'=some y->∃ z,R cs' z) (l:∀ cs x,R cs x->(ec x).cells.length=size/\(∀ y∈(ec x).cells,y.single=true)/\∀ (j:Nat) (u:Value) (y:FV),cs[j]?=some u->(ec x).cells[j]?=some y->RF Any w u y):
  ∃ xs:List T,RF Any w v (eL size ec xs)/\xs.length<=9223372036854775807/\∀ x∈xs,∃ cs,R cs x:=by
 obtain ⟨a,len,cap,rfl⟩:=okWide_slice ht hv;obtain ⟨fuel,m⟩:=h;obtain ⟨v',xs,hc,c⟩:=kil R _ ht k m (fun n cs' y _ hy=>f n cs' y hy) (d:=g);have:v' = .slice a len cap:=by simpa [Value.cells] using hc.symm
 subst this;refine ⟨xs,kld _ _ c (fun cs x _ hx=>l cs x hx) (f:=g),?_,fun x hx=>?_⟩;obtain ⟨A,cap',h0,h1,q,_⟩:=c;omega
 ·obtain ⟨A,cap',h0,h1,q,s⟩:=c;obtain ⟨i,hi⟩:=qbm.1 hx;obtain ⟨b,o,cs,_,_,_,_,B⟩:=s i x hi;exact ⟨cs,B⟩
theorem k9u {r:Reach} {b0:Nat} {t e:TypeId} {v:Value} {d:DataW H} {p:List MemPlace} (ht:P.underlying t=some (.slice e)) (b:P.underlying e=some (.int .i64)) (c:P.cellsOf e=1) (hv:Value.okWide P w r b0 t v)
  (h:DataW.Trod enc P w base spare held t v d p):∃ xs:List Int,RF Any w v (eL 1 eI xs)/\xs.length<=9223372036854775807/\∀ x∈xs,kdw x:=by
 obtain ⟨xs,h1,f,g⟩:=in_sl (fun cs n=>cs=[.int .i64 n]/\kdw n) eI ht c (by omega) hv h (fun n cs' y hy=>by obtain ⟨m,hm,_,a⟩:=DataW.trod_int b hy;exact ⟨m,hm,kaan a⟩) fun cs x hx=>k3v hx.1 rfl;exact ⟨xs,h1,f,fun x hx=>let ⟨_,h⟩:=g x hx;h.2⟩
theorem k4v {f:FuncId} (args:List FV) {vs:Array Value} (hp:PCall P f args (eB true)) (hs:vs.size=args.length) (hr:∀ (i:Nat) (v:Value) (x:FV),vs[i]?=some v->args[i]?=some x->RF Any w v x):
  Calls P f vs w fun e w'=>e = .returned (.bool true)/\RowKit.Below w.heap.size w w':=by
 refine (hp.2 Any w vs hs hr).mono ?_;rintro e w' ⟨v,rfl,h1,a⟩;rw [h1.atom_eq];exact ⟨rfl,a.toBelow⟩
end
set_option maxRecDepth 100000
open Go Go.RowKit Go.ChangeShapes Go.WideShapes Go.ChangeAt Go.Proofs.Tryz
theorem kuo {n:Int} (h:(Lit.int .i64 n).wf=true):kdw n:=by simpa [Lit.wf,IntKind.min,IntKind.max,IntKind.signed,IntKind.bits,kdw] using h
variable {H:Type} {enc:TypeId×Value->H} {w:World} {base:Nat} {spare:Nat->Bool} {held:Bool}
theorem cells_ty:prog.cellsOf 3=1/\prog.cellsOf 2=1/\prog.cellsOf 9=1/\prog.cellsOf 22=1/\prog.cellsOf 49=1/\prog.cellsOf 23=1/\prog.cellsOf 24=1 /\
  prog.cellsOf 51=4/\prog.cellsOf 85=2/\prog.cellsOf 53=9/\prog.cellsOf 26=4:=⟨by kernel_rfl,by kernel_rfl,by kernel_rfl,by kernel_rfl,by kernel_rfl,by kernel_rfl,by kernel_rfl,by kernel_rfl,by kernel_rfl,by kernel_rfl,by kernel_rfl⟩
theorem ko7 {fuel:Nat} {cs:List Value} {x:DataW H×List MemPlace} (h:DataW.trod enc prog w base spare held fuel 9 cs=some x):∃ s,cs=[.string s]/\kox s:=by obtain ⟨s,hs,_,hl⟩:=DataW.trod_string underlying9 h;exact ⟨s,hs,by unfold maxLen at hl;exact hl⟩
theorem kg9 {fuel:Nat} {cs:List Value} {x:DataW H×List MemPlace} (h:DataW.trod enc prog w base spare held fuel 3 cs=some x):∃ n,cs=[.int .i64 n]/\kdw n:=by obtain ⟨n,hn,_,a⟩:=DataW.trod_int underlying3 h;exact ⟨n,hn,kuo a⟩
theorem k4i {fuel:Nat} {cs:List Value} {x:DataW H×List MemPlace} (h:DataW.trod enc prog w base spare held fuel 2 cs=some x):∃ n,cs=[.int .i64 n]/\kdw n:=by obtain ⟨n,hn,_,a⟩:=DataW.trod_int underlying2 h;exact ⟨n,hn,kuo a⟩
theorem ktx {fuel:Nat} {cs:List Value} {x:DataW H×List MemPlace} (h:DataW.trod enc prog w base spare held fuel 22 cs=some x):∃ v ns,cs=[v]/\Ints Any w v ns:=
 kil IntR 1 underlying22 cells_ty.1 h fun n cs' y _ hy=>by obtain ⟨k,h1,a⟩:=kg9 hy;exact ⟨k,h1,a⟩
theorem k1s:∀ (fuel:Nat) (cs:List Value) (x:DataW H×List MemPlace),DataW.trod enc prog w base spare held fuel 51 cs=some x->∃ t,RepVa Any w cs t:=by
 obtain ⟨z1,z2,z3,z4,z5,z6,z7,z8,z9,z10,z11⟩:=cells_ty;intro fuel
 induction fuel using Nat.strongRecOn with
 | _ fuel ih=>
  intro cs x h;obtain ⟨xs,n,f,_,a,c,b⟩:=DataW.trod_struct underlying51 h;rw [z8] at a
  match cs,a with
  | [c0,c1,c2,c3],_=>
   have h0:=b 0 _ rfl;have h1:=b 1 _ rfl;have d:=b 2 _ rfl;have e:=b 3 _ rfl;rw [qa (by rw [c];decide)] at h0 h1 d e;obtain ⟨t,e0,ht⟩:=kg9 h0;obtain ⟨m,e1,hm⟩:=k4i h1;obtain ⟨s,e2,hs⟩:=ko7 d;obtain ⟨v,ts,e3,g⟩:=kil (RepVa Any w) 4 underlying49 z8 e fun k cs' y hk hy=>ih k (by omega) cs' y hy;simp [z1,z2,z3,z4,z5,z6,z7,z8] at e0 e1 e2 e3;subst e0 e1 e2 e3;exact ⟨.mk t m s ts,RepVa.of ht hm hs g⟩
theorem k0b {fuel:Nat} {cs:List Value} {x:DataW H×List MemPlace} (h:DataW.trod enc prog w base spare held fuel 85 cs=some x):∃ t,kxb Any w cs t:=by
 obtain ⟨z1,z2,z3,z4,z5,z6,z7,z8,z9,z10,z11⟩:=cells_ty;obtain ⟨xs,n,d,_,a,b,c⟩:=DataW.trod_struct underlying85 h;rw [z9] at a
 match cs,a with
 | [c0,c1],_=>
  have h0:=c 0 _ rfl;have h1:=c 1 _ rfl;rw [qa (by rw [b];decide)] at h0 h1;obtain ⟨s,e0,hs⟩:=ko7 h0;obtain ⟨t,e1,ht⟩:=kg9 h1;simp [z1,z2,z3,z4,z5,z6,z7,z8] at e0 e1;subst e0 e1;exact ⟨⟨s,t⟩,rfl,hs,ht⟩
theorem k4e {fuel:Nat} {cs:List Value} {x:DataW H×List MemPlace} (h:DataW.trod enc prog w base spare held fuel 53 cs=some x):∃ t,kw5 Any w cs t:=by
 obtain ⟨z1,z2,z3,z4,z5,z6,z7,z8,z9,z10,z11⟩:=cells_ty;obtain ⟨xs,n,m,_,d,f,e⟩:=DataW.trod_struct underlying53 h;rw [z10] at d
 match cs,d with
 | [c0,c1,c2,c3,c4,c5,c6,c7,c8],_=>
  have h0:=e 0 _ rfl;have h1:=e 1 _ rfl;have i:=e 2 _ rfl;have j:=e 3 _ rfl;have k:=e 4 _ rfl;have l:=e 5 _ rfl;rw [qa (by rw [f];decide)] at h0 h1 i j k l;obtain ⟨a,e0,ha⟩:=kg9 h0;obtain ⟨b,e1,o⟩:=kg9 h1;obtain ⟨c,e2,hc⟩:=kg9 i;obtain ⟨v,hv⟩:=k1s _ _ _ j;obtain ⟨s,e4,hs⟩:=ko7 k;obtain ⟨u,ns,e5,g⟩:=ktx l;simp [z1,z2,z3,z4,z5,z6,z7,z8] at e0 e1 e2 e4 e5 hv;subst e0 e1 e2 e4 e5;exact ⟨⟨a,b,c,v,s,ns⟩,c3,c4,c5,c6,_,rfl,ha,o,hc,hs,hv,g⟩
theorem kwz {fuel:Nat} {cs:List Value} {x:DataW H×List MemPlace} (h:DataW.trod enc prog w base spare held fuel 26 cs=some x):∃ t,k77 Any w cs t:=by
 obtain ⟨z1,z2,z3,z4,z5,z6,z7,z8,z9,z10,z11⟩:=cells_ty;obtain ⟨xs,n,j,_,a,c,b⟩:=DataW.trod_struct underlying26 h;rw [z11] at a
 match cs,a with
 | [c0,c1,c2,c3],_=>
  have h0:=b 0 _ rfl;have h1:=b 1 _ rfl;have g:=b 2 _ rfl;have i:=b 3 _ rfl;rw [qa (by rw [c];decide)] at h0 h1 g i;obtain ⟨s,e0,hs⟩:=ko7 h0;obtain ⟨v1,n1,e1,d⟩:=ktx h1;obtain ⟨v2,n2,e2,e⟩:=kil (kxb Any w) 2 underlying23 z9 g fun k cs' y hk hy=>k0b hy;obtain ⟨v3,n3,e3,f⟩:=kil (kw5 Any w) 9 underlying24 z10 i fun k cs' y hk hy=>k4e hy;simp [z1,z2,z3,z4,z5,z6,z7,z8] at e0 e1 e2 e3;subst e0 e1 e2 e3;exact ⟨⟨s,n1,n2,n3⟩,_,_,_,rfl,hs,d,e,f⟩
theorem kve {r:Reach} {b0:Nat} {v:Value} {d:DataW H} {p:List MemPlace} (hv:Value.okWide prog w r b0 26 v) (h:DataW.Trod enc prog w base spare held 26 v d p):∃ t,LaV Any w v t:=by obtain ⟨cs,rfl,a⟩:=okWide_struct underlying26 hv;obtain ⟨fuel,b⟩:=h;obtain ⟨t,ht⟩:=kwz b;exact ⟨t,cs.toList,by simp,by simpa [Value.cells] using ht⟩
theorem k4f {n:Int} (h:(Lit.int .i64 n).wf=true):kdw n:=by simpa [Lit.wf,IntKind.min,IntKind.max,IntKind.signed,IntKind.bits,kdw] using h
theorem kpo:prog.cellsOf 44=2:=by kernel_rfl
theorem k46:prog.cellsOf 3=1:=by kernel_rfl
theorem kz7:prog.cellsOf 40=1:=by kernel_rfl
theorem k5g:∀ (fuel:Nat) (cs:List Value) (x:DataW H×List MemPlace),DataW.trod enc prog w base spare held fuel 44 cs=some x->∃ t,RepTm Any w cs t:=by
 intro fuel
 induction fuel using Nat.strongRecOn with
 | _ fuel ih=>
  intro cs x h;obtain ⟨xs,n,i,_,a,b,g⟩:=DataW.trod_struct underlying44 h;rw [kpo] at a
  match cs,a with
  | [c0,c1],_=>
   have h0:=g 0 _ rfl;have h1:=g 1 _ rfl;have e0:xs[0]?=some (xs[0]'(by rw [b];decide)):=qa _;have e1:xs[1]?=some (xs[1]'(by rw [b];decide)):=qa _;rw [e0] at h0;rw [e1] at h1;obtain ⟨r,c,_,d⟩:=DataW.trod_int underlying3 h0;obtain ⟨v,ts,hv,hs⟩:=kil (RepTm Any w) 2 underlying40 kpo h1 fun m cs' y hm hy=>ih m (by omega) cs' y hy;have e:c0 = .int .i64 r:=(by simpa [k46] using c);have f:c1=v:=(by simpa [kz7] using hv);subst e f;exact ⟨.mk r ts,RepTm.of (k4f d) hs⟩
variable [Dr]
def imin (a b:Int):Int:=if b<a then b else a
def imax (a b:Int):Int:=if a<b then b else a
def quo (k:IntKind) (a b:Int):Option Int:=if b=0 then none else some (k.wrap (a.tdiv b))
def rem (k:IntKind) (a b:Int):Option Int:=if b=0 then none else some (a.tmod b)
def cutL {α:Type} (xs:List α) (lo hi:Int):Option (List α):=if 0<=lo/\lo<=hi/\hi<=(xs.length:Int) then some ((xs.take hi.toNat).drop lo.toNat) else none
variable {P:Program} {F S0:Nat->Prop} {N0:Nat} {w':World} {S S':Nat->Prop} {ψ:Env} {K:Nat->Prop} {T:List (TypeId×TD)} {o:Oper} {a:Act} {st:St} {t:TypeId} {d:TD}
theorem k7t {x y:Operand} {ts:Array TypeId} {k k':IntKind} {m n:Int} (c:o.op = .call { callee := .builtin .min,args:=#[x,y],argTypes:=ts }) (hx:st.eval x = .fz (.atom (.int k m))) (hy:st.eval y = .fz (.atom (.int k' n))):NStep P o st (.fz (.atom (.int k (imin m n)))):=by intro ψ S a w ht _;have h1:=Sim.eval_tmps ht x;rw [hx] at h1;have b:=Sim.eval_tmps ht y;rw [hy] at b;refine kad w (.int k (imin m n)) ?_ ⟨kae _, .fz (.atom rfl)⟩;simp [execOp,c,resolve,invoke,builtin,h1.atom,b.atom,Builtin.min_,Builtin.min2,imin]
theorem k70 {x y:Operand} {ts:Array TypeId} {k k':IntKind} {m n:Int} (c:o.op = .call { callee := .builtin .max,args:=#[x,y],argTypes:=ts }) (hx:st.eval x = .fz (.atom (.int k m))) (hy:st.eval y = .fz (.atom (.int k' n))):NStep P o st (.fz (.atom (.int k (imax m n)))):=by intro ψ S a w ht _;have h1:=Sim.eval_tmps ht x;rw [hx] at h1;have b:=Sim.eval_tmps ht y;rw [hy] at b;refine kad w (.int k (imax m n)) ?_ ⟨kae _, .fz (.atom rfl)⟩;simp [execOp,c,resolve,invoke,builtin,h1.atom,b.atom,Builtin.max_,Builtin.max2,imax]
theorem k74 (x y:Operand) (yt:TypeId) (k:IntKind) (m n:Int) {r:Int} (h:quo k m n=some r) (a:o.op = .binOp .quo t x y yt:=by kernel_rfl) (hx:st.eval x = .fz (.atom (.int k m)):=by kernel_rfl) (hy:st.eval y = .fz (.atom (.int k n)):=by kernel_rfl):NStep P o st (.fz (.atom (.int k r))):=by
 unfold quo at h;split at h;cases h
 ·rename_i b;injection h with h;subst h;exact k24 false (fun h=>nomatch h) a hx hy (by simp [binV,intV,b])
def kna (st:St):Option Operand->Option (Option Int)
 | none=>some none
 | some x=>match st.eval x with
  | .fz (.atom (.int _ n))=>some (some n)
  | _=>none
theorem kl0 {ids:List Nat} (ht:∀ t,RV ψ (·∈ids) S w (a.tmps.getD t undef) (st.get t)) {x:Option Operand} {r:Option Int} (h:kna st x=some r):(x=none/\r=none)\/∃ y k n,x=some y/\r=some n/\a.eval y = .int k n:=by
 unfold kna at h;split at h;injection h with h;exact .inl ⟨rfl,h.symm⟩
 ·rename_i y;split at h;rename_i k n hk;injection h with h;have h1:=Sim.eval_tmps ht y;rw [hk] at h1;exact .inr ⟨y,k,n,rfl,h.symm,h1.atom⟩
  ·cases h
theorem RF.take {v:Value} {size n k:Nat} {A:Option Addr} {cap:Nat} {xs:List FV} (h:RF S w (.slice A n cap) (.lst size n xs)) (lo hi:Nat) (h1:lo<=hi) (e:hi<=n):∃ A',A'=(if cap=lo then A else A.map (·.add (lo*size)))/\RF S w (.slice A' (hi - lo) (cap - lo)) (.lst size (hi - lo) ((xs.take hi).drop lo)):=by
 obtain ⟨A0,cap0,css,hv,hn,hc,hm,hs,ha,hl,hr⟩:=h.lst_inv;injection hv with e1 _ e3;subst e1 e3;have a:(xs.take hi).length=hi:=by rw [q9];omega
 have get:∀ (i:Nat) (x:FV),((xs.take hi).drop lo)[i]?=some x->xs[lo+i]?=some x:=fun i x hx=>by
  rw [qag,qw] at hx;split at hx;exact hx
  ·cases hx
 refine ⟨_,rfl, .lst (fun i=>css (lo+i)) (by rw [qau,a]) (by omega) (by omega) hs (fun i x hx=>?_) (fun i x hx=>hl _ x (get i x hx)) fun i x j v y hx hv hy=>hr _ x j v y (get i x hx) hv hy⟩;obtain ⟨b,o,hA,hS,c⟩:=ha _ x (get i x hx);have d:=(qd.1 (get i x hx)).1;refine ⟨b,o+lo*size,?_,hS,by rw [Nat.add_assoc,<- qaw];exact c⟩;rw [qj (by omega),hA];simp only [qa1,kbg]
theorem kql (t:TypeId) (d:TD) {α:Type} (enc:α->FV) (x:Operand) (lo hi:Option Operand) (l h:Option Int) (xs:List α) {r:List α} (size:Nat) (e:TypeId) (de:TD) (hc:cutL xs (l.getD 0) (h.getD xs.length)=some r) (p:TOk P T:=by exact kao) (s:o.op = .slice t x lo hi none:=by kernel_rfl) (hd:kac T t=some d:=by kernel_rfl) (hk:d.kind = .slice e:=by kernel_rfl) (f:kac T e=some de:=by kernel_rfl) (g:de.size=size:=by kernel_rfl) (hx:st.eval x = .fz (eL size enc xs):=by kernel_rfl) (hl:kna st lo=some l:=by kernel_rfl) (u:kna st hi=some h:=by kernel_rfl):NStep P o st (.fz (eL size enc r)):=by
 intro ψ S a w ht F;have h1:=Sim.eval_tmps ht x;rw [hx] at h1;have bl:=kl0 ht hl;have bh:=kl0 ht u;unfold cutL at hc;split at hc
 ·rename_i b;injection hc with hc;subst hc;have h1:=h1.inv;obtain ⟨A,cap,css,hv,hn,z,hm,hs,ha,B,hr⟩:=h1.lst_inv;rw [hv] at h1;obtain ⟨A',i,j⟩:=h1.take (v := .nilFunc) (k:=0) (l.getD 0).toNat (h.getD xs.length).toNat (by omega) (by omega);refine kad w (.slice A' ((h.getD xs.length).toNat - (l.getD 0).toNat) (cap - (l.getD 0).toNat)) ?_ ⟨kae _,(RV.fz ?_).here⟩
  ·have C:=(p.get hd).slice hk;have e1:(Instr.sliceBounds true xs.length cap (lo.map a.eval) (hi.map a.eval) none).run P w = .ok ((l.getD 0).toNat,(h.getD xs.length).toNat,cap) w:=by
    unfold Instr.sliceBounds;have q:(xs.length:Int)<=(cap:Int):=(by omega);rcases bh with ⟨rfl,rfl⟩ | ⟨y,k,n,rfl,rfl,hy⟩
    ·rcases bl with ⟨rfl,rfl⟩ | ⟨y',k',n',rfl,rfl,c⟩;simp
     ·simp only [qbh,Option.getD_none] at b ⊢;simp [Instr.sliceBound,c,asIntOf,b.1,b.2.1]
    ·rcases bl with ⟨rfl,rfl⟩ | ⟨y',k',n',rfl,rfl,c⟩;simp only [qbh,Option.getD_none] at b ⊢;have:n<=(cap:Int):=(by omega);simp [Instr.sliceBound,hy,asIntOf,b.2.1,this]
     ·simp only [qbh] at b ⊢;have:0<=n:=(by omega);have D:n'<=(n.toNat:Int):=(by omega);have E:n<=(cap:Int):=(by omega);simp [Instr.sliceBound,hy,c,asIntOf,b.1,this,D,E];intro hc;exfalso;omega
   have m:(sizeOf e).run P w = .ok size w:=(by rw [(p.get f).size,g]);simp [execOp,s,Instr.sliceAt,Instr.slice,run_underlying C,hv,e1,m,i]
  ·have:((xs.take (h.getD xs.length).toNat).drop (l.getD 0).toNat).length=(h.getD xs.length).toNat - (l.getD 0).toNat:=(by rw [qau,q9];omega);unfold eL;rw [this,List.map_drop,List.map_take];exact j
 ·cases hc
def zipS:List (Nat×AV)->List AV->List (Nat×AV)
 | (t,_)::l,v::vs=>(t,v)::zipS l vs
 | _,_=>[]
theorem ks8 {v:Nat->Value} {K:Nat->Prop}:∀ {l:List (Nat×AV)} {vs:List AV} (t:Nat),(∀ (i:Nat) (k:Nat×AV) (x:AV),l[i]?=some k->vs[i]?=some x->RV ψ K S w (v k.1) x)->RV ψ K S w (v t) (look .any (zipS l vs) t)
 | [],vs,t,h=>by cases vs <;> exact .any
 | (k,y)::l,[],t,h => .any
 | (k,y)::l,x::vs,t,h=>by
  simp only [zipS,kaw];split;rename_i hk;subst hk;exact h 0 _ x rfl rfl
  ·exact ks8 t fun i k x hk hx=>h (i+1) k x (by simpa using hk) (by simpa using hx)
def argT:Nat->List AV->List (Nat×AV)
 | _,[]=>[]
 | i,x::l=>(i,x)::argT (i+1) l
theorem khy:∀ (l:List AV) (i t:Nat),look .any (argT i l) t = .any\/∃ x,i<=t/\l[t - i]?=some x/\look .any (argT i l) t=x
 | [],i,t => .inl rfl
 | x::l,i,t=>by
  simp only [argT,kaw];by_cases h:i=t;subst h;exact .inr ⟨x,qv _,by simp,by simp⟩
  ·rw [qj h];rcases khy l (i+1) t with h1 | ⟨y,h1,a,b⟩;exact .inl h1
   ·exact .inr ⟨y,by omega,by rw [show t - i=(t - (i+1))+1 by omega];simpa using a,b⟩
def inlQ (P:Program) (ops:Array Oper) (l:List Oper) (dst:Option Nat) (n:Nat) (D:List Deferred) (g:Nat) (cs:List Value) (keep:List (Nat×AV)) (rs:List ResultVar) (Q:Exit->St->Prop):Exit->St->Prop:=fun e st'=>
 (e = .normal\/e = .ret)/\st'.dfr=[]/\∃ vs r,kaa st'.heap g=some (.gho cs vs)/\((rs=[]/\r = .any)\/∃ z,rs=[.tmp z]/\st'.get z=r) /\
  awpL P ops l (({ n:=n,tmps:=zipS keep vs,heap:=kdm g st'.heap,ids:=st'.ids,dfr:=D }:St).put dst r) Q
theorem k6k {f:FuncId} {fn:Func} {c:Code} {ops:Array Oper} {l:List Oper} {Q:Exit->St->Prop} {x:Operand} {args:Array Operand} {ts:Array TypeId} {cap:List AV} {n g:Nat} {as_:List AV} (G:o.op = .call { callee := .value x,args:=args,argTypes:=ts })
  (hx : st.eval x = .fn f cap) (hg : kbi ops st o = some true) (hd : ∀ t, o.dst = some t -> t < st.n) (hf : P.funcs[f]? = some fn) (T : fn.body = some c) (hn : (fn.name == "runtime.NumGoroutine") = false) (U : fn.ntmps = n) (H : args.toList.map st.eval ++ cap = as_) (I : Nat.ble as_.length n = true) (j : st.ids.contains g = false)
  (h:∀ cs,awp P c { n:=n,tmps:=argT 0 as_,heap:=(g, .gho cs (st.tmps.map fun p=>st.get p.1))::st.heap,ids:=g::st.ids } (inlQ P ops l o.dst st.n st.dfr g cs st.tmps fn.results.toList Q)):
  awpL P ops (o::l) st Q:=by
 have I:=qh I;have j:g∉st.ids:=by simpa using j
 intro F S0 N0 ψ S a w hs;unfold ka5;rw [kdp hs hg];have A:=hs.eval x;rw [hx] at A;obtain ⟨caps,hcx,V,X⟩:∃ caps:Array Value,a.eval x = .func (.func f) #[] caps/\caps.size=cap.length/\∀ (i:Nat) (v:Value) (y:AV),caps[i]?=some v->cap[i]?=some y->RV ψ (·∈st.ids) S w v y:=by
  generalize a.eval x=u at A;cases A with
  | fn h hr=>exact ⟨_,rfl,h,hr⟩
 have Y:fn.body≠none:=by rw [T];simp
 simp only [qa0,ne_eq] at hn;have J:(execOp a.eval o).run P w = .ok (.enter f (args.map a.eval++caps)) w:=by simp [execOp,G,resolve,hcx,Deferred.ofValue,invoke,callFunc,hf,Y,hn]
 refine kx0 (fun c h=>by rw [G] at h;cases h) J ?_;refine calls_of_wp hf T (wp_wide.1 ?_)
 -- the values of the caller's frame
 have B:=hs.core.add (n:=0) (v := .nilFunc) (w':=w) (ob := .gho (st.tmps.map fun p=>a.tmps.getD p.1 undef) (st.tmps.map fun p=>st.get p.1)) (kae _) j (fun b T=>by cases T)
  ⟨kbf _ _,by rw [kaj];rfl,by rw [kaj];rfl,fun i v x hv hx=>by simp only [ql,qn] at hv hx;obtain ⟨p,hp,rfl⟩:=hv;obtain ⟨q,s,rfl⟩:=hx;rw [hp] at s;injection s with s;subst s;exact (hs.tmps p.1).keep (ka3 j _ _) (fun _ h=>qf _ h) (fun _ h=>h) (fun _ _ _=>rfl)⟩
 have K:(args.map a.eval++caps).size=as_.length:=by rw [<- H];simp [V]
 have L:∀ (i:Nat) (v:Value) (y:AV),(args.map a.eval++caps)[i]?=some v->as_[i]?=some y->RV ψ (·∈st.ids) S w v y:=fun i v y hv hy=>by
  rw [<- H] at hy;by_cases hi:i<args.size;rw [qax (by simpa using hi)] at hv;rw [qab (by simpa using hi)] at hy;simp only [Array.getElem?_map,qn,ql,qal] at hv hy;obtain ⟨p,hp,rfl⟩:=hv;obtain ⟨q,s,rfl⟩:=hy;rw [hp] at s;injection s with s;subst s;exact hs.eval p
  ·rw [Array.getElem?_append_right (by simpa using hi)] at hv;rw [qad (by simpa using hi)] at hy;exact X _ v y (by simpa using hv) (by simpa using hy)
 have M:Sim F S0 N0 { n:=n,tmps:=argT 0 as_,heap:=(g, .gho (st.tmps.map fun p=>a.tmps.getD p.1 undef) (st.tmps.map fun p=>st.get p.1))::st.heap,ids:=g::st.ids } (ψ.set g 0 .nilFunc) S
   { tmps:=(args.map a.eval++caps)++Array.replicate (fn.ntmps - (args.map a.eval++caps).size) undef,defers:=[] } w:=by
  refine ⟨rfl,by rw [Array.size_append,K,Array.size_replicate,U];show _=n;omega,fun t=>?_,B⟩;show RV _ _ _ w _ (look .any (argT 0 as_) t);rcases khy as_ 0 t with h | ⟨y,_,h1,m⟩;rw [h];exact .any
  ·rw [m];have h1:as_[t]?=some y:=(by simpa using h1);have C:t<(args.map a.eval++caps).size:=(by rw [K];exact (qd.1 h1).1);have Z:((args.map a.eval++caps)++Array.replicate (fn.ntmps - (args.map a.eval++caps).size) undef).getD t undef=(args.map a.eval++caps)[t]:=(by rw [qam,qax C,qay C];rfl);rw [Z];exact (L t _ y (qay C) h1).keep (ka3 j _ _) (fun _ h=>qf _ h) (fun _ h=>h) (fun _ _ _=>rfl)
 refine kbq (h _ F S0 N0 _ S _ w M) ?_;rintro e a' w' ⟨st',ψ',S',⟨he,aa,vs,r,ab,ac,D⟩,m,h3⟩;have fin:a'.defers=[]/\∃ v,(results fn a'.tmps).run P w' = .ok v w'/\ka5 P ops (PostA F S0 N0 w Q) l (a.put o.dst v) w':=by
  refine ⟨m.defers.trans aa,?_⟩;have N:∃ v,(results fn a'.tmps).run P w' = .ok v w'/\RV ψ' (·∈st'.ids) S' w' v r:=by
   rcases ac with ⟨hz,rfl⟩ | ⟨z,hz,ad⟩;refine ⟨.tuple #[],?_, .any⟩;have:fn.results=#[]:=(by apply qbj;simpa using hz);simp [results,this]
   ·refine ⟨a'.tmps.getD z undef,?_,by rw [<- ad];exact m.tmps z⟩;have:fn.results=#[.tmp z]:=(by apply qbj;simpa using hz);simp [results,this]
  obtain ⟨v,ae,af⟩:=N;refine ⟨v,ae,?_⟩;obtain ⟨_,⟨_,_,_,ag⟩,_⟩:=m.core.obj g _ ab;have O:Core F S0 N0 (kdm g st'.heap) st'.ids ψ' S' w':=by refine ⟨fun i ob G=>m.core.obj i ob (kcg g G).2,fun i i' ob ob' b G ah=>m.core.inj i i' ob ob' b (kcg g G).2 (kcg g ah).2,m.core.lt,m.core.s0,m.core.n0,m.core.fr⟩
  have E:Sim F S0 N0 { n:=st.n,tmps:=zipS st.tmps vs,heap:=kdm g st'.heap,ids:=st'.ids,dfr:=st.dfr } ψ' S' a w':=by refine ⟨hs.defers,hs.size,fun t=>?_,O⟩;exact ks8 (v:=fun t=>a.tmps.getD t undef) t fun i k x hk hx=>ag i _ x (by rw [ql,hk];rfl) hx
  have R:=E.put (st':={ n:=st.n,tmps:=zipS st.tmps vs,heap:=kdm g st'.heap,ids:=st'.ids,dfr:=st.dfr }) (d:=o.dst) rfl rfl rfl O af Ext.refl (fun _ h=>h) (fun _ h=>h) (fun _ _ _=>rfl) hd;exact kcu (fun e a'' w'' k=>k.pre h3) _ _ _ (D F S0 N0 ψ' S' _ w' R)
 rcases he with rfl | rfl <;> exact fin
end Go.Proofs.YtjnjipmjkkhdpaaGreatDoor
set_option linter.all false
set_option linter.unusedSectionVars false
namespace Go.Proofs.YtjnjipmjkkhdpaaGreatDoor
namespace RE
open Go Go.RowKit Go.Proofs.Tryz
variable [Dr]
structure Tr (M:Nat->Prop) (w w':World):Prop where
 os:w'.os=w.os
 tape:w'.tape=w.tape
 output:w'.output=w.output
 size:w.heap.size<=w'.heap.size
 block:∀ b,b<w.heap.size->¬ M b->w'.heap[b]?=w.heap[b]?
 drawn:Dr.on=true->w.drawn<=w'.drawn
inductive Gd (M:Nat->Prop) where
 | det (c:Value)
 | rel (G:Value->World->Prop) (h:∀ v w w',G v w->Tr M w w'->G v w')
 | relE (G:Value->World->Prop) (h:∀ v w w',G v w->Below w.heap.size w w'->G v w')
def Gd.holds {M:Nat->Prop}:Gd M->Value->World->Prop
 | .det c,v,_=>v=c
 | .rel G _,v,w=>G v w
 | .relE G _,v,w=>G v w
variable {P:Program}
variable {M:Nat->Prop} {e:Nat} {D:World->Prop} {gs:List (Gd M)} {l:List Oper} {xs:Nat->Value} {a0:Act}
structure kaak {M:Nat->Prop} (e:Nat) (D:World->Prop) (gs:List (Gd M)) (l:List Oper) (C:World->Prop) (a0:Act) (listed:Array Bool) (a:Act) (w:World):Prop where
 inC:C w
 inD:listed.getD e false=false->D w
 defers:a.defers=a0.defers
 size:a.tmps.size=a0.tmps.size
 lsize:listed.size=l.length
 closed:∀ k o,listed.getD k false=true->l[k]?=some o->∀ e∈o.after,Region.binds .any e=true->listed.getD e.on false=true
 vals:∃ xs:Nat->Value,∀ j g,gs[j]?=some g->listed.getD j false=true->g.holds (xs j) w/\∀ o d,l[j]?=some o->o.dst=some d->a.tmps[d]?=some (xs j)
 rest:∀ t,(∀ j o,listed.getD j false=true->l[j]?=some o->o.dst≠some t)->a.tmps[t]?=a0.tmps[t]?
end RE
variable [Dr]
def khr (P:Program) (o:Oper) (st:St) (m:Nat) (om:AObj) (c:AV) (om':AObj):Prop:=
 ∀ F S0 N0 ψ S a w,(∀ t,RV ψ (·∈st.ids) S w (a.tmps.getD t undef) (st.get t))->Core F S0 N0 [(m,om)] st.ids ψ S w->kce P o a w fun v w'=>∃ n u,Core F S0 N0 [(m,om')] st.ids (ψ.set m n u) S w'/\RV (ψ.set m n u) (·∈st.ids) S w' v c/\Fr F w w' /\
  (ψ.len m<n\/(ψ.len m=n/\u=ψ.val m))/\(∀ b,Blk u b->Blk (ψ.val m) b\/w.heap.size<=b)
variable {P:Program} {F S0:Nat->Prop} {N0:Nat} {w w':World} {S S':Nat->Prop} {ψ ψ':Env} {K K':Nat->Prop} {o:Oper} {a:Act} {st:St} {T:List (TypeId×TD)} {t:TypeId} {d:TD}
def k3m (st:St) (id n:Nat):List Nat->Prop
 | []=>True
 | t::ts=>st.get t = .row id n/\k3m st id n ts
def kxr (x:AV) (base:List (Nat×AV)):List Nat->List (Nat×AV)
 | []=>base
 | t::ts=>(t,x)::kxr x base ts
theorem kdz (id n:Nat) (e:TypeId) (size:Nat) (xs:List FV) (ts:List Nat) (hx:k3m st id n ts) (d:kaa st.heap id=some (.frow e size xs):=by kernel_rfl) (hn:n=xs.length:=by simp):
  LeSt st { st with tmps:=kxr (.fz (.lst size n xs)) st.tmps ts,heap:=kdm id st.heap }:=by
 subst hn;intro F S0 N0 ψ S a w hs;obtain ⟨c1,c2⟩:=kle hs.core d;have c:∀ k,RV ψ (·∈st.ids) (fun b=>S b\/kap (ψ.val id)=some b) w (a.tmps.getD k undef) (st.get k):=fun k=>(hs.tmps k).mono (fun _ h=>h) fun _ h => .inl h;have h0:=(hs.core.obj id _ d).2.1.1;refine ⟨ψ,_,hs.defers,hs.size,fun k=>?_,c1⟩;show RV ψ (·∈st.ids) _ w (a.tmps.getD k undef) (look .any (kxr (.fz (.lst size xs.length xs)) st.tmps ts) k)
 induction ts with
 | nil=>exact c k
 | cons t ts ih=>
  simp only [kxr,kaw];split
  ·rename_i hk;subst hk;have hv:=c t;rw [hx.1] at hv;refine .fz ?_;generalize a.tmps.getD t undef=u at hv;cases hv with
   | row hK f h1 hv=>rw [hv (by rw [h0])];exact c2
  ·exact ih hx.2
theorem k6r (st':St) (ids:List Nat) (ts:List (Nat×C1)) {c:AV} (h:coSt st ids ts []=some st') (hn:NStep P o st' c):NStep P o st c:=by
 unfold coSt at h;cases hi:ids.all st.ids.contains with
 | false=>rw [hi] at h;simp at h
 | true=>
  cases h1:kov st ids ts with
  | none=>rw [hi,h1] at h;simp at h
  | some r=>
   rw [hi,h1] at h;simp only [kou,qc] at h;subst h;have d:∀ id,id∈ids->id∈st.ids:=fun id e=>(by simpa using qq.1 hi id e);intro ψ S a w ht g;refine kif ?_ (hn ψ S a w (fun t=>?_) (fun id ob i=>by cases i));rintro v w' ⟨k1,k2⟩;exact ⟨k1,k2.mono d fun _ h=>h⟩
   ·show RV ψ (·∈ids) S w _ (look .any r t);rcases ko0 t h1 with b | ⟨c',b,f⟩;rw [b];exact .any
    ·rw [b];rw [b] at *
     exact (klp _ (ht t)).sub1 f
theorem kru {e:TypeId} {size:Nat} (xs:List FV) {v:Value} {cs:List Value} (c:w.ownsRow 0 e size v xs.length cs) (m:ElR size xs) (hr:RowR S w size xs cs) (f:0<size:=by omega):RF (fun b=>S b\/kap v=some b) w v (.lst size xs.length xs):=by
 rcases c.2 with ⟨hv,n⟩ | ⟨g,cap,cur,hv,_,q,o,k,r,p⟩;have:xs=[]:=qav n;subst this;rw [hv];exact .lst (A:=none) (cap:=0) (xs:=[]) (fun _=>[]) rfl (qv _) (by omega) f (fun i x hx=>by simp at hx) (fun i x hx=>by simp at hx) (fun i x j v y hx=>by simp at hx)
 ·rw [hv];have l:∀ i x,xs[i]?=some x->(i+1)*size<=cs.length:=fun i x hx=>by rw [c.1];exact qan _ (qd.1 hx).1
  refine .lst (fun i=>(cs.drop (i*size)).take size) rfl o (by unfold maxLen at k;exact k) f (fun i x hx=>⟨g,0,rfl, .inr (by rfl),fun j u d=>?_⟩) (fun i x hx=>?_) fun i x j v y hx a hy=>?_
  ·rw [qw] at d;split at d
   ·rw [qag,<- p,qw] at d;split at d;simp only [World.cell?,q,Nat.zero_add];simpa using d
    ·cases d
   ·cases d
  have:=l i x hx;rw [qaw] at this;exact ⟨by rw [q9,qau];omega,m x (qm hx)⟩
  ·rw [qw] at a;split at a;rw [qag] at a;exact (hr i x j v y hx a hy).mono fun _ h => .inl h
   ·cases a
end Go.Proofs.YtjnjipmjkkhdpaaGreatDoor
set_option linter.all false
set_option linter.unusedSectionVars false
namespace Go.Proofs.YtjnjipmjkkhdpaaGreatDoor
open Go Go.RowKit Go.Proofs.Tryz
variable [Dr]
def rn:List (Nat×Nat)->Nat->Nat
 | [],i=>i
 | (k,j)::l,i=>bif Nat.beq k i then j else rn l i
mutual
def renA (r:List (Nat×Nat)):AV->AV
 | .fz x => .fz x
 | .agg cs => .agg (kk9 r cs)
 | .tup vs => .tup (kk9 r vs)
 | .ref id n off => .ref (rn r id) n off
 | .row id n => .row (rn r id) n
 | .lim a b c => .lim a b c
 | .mp id => .mp (rn r id)
 | .opt id => .opt (rn r id)
 | .sdp id n => .sdp (rn r id) n
 | .win id n lo hi sz => .win (rn r id) n lo hi sz
 | .irow id g j => .irow (rn r id) g j
 | .iref id g j off => .iref (rn r id) g j off
 | .bsl id g off len cap => .bsl (rn r id) g off len cap
 | .fn f cap => .fn f (kk9 r cap)
 | .mth f cap => .mth f (kk9 r cap)
 | .any => .any
def kk9 (r:List (Nat×Nat)):List AV->List AV
 | []=>[]
 | x::l=>renA r x::kk9 r l
end
mutual
def okA (ids:List Nat):AV->Bool
 | .fz _=>true
 | .agg cs=>okAs ids cs
 | .tup vs=>okAs ids vs
 | .ref id _ _=>ids.contains id
 | .row id _=>ids.contains id
 | .lim _ _ _=>true
 | .mp id=>ids.contains id
 | .opt id=>ids.contains id
 | .sdp id _=>ids.contains id
 | .win id _ _ _ _=>ids.contains id
 | .irow id _ _=>ids.contains id
 | .iref id _ _ _=>ids.contains id
 | .bsl id _ _ _ _=>ids.contains id
 | .fn _ cap=>okAs ids cap
 | .mth _ cap=>okAs ids cap
 | .any=>true
def okAs (ids:List Nat):List AV->Bool
 | []=>true
 | x::l=>okA ids x && okAs ids l
end
def renO (r:List (Nat×Nat)):AObj->AObj
 | .box e cs => .box e (kk9 r cs)
 | .frow e s xs => .frow e s xs
 | .smap kv => .smap kv
 | .gho cs vs => .gho cs (kk9 r vs)
 | .was a b c d => .was a b c d
 | .tab g ov eo ei rows => .tab g ov eo ei rows
 | .glb gs => .glb gs
 | .sit s pos => .sit s pos
 | .memo Φ h => .memo Φ h
 | .xo k => .xo k
def okO (ids:List Nat):AObj->Bool
 | .box _ cs=>okAs ids cs
 | .frow _ _ _=>true
 | .smap _=>true
 | .tab _ _ _ _ _=>true
 | .gho _ vs=>okAs ids vs
 | .glb _=>true
 | .sit _ _=>true
 | .memo _ _=>true
 | .xo (.imap _)=>true
 | .xo (.opq _)=>true
 | _=>false
theorem kh9 (r:List (Nat×Nat)):∀ l,kk9 r l=l.map (renA r)
 | []=>rfl
 | x::l=>by simp [kk9,kh9 r l]
theorem kjt (ids:List Nat):∀ l,okAs ids l=l.all (okA ids)
 | []=>rfl
 | x::l=>by simp [okAs,kjt ids l]
theorem ksg (r:List (Nat×Nat)) (x:AV):(renA r x).single=x.single:=by cases x <;> rfl
variable {P:Program} {F S0:Nat->Prop} {N0:Nat} {w w':World} {S S':Nat->Prop} {ψ ψ':Env} {K K':Nat->Prop} {T:List (TypeId×TD)} {o:Oper} {a:Act} {st:St} {t:TypeId} {d:TD} {ids:List Nat}
theorem RV.ren {r:List (Nat×Nat)} {v:Value} {x:AV} (h:RV ψ K S w v x) (hr:∀ i,K i->K' (rn r i)/\ψ'.len (rn r i)=ψ.len i/\ψ'.val (rn r i)=ψ.val i):RV ψ' K' S w v (renA r x):=by
 induction h with
 | fz h=>exact .fz h
 | agg h h1 _ ih=>
  simp only [renA,kh9];refine .agg (by simpa using h) (fun x hx=>?_) fun i v x hv hx=>?_;obtain ⟨y,hy,rfl⟩:=qap.1 hx;rw [ksg];exact h1 y hy
  ·simp only [ql,qn] at hx;obtain ⟨y,hy,rfl⟩:=hx;exact ih i v y hv hy
 | tup h _ ih=>
  simp only [renA,kh9];refine .tup (by simpa using h) fun i v x hv hx=>?_;simp only [ql,qn] at hx;obtain ⟨y,hy,rfl⟩:=hx;exact ih i v y hv hy
 | @ref id n off v hk hn h1 hv=>
  obtain ⟨e1,e2,e3⟩:=hr id hk;exact .ref e1 (by omega) h1 fun h=>by rw [e3];exact hv (by omega)
 | @row id n v hk hn h1 hv=>
  obtain ⟨e1,e2,e3⟩:=hr id hk;exact .row e1 (by omega) h1 fun h=>by rw [e3];exact hv (by omega)
 | lim h=>exact .lim h
 | @mp id v hk h1 hv=>
  obtain ⟨e1,e2,e3⟩:=hr id hk;exact .mp e1 h1 fun h=>by rw [e3];exact hv (by omega)
 | fn h _ ih=>
  simp only [renA,kh9];refine .fn (by simpa using h) fun i v x hv hx=>?_;simp only [ql,qn] at hx;obtain ⟨y,hy,rfl⟩:=hx;exact ih i v y hv hy
 | mth h _ ih=>
  simp only [renA,kh9];refine .mth (by simpa using h) fun i v x hv hx=>?_;simp only [ql,qn] at hx;obtain ⟨y,hy,rfl⟩:=hx;exact ih i v y hv hy
 | @opt id v hk h1 hv=>
  obtain ⟨e1,e2,e3⟩:=hr id hk;exact .opt e1 h1 fun h=>by rw [e3];exact hv (by omega)
 | @sdp id n v hk hn h1 hv=>
  obtain ⟨e1,e2,e3⟩:=hr id hk;exact .sdp e1 (by omega) h1 fun h=>by rw [e3];exact hv (by omega)
 | @win id n lo hi sz v hk hn h1 hv=>
  obtain ⟨e1,e2,e3⟩:=hr id hk;exact .win e1 (by omega) h1 fun h=>by rw [e3];exact hv (by omega)
 | @irow id g j v hk hn h1 hv=>
  obtain ⟨e1,e2,e3⟩:=hr id hk;exact .irow e1 (by omega) h1 fun h=>by rw [e3];exact hv (by omega)
 | @iref id g j off v hk hn h1 hv=>
  obtain ⟨e1,e2,e3⟩:=hr id hk;exact .iref e1 (by omega) h1 fun h=>by rw [e3];exact hv (by omega)
 | @bsl id g off len cap v hk hn h1 hv=>
  obtain ⟨e1,e2,e3⟩:=hr id hk;exact .bsl e1 (by omega) h1 fun h=>by rw [e3];exact hv (by omega)
 | any=>exact .any
theorem RV.subA {v:Value} {x:AV} (h:RV ψ K S w v x) (a:okA ids x=true):RV ψ (·∈ids) S w v x:=by
 induction h with
 | fz h=>exact .fz h
 | agg h h1 _ ih=>
  rw [okA,kjt] at a;exact .agg h h1 fun i v x hv hx=>ih i v x hv hx (qq.1 a x (qm hx))
 | tup h _ ih=>
  rw [okA,kjt] at a;exact .tup h fun i v x hv hx=>ih i v x hv hx (qq.1 a x (qm hx))
 | ref hK hn h1 hv=>exact .ref (by simpa [okA] using a) hn h1 hv
 | row hK hn h1 hv=>exact .row (by simpa [okA] using a) hn h1 hv
 | lim h=>exact .lim h
 | mp hK h1 hv=>exact .mp (by simpa [okA] using a) h1 hv
 | fn h _ ih=>
  rw [okA,kjt] at a;exact .fn h fun i v x hv hx=>ih i v x hv hx (qq.1 a x (qm hx))
 | mth h _ ih=>
  rw [okA,kjt] at a;exact .mth h fun i v x hv hx=>ih i v x hv hx (qq.1 a x (qm hx))
 | opt hK h1 hv=>exact .opt (by simpa [okA] using a) h1 hv
 | sdp hK hn h1 hv=>exact .sdp (by simpa [okA] using a) hn h1 hv
 | win hK hn h1 hv=>exact .win (by simpa [okA] using a) hn h1 hv
 | irow hK hn h1 hv=>exact .irow (by simpa [okA] using a) hn h1 hv
 | iref hK hn h1 hv=>exact .iref (by simpa [okA] using a) hn h1 hv
 | bsl hK hn h1 hv=>exact .bsl (by simpa [okA] using a) hn h1 hv
 | any=>exact .any
theorem ObR.subA {id:Nat} {ob:AObj} (h:ObR ψ K S w id ob) (f:okO ids ob=true):ObR ψ (·∈ids) S w id ob:=by
 cases ob with
 | box e cells=>
  obtain ⟨k0,b,cs,k1,k2,k3,k4,k5⟩:=h;rw [okO,kjt] at f;exact ⟨k0,b,cs,k1,k2,k3,k4,fun i v x hv hx=>(k5 i v x hv hx).subA (qq.1 f x (qm hx))⟩
 | frow e s xs=>exact h
 | smap kv=>exact h
 | glb gs=>exact h
 | sit s pos=>exact h
 | memo Φ hi=>exact h
 | xo k=>cases k with
  | imap kv=>exact h
  | opq J=>exact h
  | _=>cases f
 | tab g ov eo ei rows=>exact h
 | gho cs vs=>
  obtain ⟨k0,k1,k2,k3⟩:=h;rw [okO,kjt] at f;exact ⟨k0,k1,k2,fun i v x hv hx=>(k3 i v x hv hx).subA (qq.1 f x (qm hx))⟩
 | was a b c d=>cases f
theorem ObR.ren {r:List (Nat×Nat)} {id:Nat} {ob:AObj} (h:ObR ψ K S w id ob) (hr:∀ i,K i->K' (rn r i)/\ψ'.len (rn r i)=ψ.len i/\ψ'.val (rn r i)=ψ.val i) (f:K id)
  (j:okO ids ob=true):ObR ψ' K' S w (rn r id) (renO r ob):=by
 obtain ⟨e1,e2,e3⟩:=hr id f;cases ob with
 | box e cells=>
  obtain ⟨k0,b,cs,k1,k2,k3,k4,k5⟩:=h;simp only [renO,kh9];refine ⟨by omega,b,cs,by rw [e3,k1],k2,by simpa using k3,fun x hx=>?_,fun i v x hv hx=>?_⟩;obtain ⟨y,hy,rfl⟩:=qap.1 hx;rw [ksg];exact k4 y hy
  ·simp only [ql,qn] at hx;obtain ⟨y,hy,rfl⟩:=hx;exact (k5 i v y hv hy).ren hr
 | frow e s xs=>
  obtain ⟨k0,k1,cs,k2,k3⟩:=h;exact ⟨by omega,k1,cs,by rw [e3];exact k2,k3⟩
 | sit s pos=>
  obtain ⟨k0,b,k1,k2⟩:=h;exact ⟨by omega,b,by rw [e3,k1],k2⟩
 | glb gs=>
  obtain ⟨k0,k1,k2,k3⟩:=h;exact ⟨by omega,by rw [e3];exact k1,by rw [e3];exact k2,k3⟩
 | smap kv=>
  obtain ⟨k0,b,es,cl,k1,k2⟩:=h;exact ⟨by omega,b,es,cl,by rw [e3,k1],k2⟩
 | memo Φ hi=>
  obtain ⟨k0,b,es,cl,k1,k2⟩:=h;exact ⟨by omega,b,es,cl,by rw [e3,k1],k2⟩
 | xo k=>cases k with
  | imap kv=>
   obtain ⟨k0,b,es,k1,k2⟩:=h;exact ⟨by omega,b,es,by rw [e3,k1],k2⟩
  | opq J=>
   obtain ⟨bs,k1,k2⟩:=h;exact ⟨bs,by rw [e3,k1],k2⟩
  | _=>cases j
 | tab g ov eo ei rows=>
  obtain ⟨k0,vs,k1,k2⟩:=h;exact ⟨by omega,vs,by rw [e3,k1],k2⟩
 | gho cs vs=>
  obtain ⟨k0,k1,k2,k3⟩:=h;simp only [renO,kh9];refine ⟨by omega,by rw [e3];exact k1,by rw [e3];exact k2,fun i v x hv hx=>?_⟩;simp only [ql,qn] at hx;obtain ⟨y,hy,rfl⟩:=hx;exact (k3 i v y hv hy).ren hr
 | was a b c d=>cases j
inductive HEnd where
 | ret (res:AV)
 | pan (v:Value)
def HEnd.ok (ids:List Nat):HEnd->Bool
 | .ret x=>okA ids x
 | .pan _=>true
def HEnd.ren (r:List (Nat×Nat)):HEnd->HEnd
 | .ret x => .ret (renA r x)
 | .pan v => .pan v
def HEnd.is (e:Ending) (ψ:Env) (K S:Nat->Prop) (w:World):HEnd->Prop
 | .ret res=>∃ v,e = .returned v/\RV ψ K S w v res
 | .pan v=>e = .panicked [{ v:=v,recovered:=false }]
def HCall (P:Program) (f:FuncId) (args:List AV) (pre:List (Nat×AObj)) (ids:List Nat) (E:HEnd) (post:List (Nat×AObj)) (ids':List Nat):Prop:=
 (∃ fn, P.funcs[f]? = some fn /\ fn.body.isNone = false /\ (fn.name == "runtime.NumGoroutine") = false) /\
 ∀ (F S0:Nat->Prop) (N0:Nat) (ψ:Env) (S:Nat->Prop) (w:World) (vs:Array Value),vs.size=args.length->(∀ (i:Nat) (v:Value) (x:AV),vs[i]?=some v->args[i]?=some x->RV ψ (·∈ids) S w v x)->Core F S0 N0 pre ids ψ S w ->
  Calls P f vs w fun e w'=>∃ ψ' S',E.is e ψ' (·∈ids') S' w'/\Core F S0 N0 post ids' ψ' S' w'/\Fr F w w'/\Ext (·∈ids) ψ ψ'/\(∀ i,i∈ids->i∈ids')/\(∀ b,S b->S' b)/\Same S w w'
def resA (T:List (TypeId×TD)) (st:St):ResultVar->Option AV
 | .tmp t=>some (st.get t)
 | .cell x t=>match kac T t,kjy st (st.get x) with
  | some d,some xs=>kjl d xs
  | _,_=>none
def kre (T:List (TypeId×TD)) (st:St):List ResultVar->Option (List AV)
 | []=>some []
 | r::rs=>match resA T st r,kre T st rs with
  | some y,some ys=>some (y::ys)
  | _,_=>none
def k1n (T:List (TypeId×TD)) (st:St) (rs:List ResultVar):Option AV:=match kre T st rs with
 | some [y]=>some y
 | some ys=>some (tupA ys)
 | none=>none
def retA (T:List (TypeId×TD)) (st:St) (rs:List ResultVar):Option AV:=match st.dfr with
 | []=>k1n T st rs
 | _=>none
theorem ktb {T:List (TypeId×TD)} {st:St} {rs:List ResultVar} {y:AV} (h:retA T st rs=some y):st.dfr=[]/\k1n T st rs=some y:=by
 unfold retA  at h;split at h;rename_i hd;exact ⟨hd,h⟩
 ·cases h
def kfj (T:List (TypeId×TD)) (rs:List ResultVar) (g:Nat) (ids:List Nat) (E:HEnd) (post:List (Nat×AObj)) (ids':List Nat) (ψ0:Env) (S1:Nat->Prop) (w0:World) (e:Exit) (st:St):Prop:=
 st.heap=(g, .was ψ0 ids S1 w0)::post/\st.ids=g::ids'/\(match E with
  | .ret res=>(e = .normal\/e = .ret)/\retA T st rs=some res
  | .pan v=>st.dfr=[]/\e = .panic [{ v:=v,recovered:=false }])
theorem kzs (b:TOk P T) (hs:Sim F S0 N0 st ψ S a w):∀ {rs:List ResultVar} {ys:List AV},kre T st rs=some ys ->
  ∃ vs:List Value,(rs.mapM (kfz a.tmps)).run P w = .ok vs w/\vs.length=ys.length/\∀ (i:Nat) (v:Value) (y:AV),vs[i]?=some v->ys[i]?=some y->RV ψ (·∈st.ids) S w v y
 | [],ys,h=>by simp only [kre,qc] at h;subst h;exact ⟨[],by simp,rfl,fun i v y h=>by simp at h⟩
 | r::rs,ys,h=>by
  simp only [kre] at h;split at h
  ·rename_i y ys' h1 c;injection h with h;subst h;obtain ⟨vs,k1,k2,k3⟩:=kzs b hs c;have key:∃ v,(kfz a.tmps r).run P w = .ok v w/\RV ψ (·∈st.ids) S w v y:=by
    unfold resA at h1;split at h1;rename_i t;injection h1 with h1;subst h1;exact ⟨_,rfl,hs.tmps t⟩
    ·rename_i x t;split at h1;rename_i d xs hd hx;obtain ⟨ad,u,e1,e2,e3⟩:=k06 (b.get hd) (hs.tmps x) (fun id o e=>(hs.core.obj id o e).2.1) hx h1;refine ⟨u,?_,e3⟩;simp only [kfz,e1,asAddr,Sem.run_bind,Sem.run_pure,Result.andThen_ok,e2]
     ·cases h1
   obtain ⟨v,e1,e2⟩:=key;refine ⟨v::vs,?_,by simp [k2],fun i v' y' hv hy=>?_⟩;rw [List.mapM_cons];simp only [Sem.run_bind,e1,Result.andThen_ok,k1,Sem.run_pure]
   ·cases i with
    | zero=>simp at hv hy;subst hv hy;exact e2
    | succ i=>exact k3 i v' y' (by simpa using hv) (by simpa using hy)
  ·cases h
theorem kvb (d:TOk P T) (hs:Sim F S0 N0 st ψ S a w) {fn:Func} {y:AV} (h:retA T st fn.results.toList=some y):∃ v,(results fn a.tmps).run P w = .ok v w/\RV ψ (·∈st.ids) S w v y:=by
 replace h:=(ktb h).2;unfold k1n at h;have key:∀ ys,kre T st fn.results.toList=some ys->∃ vs:List Value,(results fn a.tmps).run P w = .ok (if h:vs.length=1 then vs[0] else .tuple vs.toArray) w/\vs.length=ys.length/\∀ (i:Nat) (v:Value) (y:AV),vs[i]?=some v->ys[i]?=some y->RV ψ (·∈st.ids) S w v y:=fun ys hy=>by
  obtain ⟨vs,k1,k2,k3⟩:=kzs d hs hy;refine ⟨vs,?_,k2,k3⟩;unfold results;rw [Array.mapM_eq_mapM_toList];have b:∀ (g:ResultVar->Sem Value),(∀ x,g x=kfz a.tmps x)->(fn.results.toList.mapM g).run P w = .ok vs w:=fun g b=>by rw [show g=kfz a.tmps from funext b];exact k1
  simp only [Sem.run_bind,Sem.run_map];rw [b _ fun x=>by cases x <;> rfl];simp only [Result.andThen_ok,Sem.run_pure];simp
 split at h
 ·rename_i z e;injection h with h;subst h;obtain ⟨vs,k1,k2,k3⟩:=key _ e;have hl:vs.length=1:=by simpa using k2
  rw [dif_pos hl] at k1;exact ⟨_,k1,k3 0 _ _ (qa (by omega)) rfl⟩
 ·rename_i ys c hy;injection h with h;subst h;obtain ⟨vs,k1,k2,k3⟩:=key _ hy;have hl:¬ vs.length=1:=fun hl=>by rw [k2] at hl;obtain ⟨z,rfl⟩:=List.length_eq_one_iff.1 hl;exact c z rfl
  rw [dif_neg hl] at k1;exact ⟨_,k1,RV.tupA (by simpa using k2) fun i v x hv hx=>k3 i v x (by simpa using hv) hx⟩
 ·cases h
theorem kz4 (M : TOk P T) {f : FuncId} {fn : Func} {c : Code} {args : List AV} {pre : List (Nat × AObj)} {E : HEnd} {post : List (Nat × AObj)} {ids' : List Nat} {g : Nat} (I : P.funcs[f]? = some fn) (u : fn.body = some c) (hn : (fn.name == "runtime.NumGoroutine") = false)
  (z:Nat.ble args.length fn.ntmps=true) (y:ids.contains g=false)
  (h:∀ ψ0 S1 w0,awp P c { n:=fn.ntmps,tmps:=argT 0 args,heap:=(g, .was ψ0 ids S1 w0)::pre,ids:=g::ids } (kfj T fn.results.toList g ids E post ids' ψ0 S1 w0)) (q:ids'.contains g=false) (C:(post.all fun p=>okO ids' p.2)=true) (N:E.ok ids'=true)
  (hk:(post.all fun p=>ids'.contains p.1)=true):HCall P f args pre ids E post ids':=by
 have z:=qh z;have y:g∉ids:=by simpa using y
 have q:g∉ids':=by simpa using q
 refine ⟨⟨fn,I,by rw [u];rfl,hn⟩,fun F S0 N0 ψ S w vs hs hr hc=>calls_of_wp I u (wp_wide.1 ?_)⟩;have r:=hc.add (n:=0) (v := .nilFunc) (w':=w) (ob := .was ψ ids S w) (kae _) y (fun b u=>by cases u)
  ⟨kbf _ _,by rw [kaj];rfl,by rw [kaj];rfl,ka3 y _ _,fun i hi=>qf _ hi,fun b u=>u,fun _ _ _=>rfl⟩
 have A:Sim F S0 N0 { n:=fn.ntmps,tmps:=argT 0 args,heap:=(g, .was ψ ids S w)::pre,ids:=g::ids } (ψ.set g 0 .nilFunc) S
   { tmps:=vs++Array.replicate (fn.ntmps - vs.size) undef,defers:=[] } w:=by
  refine ⟨rfl,by simp;omega,fun t=>?_,r⟩;show RV _ _ _ w _ (look .any (argT 0 args) t);rcases khy args 0 t with h | ⟨x,_,h1,d⟩;rw [h];exact .any
  ·rw [d];have h1:args[t]?=some x:=(by simpa using h1);have s:t<vs.size:=(by rw [hs];exact (qd.1 h1).1);have:(vs++Array.replicate (fn.ntmps - vs.size) undef).getD t undef=vs[t]:=(by rw [qam,qax s];simp [s]);rw [this];exact (hr t _ x (by simp [s]) h1).keep (ka3 y _ _) (fun _ h=>qf _ h) (fun _ h=>h) (fun _ _ _=>rfl)
 refine kbq (h _ _ _ F S0 N0 _ S _ w A) ?_;rintro e a' w' ⟨st',ψ',S',⟨J,hi,K⟩,d,L⟩;have D:kaa st'.heap g=some (.was ψ ids S w):=by rw [J,kab,qr rfl]
 obtain ⟨_,⟨_,_,_,k1,k2,k3,k4⟩,_⟩:=d.core.obj g _ D;have m:∀ i,i∈ids->i∈ids':=fun i B=>by
  have:=k2 i B;rw [hi] at this;rcases qaa.1 this with rfl | h;exact absurd B y
  ·exact h
 have kfj:∀ i ob,kaa post i=some ob->i∈ids'/\okO ids' ob=true:=fun i ob j=>by
  have hm:∀ {l:List (Nat×AObj)},kaa l i=some ob->(i,ob)∈l:=fun {l}=>by
   induction l with
   | nil=>intro h;cases h
   | cons p l ih=>
    intro h;obtain ⟨k,v⟩:=p;rw [kab] at h;split at h;rename_i hk;subst hk;injection h with h;subst h;exact qt ..
    ·exact qf _ (ih h)
  have hm:=hm j;exact ⟨by simpa using qq.1 hk _ hm,by simpa using qq.1 C _ hm⟩
 have hl:∀ i ob,kaa post i=some ob->kaa st'.heap i=some ob:=fun i ob j=>by have G:g≠i:=fun e=>q (e ▸ (kfj i ob j).1);rw [J,kab,qj G];exact j
 have a:Core F S0 N0 post ids' ψ' S' w':=by refine ⟨fun i ob j=>?_,fun i i' ob ob' b j H=>d.core.inj i i' ob ob' b (hl i ob j) (hl i' ob' H),d.core.lt,d.core.s0,d.core.n0,d.core.fr⟩;obtain ⟨_,m2,m3⟩:=d.core.obj i ob (hl i ob j);exact ⟨(kfj i ob j).1,m2.subA (kfj i ob j).2,m3⟩
 cases E with
 | ret res=>
  obtain ⟨O,o⟩:=K;have fin:a'.defers=[]/\∃ v,(results fn a'.tmps).run P w' = .ok v w'/\∃ ψ'' S'',HEnd.is (.returned v) ψ'' (·∈ids') S'' w' (.ret res)/\Core F S0 N0 post ids' ψ'' S'' w'/\Fr F w w'/\Ext (·∈ids) ψ ψ''/\(∀ i,i∈ids->i∈ids')/\(∀ b,S b->S'' b)/\Same S w w':=by obtain ⟨v,e1,e2⟩:=kvb M d o;exact ⟨d.defers.trans (ktb o).1,v,e1,ψ',S',⟨v,rfl,e2.subA N⟩,a,L,k1,m,k3,k4⟩
  rcases O with rfl | rfl <;> exact fin
 | pan v=>
  obtain ⟨hd,rfl⟩:=K;exact ⟨d.defers.trans hd,ψ',S',rfl,a,L,k1,m,k3,k4⟩
end Go.Proofs.YtjnjipmjkkhdpaaGreatDoor
set_option linter.all false
namespace Go.Proofs.YtjnjipmjkkhdpaaGreatDoor
open Go Go.RowKit Go.Proofs.Tryz
variable [Dr]
def kf2 (foot:List Nat):List (Nat×AObj)->List (Nat×AObj)
 | []=>[]
 | (k,v)::l=>bif foot.contains k then kf2 foot l else (k,v)::kf2 foot l
def renH (r:List (Nat×Nat)):List (Nat×AObj)->List (Nat×AObj)
 | []=>[]
 | (k,v)::l=>(rn r k,renO r v)::renH r l
def renI (r:List (Nat×Nat)):List Nat->List Nat
 | []=>[]
 | k::l=>rn r k::renI r l
theorem krv (r:List (Nat×Nat)):∀ l,renI r l=l.map (rn r)
 | []=>rfl
 | x::l=>by simp [renI,krv r l]
def kus:List Nat->Bool
 | []=>true
 | x::l=>!l.contains x && kus l
def preX (st:St) (r1 r2:List (Nat×Nat)) (foot:List Nat):List Nat->Option (List (Nat×AObj))
 | []=>some []
 | i::l=>match kaa st.heap (rn r2 i),preX st r1 r2 foot l with
  | some ob,some r=>bif okO foot ob then some ((i,renO r1 ob)::r) else none
  | _,_=>none
def klf (st:St) (r1:List (Nat×Nat)) (foot:List Nat):List C1->List Operand->Option (List AV)
 | [],[]=>some []
 | c::cs,x::xs=>match klf st r1 foot cs xs with
  | some r=>bif okA foot (co1 c (st.eval x)) then some (renA r1 (co1 c (st.eval x))::r) else none
  | none=>none
 | _,_=>none
def kkj (r1:List (Nat×Nat)) (foot:List Nat):List AV->Option (List AV)
 | []=>some []
 | x::xs=>match kkj r1 foot xs with
  | some r=>bif okA foot x then some (renA r1 x::r) else none
  | none=>none
def kid (st:St) (r1 r2:List (Nat×Nat)) (keys ids0 ids1:List Nat) (post:List (Nat×AObj)):Bool:=
 ids0.all (fun i=>st.ids.contains (rn r2 i) && Nat.beq (rn r1 (rn r2 i)) i) && (ids1.all (fun i=>ids0.contains i || !st.ids.contains (rn r2 i)) && (kus (renI r2 ids1) && ((post.all fun p=>okO ids1 p.2) && keys.all ids0.contains)))
theorem kqg {f:Nat->Nat}:∀ {l:List Nat},kus (l.map f)=true->∀ i j,i∈l->j∈l->f i=f j->i=j
 | [],_,i,j,hi,_,_=>by cases hi
 | x::l,h,i,j,hi,c,b=>by
  simp only [qba,kus,qk,qbn] at h;have hx:∀ k,k∈l->f k≠f x:=fun k hk e=>by have:f x∈l.map f:=e ▸ List.mem_map_of_mem hk;have h1:=h.1;simp only [List.contains_eq_mem,decide_eq_false_iff_not] at h1;exact h1 this
  rcases qaa.1 hi with h1 | h1
  ·rcases qaa.1 c with a | a;rw [h1,a]
   ·exact absurd (by rw [<- b,h1]) (hx j a)
  ·rcases qaa.1 c with a | a;exact absurd (by rw [b,a]) (hx i h1)
   ·exact kqg h.2 i j h1 a b
theorem kj9 {i:Nat}:∀ {A B:List (Nat×AObj)} {ob:AObj},kaa (A++B) i=some ob->kaa A i=some ob\/(kaa A i=none/\kaa B i=some ob)
 | [],B,ob,h => .inr ⟨rfl,h⟩
 | (k,v)::A,B,ob,h=>by
  rw [List.cons_append,kab] at h;rw [kab];by_cases hk:k=i;rw [qr hk] at h ⊢; exact .inl h
  ·rw [qj hk] at h ⊢; exact kj9 h
theorem kip {r:List (Nat×Nat)} {j:Nat}:∀ {A:List (Nat×AObj)} {ob:AObj},kaa (renH r A) j=some ob->∃ i o,kaa A i=some o/\rn r i=j/\ob=renO r o
 | [],ob,h=>by cases h
 | (k,v)::A,ob,h=>by
  simp only [renH] at h;rw [kab] at h;by_cases hk:rn r k=j;rw [qr hk] at h;injection h with h;exact ⟨k,v,by rw [kab,qr rfl],hk,h.symm⟩
  ·rw [qj hk] at h;obtain ⟨i,o,h1,a,b⟩:=kip h;exact ⟨i,o,by rw [kab,qj (fun e=>hk (by rw [e];exact a))];exact h1,a,b⟩
theorem kh7 {foot:List Nat}:∀ {l:List (Nat×AObj)} {k:Nat} {ob:AObj},kaa (kf2 foot l) k=some ob->k∉foot/\kaa l k=some ob
 | [],k,ob,h=>by cases h
 | (j,v)::l,k,ob,h=>by
  simp only [kf2] at h;cases a:foot.contains j with
  | true=>
   rw [a] at h;obtain ⟨h1,b⟩:=kh7 h;refine ⟨h1,?_⟩;rw [kab,qj (fun e=>h1 (by subst e;simpa using a))];exact b
  | false=>
   rw [a] at h;simp only [qo,kab] at h;rw [kab];by_cases hk:j=k;subst hk;rw [qr rfl] at h ⊢;exact ⟨by simpa using a,h⟩
   ·rw [qj hk] at h ⊢;exact kh7 h
variable {P:Program} {F S0:Nat->Prop} {N0:Nat} {w w':World} {S S':Nat->Prop} {ψ ψ':Env} {K K':Nat->Prop} {T:List (TypeId×TD)} {o:Oper} {a:Act} {st:St} {t:TypeId} {d:TD}
theorem krg {r1 r2:List (Nat×Nat)} {foot:List Nat}:∀ {l:List Nat} {pre:List (Nat×AObj)},preX st r1 r2 foot l=some pre->∀ i ob,kaa pre i=some ob->i∈l/\∃ ob',kaa st.heap (rn r2 i)=some ob'/\okO foot ob'=true/\ob=renO r1 ob'
 | [],pre,h,i,ob,a=>by simp only [preX,qc] at h;subst h;cases a
 | k::l,pre,h,i,ob,a=>by
  simp only [preX] at h;split at h
  ·rename_i ob1 r h1 c;cases b:okO foot ob1 with
   | false=>rw [b] at h;cases h
   | true=>
    rw [b] at h;simp only [qg,qc] at h;subst h;rw [kab] at a;by_cases hk:k=i;subst hk;rw [qr rfl] at a;injection a with a;exact ⟨qt ..,ob1,h1,b,a.symm⟩
    ·rw [qj hk] at a;exact (krg c i ob a).imp (qf _) id
  ·cases h
theorem kzo {r1:List (Nat×Nat)} {foot ids:List Nat} (h:∀ t,RV ψ (·∈ids) S w (a.tmps.getD t undef) (st.get t)):∀ {cs:List C1} {xs:List Operand} {ys:List AV},klf st r1 foot cs xs=some ys ->
  ys.length=xs.length/\∀ (i:Nat) (x:Operand) (y:AV),xs[i]?=some x->ys[i]?=some y->∃ z,y=renA r1 z/\RV ψ (·∈foot) S w (a.eval x) z
 | [],[],ys,b=>by simp only [klf,qc] at b;subst b;exact ⟨rfl,fun i x y h=>by simp at h⟩
 | c::cs,x::xs,ys,b=>by
  simp only [klf] at b;split at b
  ·rename_i r h1;cases d:okA foot (co1 c (st.eval x)) with
   | false=>rw [d] at b;cases b
   | true=>
    rw [d] at b;simp only [qg,qc] at b;subst b;obtain ⟨e1,e2⟩:=kzo h h1;refine ⟨by simp [e1],fun i x' y' hx hy=>?_⟩;cases i with
    | zero=>
     simp at hx hy;subst hx hy;exact ⟨_,rfl,(klp c (Sim.eval_tmps h x)).subA d⟩
    | succ i=>exact e2 i x' y' (by simpa using hx) (by simpa using hy)
  ·cases b
 | [],_::_,ys,b=>by cases b
 | _::_,[],ys,b=>by cases b
theorem ks5 {r1:List (Nat×Nat)} {foot:List Nat} {cs:Array Value}:∀ {xs ys:List AV},kkj r1 foot xs=some ys->ys.length=xs.length/\∀ (i:Nat) (y:AV),ys[i]?=some y->∃ x,xs[i]?=some x/\okA foot x=true/\y=renA r1 x
 | [],ys,a=>by simp only [kkj,qc] at a;subst a;exact ⟨rfl,fun i y h=>by simp at h⟩
 | x::xs,ys,a=>by
  simp only [kkj] at a;split at a
  ·rename_i r h1;cases b:okA foot x with
   | false=>rw [b] at a;cases a
   | true=>
    rw [b] at a;simp only [qg,qc] at a;subst a;obtain ⟨e1,e2⟩:=ks5 (cs:=cs) h1;refine ⟨by simp [e1],fun i y hy=>?_⟩;cases i with
    | zero=>simp at hy;subst hy;exact ⟨x,rfl,b,rfl⟩
    | succ i=>simpa using e2 i y (by simpa using hy)
  ·cases a
theorem ksh {f:FuncId} {as_:List AV} {pre:List (Nat×AObj)} {ids0 ids1:List Nat} {E:HEnd} {post:List (Nat×AObj)} {keys:List Nat} (hc:HCall P f as_ pre ids0 E post ids1) (r1 r2:List (Nat×Nat))
  (a:Core F S0 N0 st.heap st.ids ψ S w) (A:kid st r1 r2 keys ids0 ids1 post=true) (s:preX st r1 r2 (renI r2 ids0) keys=some pre) {vs:Array Value} (ac:vs.size=as_.length)
  (hv:∀ (i:Nat) (v:Value) (y:AV),vs[i]?=some v->as_[i]?=some y->∃ z,y=renA r1 z/\RV ψ (·∈renI r2 ids0) S w v z):
  Calls P f vs w fun e w'=>∃ ψ' S',(E.ren r2).is e ψ' (·∈renI r2 ids1++st.ids) S' w'/\Core F S0 N0 (renH r2 post++kf2 (renI r2 ids0) st.heap) (renI r2 ids1++st.ids) ψ' S' w'/\Fr F w w'/\Ext (·∈st.ids) ψ ψ'/\(∀ b,S b->S' b)/\Same S w w':=by
 simp only [kid,qk,qq,qbt,qbn,List.contains_eq_mem,qbd,decide_eq_false_iff_not] at A;obtain ⟨c1,c2,c3,c4,c5⟩:=A;simp only [krv] at s hv c3 ⊢;have inj:=kqg c3;have T:∀ j,j∈ids0.map (rn r2)->∃ i,i∈ids0/\rn r2 i=j/\rn r1 j=i:=fun j u=>by obtain ⟨i,hi,rfl⟩:=qap.1 u;exact ⟨i,hi,rfl,qe (c1 i hi).2⟩
 -- the callee's view
 let ψc:Env:=⟨fun i=>ψ.len (rn r2 i),fun i=>ψ.val (rn r2 i)⟩
 let Fc:Nat->Prop:=fun b=>F b\/∃ j ob,kaa st.heap j=some ob/\j∉ids0.map (rn r2)/\Blk (ψ.val j) b
 let Sc:Nat->Prop:=fun b=>S b\/∃ j ob,kaa st.heap j=some ob/\j∈ids0.map (rn r2)/\Blk (ψ.val j) b
 have U:∀ j,j∈ids0.map (rn r2)->rn r1 j∈ids0/\ψc.len (rn r1 j)=ψ.len j/\ψc.val (rn r1 j)=ψ.val j:=fun j u=>by obtain ⟨i,hi,h1,x⟩:=T j u;rw [x];exact ⟨hi,by show ψ.len (rn r2 i)=_;rw [h1],by show ψ.val (rn r2 i)=_;rw [h1]⟩
 have ad:Core Fc Sc w.heap.size pre ids0 ψc S w:=by
  refine ⟨fun i ob K=>?_,fun i i' ob ob' b K L H d q=>?_,a.lt,fun b d => .inl (.inl d),qv _,fun b d=>?_⟩
  ·obtain ⟨hi,ob',h1,x,rfl⟩:=krg s i ob K;obtain ⟨k1,k2,k3⟩:=a.obj _ _ h1;have M:=c5 i hi;have N:rn r2 i∈ids0.map (rn r2):=List.mem_map_of_mem M;have ae:=qe (c1 i M).2;have hO:=(k2.subA x).ren (ψ':=ψc) (K':=(·∈ids0)) U N x;rw [ae] at hO;refine ⟨M,hO,fun b d=>⟨(k3 b d).1,?_, .inl (.inr ⟨_,ob',h1,N,d⟩)⟩⟩;rintro (V | ⟨j,oj,O,af,Q⟩);exact (k3 b d).2.1 V
   ·exact a.inj _ _ _ _ b O h1 (fun e=>af (e ▸ N)) Q d
  obtain ⟨hi,ob1,h1,_,_⟩:=krg s i ob K;obtain ⟨ag,ob2,x,_,_⟩:=krg s i' ob' L;refine a.inj _ _ _ _ b h1 x (fun e=>H ?_) d q;have e1:=qe (c1 i (c5 i hi)).2;have e2:=qe (c1 i' (c5 i' ag)).2;rw [<- e1,<- e2,e]
  ·rcases d with V | ⟨j,oj,O,_,Q⟩;exact a.fr b V
   ·exact (a.obj j oj O).2.1.lt Q
 refine (hc.2 Fc Sc w.heap.size ψc S w vs ac (fun i v y h1 x=>?_) ad).mono ?_;obtain ⟨z,rfl,hz⟩:=hv i v y h1 x;exact hz.ren U;rintro e w' ⟨ψc',S',hE,g,r,X,Y,hS,B⟩;have C:∀ i,i∈ids1->ids1.find? (fun k=>Nat.beq (rn r2 k) (rn r2 i))=some i:=fun i hi=>by
  cases h:ids1.find? (fun k=>Nat.beq (rn r2 k) (rn r2 i)) with
  | none=>
   rw [List.find?_eq_none] at h;exact absurd (Nat.beq_refl _) (h i hi)
  | some k=>
   have h1:=List.find?_some h;rw [inj k i (List.mem_of_find?_eq_some h) hi (qe h1)]
 have D:∀ j,(∀ i,i∈ids1->rn r2 i≠j)->ids1.find? (fun k=>Nat.beq (rn r2 k) j)=none:=fun j u=>by rw [List.find?_eq_none];intro i hi h;exact u i hi (qe h)
 let ψ':Env:=⟨fun j=>match ids1.find? (fun k=>Nat.beq (rn r2 k) j) with | some i=>ψc'.len i | none=>ψ.len j,fun j=>match ids1.find? (fun k=>Nat.beq (rn r2 k) j) with | some i=>ψc'.val i | none=>ψ.val j⟩
 have t:∀ i,i∈ids1->ψ'.len (rn r2 i)=ψc'.len i/\ψ'.val (rn r2 i)=ψc'.val i:=fun i hi=>by
  constructor
  ·show (match ids1.find? (fun k=>Nat.beq (rn r2 k) (rn r2 i)) with | some i=>ψc'.len i | none=>ψ.len (rn r2 i))=_
   rw [C i hi]
  ·show (match ids1.find? (fun k=>Nat.beq (rn r2 k) (rn r2 i)) with | some i=>ψc'.val i | none=>ψ.val (rn r2 i))=_
   rw [C i hi]
 have Z:∀ j,(∀ i,i∈ids1->rn r2 i≠j)->ψ'.len j=ψ.len j/\ψ'.val j=ψ.val j:=fun j u=>by
  constructor
  ·show (match ids1.find? (fun k=>Nat.beq (rn r2 k) j) with | some i=>ψc'.len i | none=>ψ.len j)=_
   rw [D j u]
  ·show (match ids1.find? (fun k=>Nat.beq (rn r2 k) j) with | some i=>ψc'.val i | none=>ψ.val j)=_
   rw [D j u]
 have m:∀ j,j∈st.ids->j∉ids0.map (rn r2)->ψ'.len j=ψ.len j/\ψ'.val j=ψ.val j:=fun j u hn=>Z j fun i hi e=>by
  rcases c2 i hi with h | h;exact hn (e ▸ List.mem_map_of_mem h)
  ·exact h (e ▸ u)
 have J:Ext (·∈st.ids) ψ ψ':=fun j u=>by
  by_cases hn:j∈ids0.map (rn r2);obtain ⟨i,hi,h1,x⟩:=T j hn;obtain ⟨e1,e2⟩:=X i hi;obtain ⟨e3,e4⟩:=t i (Y i hi);rw [<- h1,e3,e4];exact ⟨e1,e2⟩
  ·obtain ⟨e1,e2⟩:=m j u hn;exact ⟨by omega,fun _=>e2⟩
 have G:∀ i,i∈ids1->rn r2 i∈ids1.map (rn r2)++st.ids/\ψ'.len (rn r2 i)=ψc'.len i/\ψ'.val (rn r2 i)=ψc'.val i:=fun i hi=>
  ⟨List.mem_append_left _ (List.mem_map_of_mem hi),t i hi⟩
 have hK:∀ i,i∈st.ids->i∈ids1.map (rn r2)++st.ids:=fun i hi=>List.mem_append_right _ hi;have aa:∀ b,Sc b\/w.heap.size<=b->S0 b\/N0<=b:=fun b d=>by
  rcases d with (d | ⟨j,oj,h1,_,R⟩) | d;exact a.s0 b d;exact ((a.obj j oj h1).2.2 b R).2.2
  ·exact .inr (qar a.n0 d)
 have n:∀ j oj b,kaa st.heap j=some oj->j∉ids0.map (rn r2)->Blk (ψ.val j) b->Fc b/\¬ (Sc b\/w.heap.size<=b):=fun j oj b h1 x R=>by
  refine ⟨.inr ⟨j,oj,h1,x,R⟩,?_⟩;rintro ((d | ⟨k,ok,g1,g2,g3⟩) | d);exact ((a.obj j oj h1).2.2 b R).1 d;exact a.inj j k oj ok b h1 g1 (fun e=>x (e ▸ g2)) R g3
  ·have:=(a.obj j oj h1).2.1.lt R;omega
 refine ⟨ψ',S',?_,⟨fun j oj K=>?_,fun j j' oj oj' b K L H d q=>?_,g.lt,fun b d=>aa b (g.s0 b d),qar a.n0 r.size,fun b d=>qbb (a.fr b d) r.size⟩,
  ⟨r.os,r.tape,r.output,r.size,fun b d=>r.block b (.inl d),r.drawn⟩,J,hS,B⟩
 ·cases E with
  | ret res=>
   obtain ⟨v,rfl,hv⟩:=hE;exact ⟨v,rfl,hv.ren G⟩
  | pan v=>exact hE
 ·rcases kj9 K with h | ⟨_,h⟩
  ·obtain ⟨i,ob,h1,rfl,rfl⟩:=kip h;obtain ⟨k1,k2,k3⟩:=g.obj i ob h1;refine ⟨(G i k1).1,k2.ren (ids:=ids1) G k1 ?_,fun b d=>?_⟩
   ·have hm:∀ {l:List (Nat×AObj)},kaa l i=some ob->(i,ob)∈l:=fun {l}=>by
     induction l with
     | nil=>intro h;cases h
     | cons p l ih=>
      intro h;obtain ⟨k,v⟩:=p;rw [kab] at h;split at h;rename_i hk;cases hk;cases qu h;exact qt ..
      ·exact qf _ (ih h)
    exact c4 _ (hm h1)
   ·rw [(t i k1).2] at d;obtain ⟨m1,m2,m3⟩:=k3 b d;exact ⟨m1,fun V=>m2 (.inl V),aa b m3⟩
  ·obtain ⟨hn,h1⟩:=kh7 h;obtain ⟨k1,k2,k3⟩:=a.obj j oj h1;have ab:=m j k1 hn;refine ⟨hK j k1,k2.keep J hK hS B ab fun b d=>r.block b (n j oj b h1 hn d).1,fun b d=>?_⟩;rw [ab.2] at d;exact ⟨fun hs=>(n j oj b h1 hn d).2 (g.s0 b hs),(k3 b d).2⟩
 ·have bA:∀ {i ob},kaa post i=some ob->Blk (ψ'.val (rn r2 i)) b->¬ Fc b:=fun {i ob} h1 d=>by obtain ⟨k1,_,k3⟩:=g.obj i ob h1;rw [(t i k1).2] at d;exact (k3 b d).2.1
  rcases kj9 K with h | ⟨_,h⟩ <;> rcases kj9 L with h' | ⟨_,h'⟩;obtain ⟨i,ob,h1,rfl,rfl⟩:=kip h;obtain ⟨i',ob',o,rfl,rfl⟩:=kip h';obtain ⟨k1,_,_⟩:=g.obj i ob h1;obtain ⟨k1',_,_⟩:=g.obj i' ob' o;rw [(t i k1).2] at d;rw [(t i' k1').2] at q;exact g.inj i i' ob ob' b h1 o (fun e=>H (by rw [e])) d q;obtain ⟨i,ob,h1,rfl,rfl⟩:=kip h;obtain ⟨I,o⟩:=kh7 h';rw [(m j' (a.obj j' oj' o).1 I).2] at q;exact bA h1 d (n j' oj' b o I q).1;obtain ⟨i',ob',o,rfl,rfl⟩:=kip h';obtain ⟨hn,h1⟩:=kh7 h;rw [(m j (a.obj j oj h1).1 hn).2] at d;exact bA o q (n j oj b h1 hn d).1
  ·obtain ⟨hn,h1⟩:=kh7 h;obtain ⟨I,o⟩:=kh7 h';rw [(m j (a.obj j oj h1).1 hn).2] at d;rw [(m j' (a.obj j' oj' o).1 I).2] at q;exact a.inj j j' oj oj' b h1 o H d q
def fnOf (n:Nat):AV->Option (FuncId×List AV)
 | .fn f cap=>some (f,cap)
 | .mth f fst=>bif Nat.beq n 0 then some (f,fst) else none
 | _=>none
theorem k2d {f : FuncId} {fst : Array Value} {x : Operand} {args : Array Operand} {ts : Array TypeId} (e : o.op = .call { callee := .value x, args := args, argTypes := ts }) (hx : a.eval x = .func (.func f) fst #[]) (h0 : args.size = 0) (g : ∃ fn, P.funcs[f]? = some fn /\ fn.body.isNone = false /\ (fn.name == "runtime.NumGoroutine") = false) :
  (execOp a.eval o).run P w = .ok (.enter f (args.map a.eval++fst)) w:=by
 obtain ⟨fn,h1,c,d⟩:=g;have b:fn.body≠none:=by intro h;rw [h] at c;cases c
 simp only [qa0,ne_eq] at d;have hn:args=#[]:=Array.eq_empty_of_size_eq_zero h0;subst hn;simp [execOp,e,resolve,hx,Deferred.ofValue,invoke,callFunc,h1,b,d]
theorem k2x {f : FuncId} {caps : Array Value} {x : Operand} {args : Array Operand} {ts : Array TypeId} (e : o.op = .call { callee := .value x, args := args, argTypes := ts }) (hx : a.eval x = .func (.func f) #[] caps) (g : ∃ fn, P.funcs[f]? = some fn /\ fn.body.isNone = false /\ (fn.name == "runtime.NumGoroutine") = false) :
  (execOp a.eval o).run P w = .ok (.enter f (args.map a.eval++caps)) w:=by
 obtain ⟨fn,h1,c,d⟩:=g;have b:fn.body≠none:=by intro h;rw [h] at c;cases c
 simp only [qa0,ne_eq] at d;simp [execOp,e,resolve,hx,Deferred.ofValue,invoke,callFunc,h1,b,d]
theorem kx2 {f:FuncId} {cap:List AV} {x:Operand} {args:Array Operand} {ts:Array TypeId} {cs:List C1} {as1 as2 pre:_} {ids0 ids1:List Nat} {E:HEnd} {post:List (Nat×AObj)} {keys:List Nat} (r1 r2:List (Nat×Nat)) (r:o.op = .call { callee := .value x,args:=args,argTypes:=ts })
  (hx:fnOf args.size (st.eval x)=some (f,cap)) (hc:HCall P f (as1++as2) pre ids0 E post ids1) (d:klf st r1 (renI r2 ids0) cs args.toList=some as1) (j:kkj r1 (renI r2 ids0) cap=some as2)
  (g:kid st r1 r2 keys ids0 ids1 post=true) (k:preX st r1 r2 (renI r2 ids0) keys=some pre) (hs:Sim F S0 N0 st ψ S a w):
  ∃ vs,(execOp a.eval o).run P w = .ok (.enter f vs) w/\Calls P f vs w fun e w'=>∃ ψ' S',(E.ren r2).is e ψ' (·∈renI r2 ids1++st.ids) S' w'/\Core F S0 N0 (renH r2 post++kf2 (renI r2 ids0) st.heap) (renI r2 ids1++st.ids) ψ' S' w'/\Fr F w w'/\Ext (·∈st.ids) ψ ψ'/\(∀ b,S b->S' b)/\Same S w w':=by
 have c:=hs.eval x;obtain ⟨caps,l,m,n⟩:∃ caps:Array Value,(execOp a.eval o).run P w = .ok (.enter f (args.map a.eval++caps)) w/\caps.size=cap.length/\∀ (i:Nat) (v:Value) (y:AV),caps[i]?=some v->cap[i]?=some y->RV ψ (·∈st.ids) S w v y:=by
  generalize s:a.eval x=u at c;generalize st.eval x=y at hx c;unfold fnOf at hx;split at hx
  ·simp only [qc,qp] at hx;obtain ⟨rfl,rfl⟩:=hx;cases c with
   | fn h hr=>exact ⟨_,k2x r s hc.1,h,hr⟩
  ·rename_i f' fst;cases q:Nat.beq args.size 0 with
   | false=>rw [q] at hx;cases hx
   | true=>
    rw [q] at hx;simp only [qg,qc,qp] at hx;obtain ⟨rfl,rfl⟩:=hx;cases c with
    | mth h hr=>exact ⟨_,k2d r s (qe q) hc.1,h,hr⟩
  ·cases hx
 refine ⟨_,l,?_⟩;obtain ⟨e1,e2⟩:=kzo hs.tmps d;obtain ⟨e3,e4⟩:=ks5 (cs:=caps) j;refine ksh hc r1 r2 hs.core g k (by simp [e1,e3,m]) fun i v y hv hy=>?_;by_cases hi:i<args.size;rw [qax (by simpa using hi)] at hv;rw [qab (by rw [e1];simpa using hi)] at hy;simp only [Array.getElem?_map,qn] at hv;obtain ⟨p,hp,rfl⟩:=hv;exact e2 i p y (by simpa using hp) hy
 ·rw [Array.getElem?_append_right (by simpa using hi)] at hv;rw [qad (by rw [e1];simpa using hi)] at hy;have hl:as1.length=args.size:=by rw [e1];simp
  obtain ⟨z,h1,t,rfl⟩:=e4 _ y hy;exact ⟨z,rfl,(n _ v z (by simpa using hv) (by rw [<- h1,hl])).subA t⟩
theorem k4m {f:FuncId} {cap:List AV} {x:Operand} {args:Array Operand} {ts:Array TypeId} {cs:List C1} {as1 as2 pre:_} {ids0 ids1:List Nat} {res:AV} {post:List (Nat×AObj)} {keys:List Nat} (r1 r2:List (Nat×Nat)) (h:o.op = .call { callee := .value x,args:=args,argTypes:=ts })
  (hx:fnOf args.size (st.eval x)=some (f,cap)) (hc:HCall P f (as1++as2) pre ids0 (.ret res) post ids1) (b:klf st r1 (renI r2 ids0) cs args.toList=some as1) (d:kkj r1 (renI r2 ids0) cap=some as2)
  (c:kid st r1 r2 keys ids0 ids1 post=true) (g:preX st r1 r2 (renI r2 ids0) keys=some pre):
  StepA P o st (renA r2 res) (renH r2 post++kf2 (renI r2 ids0) st.heap) (renI r2 ids1++st.ids):=by
 intro F S0 N0 ψ S a w hs;obtain ⟨vs,h1,j⟩:=kx2 r1 r2 h hx hc b d c g hs;unfold kce;rw [h1];refine j.mono ?_;rintro e w' ⟨ψ',S',⟨v,rfl,hv⟩,k,l,m,n,p⟩;exact ⟨v,rfl,ψ',S',k,hv,l,m,fun i hi=>List.mem_append_right _ hi,n,p⟩
theorem h_pan [Rd] {f:FuncId} {cap:List AV} {ops:Array Oper} {l:List Oper} {Q:Exit->St->Prop} {x:Operand} {args:Array Operand} {ts:Array TypeId} {cs:List C1} {as1 as2 pre:_} {ids0 ids1:List Nat} {v:Value} {post:List (Nat×AObj)} {keys:List Nat} (r1 r2:List (Nat×Nat)) (k:o.op = .call { callee := .value x,args:=args,argTypes:=ts })
  (hx:fnOf args.size (st.eval x)=some (f,cap)) (hc:HCall P f (as1++as2) pre ids0 (.pan v) post ids1) (b:klf st r1 (renI r2 ids0) cs args.toList=some as1) (g:kkj r1 (renI r2 ids0) cap=some as2)
  (d:kid st r1 r2 keys ids0 ids1 post=true) (j:preX st r1 r2 (renI r2 ids0) keys=some pre) (m:kbi ops st o=some true)
  (hn:Q (.panic [{ v:=v,recovered:=false }]) { st with heap:=renH r2 post++kf2 (renI r2 ids0) st.heap,ids:=renI r2 ids1++st.ids }):awpL P ops (o::l) st Q:=by
 intro F S0 N0 ψ S a w hs;obtain ⟨vs,h1,n⟩:=kx2 r1 r2 k hx hc b g d j hs;unfold ka5;rw [kdp hs m];refine kx0 (fun c h=>by rw [k] at h;cases h) h1 ?_;refine n.mono ?_;rintro e w' ⟨ψ',S',rfl,p,q,r,s,u⟩;exact ⟨_,ψ',S',hn,⟨hs.defers,hs.size,fun t=>(hs.tmps t).keep r (fun i hi=>List.mem_append_right _ hi) s u,p⟩,q⟩
def hQ (T:List (TypeId×TD)) (rs:List ResultVar) (g:Nat) (ids:List Nat) (E:HEnd) (post:List (Nat×AObj)) (ids':List Nat) (ψ0:Env) (S1:Nat->Prop) (w0:World) (e:Exit) (st:St):Prop:=
 ∃ st2,LeSt st st2/\kfj T rs g ids E post ids' ψ0 S1 w0 e st2
theorem ktr {rs:List ResultVar} {g:Nat} {ids ids':List Nat} {res:AV} {post:List (Nat×AObj)} {ψ0:Env} {S1:Nat->Prop} {w0:World} {e:Exit} {st st2:St} (hl:LeSt st st2) (a:st2.heap=(g, .was ψ0 ids S1 w0)::post) (hi:st2.ids=g::ids')
  (b:e = .normal\/e = .ret) (hr:retA T st2 rs=some res):hQ T rs g ids (.ret res) post ids' ψ0 S1 w0 e st:=⟨st2,hl,a,hi,b,hr⟩
theorem kaa7 {rs:List ResultVar} {g:Nat} {ids ids':List Nat} {v:Value} {post:List (Nat×AObj)} {ψ0:Env} {S1:Nat->Prop} {w0:World} {st st2:St} (hl:LeSt st st2) (a:st2.heap=(g, .was ψ0 ids S1 w0)::post) (hi:st2.ids=g::ids') (hd:st2.dfr=[]):
  hQ T rs g ids (.pan v) post ids' ψ0 S1 w0 (.panic [{ v:=v,recovered:=false }]) st:=⟨st2,hl,a,hi,hd,rfl⟩
theorem kyq (e : TOk P T) {f : FuncId} {fn : Func} {c : Code} {args : List AV} {pre : List (Nat × AObj)} {ids : List Nat} {E : HEnd} {post : List (Nat × AObj)} {ids' : List Nat} {g : Nat} (i : P.funcs[f]? = some fn) (j : fn.body = some c) (hn : (fn.name == "runtime.NumGoroutine") = false)
  (a:Nat.ble args.length fn.ntmps=true) (k:ids.contains g=false) (b:ids'.contains g=false) (d:(post.all fun p=>okO ids' p.2)=true) (l:E.ok ids'=true) (hk:(post.all fun p=>ids'.contains p.1)=true)
  (h:∀ ψ0 S1 w0,awp P c { n:=fn.ntmps,tmps:=argT 0 args,heap:=(g, .was ψ0 ids S1 w0)::pre,ids:=g::ids } (hQ T fn.results.toList g ids E post ids' ψ0 S1 w0)):HCall P f args pre ids E post ids':=
 kz4 e i j hn a k (fun ψ0 S1 w0=>kps (h ψ0 S1 w0)) b d l hk
end Go.Proofs.YtjnjipmjkkhdpaaGreatDoor
