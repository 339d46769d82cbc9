import Derived.Test.YtpnnpkmjohkgiaaGreatDoorLaw
import Derived.Test.YtpnnpkmjohkgiaaGreatDoorTy
import Derived.Test.YtpnnpkmjohkgiaaGreatDoorLaw
import Derived.ChangeMaps5
set_option linter.all false
namespace Go.Proofs.YtpnnpkmjohkgiaaGreatDoor
open Go Go.RowKit
inductive Va where
 | mk (type num:Int) (text:BA) (items:List Va)
namespace Va
def type:Va->Int | mk t _ _ _=>t
def num:Va->Int | mk _ n _ _=>n
def text:Va->BA | mk _ _ s _=>s
def items:Va->List Va | mk _ _ _ l=>l
theorem ind {P:Va->Prop} (h:∀ t n s l,(∀ v∈l,P v)->P (mk t n s l)) (v:Va):P v:=
 Va.rec (motive_1:=P) (motive_2:=fun l=>∀ t∈l,P t) (fun t n s l ih=>h t n s l ih) (fun _ h=>nomatch h)
  (fun t l h1 a x b=>(qaw.1 b).elim (fun e=>e ▸ h1) (a x)) v
end Va
structure Sy where
 name:BA
 type:Int
structure Ru where
 symbol:Int
 kind:Int
 input:Int
 const:Va
 op:BA
 args:List Int
structure La where
 name:BA
 inputs:List Int
 symbols:List Sy
 rules:List Ru
def kmb (s:BA):Prop:=s.size<=9223372036854775807
section
variable {S S':Nat->Prop} {w w':World}
inductive RepVa (S:Nat->Prop) (w:World):List Value->Va->Prop where
 | mk (t n:Int) (s:BA) (kids:List Va) (A:Option Addr) (cap:Nat) (css:Nat->List Value) (ht:kf0 t) (hn:kf0 n) (hs:kmb s) (hc:kids.length<=cap) (hm:cap<=9223372036854775807)
  (hA:∀ (i:Nat) (x:Va),kids[i]?=some x->∃ b o,A=some ⟨b,o,none⟩/\S b/\At w b (o+i*4) (css i))
  (hk:∀ (i:Nat) (x:Va),kids[i]?=some x->RepVa S w (css i) x):RepVa S w [.int .i64 t, .int .i64 n, .string s, .slice A kids.length cap] (.mk t n s kids)
abbrev Vas (S:Nat->Prop) (w:World) (v:Value) (l:List Va):Prop:=RepSl S w 4 (RepVa S w) v l
theorem RepVa.len {cs:List Value} {t:Va} (h:RepVa S w cs t):cs.length=4:=by cases h;rfl
theorem RepVa.form {cs:List Value} {t n:Int} {s:BA} {l:List Va} (h:RepVa S w cs (.mk t n s l)):∃ v,cs=[.int .i64 t, .int .i64 n, .string s,v]/\kf0 t/\kf0 n/\kmb s/\Vas S w v l:=by
 cases h with
 | mk _ _ _ _ A cap css ht hn hs hc hm hA hk=>
  refine ⟨_,rfl,ht,hn,hs,A,cap,rfl,hc,hm,fun i x a=>?_⟩;obtain ⟨b,o,h1,c,d⟩:=hA i x a;exact ⟨b,o,css i,h1,c,d,(hk i x a).len,hk i x a⟩
theorem RepVa.of {v:Value} {t n:Int} {s:BA} {l:List Va} (ht:kf0 t) (hn:kf0 n) (hs:kmb s) (h:Vas S w v l):RepVa S w [.int .i64 t, .int .i64 n, .string s,v] (.mk t n s l):=by
 obtain ⟨A,cap,rfl,hc,hm,c⟩:=h;have:∀ i:Nat,∃ cs:List Value,∀ x:Va,l[i]?=some x->(∃ b o,A=some ⟨b,o,none⟩/\S b/\At w b (o+i*4) cs)/\RepVa S w cs x:=fun i=>by
  cases hi:l[i]? with
  | none=>exact ⟨[],fun x h=>by cases h⟩
  | some x=>
   obtain ⟨b,o,cs,h1,d,e,_,f⟩:=c i x hi;exact ⟨cs,fun y hy=>by cases hy;exact ⟨⟨b,o,h1,d,e⟩,f⟩⟩
 obtain ⟨css,a⟩:=Classical.axiomOfChoice this;exact .mk t n s l A cap css ht hn hs hc hm (fun i x hi=>(a i x hi).1) (fun i x hi=>(a i x hi).2)
section
variable {T:Type} {size:Nat} {R:(Nat->Prop)->World->List Value->T->Prop} {v:Value} {l:List T}
end
def ksy (S:Nat->Prop) (w:World) (cs:List Value) (x:Sy):Prop:=cs=[.string x.name, .int .i64 x.type]/\kmb x.name/\kf0 x.type
def kss (S:Nat->Prop) (w:World) (cs:List Value) (x:Ru):Prop:=
 ∃ c0 c1 c2 c3 v,cs=[.int .i64 x.symbol, .int .i64 x.kind, .int .i64 x.input,c0,c1,c2,c3, .string x.op,v]/\kf0 x.symbol/\kf0 x.kind/\kf0 x.input/\kmb x.op/\RepVa S w [c0,c1,c2,c3] x.const/\Ints S w v x.args
abbrev Sys (S:Nat->Prop) (w:World) (v:Value) (l:List Sy):Prop:=RepSl S w 2 (ksy S w) v l
abbrev Rus (S:Nat->Prop) (w:World) (v:Value) (l:List Ru):Prop:=RepSl S w 9 (kss S w) v l
def k3v (S:Nat->Prop) (w:World) (cs:List Value) (x:La):Prop:=
 ∃ v1 v2 v3,cs=[.string x.name,v1,v2,v3]/\kmb x.name/\Ints S w v1 x.inputs/\Sys S w v2 x.symbols/\Rus S w v3 x.rules
def LaV (S:Nat->Prop) (w:World) (v:Value) (x:La):Prop:=∃ cs:List Value,v = .agg cs.toArray/\k3v S w cs x
end
inductive Tm where
 | mk (rule:Int) (args:List Tm)
namespace Tm
end Tm
section
variable {S S':Nat->Prop} {w w':World}
inductive k3m (S:Nat->Prop) (w:World):List Value->Tm->Prop where
 | mk (r:Int) (kids:List Tm) (A:Option Addr) (cap:Nat) (css:Nat->List Value) (hr:kf0 r) (hc:kids.length<=cap) (hm:cap<=9223372036854775807)
  (hA:∀ (i:Nat) (x:Tm),kids[i]?=some x->∃ b o,A=some ⟨b,o,none⟩/\S b/\At w b (o+i*2) (css i))
  (hk:∀ (i:Nat) (x:Tm),kids[i]?=some x->k3m S w (css i) x):k3m S w [.int .i64 r, .slice A kids.length cap] (.mk r kids)
end
mutual
def eVaR:Va->FV
 | .mk t n s l => .agg [eI t,eI n,eS s, .lst 4 l.length (kmn l)]
def kmn:List Va->List FV
 | []=>[]
 | x::l=>eVaR x::kmn l
end
def eVa (x:Va):FV := .agg [eI x.type,eI x.num,eS x.text,eL 4 eVaR x.items]
theorem kpf:∀ l:List Va,kmn l=l.map eVaR
 | []=>by simp [kmn]
 | x::l=>by simp [kmn,kpf l]
theorem kvo (x:Va):eVaR x=eVa x:=by cases x;simp [eVaR,eVa,kpf,eL,Va.type,Va.num,Va.text,Va.items]
theorem kxy (x:Va):(eVaR x).cells=(eVa x).cells:=by rw [kvo]
theorem k07 (x:Va):(eVaR x).cells.length=4:=by rw [kvo];rfl
def eSy (x:Sy):FV := .agg [eS x.name,eI x.type]
def eRu (x:Ru):FV := .agg [eI x.symbol,eI x.kind,eI x.input,eI x.const.type,eI x.const.num,eS x.const.text,eL 4 eVaR x.const.items,eS x.op,eL 1 eI x.args]
def eLa (x:La):FV := .agg [eS x.name,eL 1 eI x.inputs,eL 2 eSy x.symbols,eL 9 eRu x.rules]
open Go Go.RowKit Go.ChangeShapes Go.WideShapes Go.ChangeAt Go.ChangeMaps
section
variable {T:Type} {P:Program} {H:Type} {enc:TypeId×Value->H} {w:World} {base:Nat} {spare:Nat->Bool} {held:Bool}
theorem kmy {R:List Value->T->Prop} {ec:T->FV} {size:Nat} {v:Value} {xs:List T} (g:0<size) (h:RepSl Any w size R v xs)
  (f:∀ cs x,x∈xs->R cs x->(ec x).cells.length=size/\(∀ y∈(ec x).cells,y.single=true)/\∀ (j:Nat) (u:Value) (y:FV),cs[j]?=some u->(ec x).cells[j]?=some y->RF Any w u y):RF Any w v (eL size ec xs):=by
 obtain ⟨A,cap,rfl,h1,k,l⟩:=h;have e:∀ i:Nat,∃ cs:List Value,∀ x,xs[i]?=some x->∃ b o,A=some ⟨b,o,none⟩/\At w b (o+i*size) cs/\cs.length=size/\R cs x:=fun i=>by
  cases d:xs[i]? with
  | none=>exact ⟨[],fun x h=>by cases h⟩
  | some x=>
   obtain ⟨b,o,cs,e1,_,e2,e3,e4⟩:=l i x d;exact ⟨cs,fun y hy=>by injection hy with hy;subst hy;exact ⟨b,o,e1,e2,e3,e4⟩⟩
 obtain ⟨css,c⟩:=Classical.axiomOfChoice e;refine .lst css (by simp) h1 k g (fun i x d=>?_) (fun i x d=>?_) fun i x j v y d hv hy=>?_;simp only [qv,qr] at d;obtain ⟨z,a,rfl⟩:=d;obtain ⟨b,o,e1,e2,_⟩:=c i z a;exact ⟨b,o,e1,trivial,e2⟩;simp only [qv,qr] at d;obtain ⟨z,a,rfl⟩:=d;obtain ⟨b,o,e1,e2,e3,e4⟩:=c i z a;obtain ⟨g1,g2,_⟩:=f _ z (qt a) e4;exact ⟨e3,g1,g2⟩
 ·simp only [qv,qr] at d;obtain ⟨z,a,rfl⟩:=d;obtain ⟨b,o,e1,e2,e3,e4⟩:=c i z a;exact (f _ z (qt a) e4).2.2 j v y hv hy
theorem k7f {x:Value} {cs:List Value} (a:cs=[x]) (c:x.oneCell'=true):(FV.atom x).cells.length=1/\(∀ y∈(FV.atom x).cells,y.single=true)/\∀ (j:Nat) (u:Value) (y:FV),cs[j]?=some u->(FV.atom x).cells[j]?=some y->RF Any w u y:=by
 subst a;refine ⟨rfl,fun y hy=>?_,fun j u y b hy=>?_⟩;simp [FV.cells] at hy;subst hy;exact c
 ·cases j with
  | zero=>
   simp [FV.cells] at b hy;subst b hy;exact .atom c
  | succ j=>simp at b
theorem kzw {f:FuncId} {args:List FV} {vs:Array Value} (hp:PCall P f args (eB true)) (hs:vs.size=args.length) (hr:∀ (i:Nat) (v:Value) (x:FV),vs[i]?=some v->args[i]?=some x->RF Any w v x):
  Calls P f vs w fun e w'=>e = .returned (.bool true)/\Below w.heap.size w w':=by
 refine (hp.2 Any w vs hs hr).mono ?_;rintro e w' ⟨v,rfl,h1,a⟩;rw [h1.atom_eq];exact ⟨rfl,a⟩
end
end Go.Proofs.YtpnnpkmjohkgiaaGreatDoor
