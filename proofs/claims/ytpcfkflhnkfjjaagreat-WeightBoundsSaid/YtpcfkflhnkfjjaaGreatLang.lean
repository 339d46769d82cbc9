import Derived.Test.YtpcfkflhnkfjjaaGreatMem
set_option linter.all false
namespace Go.Proofs.YtpcfkflhnkfjjaaGreat
open Go Go.RowKit
inductive Va where
 | mk (type num:Int) (text:BA) (items:List Va)
namespace Va
def type:Va->Int | mk t _ _ _=>t
def num:Va->Int | mk _ n _ _=>n
def text:Va->BA | mk _ _ s _=>s
def items:Va->List Va | mk _ _ _ l=>l
theorem ind {P:Va->Prop} (h:∀ t n s l,(∀ v∈l,P v)->P (mk t n s l)) (v:Va):P v:=
 Va.rec (motive_1:=P) (motive_2:=fun l=>∀ t∈l,P t) (fun t n s l ih=>h t n s l ih) (fun _ h=>nomatch h)
  (fun t l h1 a x b=>(qar.1 b).elim (fun e=>e ▸ h1) (a x)) v
end Va
structure Sy where
 name:BA
 type:Int
structure Ru where
 symbol:Int
 kind:Int
 input:Int
 const:Va
 op:BA
 args:List Int
structure La where
 name:BA
 inputs:List Int
 symbols:List Sy
 rules:List Ru
def kon (s:BA):Prop:=s.size<=9223372036854775807
section
variable {S S':Nat->Prop} {w w':World}
inductive RepVa (S:Nat->Prop) (w:World):List Value->Va->Prop where
 | mk (t n:Int) (s:BA) (kids:List Va) (A:Option Addr) (cap:Nat) (css:Nat->List Value) (ht:kg0 t) (hn:kg0 n) (hs:kon s) (hc:kids.length<=cap) (hm:cap<=9223372036854775807)
  (hA:∀ (i:Nat) (x:Va),kids[i]?=some x->∃ b o,A=some ⟨b,o,none⟩/\S b/\At w b (o+i*4) (css i))
  (hk:∀ (i:Nat) (x:Va),kids[i]?=some x->RepVa S w (css i) x):RepVa S w [.int .i64 t, .int .i64 n, .string s, .slice A kids.length cap] (.mk t n s kids)
abbrev Vas (S:Nat->Prop) (w:World) (v:Value) (l:List Va):Prop:=RepSl S w 4 (RepVa S w) v l
theorem RepVa.len {cs:List Value} {t:Va} (h:RepVa S w cs t):cs.length=4:=by cases h;rfl
theorem RepVa.form {cs:List Value} {t n:Int} {s:BA} {l:List Va} (h:RepVa S w cs (.mk t n s l)):∃ v,cs=[.int .i64 t, .int .i64 n, .string s,v]/\kg0 t/\kg0 n/\kon s/\Vas S w v l:=by
 cases h with
 | mk _ _ _ _ A cap css ht hn hs hc hm hA hk=>
  refine ⟨_,rfl,ht,hn,hs,A,cap,rfl,hc,hm,fun i x a=>?_⟩;obtain ⟨b,o,h1,c,d⟩:=hA i x a;exact ⟨b,o,css i,h1,c,d,(hk i x a).len,hk i x a⟩
theorem RepVa.of {v:Value} {t n:Int} {s:BA} {l:List Va} (ht:kg0 t) (hn:kg0 n) (hs:kon s) (h:Vas S w v l):RepVa S w [.int .i64 t, .int .i64 n, .string s,v] (.mk t n s l):=by
 obtain ⟨A,cap,rfl,hc,hm,c⟩:=h;have:∀ i:Nat,∃ cs:List Value,∀ x:Va,l[i]?=some x->(∃ b o,A=some ⟨b,o,none⟩/\S b/\At w b (o+i*4) cs)/\RepVa S w cs x:=fun i=>by
  cases hi:l[i]? with
  | none=>exact ⟨[],fun x h=>by cases h⟩
  | some x=>
   obtain ⟨b,o,cs,h1,d,e,_,f⟩:=c i x hi;exact ⟨cs,fun y g=>by cases g;exact ⟨⟨b,o,h1,d,e⟩,f⟩⟩
 obtain ⟨css,a⟩:=Classical.axiomOfChoice this;exact .mk t n s l A cap css ht hn hs hc hm (fun i x hi=>(a i x hi).1) (fun i x hi=>(a i x hi).2)
section
variable {T:Type} {size:Nat} {R:(Nat->Prop)->World->List Value->T->Prop} {v:Value} {l:List T}
end
def kx1 (S:Nat->Prop) (w:World) (cs:List Value) (x:Sy):Prop:=cs=[.string x.name, .int .i64 x.type]/\kon x.name/\kg0 x.type
def kxy (S:Nat->Prop) (w:World) (cs:List Value) (x:Ru):Prop:=
 ∃ c0 c1 c2 c3 v,cs=[.int .i64 x.symbol, .int .i64 x.kind, .int .i64 x.input,c0,c1,c2,c3, .string x.op,v]/\kg0 x.symbol/\kg0 x.kind/\kg0 x.input/\kon x.op/\RepVa S w [c0,c1,c2,c3] x.const/\Ints S w v x.args
abbrev Sys (S:Nat->Prop) (w:World) (v:Value) (l:List Sy):Prop:=RepSl S w 2 (kx1 S w) v l
abbrev Rus (S:Nat->Prop) (w:World) (v:Value) (l:List Ru):Prop:=RepSl S w 9 (kxy S w) v l
def k74 (S:Nat->Prop) (w:World) (cs:List Value) (x:La):Prop:=
 ∃ v1 v2 v3,cs=[.string x.name,v1,v2,v3]/\kon x.name/\Ints S w v1 x.inputs/\Sys S w v2 x.symbols/\Rus S w v3 x.rules
def LaV (S:Nat->Prop) (w:World) (v:Value) (x:La):Prop:=∃ cs:List Value,v = .agg cs.toArray/\k74 S w cs x
end
end Go.Proofs.YtpcfkflhnkfjjaaGreat
