import Derived.Test.YtaimpcnpifoidaaGreatDoorCd
import Derived.Test.YtaimpcnpifoidaaGreatDoorTy
set_option linter.unusedVariables false
set_option linter.unusedSimpArgs false
namespace Go.Proofs.YtaimpcnpifoidaaGreatDoor
open Go Go.RowKit
inductive Va where
 | mk (type num:Int) (text:BA) (items:List Va)
namespace Va
def type:Va→Int | mk t _ _ _=>t
def num:Va→Int | mk _ n _ _=>n
def text:Va→BA | mk _ _ s _=>s
def items:Va→List Va | mk _ _ _ l=>l
theorem ind {P:Va→Prop} (h:∀ t n s l,(∀ v∈l,P v)→P (mk t n s l)) (v:Va):P v:=
 Va.rec (motive_1:=P) (motive_2:=fun l=>∀ t∈l,P t) (fun t n s l ih=>h t n s l ih) (fun _ h=>nomatch h)
  (fun t l h1 h2 x hx=>(qz.1 hx).elim (fun e=>e ▸ h1) (h2 x)) v
end Va
structure Sy where
 name:BA
 type:Int
structure Ru where
 symbol:Int
 kind:Int
 input:Int
 const:Va
 op:BA
 args:List Int
structure La where
 name:BA
 inputs:List Int
 symbols:List Sy
 rules:List Ru
def Short (s:BA):Prop:=s.size≤9223372036854775807
section
variable {S S':Nat→Prop} {w w':World}
inductive kac1 (S:Nat→Prop) (w:World):List Value→Va→Prop where
 | mk (t n:Int) (s:BA) (kids:List Va) (A:Option Addr) (cap:Nat) (css:Nat→List Value) (ht:kz4 t) (hn:kz4 n) (hs:Short s) (hc:kids.length≤cap) (hm:cap≤9223372036854775807)
  (hA:∀ (i:Nat) (x:Va),kids[i]?=some x→∃ b o,A=some ⟨b,o,none⟩∧S b∧At w b (o+i*4) (css i))
  (hk:∀ (i:Nat) (x:Va),kids[i]?=some x→kac1 S w (css i) x):kac1 S w [.int .i64 t, .int .i64 n, .string s, .slice A kids.length cap] (.mk t n s kids)
section
variable {T:Type} {size:Nat} {R:(Nat→Prop)→World→List Value→T→Prop} {v:Value} {l:List T}
end
end
end Go.Proofs.YtaimpcnpifoidaaGreatDoor
set_option linter.unusedVariables false
set_option linter.unusedSimpArgs false
namespace Go.Proofs.YtaimpcnpifoidaaGreatDoor
open Go Go.RowKit
inductive Tm where
 | mk (rule:Int) (args:List Tm)
namespace Tm
def rule:Tm→Int | mk r _=>r
def args:Tm→List Tm | mk _ l=>l
end Tm
section
variable {S S':Nat→Prop} {w w':World}
inductive kacz (S:Nat→Prop) (w:World):List Value→Tm→Prop where
 | mk (r:Int) (kids:List Tm) (A:Option Addr) (cap:Nat) (css:Nat→List Value) (hr:kz4 r) (hc:kids.length≤cap) (hm:cap≤9223372036854775807)
  (hA:∀ (i:Nat) (x:Tm),kids[i]?=some x→∃ b o,A=some ⟨b,o,none⟩∧S b∧At w b (o+i*2) (css i))
  (hk:∀ (i:Nat) (x:Tm),kids[i]?=some x→kacz S w (css i) x):kacz S w [.int .i64 r, .slice A kids.length cap] (.mk r kids)
end
end Go.Proofs.YtaimpcnpifoidaaGreatDoor
set_option linter.unusedVariables false
set_option linter.unusedSimpArgs false
namespace Go.Proofs.YtaimpcnpifoidaaGreatDoor
open Go Go.RowKit
mutual
def eVaR:Va→FV
 | .mk t n s l => .agg [eI t,eI n,eS s, .lst 4 l.length (kwn l)]
def kwn:List Va→List FV
 | []=>[]
 | x::l=>eVaR x::kwn l
end
def eVa (x:Va):FV := .agg [eI x.type,eI x.num,eS x.text,eL 4 eVaR x.items]
theorem k2p:∀ l:List Va,kwn l=l.map eVaR
 | []=>by simp [kwn]
 | x::l=>by simp [kwn,k2p l]
theorem kkr (x:Va):eVaR x=eVa x:=by
 cases x;simp [eVaR,eVa,k2p,eL,Va.type,Va.num,Va.text,Va.items]
theorem kw1 (x:Va):(eVaR x).cells=(eVa x).cells:=by rw [kkr]
theorem k2n (x:Va):(eVaR x).cells.length=4:=by rw [kkr];rfl
mutual
def eTmR:Tm→FV
 | .mk r l => .agg [eI r, .lst 2 l.length (kxb l)]
def kxb:List Tm→List FV
 | []=>[]
 | x::l=>eTmR x::kxb l
end
def eTm (x:Tm):FV := .agg [eI x.rule,eL 2 eTmR x.args]
theorem k2b:∀ l:List Tm,kxb l=l.map eTmR
 | []=>by simp [kxb]
 | x::l=>by simp [kxb,k2b l]
theorem krh (x:Tm):eTmR x=eTm x:=by
 cases x;simp [eTmR,eTm,k2b,eL,Tm.rule,Tm.args]
theorem k6a (x:Tm):(eTmR x).cells=(eTm x).cells:=by rw [krh]
theorem kacl (x:Tm):(eTmR x).cells.length=2:=by rw [krh];rfl
def eSy (x:Sy):FV := .agg [eS x.name,eI x.type]
def eRu (x:Ru):FV := .agg [eI x.symbol,eI x.kind,eI x.input,eI x.const.type,eI x.const.num,eS x.const.text,eL 4 eVaR x.const.items,eS x.op,eL 1 eI x.args]
def eLa (x:La):FV := .agg [eS x.name,eL 1 eI x.inputs,eL 2 eSy x.symbols,eL 9 eRu x.rules]
end Go.Proofs.YtaimpcnpifoidaaGreatDoor
