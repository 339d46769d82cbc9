import Derived.Test.YtaimpcnpifoidaaGreatDoorDrz
set_option linter.unusedVariables false
set_option linter.unusedSimpArgs false
namespace Go.Proofs.YtaimpcnpifoidaaGreatDoor
open Go Go.RowKit
def kzi (l:List Oper) (n:Nat) (ai:List Nat) (st:St) (i:Nat) (o:Oper) (fs:List (Nat×Option Nat×AV)):St:=
 { st with tmps:=hadd fs (kmp o) (ko6 l i n++st.tmps),ids:=ai }
def kag6 (P:Program) (o:Oper) (c:AV) (id:Nat) (ob:AObj):Prop:=∀ st':St,st'.ids.contains id=false→kdf P o st' c ((id,ob)::st'.heap) (id::st'.ids)
def kagl (P:Program) (v:St) (o:Oper) (c:AV) (id:Nat) (ob:AObj):Prop:=∀ (hp':List (Nat×AObj)) (ids':List Nat),kab hp' id=kab v.heap id→kdf P o { v with heap:=hp',ids:=ids' } c ((id,ob)::hp') ids'
def befB (l:List Oper) (i id:Nat) (es:List (Nat×Nat)):Bool:=es.all fun e=>!(e.2 == id) || anc l i e.1
def ky9 (P:Program) (os:Array Oper) (n:Nat) (ai:List Nat) (Q:Exit→St→Prop) (st:St):Nat→Nat→List Oper→List (Nat×Option Nat×AV)→List (Nat×AObj)→List Nat→List (Nat×Nat)→Prop
 | 0,_,l,fs,hp,nid,_=>awpL P os l { st with tmps:=hadd fs (fun _=>true) st.tmps,heap:=hp++st.heap,ids:=nid++st.ids } Q
 | k+1,i,o::l,fs,hp,nid,es=>
  (∃ c,k76 P os (kzi os.toList n ai st i o fs) o c∧okA st.ids c=true∧ky9 P os n ai Q st k (i+1) l ((i,o.dst,c)::fs) hp nid es) ∨
  (∃ c id ob,kdv os (kzi os.toList n ai st i o fs) o=some true∧kag6 P o c id ob∧(st.ids.contains id || (st.heap.any fun q=>q.1 == id) || (es.any fun q=>q.2 == id) || !ai.contains id)=false∧ky9 P os n ai Q st k (i+1) l ((i,o.dst,c)::fs) ((id,ob)::hp) (id::nid) ((i,id)::es)) ∨
  (∃ c id ob,kdv os (kzi os.toList n ai st i o fs) o=some true∧kagl P { kzi os.toList n ai st i o fs with heap:=hp++st.heap } o c id ob∧(st.heap.any fun q=>q.1 == id)=false∧befB os.toList i id es=true∧ky9 P os n ai Q st k (i+1) l ((i,o.dst,c)::fs) ((id,ob)::hp) nid ((i,id)::es))
 | _+1,_,[],_,_,_,_=>False
section
variable {P:Program} {F S0:Nat→Prop} {N0:Nat} {w w':World} {S S':Nat→Prop} {ψ ψ':Env} {Q:Exit→St→Prop} {st:St} {os:Array Oper} {n:Nat} {ai:List Nat}
end
end Go.Proofs.YtaimpcnpifoidaaGreatDoor
