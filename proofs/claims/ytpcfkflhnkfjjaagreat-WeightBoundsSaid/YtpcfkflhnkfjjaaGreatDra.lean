import Derived.Test.YtpcfkflhnkfjjaaGreatDrz
set_option linter.all false
namespace Go.Proofs.YtpcfkflhnkfjjaaGreat
open Go Go.RowKit
def ks2 (l:List Oper) (n:Nat) (ai:List Nat) (st:St) (i:Nat) (o:Oper) (fs:List (Nat×Option Nat×AV)):St:=
 { st with tmps:=hadd fs (kj7 o) (kl9 l i n++st.tmps),ids:=ai }
def k77 (P:Program) (v:St) (o:Oper) (c:AV) (id:Nat) (ob:AObj):Prop:=∀ (a:List (Nat×AObj)) (ids':List Nat),ids'.contains id=false->StepA P o { v with heap:=a,ids:=ids' } c ((id,ob)::a) (id::ids')
def k76 (P:Program) (v:St) (o:Oper) (c:AV) (id:Nat) (ob:AObj):Prop:=∀ (a:List (Nat×AObj)) (ids':List Nat),kae a id=kae v.heap id->StepA P o { v with heap:=a,ids:=ids' } c ((id,ob)::a) ids'
def befB (l:List Oper) (i id:Nat) (es:List (Nat×Nat)):Bool:=es.all fun e=>!(e.2 == id) || anc l i e.1
def idsB (l:List Oper) (i:Nat) (nid:List Nat) (es:List (Nat×Nat)) (ids:List Nat):List Nat:=nid.filter (fun id=>befB l i id es)++ids
def kuq (P:Program) (os:Array Oper) (n:Nat) (ai:List Nat) (Q:Exit->St->Prop) (st:St):Nat->Nat->List Oper->List (Nat×Option Nat×AV)->List (Nat×AObj)->List Nat->List (Nat×Nat)->Prop
 | 0,_,l,fs,hp,nid,_=>awpL P os l { st with tmps:=hadd fs (fun _=>true) st.tmps,heap:=hp++st.heap,ids:=nid++st.ids } Q
 | k+1,i,o::l,fs,hp,nid,es=>
  (∃ c,k1r P os (ks2 os.toList n ai st i o fs) o c/\okA (idsB os.toList i nid es st.ids) c=true/\kuq P os n ai Q st k (i+1) l ((i,o.dst,c)::fs) hp nid es) \/
  (∃ c id ob,kcz os (ks2 os.toList n ai st i o fs) o=some true/\k77 P (ks2 os.toList n ai st i o fs) o c id ob/\(st.ids.contains id || (st.heap.any fun q=>q.1 == id) || (es.any fun q=>q.2 == id) || !ai.contains id)=false/\kuq P os n ai Q st k (i+1) l ((i,o.dst,c)::fs) ((id,ob)::hp) (id::nid) ((i,id)::es)) \/
  (∃ c id ob,kcz os (ks2 os.toList n ai st i o fs) o=some true/\k76 P { ks2 os.toList n ai st i o fs with heap:=hp++st.heap } o c id ob/\(st.heap.any fun q=>q.1 == id)=false/\befB os.toList i id es=true/\kuq P os n ai Q st k (i+1) l ((i,o.dst,c)::fs) ((id,ob)::hp) nid ((i,id)::es))
 | _+1,_,[],_,_,_,_=>False
section
variable {P:Program} {F S0:Nat->Prop} {N0:Nat} {w w':World} {S S':Nat->Prop} {ψ ψ':Env} {Q:Exit->St->Prop} {st:St} {os:Array Oper} {n:Nat} {ai:List Nat}
end
end Go.Proofs.YtpcfkflhnkfjjaaGreat
