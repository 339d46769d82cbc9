import Derived.Test.YtchjomeomabamaaGreatDoorDrz
import Derived.Deep.AppendSrc
set_option linter.all false
namespace Go.Proofs.YtchjomeomabamaaGreatDoor
open Go Go.RowKit
abbrev Ent:=Bool×Nat×AObj
def hpD (x:Nat->Option Ent) (p:Nat->Bool):Nat->List (Nat×AObj)
 | 0=>[]
 | k+1=>match x k with
  | some q=>bif p k then q.2::hpD x p k else hpD x p k
  | none=>hpD x p k
def idD (x:Nat->Option Ent) (p:Nat->Bool):Nat->List Nat
 | 0=>[]
 | k+1=>match x k with
  | some q=>bif p k && q.1 then q.2.1::idD x p k else idD x p k
  | none=>idD x p k
theorem kn5 {x:Nat->Option Ent} {p q:Nat->Bool}:∀ {k:Nat},(∀ j,j<k->x j≠none->p j=q j)->hpD x p k=hpD x q k
 | 0,_=>rfl
 | k+1,h=>by
  have ih:=kn5 (k:=k) fun j b=>h j (by omega);simp only [hpD];cases a:x k with
  | none=>exact ih
  | some r=>rw [ih,h k (by omega) (by rw [a];exact fun h=>by cases h)]
theorem kuh {x:Nat->Option Ent} {p q:Nat->Bool}:∀ {k:Nat},(∀ j,j<k->x j≠none->p j=q j)->idD x p k=idD x q k
 | 0,_=>rfl
 | k+1,h=>by
  have ih:=kuh (k:=k) fun j b=>h j (by omega);simp only [idD];cases a:x k with
  | none=>exact ih
  | some r=>rw [ih,h k (by omega) (by rw [a];exact fun h=>by cases h)]
theorem kwp {x:Nat->Option Ent} {p:Nat->Bool}:∀ {k:Nat},(∀ j,j<k->p j=false)->hpD x p k=[]
 | 0,_=>rfl
 | k+1,h=>by simp only [hpD];rw [kwp (k:=k) fun j a=>h j (by omega),h k (by omega)];cases x k <;> rfl
theorem k2p {x:Nat->Option Ent} {p:Nat->Bool}:∀ {k:Nat},(∀ j,j<k->p j=false)->idD x p k=[]
 | 0,_=>rfl
 | k+1,h=>by simp only [idD];rw [k2p (k:=k) fun j a=>h j (by omega),h k (by omega)];cases x k <;> rfl
theorem k0l {x y:Nat->Option Ent} {p:Nat->Bool}:∀ {k:Nat},(∀ j,j<k->x j=y j)->hpD x p k=hpD y p k
 | 0,_=>rfl
 | k+1,h=>by simp only [hpD];rw [k0l (k:=k) fun j a=>h j (by omega),h k (by omega)]
theorem k0p {x y:Nat->Option Ent} {p:Nat->Bool}:∀ {k:Nat},(∀ j,j<k->x j=y j)->idD x p k=idD y p k
 | 0,_=>rfl
 | k+1,h=>by simp only [idD];rw [k0p (k:=k) fun j a=>h j (by omega),h k (by omega)]
theorem idD_mem {x:Nat->Option Ent} {p:Nat->Bool} {id:Nat}:∀ {k:Nat},id∈idD x p k↔∃ j ob,j<k/\p j=true/\x j=some (true,id,ob)
 | 0=>⟨fun h=>(by cases h),fun ⟨j,_,h,_⟩=>by omega⟩
 | k+1=>by
  have ih:=idD_mem (x:=x) (p:=p) (id:=id) (k:=k);have up:(∃ j ob,j<k/\p j=true/\x j=some (true,id,ob))->∃ j ob,j<k+1/\p j=true/\x j=some (true,id,ob):=fun ⟨j,ob,h1,b⟩=>⟨j,ob,by omega,b⟩;have down:(p k=true->∀ ob,x k≠some (true,id,ob))->(∃ j ob,j<k+1/\p j=true/\x j=some (true,id,ob))->∃ j ob,j<k/\p j=true/\x j=some (true,id,ob):=fun hk ⟨j,ob,h1,b,g⟩=>⟨j,ob,by
   by_cases i:j=k;subst i;exact absurd g (hk b ob)
   ·omega,b,g⟩
  simp only [idD];cases c:x k with
  | none=>
   simp only;rw [ih];exact ⟨up,down fun _ ob h=>by rw [c] at h;cases h⟩
  | some r=>
   simp only;obtain ⟨r1,r2,r3⟩:=r;cases hp:(p k && r1) with
   | false=>
    simp only [qd];rw [ih];refine ⟨up,down fun d ob h=>?_⟩;rw [c] at h;cases h;rw [d] at hp;cases hp
   | true=>
    rw [qv] at hp;obtain ⟨e,f⟩:=hp;subst f;simp only [qe,qam];rw [ih];refine ⟨fun h=>h.elim (fun h=>⟨k,r3,by omega,e,by rw [c,h]⟩) up,fun h=>?_⟩;by_cases a:id=r2;exact .inl a
    ·refine .inr (down (fun _ ob h=>?_) h);rw [c] at h;cases h;exact a rfl
theorem k4u {x:Nat->Option Ent} {p q:Nat->Bool} {i id:Nat} {f:Bool} {ob:AObj} {H:List (Nat×AObj)} (o:x i=some (f,id,ob)) (b:∀ j,q j=true↔j=i\/p j=true) (c:p i=false) (id':Nat):
  ∀ {k:Nat},i<k->(∀ j,j<k->i<j->p j=true->∀ f' ob',x j≠some (f',id,ob'))->kaa (hpD x q k++H) id'=if id=id' then some ob else kaa (hpD x p k++H) id'
 | 0,h,_=>by omega
 | k+1,h,hl=>by
  simp only [hpD];by_cases d:k=i
  ·subst d;have e:hpD x q k=hpD x p k:=kn5 fun j s _=>by
    cases hp:p j with
    | true=>exact (b j).2 (.inr hp)
    | false=>
     cases g:q j with
     | false=>rfl
     | true=>
       rcases (b j).1 g with h | h;omega
       ·rw [hp] at h;cases h
   rw [o];simp only [(b k).2 (.inl rfl),c,qe,qd];rw [qbp,kae,e]
  ·have ih:=k4u o b c id' (k:=k) (H:=H) (by omega) (fun j s=>hl j (by omega));cases l:x k with
   | none=>simp only;exact ih
   | some r=>
    simp only;obtain ⟨r1,r2,r3⟩:=r;cases a:p k with
    | false=>
     have:q k=false:=by
      cases m:q k with
      | false=>rfl
      | true=>
        rcases (b k).1 m with h | h;exact absurd h d
        ·rw [a] at h;cases h
     rw [this];simp only [qd];exact ih
    | true=>
     rw [(b k).2 (.inr a)];simp only [qe,qbp];rw [kae,kae];have n:r2≠id:=fun h=>hl k (by omega) (by omega) a r1 r3 (by rw [l,h]);by_cases h1:r2=id';rw [qp h1,qp h1,ql (by rintro rfl;exact n h1)]
     ·rw [ql h1,ql h1];exact ih
theorem kwf {x:Nat->Option Ent} {p q:Nat->Bool} {id:Nat} {H:List (Nat×AObj)}:∀ {k:Nat},(∀ j,j<k->∀ f ob,x j=some (f,id,ob)->p j=q j)->kaa (hpD x p k++H) id=kaa (hpD x q k++H) id
 | 0,_=>rfl
 | k+1,h=>by
  have ih:=kwf (k:=k) (H:=H) fun j d=>h j (by omega);simp only [hpD];cases c:x k with
  | none=>exact ih
  | some r=>
   obtain ⟨r1,r2,r3⟩:=r;simp only;by_cases a:r2=id
   ·subst a;rw [h k (by omega) r1 r3 c];cases q k with
    | false=>exact ih
    | true=>simp only [qe,qbp,kae,if_true]
   ·have go:∀ b:Bool,kaa ((bif b then (r2,r3)::hpD x p k else hpD x p k)++H) id=kaa (hpD x p k++H) id:=fun b=>by
     cases b with
     | false=>rfl
     | true=>simp only [qe,qbp,kae,ql a]
    have go':∀ b:Bool,kaa ((bif b then (r2,r3)::hpD x q k else hpD x q k)++H) id=kaa (hpD x q k++H) id:=fun b=>by
     cases b with
     | false=>rfl
     | true=>simp only [qe,qbp,kae,ql a]
    rw [go,go',ih]
theorem kaem {x:Nat->Option Ent} {p:Nat->Bool} {id:Nat} {H:List (Nat×AObj)} {k:Nat} (h:∀ j,j<k->∀ f ob,x j≠some (f,id,ob)):kaa (hpD x p k++H) id=kaa H id:=by rw [kwf (q:=fun _=>false) fun j a f ob b=>absurd b (h j a f ob),kwp fun _ _=>rfl];rfl
theorem kxj {F S0:Nat->Prop} {N0:Nat} {hp a:List (Nat×AObj)} {ids ids':List Nat} {ψ:Env} {S:Nat->Prop} {w:World} (h1:∀ id,kaa hp id=kaa a id) (d:∀ id,id∈ids↔id∈ids') (h:Core F S0 N0 hp ids ψ S w):Core F S0 N0 a ids' ψ S w:=by have hK:(fun id=>id∈ids)=(fun id=>id∈ids'):=funext fun id=>propext (d id);refine ⟨fun id o ho=>?_,fun id id' o o' b ho c=>h.inj id id' o o' b (by rw [h1];exact ho) (by rw [h1];exact c),h.lt,h.s0,h.n0,h.fr⟩;obtain ⟨e1,e2,e3⟩:=h.obj id o (by rw [h1];exact ho);refine ⟨(d id).1 e1,?_,e3⟩;have e2:ObR ψ (fun id=>id∈ids) S w id o:=e2;rw [hK] at e2;exact e2
def khm (l:List Oper) (n:Nat) (ai:List Nat) (st:St) (i:Nat) (o:Oper) (fs:List (Nat×Option Nat×AV)):St:=
 { st with tmps:=hadd fs (kiu o) (kjz l i n++st.tmps),ids:=ai }
def k6j (P:Program) (v:St) (o:Oper) (c:AV) (id:Nat) (ob:AObj):Prop:=∀ (a:List (Nat×AObj)) (ids':List Nat),ids'.contains id=false->kau P o { v with heap:=a,ids:=ids' } c ((id,ob)::a) (id::ids')
def k6i (P:Program) (v:St) (o:Oper) (c:AV) (id:Nat) (ob:AObj):Prop:=∀ (a:List (Nat×AObj)) (ids':List Nat),kaa a id=kaa v.heap id->kau P o { v with heap:=a,ids:=ids' } c ((id,ob)::a) ids'
def befB (l:List Oper) (i id:Nat) (es:List (Nat×Nat)):Bool:=es.all fun e=>!(e.2 == id) || anc l i e.1
def idsB (l:List Oper) (i:Nat) (nid:List Nat) (es:List (Nat×Nat)) (ids:List Nat):List Nat:=nid.filter (fun id=>befB l i id es)++ids
def ksf (P:Program) (os:Array Oper) (n:Nat) (ai:List Nat) (Q:Exit->St->Prop) (st:St):Nat->Nat->List Oper->List (Nat×Option Nat×AV)->List (Nat×AObj)->List Nat->List (Nat×Nat)->Prop
 | 0,_,l,fs,hp,nid,_=>awpL P os l { st with tmps:=hadd fs (fun _=>true) st.tmps,heap:=hp++st.heap,ids:=nid++st.ids } Q
 | k+1,i,o::l,fs,hp,nid,es=>
  (∃ c,kse P os (khm os.toList n ai st i o fs) o c/\okA (idsB os.toList i nid es st.ids) c=true/\ksf P os n ai Q st k (i+1) l ((i,o.dst,c)::fs) hp nid es) \/
  (∃ c id ob,kb2 os (khm os.toList n ai st i o fs) o=some true/\k6j P (khm os.toList n ai st i o fs) o c id ob/\(st.ids.contains id || (st.heap.any fun q=>q.1 == id) || (es.any fun q=>q.2 == id) || !ai.contains id)=false/\ksf P os n ai Q st k (i+1) l ((i,o.dst,c)::fs) ((id,ob)::hp) (id::nid) ((i,id)::es)) \/
  (∃ c id ob,kb2 os (khm os.toList n ai st i o fs) o=some true/\k6i P { khm os.toList n ai st i o fs with heap:=hp++st.heap } o c id ob/\(st.heap.any fun q=>q.1 == id)=false/\befB os.toList i id es=true/\ksf P os n ai Q st k (i+1) l ((i,o.dst,c)::fs) ((id,ob)::hp) nid ((i,id)::es))
 | _+1,_,[],_,_,_,_=>False
variable {P:Program} {F S0:Nat->Prop} {N0:Nat} {w w':World} {S S':Nat->Prop} {ψ ψ':Env} {Q:Exit->St->Prop} {st:St} {os:Array Oper} {n:Nat} {ai:List Nat}
def esD (x:Nat->Option Ent):Nat->List (Nat×Nat)
 | 0=>[]
 | k+1=>match x k with
  | some q=>(k,q.2.1)::esD x k
  | none=>esD x k
theorem k0o {x y:Nat->Option Ent}:∀ {k:Nat},(∀ j,j<k->x j=y j)->esD x k=esD y k
 | 0,_=>rfl
 | k+1,h=>by simp only [esD];rw [k0o (k:=k) fun j a=>h j (by omega),h k (by omega)]
theorem ku3 {x:Nat->Option Ent} {j:Nat} {f:Bool} {id:Nat} {ob:AObj} (b:x j=some (f,id,ob)):∀ {k:Nat},j<k->(j,id)∈esD x k
 | 0,h=>by omega
 | k+1,h=>by
  simp only [esD];by_cases a:j=k;subst a;rw [b];exact qn ..
  ·have:=ku3 b (k:=k) (by omega);cases x k with
   | none=>exact this
   | some r=>exact qj _ this
def FactY (P:Program) (os:Array Oper) (n:Nat) (ai:List Nat) (st:St) (c:Nat->AV) (x:Nat->Option Ent) (i:Nat) (o:Oper):Prop:=
 (x i=none/\kse P os (khm os.toList n ai st i o (fsOf os.toList c i)) o (c i)/\okA (idsB os.toList i (idD x (fun _=>true) i) (esD x i) st.ids) (c i)=true) \/
 (∃ id ob,x i=some (true,id,ob)/\kb2 os (khm os.toList n ai st i o (fsOf os.toList c i)) o=some true/\k6j P (khm os.toList n ai st i o (fsOf os.toList c i)) o (c i) id ob/\id∉st.ids/\(∀ q∈st.heap,q.1≠id)/\(∀ j,j<i->∀ f ob',x j≠some (f,id,ob'))/\id∈ai) \/
 (∃ id ob,x i=some (false,id,ob)/\kb2 os (khm os.toList n ai st i o (fsOf os.toList c i)) o=some true/\k6i P { khm os.toList n ai st i o (fsOf os.toList c i) with heap:=hpD x (fun _=>true) i++st.heap } o (c i) id ob/\(∀ q∈st.heap,q.1≠id)/\∀ j,j<i->∀ f ob',x j=some (f,id,ob')->anc os.toList i j=true)
theorem kox:∀ (k i:Nat) (l:List Oper) (c0:Nat->AV) (x0:Nat->Option Ent),os.toList.drop i=l->i+k=n ->
  ksf P os n ai Q st k i l (fsOf os.toList c0 i) (hpD x0 (fun _=>true) i) (idD x0 (fun _=>true) i) (esD x0 i) ->
  ∃ c x,(∀ j,j<i->c j=c0 j)/\(∀ j,j<i->x j=x0 j)/\(∀ j o,i<=j->j<n->os.toList[j]?=some o->FactY P os n ai st c x j o) /\
   awpL P os (os.toList.drop n) { st with tmps:=hadd (fsOf os.toList c n) (fun _=>true) st.tmps,heap:=hpD x (fun _=>true) n++st.heap,ids:=idD x (fun _=>true) n++st.ids } Q
 | 0,i,l,c0,x0,hl,hn,h=>by
  obtain rfl:i=n:=by omega
  subst hl;exact ⟨c0,x0,fun _ _=>rfl,fun _ _=>rfl,fun j o h1 t=>by omega,h⟩
 | k+1,i,l,c0,x0,hl,hn,h=>by
  cases l with
  | nil=>exact h.elim
  | cons o l=>
   have d:os.toList[i]?=some o:=(by have:=qan (·[0]?) hl;simpa using this);have g:os.toList.drop (i+1)=l:=(by rw [<- List.drop_drop,hl];rfl);have A:dstT os.toList i=o.dst:=(by unfold dstT;rw [d];rfl);have cons:∀ c,(i,o.dst,c)::fsOf os.toList c0 i=fsOf os.toList (fun j=>if j=i then c else c0 j) (i+1):=fun c=>(by simp only [fsOf,A,if_true];rw [khz (k:=i) (c':=fun j=>if j=i then c else c0 j) fun j p=>by rw [ql (by omega)]]);have ex:∀ q:Option Ent,∀ j,j<i->(fun j=>if j=i then q else x0 j) j=x0 j:=fun q j p=>(by show (if j=i then q else x0 j)=x0 j;rw [ql (by omega)]);have xi:∀ q:Option Ent,(fun j=>if j=i then q else x0 j) i=q:=fun q=>(by show (if i=i then q else x0 i)=q;rw [qp rfl]);have c1h:∀ r:Ent,hpD (fun j=>if j=i then some r else x0 j) (fun _=>true) (i+1)=r.2::hpD x0 (fun _=>true) i:=fun r=>(by simp only [hpD,if_true,qe];rw [k0l (ex (some r))]);have c1i:∀ r:Ent,idD (fun j=>if j=i then some r else x0 j) (fun _=>true) (i+1)=bif r.1 then r.2.1::idD x0 (fun _=>true) i else idD x0 (fun _=>true) i:=fun r=>(by simp only [idD,if_true,Bool.true_and];rw [k0p (ex (some r))]);have c1e:∀ r:Ent,esD (fun j=>if j=i then some r else x0 j) (i+1)=(i,r.2.1)::esD x0 i:=fun r=>(by simp only [esD,if_true];rw [k0o (ex (some r))]);have c0h:hpD (fun j=>if j=i then none else x0 j) (fun _=>true) (i+1)=hpD x0 (fun _=>true) i:=(by simp only [hpD,if_true];exact k0l (ex none));have c0i:idD (fun j=>if j=i then none else x0 j) (fun _=>true) (i+1)=idD x0 (fun _=>true) i:=(by simp only [idD,if_true];exact k0p (ex none));have c0e:esD (fun j=>if j=i then none else x0 j) (i+1)=esD x0 i:=(by simp only [esD,if_true];exact k0o (ex none));rcases h with ⟨c,hf,v,h⟩ | ⟨c,id,ob,w,hf,e,h⟩ | ⟨c,id,ob,w,hf,e,u,h⟩
   ·rw [cons,<- c0h,<- c0i,<- c0e] at h;obtain ⟨c1,x1,k1,k2,k4,k5⟩:=kox k (i+1) l _ _ g (by omega) h;have e1:∀ j,j<i->c1 j=c0 j:=fun j p=>(by rw [k1 j (by omega),ql (by omega)]);have e2:c1 i=c:=(by rw [k1 i (by omega),qp rfl]);have e3:∀ j,j<i->x1 j=x0 j:=fun j p=>(by rw [k2 j (by omega),ql (by omega)]);refine ⟨c1,x1,e1,e3,fun j o' h1 t ho=>?_,k5⟩;by_cases a:j=i;subst a;rw [d] at ho;obtain rfl:=qaj ho;refine .inl ⟨by rw [k2 j (by omega),qp rfl],?_⟩;rw [khz e1,e2,k0p e3,k0o e3];exact ⟨hf,v⟩
    ·exact k4 j o' (by omega) t ho
   ·rw [cons,<- c1h (true,id,ob),show id::idD x0 (fun _=>true) i=_ from (c1i (true,id,ob)).symm,show (i,id)::esD x0 i=_ from (c1e (true,id,ob)).symm] at h;obtain ⟨c1,x1,k1,k2,k4,k5⟩:=kox k (i+1) l _ _ g (by omega) h;have e1:∀ j,j<i->c1 j=c0 j:=fun j p=>(by rw [k1 j (by omega),ql (by omega)]);have e2:c1 i=c:=(by rw [k1 i (by omega),qp rfl]);have e3:∀ j,j<i->x1 j=x0 j:=fun j p=>(by rw [k2 j (by omega),ql (by omega)]);refine ⟨c1,x1,e1,e3,fun j o' h1 t ho=>?_,k5⟩;by_cases a:j=i
    ·subst a;rw [d] at ho;obtain rfl:=qaj ho;simp only [Bool.or_eq_false_iff,Bool.not_eq_false'] at e;obtain ⟨⟨⟨g1,g2⟩,g3⟩,g4⟩:=e;refine .inr (.inl ⟨id,ob,by rw [k2 j (by omega),qp rfl],?_⟩);rw [khz e1,e2];refine ⟨w,hf,by simpa using g1,fun q y s=>?_,fun m hm f ob' z=>?_,by simpa using g4⟩;exact List.any_eq_false.1 g2 q y (by simpa using s)
     ·have b:(m,id)∈esD x0 j:=ku3 (by rw [<- e3 m hm];exact z) hm;exact List.any_eq_false.1 g3 _ b (by simp)
    ·exact k4 j o' (by omega) t ho
   ·rw [cons,<- c1h (false,id,ob),show idD x0 (fun _=>true) i=_ from (c1i (false,id,ob)).symm,show (i,id)::esD x0 i=_ from (c1e (false,id,ob)).symm] at h;obtain ⟨c1,x1,k1,k2,k4,k5⟩:=kox k (i+1) l _ _ g (by omega) h;have e1:∀ j,j<i->c1 j=c0 j:=fun j p=>(by rw [k1 j (by omega),ql (by omega)]);have e2:c1 i=c:=(by rw [k1 i (by omega),qp rfl]);have e3:∀ j,j<i->x1 j=x0 j:=fun j p=>(by rw [k2 j (by omega),ql (by omega)]);refine ⟨c1,x1,e1,e3,fun j o' h1 t ho=>?_,k5⟩;by_cases a:j=i;subst a;rw [d] at ho;obtain rfl:=qaj ho;refine .inr (.inr ⟨id,ob,by rw [k2 j (by omega),qp rfl],?_⟩);rw [khz e1,e2,k0l e3];refine ⟨w,hf,fun q y s=>List.any_eq_false.1 e q y (by simpa using s),fun m hm f ob' z=>?_⟩;have b:(m,id)∈esD x0 j:=ku3 (by rw [<- e3 m hm];exact z) hm;have:=qs.1 u _ b;simpa using this
    ·exact k4 j o' (by omega) t ho
def stY (l:List Oper) (n:Nat) (st:St) (c:Nat->AV) (x:Nat->Option Ent) (listed:Array Bool):St:=
 { st with tmps:=kix (fsOf l c n) (fun j=>listed.getD j false) st.tmps,heap:=hpD x (fun j=>listed.getD j false) n++st.heap,ids:=idD x (fun j=>listed.getD j false) n++st.ids }
structure DSY (F S0:Nat->Prop) (N0:Nat) (w0:World) (l:List Oper) (n:Nat) (st:St) (c:Nat->AV) (x:Nat->Option Ent) (listed:Array Bool) (a:Act) (w:World):Prop where
 inv:∃ ψ S,Sim F S0 N0 (stY l n st c x listed) ψ S a w
 fr:Fr F w0 w
 lsize:listed.size=l.length
 closed:∀ k o,listed.getD k false=true->l[k]?=some o->∀ e∈o.after,Region.binds .any e=true->listed.getD e.on false=true
theorem kadv (hm:P.follows .mixedOrders=true) {id:Nat} {l:List Oper} (hB:relB l n st.n=true) (bb:st.ids.all ai.contains=true)
  (h:ksf P l.toArray n ai Q st n 0 l [] [] [] []):awp P (.region id l.toArray true) st Q:=by
 have ok:=kyn hB;obtain ⟨c,x,_,_,C,aq⟩:=kox (os:=l.toArray) n 0 l (fun _ => .any) (fun _=>none) rfl (by omega) h;simp only [List.toList_toArray] at C aq;have aa:∀ j j' f f' i ob ob',j<j'->j'<n->x j=some (f,i,ob)->x j'=some (f',i,ob')->anc l j' j=true:=fun j j' f f' i ob ob' ak bc h1 G=>by
  have B:j'<l.length:=by have:=ok.len;omega
  rcases C j' l[j'] (qau _) bc (qa B) with ⟨h,_⟩ | ⟨i',ob'',h,_,_,_,_,h6,_⟩ | ⟨i',ob'',h,_,_,_,h6⟩;rw [G] at h;cases h;rw [G] at h;cases h;exact absurd h1 (h6 j ak f ob)
  ·rw [G] at h;cases h;exact h6 j ak f ob h1
 have az:∀ j f i ob,j<n->x j=some (f,i,ob)->∀ q∈st.heap,q.1≠i:=fun j f i ob y D=>by
  have B:j<l.length:=by have:=ok.len;omega
  rcases C j l[j] (qau _) y (qa B) with ⟨h,_⟩ | ⟨i',ob'',h,_,_,_,h5,_,_⟩ | ⟨i',ob'',h,_,_,h5,_⟩;rw [D] at h;cases h;rw [D] at h;cases h;exact h5
  ·rw [D] at h;cases h;exact h5
 have ab:∀ (p:Nat->Bool) i,i∈idD x p n++st.ids->i∈ai:=fun p i hi=>by
  rcases qab.1 hi with hi | hi
  ·obtain ⟨j,ob,y,_,D⟩:=idD_mem.1 hi;have B:j<l.length:=(by have:=ok.len;omega);rcases C j l[j] (qau _) y (qa B) with ⟨h,_⟩ | ⟨i',ob'',h,_,_,_,_,_,h7⟩ | ⟨i',ob'',h,_⟩;rw [D] at h;cases h;rw [D] at h;cases h;exact h7
   ·rw [D] at h;cases h
  ·simpa using qs.1 bb i hi
 intro F S0 N0 ψ0 Sa a0 w0 z;have hs1:Sim F S0 N0 st ψ0 Sa a0 w0.drew:=⟨z.defers,z.size,fun t=>(z.tmps t).keep Ext.refl (fun _ h=>h) (fun _ h=>h) (fun _ _ _=>rfl),⟨fun id ob ho=>by obtain ⟨e1,e2,e3⟩:=z.core.obj id ob ho;exact ⟨e1,e2.keep Ext.refl (fun _ h=>h) (fun _ h=>h) (fun _ _ _=>rfl) ⟨rfl,rfl⟩ (fun _ _=>rfl),e3⟩,z.core.inj,z.core.lt,z.core.s0,z.core.n0,z.core.fr⟩⟩;refine wp_region_any hm ?_
 suffices key:∀ (fuel:Nat) (listed:Array Bool) (a:Act) (w:World),DSY F S0 N0 w0 l n st c x listed a w->(∀ k,listed.getD k false=true->k<n) ->
   ((List.range l.length).countP fun k=>!listed.getD k true)<=fuel->wpAny P .any l.toArray (PostA F S0 N0 w0 Q) fuel listed a w by
  have a1:hpD x (fun j=>(Array.replicate l.toArray.size false).getD j false) n=[]:=kwp fun j _=>kmp _ _;have ac:idD x (fun j=>(Array.replicate l.toArray.size false).getD j false) n=[]:=k2p fun j _=>kmp _ _;refine key _ _ _ _ ⟨⟨ψ0,Sa,?_⟩,Fr.drew,by simp,(fun k o hk=>by rw [kmp] at hk;cases hk)⟩ (fun k hk=>by rw [kmp] at hk;cases hk) ?_
  ·refine ⟨hs1.defers,hs1.size,fun t=>?_,?_⟩
   ·show RV _ (·∈idD x _ n++st.ids) _ _ _ (look .any (kix (fsOf l c n) _ st.tmps) t);rw [ac];rcases kci (l:=l) (c:=c) (p:=fun j=>(Array.replicate l.toArray.size false).getD j false) (base:=st.tmps) (t:=t) n with ⟨j,_,y,_⟩ | ⟨_,G⟩;rw [kmp] at y;cases y
    ·rw [G];exact hs1.tmps t
   ·show Core F S0 N0 (hpD x _ n++st.heap) (idD x _ n++st.ids) _ _ _;rw [a1,ac];exact hs1.core
  ·refine qav (List.countP_le_length ..) ?_;simp
 intro fuel
 -- the end of the bn
 have fin:∀ (listed:Array Bool) (a:Act) (w:World),DSY F S0 N0 w0 l n st c x listed a w->(∀ i,i<n->listed.getD i false=true)->wpList P l.toArray (PostA F S0 N0 w0 Q) (l.drop n) a w:=by
  intro listed a w d g;obtain ⟨ψ,S,hs⟩:=d.inv;have hH:hpD x (fun j=>listed.getD j false) n=hpD x (fun _=>true) n:=kn5 fun j y _=>g j y;have hI:idD x (fun j=>listed.getD j false) n=idD x (fun _=>true) n:=kuh fun j y _=>g j y;have bd:Sim F S0 N0 { st with tmps:=hadd (fsOf l c n) (fun _=>true) st.tmps,heap:=hpD x (fun _=>true) n++st.heap,ids:=idD x (fun _=>true) n++st.ids } ψ S a w:=by
   rw [<- hH,<- hI];refine ⟨hs.defers,hs.size,fun t=>?_,hs.core⟩;have ht:=hs.tmps t;show RV _ _ _ _ _ (look .any (hadd (fsOf l c n) (fun _=>true) st.tmps) t);have ht:RV ψ (·∈idD x (fun j=>listed.getD j false) n++st.ids) S w (a.tmps.getD t undef) (look .any (kix (fsOf l c n) (fun j=>listed.getD j false) st.tmps) t):=ht;rcases kmu (l:=l) (c:=c) (p:=fun _=>true) (base:=st.tmps) (t:=t) n with h | ⟨j,h1,_,O,h4⟩ | ⟨h1,G⟩;rw [h];exact .any
   ·rw [h4];rcases kci (l:=l) (c:=c) (p:=fun j=>listed.getD j false) (base:=st.tmps) (t:=t) n with ⟨j',e1,e2,e3,e4⟩ | ⟨e1,e2⟩;rw [e4] at ht;have be:j'=j:=(by unfold dstT at O e3;simp only [qm] at O e3;obtain ⟨o1,p1,p2⟩:=O;obtain ⟨o2,q1,q2⟩:=e3;exact ok.uniq j' j o2 o1 t e1 h1 q1 p1 q2 p2);rw [be] at ht;exact ht
    ·exact absurd O (e1 j h1 (g j h1))
   ·rw [G];rcases kci (l:=l) (c:=c) (p:=fun j=>listed.getD j false) (base:=st.tmps) (t:=t) n with ⟨j',e1,e2,e3,e4⟩ | ⟨e1,e2⟩;exact absurd e3 (h1 j' e1)
    ·rw [e2] at ht;exact ht
  exact kcu (fun e a' w' k=>k.pre d.fr) _ _ _ (aq F S0 N0 ψ S a w bd)
 induction fuel with
 | zero=>
  intro listed a w d hh hc;have g:∀ i,i<l.length->listed.getD i false=true:=fun i hi=>by have h0:((List.range l.length).countP fun k=>!listed.getD k true)=0:=(by omega);rw [List.countP_eq_zero] at h0;have:=h0 i (by simpa using hi);simp [d.lsize,hi] at this ⊢;exact this
  have hn:n=l.length:=by
   have:=ok.len;rcases qbi n l.length with h' | h';have:=hh n (g _ h');omega
   ·omega
  have H:=fin listed a w d fun i hi=>g i (by omega);rw [hn] at H;exact kow ok 0 l.length listed a w (by omega) (qx _) d.lsize (fun i hi=>⟨fun _=>hi,fun _=>by have:=g i hi;simp [d.lsize,hi] at this ⊢;exact this⟩) (by omega) H
 | succ fuel ih=>
  intro listed a w d hh hc;by_cases E:∀ i,i<n->listed.getD i false=true
  ·refine kow ok (fuel+1) n listed a w (qx _) ok.len d.lsize (fun i hi=>⟨fun hl=>hh i (by
    simp [d.lsize,hi] at hl ⊢;exact hl),fun J=>by
    have:=E i J;simp [d.lsize,hi] at this ⊢;exact this⟩) ?_ (fin listed a w d E)
   refine qav ?_ hc;rw [show l.length=n+(l.length - n) by have:=ok.len;omega,List.range_add,List.countP_append];have:((List.range (l.length - n)).map (n+·)).countP (fun k=>!listed.getD k true)=l.length - n:=(by rw [List.countP_eq_length.2,qaa,List.length_range];intro k hk;simp only [qad,List.mem_range] at hk;obtain ⟨m,hm,rfl⟩:=hk;have ak:n+m<l.length:=(by omega);have:listed.getD (n+m) false≠true:=fun h=>(by have:=hh _ h;omega);simp [d.lsize,ak] at this ⊢;exact this);omega
  ·have bf:Region.ready .any l.toArray listed≠[]:=by
    have bg:∃ i,i<n/\listed.getD i false=false/\∀ j,j<i->listed.getD j false=true:=by
     have:∃ i,i<n/\listed.getD i false=false:=(by simp only [Classical.not_forall] at E;obtain ⟨i,hi,L⟩:=E;exact ⟨i,hi,by simpa using L⟩);obtain ⟨i,hi,L⟩:=this
     induction i using Nat.strongRecOn with
     | _ i ihi=>
      by_cases g:∀ j,j<i->listed.getD j false=true;exact ⟨i,hi,L,g⟩
      ·simp only [Classical.not_forall] at g;obtain ⟨j,y,bh⟩:=g;exact ihi j y (by omega) (by simpa using bh)
    obtain ⟨i,hi,L,g⟩:=bg;have M:i<l.length:=(by have:=ok.len;omega);have:i∈Region.ready .any l.toArray listed:=mem_ready.2 ⟨by simp [d.lsize,M] at L ⊢;exact L,l[i],by simp [M],fun e Z al=>g _ (ok.edges i _ (qa M) e Z al)⟩;intro h0;rw [h0] at this;cases this
   refine ⟨fun h0=>absurd h0 bf,fun i hi=>?_⟩;obtain ⟨h0,o,ho,g⟩:=mem_ready.1 hi;have X:l[i]?=some o:=(by simpa using ho);have M:i<l.length:=(qf.1 X).1;have ad:=k33 h0;have R:∀ j,anc l i j=true->listed.getD j false=true:=fun j y=>
    kkr (l:=l) (S:=fun j=>listed.getD j false=true) (fun m p hm hp e Z L=>d.closed m p hm hp e Z L) i o X g j y
   have I:∀ j,listed.getD j false=true->anc l j i=true->False:=fun j y ha=>(by have B:j<l.length:=(by have:=kab7 y;rw [d.lsize] at this;exact this);have:=kkr (l:=l) (S:=fun j=>listed.getD j false=true) (fun m p hm hp e Z L=>d.closed m p hm hp e Z L) j l[j] (qa B) (fun e Z L=>d.closed j _ y (qa B) e Z L) i ha;rw [ad] at this;cases this);have J:i<n:=by
    rcases qbi i n with h' | h';exact h'
    ·exfalso;apply E;intro j y;exact R j (ok.tail i j M h' (by omega))
   obtain ⟨ψ,S,hs⟩:=d.inv;have au:dstT l i=o.dst:=(by unfold dstT;rw [X];rfl);have N:∀ k,(listed.setIfInBounds i true).getD k false=true->k=i\/listed.getD k false=true:=fun k hk=>by
    by_cases a2:i=k;exact .inl a2.symm
    ·rw [getD_set_ne false a2] at hk;exact .inr hk
   have T:(listed.setIfInBounds i true).getD i false=true:=(by simp [d.lsize,M]);have a3:∀ t,o.dst=some t->t<st.n:=fun t ht=>ok.dst i o t J X ht
   -- the slots of the view
   have U:∀ (K:Nat->Prop),(∀ id,id∈(stY l n st c x listed).ids->K id)->∀ t,RV ψ K S w (a.tmps.getD t undef) (look .any (hadd (fsOf l c i) (kiu o) (kjz l i n++st.tmps)) t):=fun K hK t=>by
    have ht:RV ψ (·∈(stY l n st c x listed).ids) S w (a.tmps.getD t undef) (look .any (kix (fsOf l c n) (fun j=>listed.getD j false) st.tmps) t):=hs.tmps t;have uniq:∀ {j j':Nat},j<n->j'<n->dstT l j=some t->dstT l j'=some t->j=j':=fun {j j'} h1 G O h4=>(by unfold dstT at O h4;simp only [qm] at O h4;obtain ⟨o1,p1,p2⟩:=O;obtain ⟨o2,q1,q2⟩:=h4;exact ok.uniq j j' o1 o2 t h1 G p1 q1 p2 q2);rcases kmu (l:=l) (c:=c) (p:=kiu o) (base:=kjz l i n++st.tmps) (t:=t) i with h | ⟨j,h1,G,O,h4⟩ | ⟨h1,G⟩;rw [h];exact .any
    ·rw [h4];have B:listed.getD j false=true:=(by obtain ⟨e,Z,bi,L⟩:=afterB_iff.1 G;rw [<- bi];exact g e Z L);rcases kci (l:=l) (c:=c) (p:=fun j=>listed.getD j false) (base:=st.tmps) (t:=t) n with ⟨j',e1,e2,e3,e4⟩ | ⟨e1,e2⟩;rw [e4,uniq e1 (by omega) e3 O] at ht;exact ht.mono hK fun _ h=>h
     ·exact absurd O (e1 j (by omega) B)
    ·rw [G];rcases krd (l:=l) (i:=i) (base:=st.tmps) (t:=t) n with h | ⟨k1,k2⟩;rw [h];exact .any
     ·rw [k2];rcases kci (l:=l) (c:=c) (p:=fun j=>listed.getD j false) (base:=st.tmps) (t:=t) n with ⟨j',e1,e2,e3,e4⟩ | ⟨e1,e2⟩
      ·exfalso;rcases k1 j' e1 e3 with h | h
       ·rcases qbi j' i with h' | h';exact h1 j' h' e3
        ·obtain rfl:j'=i:=(by omega);rw [ad] at e2;cases e2
       ·exact I j' e2 h
      ·rw [e2] at ht;exact ht.mono hK fun _ h=>h
   have fact:=C i o (qau _) J X;have next:∀ (ψ':Env) (S':Nat->Prop) (v:Value) (w':World),Fr F w w' ->
     Core F S0 N0 (stY l n st c x (listed.setIfInBounds i true)).heap (stY l n st c x (listed.setIfInBounds i true)).ids ψ' S' w'->RV ψ' (·∈(stY l n st c x (listed.setIfInBounds i true)).ids) S' w' v (c i)->(∀ t,RV ψ' (·∈(stY l n st c x (listed.setIfInBounds i true)).ids) S' w' (a.tmps.getD t undef) ((stY l n st c x listed).get t)) ->
     wpAny P .any l.toArray (PostA F S0 N0 w0 Q) fuel (listed.setIfInBounds i true) (a.put o.dst v) w':=fun ψ' S' v w' q4 q5 q6 q7=>by
    refine ih _ _ _ ⟨⟨ψ',S',?_⟩,d.fr.trans q4,by simp [d.lsize],?_⟩ (fun k hk=>(N k hk).elim (fun e=>by omega) (hh k)) ?_
    ·refine ⟨by rw [kvu];exact hs.defers,by rw [k1k];exact hs.size,fun t=>?_,q5⟩;rw [ksh _ _ _ hs.size a3];have q7:=q7 t;show RV ψ' _ S' w' _ (look .any (kix (fsOf l c n) (fun j=>(listed.setIfInBounds i true).getD j false) st.tmps) t);have q7:RV ψ' (·∈(stY l n st c x (listed.setIfInBounds i true)).ids) S' w' (a.tmps.getD t undef) (look .any (kix (fsOf l c n) (fun j=>listed.getD j false) st.tmps) t):=q7;have uniq:∀ {j j':Nat},j<n->j'<n->dstT l j=some t->dstT l j'=some t->j=j':=fun {j j'} h1 G O h4=>(by unfold dstT at O h4;simp only [qm] at O h4;obtain ⟨o1,p1,p2⟩:=O;obtain ⟨o2,p3,p4⟩:=h4;exact ok.uniq j j' o1 o2 t h1 G p1 p3 p2 p4);rcases kci (l:=l) (c:=c) (p:=fun j=>(listed.setIfInBounds i true).getD j false) (base:=st.tmps) (t:=t) n with ⟨j,e1,e2,e3,e4⟩ | ⟨e1,e2⟩
     ·rw [e4];by_cases Y:j=i;subst Y;rw [au] at e3;rw [qp e3];exact q6
      ·have B:=(N j e2).resolve_left Y;rw [ql (fun h=>Y (uniq e1 J e3 (by rw [au];exact h)))];rcases kci (l:=l) (c:=c) (p:=fun j=>listed.getD j false) (base:=st.tmps) (t:=t) n with ⟨j',f1,f2,f3,f4⟩ | ⟨f1,f2⟩;rw [f4,uniq f1 e1 f3 e3] at q7;exact q7
       ·exact absurd e3 (f1 j e1 B)
     ·rw [e2,ql (fun h=>e1 i J T (by rw [au];exact h))];rcases kci (l:=l) (c:=c) (p:=fun j=>listed.getD j false) (base:=st.tmps) (t:=t) n with ⟨j',f1,f2,f3,f4⟩ | ⟨f1,f2⟩;exact absurd f3 (e1 j' f1 (getD_set_true f2))
      ·rw [f2] at q7;exact q7
    ·intro k p hk hp e Z al;rcases N k hk with rfl | bj;rw [X] at hp;obtain rfl:=qaj hp;exact getD_set_true (g e Z al)
     ·exact getD_set_true (d.closed k p bj hp e Z al)
    ·have:=kr8 l.length M h0 (by rw [d.lsize];exact M);omega
   unfold wpOp;simp only [ho];have ae:=U (·∈ai) (fun id h=>ab _ id h);have af:∀ t,RV ψ (·∈(khm l n ai st i o (fsOf l c i)).ids) S w (a.tmps.getD t undef) ((khm l n ai st i o (fsOf l c i)).get t):=ae;have bk:∀ id ob,kaa (khm l n ai st i o (fsOf l c i)).heap id=some ob->ObR ψ (·∈(khm l n ai st i o (fsOf l c i)).ids) S w id ob:=fun id ob am=>by
    have am:kaa st.heap id=some ob:=am;have a4:∃ q∈st.heap,q.1=id:=by
     have gen:∀ H:List (Nat×AObj),kaa H id=some ob->∃ q∈H,q.1=id:=fun H=>by
      induction H with
      | nil=>intro h;cases h
      | cons q H ih=>
       intro h;rw [kae] at h;by_cases hq:q.1=id;exact ⟨q,qn ..,hq⟩
       ·rw [ql hq] at h;obtain ⟨q',h1,G⟩:=ih h;exact ⟨q',qj _ h1,G⟩
     exact gen _ am
    have a5:kaa (stY l n st c x listed).heap id=some ob:=(by show kaa (hpD x _ n++st.heap) id=some ob;rw [kaem,am];intro j y f ob' D;obtain ⟨q',h1,G⟩:=a4;exact az j f id ob' y D q' h1 G);obtain ⟨g1,g2,g3⟩:=hs.core.obj id ob a5;exact g2.keep Ext.refl (fun id h=>ab _ id h) (fun _ h=>h) (fun _ _ _=>rfl) ⟨rfl,rfl⟩ (fun _ _=>rfl)
   have ag:∀ id0 ob0 f,x i=some (f,id0,ob0)->∀ id,kaa ((id0,ob0)::(stY l n st c x listed).heap) id=kaa (stY l n st c x (listed.setIfInBounds i true)).heap id:=fun id0 ob0 f D id=>by
    show kaa ((id0,ob0)::(hpD x _ n++st.heap)) id=kaa (hpD x _ n++st.heap) id;rw [kae];refine (k4u (p:=fun j=>listed.getD j false) (q:=fun j=>(listed.setIfInBounds i true).getD j false) D (fun j=>⟨fun h=>N j h,fun h=>?_⟩) ad id J fun j y bl A f' ob' s=>?_).symm
    ·rcases h with rfl | h;exact T
     ·exact getD_set_true h
    ·exact I j A (aa i j _ _ _ _ _ bl y D s)
   rcases fact with ⟨D,hN,a6⟩ | ⟨id0,ob0,D,hg,hA,a7,a8,ah,_⟩ | ⟨id0,ob0,D,hg,hA,a8,ah⟩
   ·-- one that makes nothing
    have Y:∀ j,x j≠none->i≠j:=fun j s h=>s (by rw [<- h];exact D);have av:hpD x (fun j=>(listed.setIfInBounds i true).getD j false) n=hpD x (fun j=>listed.getD j false) n:=kn5 fun j y s=>getD_set_ne false (Y j s);have aj:idD x (fun j=>(listed.setIfInBounds i true).getD j false) n=idD x (fun j=>listed.getD j false) n:=kuh fun j y s=>getD_set_ne false (Y j s);have u:(stY l n st c x (listed.setIfInBounds i true)).ids=(stY l n st c x listed).ids:=(by show idD x _ n++st.ids=_;rw [aj];rfl);have ar:(stY l n st c x (listed.setIfInBounds i true)).heap=(stY l n st c x listed).heap:=(by show hpD x _ n++st.heap=_;rw [av];rfl);have aw:∀ {v:Value} {S':Nat->Prop} {w':World},RV ψ (·∈(khm l n ai st i o (fsOf l c i)).ids) S' w' v (c i)->RV ψ (·∈(stY l n st c x listed).ids) S' w' v (c i):=fun {v S' w'} hv=>
     (hv.subA a6).mono (fun id h=>by
      rcases qab.1 h with h | h;obtain ⟨h1,G⟩:=qbl.1 h;obtain ⟨j,ob,y,_,s⟩:=idD_mem.1 h1;have ha:=qs.1 G _ (ku3 s y);refine List.mem_append_left _ (idD_mem.2 ⟨j,ob,by omega,R j ?_,s⟩);simpa using ha
      ·exact List.mem_append_right _ h) fun _ h=>h
    rcases hN with ⟨hg,hN⟩ | ⟨hg,hN⟩
    ·have hw:=kk3 (khm l n ai st i o (fsOf l c i)) af hg;rw [qp hw];refine .inl (kg1 ?_ (hN ψ S a w af bk));rintro v w' ⟨g1,g2⟩;refine next ψ (fun b=>(S b\/w.heap.size<=b)/\b<w'.heap.size) v w' (Fr.of_grow hs.core.fr g1) ?_ ?_ fun t=>?_;rw [u,ar];exact hs.core.grow g1;rw [u];exact (aw g2).bound.mono (fun _ h=>h) fun _ h=>h
     ·rw [u];exact (hs.tmps t).keep Ext.refl (fun _ h=>h) (fun b L=>⟨.inl L,qbm (hs.core.lt b L) g1.size⟩) (Same.of_grow g1)
    ·have hw:=kk3 (khm l n ai st i o (fsOf l c i)) af hg;rw [ql (by rw [hw];exact qba)];refine next ψ S undef w Fr.refl ?_ ?_ fun t=>?_;rw [u,ar];exact hs.core;rw [hN];exact .fz RF.undef
     ·rw [u];exact hs.tmps t
   ·-- one that makes an object
    have hw:=kk3 (khm l n ai st i o (fsOf l c i)) af hg;rw [qp hw];have a9:id0∉(stY l n st c x listed).ids:=by
     show id0∉idD x _ n++st.ids;intro hm;rcases qab.1 hm with hm | hm
     ·obtain ⟨j,ob,y,A,s⟩:=idD_mem.1 hm;rcases Nat.lt_trichotomy j i with h | h | h;exact ah j h _ _ s;subst h;rw [ad] at A;cases A
      ·exact I j A (aa i j _ _ _ _ _ h y D s)
     ·exact a7 hm
    have ax:Sim F S0 N0 { khm l n ai st i o (fsOf l c i) with heap:=(stY l n st c x listed).heap,ids:=(stY l n st c x listed).ids } ψ S a w:=
     ⟨hs.defers,hs.size,fun t=>U (·∈(stY l n st c x listed).ids) (fun _ h=>h) t,hs.core⟩
    refine .inl (kg1 ?_ (hA (stY l n st c x listed).heap (stY l n st c x listed).ids (by simpa using a9) F S0 N0 ψ S a w ax));rintro v w' ⟨ψ',S',g1,g2,g3,g4,g5,g6,g7⟩;have V:∀ id,id∈id0::(stY l n st c x listed).ids↔id∈(stY l n st c x (listed.setIfInBounds i true)).ids:=fun id=>by
     show id∈id0::(idD x _ n++st.ids)↔id∈idD x _ n++st.ids;simp only [qam,qab];constructor
     ·rintro (h | h | h);exact .inl (idD_mem.2 ⟨i,ob0,J,T,by rw [D,h]⟩);obtain ⟨j,ob,y,A,s⟩:=idD_mem.1 h;exact .inl (idD_mem.2 ⟨j,ob,y,getD_set_true A,s⟩)
      ·exact .inr h
     ·rintro (h | h)
      ·obtain ⟨j,ob,y,A,s⟩:=idD_mem.1 h;rcases N j A with rfl | A;rw [D] at s;cases s;exact .inl rfl
       ·exact .inr (.inl (idD_mem.2 ⟨j,ob,y,A,s⟩))
      ·exact .inr (.inr h)
    have bm:(fun id=>id∈id0::(stY l n st c x listed).ids)=fun id=>id∈(stY l n st c x (listed.setIfInBounds i true)).ids:=funext fun id=>propext (V id);refine next ψ' S' v w' g3 (kxj (ag id0 ob0 true D) V g1) ?_ fun t=>?_;have g2:RV ψ' (fun id=>id∈id0::(stY l n st c x listed).ids) S' w' v (c i):=g2;rw [bm] at g2;exact g2
    ·exact (hs.tmps t).keep g4 (fun id h=>(V id).1 (g5 id h)) g6 g7
   ·-- one that stores to one that was made here
    have hw:=kk3 (khm l n ai st i o (fsOf l c i)) af hg;rw [qp hw];have aj:idD x (fun j=>(listed.setIfInBounds i true).getD j false) n=idD x (fun j=>listed.getD j false) n:=by
     have gen:∀ k,idD x (fun j=>(listed.setIfInBounds i true).getD j false) k=idD x (fun j=>listed.getD j false) k:=fun k=>by
      induction k with
      | zero=>rfl
      | succ k ihk=>
       simp only [idD,ihk];cases ba:x k with
       | none=>rfl
       | some r=>
        by_cases ao:i=k;subst ao;rw [D] at ba;cases ba;simp only [Bool.and_false]
        ·simp only [getD_set_ne false ao]
     exact gen n
    have u:(stY l n st c x (listed.setIfInBounds i true)).ids=(stY l n st c x listed).ids:=(by show idD x _ n++st.ids=_;rw [aj];rfl);have ax:Sim F S0 N0 { khm l n ai st i o (fsOf l c i) with heap:=(stY l n st c x listed).heap,ids:=(stY l n st c x listed).ids } ψ S a w:=
     ⟨hs.defers,hs.size,fun t=>U (·∈(stY l n st c x listed).ids) (fun _ h=>h) t,hs.core⟩
    have ay:kaa (stY l n st c x listed).heap id0=kaa (hpD x (fun _=>true) i++st.heap) id0:=by
     show kaa (hpD x _ n++st.heap) id0=_;have e:hpD x (fun _=>true) i=hpD x (fun j=>decide (j<i)) n:=by
      have gen:∀ k,i<=k->hpD x (fun j=>decide (j<i)) k=hpD x (fun _=>true) i:=fun k hk=>by
       induction k with
       | zero=>
         obtain rfl:i=0:=(by omega);rfl
       | succ k ihk=>
        by_cases ao:i=k+1;subst ao;exact kn5 fun j y _=>qh y
        ·rw [<- ihk (by omega)];simp only [hpD];cases x k with
         | none=>rfl
         | some r=>simp only [qg (show ¬ k<i by omega),qd]
      exact (gen n (by omega)).symm
     rw [e];refine kwf fun j y f ob s=>?_;rcases Nat.lt_trichotomy j i with h | h | h;rw [qh h,R j (ah j h f ob s)];subst h;rw [ad,qg (Nat.lt_irrefl _)]
     ·rw [qg (by omega)];cases A:listed.getD j false with
      | false=>rfl
      | true=>exact (I j A (aa i j _ _ _ _ _ h y D s)).elim
    refine .inl (kg1 ?_ (hA (stY l n st c x listed).heap (stY l n st c x listed).ids ay F S0 N0 ψ S a w ax));rintro v w' ⟨ψ',S',g1,g2,g3,g4,g5,g6,g7⟩;refine next ψ' S' v w' g3 ?_ ?_ fun t=>?_;rw [u];exact kxj (ag id0 ob0 false D) (fun _=>Iff.rfl) g1;rw [u];exact g2
    ·rw [u];exact (hs.tmps t).keep g4 g5 g6 g7
def objH (H:Nat->Option AObj) (id:Nat):Option (Nat×List AV):=match H id with
 | some (.box _ cells)=>some (0,cells)
 | some (.xo (.blk g _ _ cells))=>some (g,cells)
 | _=>none
abbrev objC (st:St) (id:Nat):Option (Nat×List AV):=objH (kaa st.heap) id
def putC (st:St) (id:Nat) (cells:List AV):List (Nat×AObj):=match kaa st.heap id with
 | some (.box e _)=>(id, .box e cells)::st.heap
 | some (.xo (.blk g e sz _))=>(id, .xo (.blk g e sz cells))::st.heap
 | _=>st.heap
def kxv (H:Nat->Option AObj):AV->Option (List AV)
 | .fz (.fp cs)=>some (cs.map .fz)
 | .ref id n off=>match objH H id with
  | some (g,cells)=>bif Nat.beq n g then some (cells.drop off) else none
  | none=>none
 | _=>none
abbrev k1r (st:St):AV->Option (List AV):=kxv (kaa st.heap)
def kts (H:Nat->Option AObj) (off:Nat) (x:AV):Option AV:=match x with
 | .fz (.fp cs)=>match cs.drop off with
  | []=>none
  | y::ys=>some (.fz (.fp (y::ys)))
 | .ref id n o=>match objH H id with
  | some (g,_)=>bif Nat.beq n g then some (.ref id n (o+off)) else none
  | none=>none
 | _=>none
abbrev kud (st:St) (off:Nat) (x:AV):Option AV:=kts (kaa st.heap) off x
def ksw:List FV->List AV
 | []=>[]
 | x::l=>x.cells.map .fz++ksw l
def rdH (H:Nat->Option AObj) (sz:Nat):AV->Option (Nat×Option Nat×List AV)
 | .fz (.lst size n xs)=>bif Nat.beq size sz && Nat.beq n xs.length then some (n,none,ksw xs) else none
 | .lim size n xs=>bif Nat.beq size sz && Nat.beq n xs.length then some (n,some n,ksw xs) else none
 | .fz (.atom (.slice none 0 0))=>some (0,some 0,[])
 | .bsl id g off len cap=>match objH H id with
  | some (g',cells)=>bif Nat.beq g g' && Nat.ble (off+len*sz) cells.length then some (len,cap,(cells.drop off).take (len*sz)) else none
  | none=>none
 | _=>none
abbrev rdSl (sz:Nat) (st:St):AV->Option (Nat×Option Nat×List AV):=rdH (kaa st.heap) sz
variable {K:Nat->Prop} {T:List (TypeId×TD)} {o:Oper} {a:Act} {t:TypeId} {d:TD} {id:Nat}
theorem kii {g:Nat} {cells:List AV} (d:∀ id o,kaa st.heap id=some o->ObR ψ (·∈st.ids) S w id o) (h:objC st id=some (g,cells)):
  ψ.len id=g/\∃ b cs e,ka3 (ψ.val id)=some b/\w.heap[b]?=some (.cells cs e (0,0))/\cells.length<=cs.size/\(∀ x∈cells,x.single=true)/\∀ (i:Nat) (v:Value) (x:AV),cs[i]?=some v->cells[i]?=some x->RV ψ (·∈st.ids) S w v x:=by
 unfold objC objH at h;split at h;rename_i e cells' ho;simp only [qc,qq] at h;obtain ⟨rfl,rfl⟩:=h;obtain ⟨h0,b,cs,h1,a,j,f,c⟩:=d id _ ho;exact ⟨h0,b,cs,e,by rw [h1];rfl,a,by omega,f,c⟩;rename_i g' e sz cells' ho;simp only [qc,qq] at h;obtain ⟨rfl,rfl⟩:=h;obtain ⟨h0,m,b,cs,n,cap,h1,a,j,f,c,k,l⟩:=d id _ ho;exact ⟨h0,b,cs,e,by rw [h1];rfl,a,c,k,l⟩
 ·cases h
theorem kuw {b k:Nat} {cs:Array Value} {e:TypeId} {u:Value} (h:w.heap[b]?=some (.cells cs e (0,0))) (hu:cs[k]?=some u):w.cell? ⟨b,k,none⟩=some u:=by simp only [World.cell?,h];simpa using hu
theorem ky8 {v:Value} {x:AV} {xs:List AV} (hv:RV ψ (·∈st.ids) S w v x) (f:∀ id o,kaa st.heap id=some o->ObR ψ (·∈st.ids) S w id o) (h:k1r st x=some xs):
  ∃ b o,v = .pointer (some ⟨b,o,none⟩)/\k5q ψ (·∈st.ids) S w b o xs:=by
 unfold k1r kxv at h;split at h;rename_i cs;exact ksr hv f h
 ·rename_i id n off;split at h
  ·rename_i g cells ho;cases hn:Nat.beq n g with
   | false=>rw [hn] at h;cases h
   | true=>
    rw [hn] at h;simp only [qe,qc] at h;subst h;obtain rfl:=qk hn;obtain ⟨h0,b,cs,e,h1,k,r,l,m⟩:=kii f ho;cases hv with
    | ref hK p q d=>
     obtain ⟨b',a,rfl⟩:=d h0.symm;rw [h1] at a;simp only [qc] at a;subst a;refine ⟨b,off,rfl,(cs.toList.take cells.length).drop off,fun j u hu=>?_,by simp;omega,fun x c=>l x (qbj c),fun i v x hv c=>?_⟩
     ·rw [qao,qaf] at hu;split at hu;exact kuw k (by simpa using hu)
      ·cases hu
     ·rw [qao,qaf] at hv;rw [qao] at c;split at hv;exact m _ v x (by simpa using hv) c
      ·cases hv
  ·cases h
 ·cases h
theorem kx5 {b off:Nat} {xs:List AV} {c:AV} (n:TdOk P t d) (e:k5q ψ K S w b off xs) (hc:kl7 d xs=some c):∃ u,(loadVar t ⟨b,off,none⟩).run P w = .ok u w/\RV ψ K S w u c:=by
 obtain ⟨cs,h,hl,h1,hr⟩:=e;unfold kl7 at hc;cases hk:d.kind.agg with
 | false=>
  rw [hk] at hc;simp only [qd] at hc;cases xs with
  | nil=>cases hc
  | cons y ys=>
   simp only [List.head?_cons,qc] at hc;subst hc;have k:cs[0]?=some (cs[0]'(by simp at hl;omega)):=qa _;have f:w.cell? ⟨b,off,none⟩=some (cs[0]'(by simp at hl;omega)):=(by simpa using h 0 _ k);exact ⟨cs[0]'(by simp at hl;omega),by simp [loadVar,n.isAgg,hk,f],hr 0 _ y k rfl⟩
 | true=>
  rw [hk] at hc;simp only [qe] at hc;cases g:Nat.ble d.size xs.length with
  | false=>rw [g] at hc;cases hc
  | true=>
   rw [g] at hc;simp only [qe,qc] at hc;subst hc;have o:=qt g;have l:(cs.take d.size).length=d.size:=(by rw [qai];omega);have a:=run_loadCells_list (P:=P) w ⟨b,off,none⟩ (cs.take d.size) fun j v m=>by
    rw [qaf] at m;split at m;rw [kcq];exact h j v m
    ·cases m
   rw [l] at a;refine ⟨.agg (cs.take d.size).toArray,by simp [loadVar,n.isAgg,hk,n.size,a],RV.aggA (by simp [hl]) (fun x e=>h1 x (qa7 e)) fun i v x hv e=>?_⟩;simp only [List.getElem?_toArray] at hv;rw [qaf] at hv e;split at hv;rename_i hi;rw [qp hi] at e;exact hr i v x hv e
   ·cases hv
theorem kacd {x:Operand} {xs:List AV} {c:AV} (ho:o.op = .load t x) (e:TdOk P t d) (f:k1r st (st.eval x)=some xs) (hc:kl7 d xs=some c):NStep P o st c:=by intro ψ S a w ht g;obtain ⟨b,off,hv,hcl⟩:=ky8 (Sim.eval_tmps ht x) g f;obtain ⟨u,h1,h⟩:=kx5 (P:=P) e hcl hc;refine kaf w u ?_ ⟨kag _,h.here⟩;simp [execOp,ho,hv,Instr.loadAt,Instr.sureAddr,h1]
theorem ktq {off:Nat} {v:Value} {x c:AV} (hv:RV ψ (·∈st.ids) S w v x) (i:∀ id o,kaa st.heap id=some o->ObR ψ (·∈st.ids) S w id o) (h:kud st off x=some c):
  ∃ b o,v = .pointer (some ⟨b,o,none⟩)/\RV ψ (·∈st.ids) S w (.pointer (some ⟨b,o+off,none⟩)) c:=by
 unfold kud kts at h;split at h;exact kqy (off:=off) hv i h
 ·rename_i id n off';split at h
  ·rename_i g cells ho;cases hn:Nat.beq n g with
   | false=>rw [hn] at h;cases h
   | true=>
    rw [hn] at h;simp only [qe,qc] at h;subst h;obtain rfl:=qk hn;obtain ⟨h0,b,cs,e,h1,_⟩:=kii i ho;cases hv with
    | ref hK a j d=>
     obtain ⟨b',f,rfl⟩:=d h0.symm;exact ⟨b',off',rfl, .ref hK a rfl fun _=>⟨b',f,rfl⟩⟩
  ·cases h
 ·cases h
theorem k92 {s:TypeId} {x:Operand} {f:Nat} {fs:List (TypeId×Nat)} {ft:TypeId} {off:Nat} {df:TD} {c:AV} (ho:o.op = .fieldAddr s x f) (k:TdOk P s d) (hk:d.kind = .st fs) (hf:fs[f]?=some (ft,off)) (h:TdOk P ft df) (l:df.size≠0)
  (hc:kud st off (st.eval x)=some c):NStep P o st c:=by
 intro ψ S a w ht m;obtain ⟨b,off',hv,hr⟩:=ktq (Sim.eval_tmps ht x) m hc;obtain ⟨gs,hu,i⟩:=k.strct hk;have e:∃ g:Field,gs[f]?=some g/\g.type=ft/\g.offset=off:=by rw [<- i,qr,qu] at hf;obtain ⟨g,e,j⟩:=hf;simp only [qq] at j;exact ⟨g,by simpa using e,j.1,j.2⟩
 obtain ⟨g,e,rfl,rfl⟩:=e;refine kaf w _ ?_ ⟨kag _,hr.here⟩;simp [execOp,ho,hv,Instr.fieldAt,hu,e,Instr.sureAddr,fieldPlace,h.size,l,kcq]
theorem kafj {x:Operand} {c:AV} (ho:o.op = .nilCheck x) (hc:kud st 0 (st.eval x)=some c):NStep P o st c:=by intro ψ S a w ht d;obtain ⟨b,off',hv,hr⟩:=ktq (Sim.eval_tmps ht x) d hc;refine kaf w _ ?_ ⟨kag _,hr.here⟩;simp [execOp,ho,hv]
theorem kafy {x y:Operand} {n e:Nat} {de:TD} {k:IntKind} {i:Int} {c:AV} (ho:o.op = .indexAddr t x y) (j:TdOk P t d) (hk:d.kind = .arr n e) (g:TdOk P e de) (hy:st.eval y = .fz (.atom (.int k i))) (h0:0<=i) (hi:i<n)
  (hc:kud st (i.toNat*de.size) (st.eval x)=some c):NStep P o st c:=by
 intro ψ S a w ht l;obtain ⟨b,off',hv,hr⟩:=ktq (Sim.eval_tmps ht x) l hc;have f:=Sim.eval_tmps ht y;rw [hy] at f;have h:=f.atom;refine kaf w _ ?_ ⟨kag _,hr.here⟩;simp [execOp,ho,hv,h,Instr.indexAt,asIntOf,run_underlying (j.arr hk),Instr.sureAddr,h0,hi,g.size,kcq]
theorem kj1 {v:Value} {g off len:Nat} {cap:Option Nat} (h:RV ψ K S w v (.bsl id g off len cap)) (a:ψ.len id=g):K id/\∃ b c,ka3 (ψ.val id)=some b/\v = .slice (some ⟨b,off,none⟩) len c/\len<=c/\c<=9223372036854775807/\CapR (ψ.val id) off c cap:=by
 cases h with
 | bsl hK hn h1 hv=>exact ⟨hK,hv a.symm⟩
theorem kafl {x y:Operand} {e:TypeId} {de:TD} {k:IntKind} {i:Int} {g off len:Nat} {cap:Option Nat} {cells:List AV} (ho:o.op = .indexAddr t x y) (j:TdOk P t d) (hk:d.kind = .slice e) (f:TdOk P e de) (l:st.eval x = .bsl id g off len cap)
  (h:objC st id=some (g,cells)) (hy:st.eval y = .fz (.atom (.int k i))) (h0:0<=i) (hi:i<len):NStep P o st (.ref id g (off+i.toNat*de.size)):=by
 intro ψ S a w ht m;have h1:=Sim.eval_tmps ht y;rw [hy] at h1;have hv:=Sim.eval_tmps ht x;rw [l] at hv;obtain ⟨n,_⟩:=kii m h;obtain ⟨hK,b,c,p,hu,_⟩:=kj1 hv n;refine kaf w (.pointer (some ⟨b,off+i.toNat*de.size,none⟩)) ?_ ⟨kag _, .ref hK (by omega) rfl fun _=>⟨b,p,rfl⟩⟩;simp [execOp,ho,Instr.indexAt,h1.atom,asIntOf,run_underlying (j.slice hk),hu,h0,hi,f.size,kcq]
def k2u (w:World) (n:Nat) (cs:List Value):Option Addr->Prop
 | none=>n=0/\cs=[]
 | some ad=>∀ (j:Nat) (u:Value),cs[j]?=some u->w.cell? (ad.add j)=some u
def CR (ψ:Env) (K S:Nat->Prop) (w:World) (cs:List Value) (xs:List AV):Prop:=
 cs.length=xs.length/\(∀ x∈xs,x.single=true)/\∀ (i:Nat) (v:Value) (x:AV),cs[i]?=some v->xs[i]?=some x->RV ψ K S w v x
theorem CR.nil:CR ψ K S w [] []:=⟨rfl,(fun x h=>by cases h),fun i v x h=>by simp at h⟩
theorem CR.append {cs ds:List Value} {xs ys:List AV} (h:CR ψ K S w cs xs) (k:CR ψ K S w ds ys):CR ψ K S w (cs++ds) (xs++ys):=by
 obtain ⟨h1,b,c⟩:=h;obtain ⟨k1,k2,k3⟩:=k;refine ⟨by simp [h1,k1],fun x a=>(qab.1 a).elim (b x) (k2 x),fun i v x hv a=>?_⟩;by_cases hi:i<cs.length;rw [qy hi] at hv;rw [qy (by omega)] at a;exact c i v x hv a
 ·rw [qak (by omega)] at hv a;rw [h1] at hv;exact k3 _ v x hv a
theorem CR.one {cs:List Value} {xs:List AV} (h:CR ψ K S w cs xs):∀ v∈cs,v.oneCell'=true:=fun v hv=>by
 obtain ⟨i,hi,rfl⟩:=qae.1 hv;have a:i<xs.length:=by rw [<- h.1];exact hi
 exact (h.2.2 i _ _ (qa hi) (qa a)).one (h.2.1 _ (qi a))
theorem CR.sub {cs:List Value} {xs:List AV} (h:CR ψ K S w cs xs) (i n:Nat):CR ψ K S w ((cs.drop i).take n) ((xs.drop i).take n):=by
 refine ⟨by simp [h.1],fun x a=>h.2.1 x (qbj (qa7 a)),fun j v x hv a=>?_⟩;rw [qaf] at hv a;split at hv;rename_i b;rw [qp b] at a;rw [qao] at hv a;exact h.2.2 _ v x hv a
 ·cases hv
theorem CR.cells {v:Value} {x:AV} (h:RV ψ K S w v x) (h1:x.cells.all AV.single=true):CR ψ K S w v.cells.toList x.cells:=by have hs:∀ y∈x.cells,y.single=true:=qs.1 h1;obtain ⟨e1,e2,e3⟩:=RV.cells h hs;exact ⟨by simpa using e1,hs,fun i v x hv a=>e2 i v x (by simpa using hv) a⟩
theorem k17 {b size:Nat}:∀ (xs:List FV) (o:Nat),(∀ (i:Nat) (x:FV),xs[i]?=some x->∃ cs,At w b (o+i*size) cs/\cs.length=size/\x.cells.length=size/\(∀ y∈x.cells,y.single=true)/\∀ (j:Nat) (v:Value) (y:FV),cs[j]?=some v->x.cells[j]?=some y->RF S w v y) ->
  ∃ cs,At w b o cs/\CR ψ K S w cs (ksw xs)/\cs.length=xs.length*size
 | [],o,_=>⟨[],fun j u h=>by simp at h,CR.nil,by simp⟩
 | x::xs,o,h=>by
  obtain ⟨cs,h1,a,d,e,f⟩:=h 0 x rfl;obtain ⟨ds,k1,k2,k3⟩:=k17 xs (o+size) fun i y hy=>by
   have:=h (i+1) y (by simpa using hy)
   rwa [show o+(i+1)*size=o+size+i*size by rw [qbg];omega] at this
  refine ⟨cs++ds,fun j u hu=>?_,CR.append ⟨by simp [a,d],fun y hy=>?_,fun j v y hv hy=>?_⟩ k2,by simp [a,k3,qbg];omega⟩
  ·by_cases g:j<size;rw [qy (by omega)] at hu;have:=h1 j u hu;simpa using this
   ·rw [qak (by omega),a] at hu;have:=k1 _ u hu
    rwa [show o+size+(j - size)=o+j by omega] at this
  obtain ⟨z,c,rfl⟩:=qad.1 hy;exact e z c
  ·rw [qr,qu] at hy;obtain ⟨z,c,rfl⟩:=hy;exact .fz (f j v z hv c)
theorem k46 {A:Option Addr} {size n cap:Nat} {xs:List FV} (h:RF S w (.slice A n cap) (.lst size n xs)):n=xs.length/\n<=cap/\cap<=9223372036854775807/\∃ cs,CR ψ K S w cs (ksw xs)/\(ksw xs).length=n*size/\k2u w n cs A:=by
 obtain ⟨A0,cap0,css,hv,hn,hc,hm,hs,ha,hl,hr⟩:=h.lst_inv;injection hv with e1 _ e3;subst e1 e3 hn;refine ⟨rfl,hc,hm,?_⟩;cases xs with
 | nil=>
  refine ⟨[],CR.nil,by simp [ksw],?_⟩;cases A with
  | none=>exact ⟨rfl,rfl⟩
  | some ad=>exact fun j u h=>by simp at h
 | cons x xs=>
  obtain ⟨b,o,rfl,_,_⟩:=ha 0 x rfl;obtain ⟨cs,h1,c,d⟩:=k17 (ψ:=ψ) (K:=K) (S:=S) (w:=w) (b:=b) (size:=size) (x::xs) o fun i y hy=>by obtain ⟨b',o',hA,_,a⟩:=ha i y hy;injection hA with hA;injection hA with e1 e2;subst e1 e2;obtain ⟨l1,l2,l3⟩:=hl i y hy;exact ⟨css i,a,l1,l2,l3,fun j v z hv e=>hr i y j v z hy hv e⟩
  exact ⟨cs,c,by rw [<- c.1,d],fun j u hu=>by rw [kcq];exact h1 j u hu⟩
theorem kpa {sz n:Nat} {c:Option Nat} {v:Value} {x:AV} {ys:List AV} (hv:RV ψ (·∈st.ids) S w v x) (t:∀ id o,kaa st.heap id=some o->ObR ψ (·∈st.ids) S w id o) (h:rdSl sz st x=some (n,c,ys)):
  ∃ A cap,v = .slice A n cap/\n<=cap/\cap<=9223372036854775807/\(∀ k,c=some k->cap=k)/\∃ cs,CR ψ (·∈st.ids) S w cs ys/\ys.length=n*sz/\k2u w n cs A:=by
 unfold rdSl rdH at h;split at h
 ·rename_i size m xs;cases a:(Nat.beq size sz && Nat.beq m xs.length) with
  | false=>rw [a] at h;cases h
  | true=>
   rw [a] at h;simp only [qe,qc,qq] at h;obtain ⟨rfl,rfl,rfl⟩:=h;simp only [qv] at a;obtain rfl:=qk a.1;have hv:=hv.inv;obtain ⟨A,cap,css,rfl,_⟩:=hv.lst_inv;obtain ⟨_,l,p,q⟩:=k46 (ψ:=ψ) (K:=(·∈st.ids)) hv;exact ⟨A,cap,rfl,l,p,(fun k hk=>by cases hk),q⟩
 ·rename_i size m xs;cases a:(Nat.beq size sz && Nat.beq m xs.length) with
  | false=>rw [a] at h;cases h
  | true=>
   rw [a] at h;simp only [qe,qc,qq] at h;obtain ⟨rfl,rfl,rfl⟩:=h;simp only [qv] at a;obtain rfl:=qk a.1;cases hv with
   | lim hv=>
    obtain ⟨_,l,p,q⟩:=k46 (ψ:=ψ) (K:=(·∈st.ids)) hv;exact ⟨_,_,rfl,l,p,(fun k hk=>by injection hk),q⟩
 simp only [qc,qq] at h;obtain ⟨rfl,rfl,rfl⟩:=h;rw [hv.atom];exact ⟨none,0,rfl,qx _,by omega,(fun k hk=>by injection hk),[],CR.nil,by simp,rfl,rfl⟩
 ·rename_i id g off len cap;split at h
  ·rename_i g' cells ho;cases a:(Nat.beq g g' && Nat.ble (off+len*sz) cells.length) with
   | false=>rw [a] at h;cases h
   | true=>
    rw [a] at h;simp only [qe,qc,qq] at h;obtain ⟨rfl,rfl,rfl⟩:=h;simp only [qv] at a;obtain rfl:=qk a.1;have y:=qt a.2;obtain ⟨z,b,cs,e,q1,q2,q3,q4,q5⟩:=kii t ho;obtain ⟨hK,b',c',f,rfl,r,hm,d⟩:=kj1 hv z;rw [q1] at f;simp only [qc] at f;subst f;have s:CR ψ (·∈st.ids) S w (cs.toList.take cells.length) cells:=⟨by simp;omega,q4,fun i v x hv B=>by
     rw [qaf] at hv;split at hv;exact q5 i v x (by simpa using hv) B
     ·cases hv⟩
    refine ⟨some ⟨b,off,none⟩,c',rfl,r,hm,(fun k hk=>by rw [hk] at d;exact d),_,s.sub off (len*sz),by simp;omega,fun j u hu=>?_⟩;rw [kcq];rw [qaf] at hu;split at hu
    ·rw [qao,qaf] at hu;split at hu;exact kuw q2 (by simpa using hu)
     ·cases hu
    ·cases hu
  ·cases h
 ·cases h
theorem kwi:ψ.set id (ψ.len id) (ψ.val id)=ψ:=by
 unfold Env.set;congr 1
 ·funext i;split;rename_i h;rw [h]
  ·rfl
 ·funext i;split;rename_i h;rw [h]
  ·rfl
theorem setC {g b:Nat} {cells:List AV} (cells':List AV) {cs new:Array Value} {e:TypeId} (a:Core F S0 N0 st.heap st.ids ψ S w) (h:objC st id=some (g,cells)) (c:ka3 (ψ.val id)=some b) (d:w.heap[b]?=some (.cells cs e (0,0))) (q:new.size=cs.size) (hl:cells'.length=cells.length) (h1:∀ x∈cells',x.single=true) (hr:∀ (i:Nat) (v:Value) (x:AV),new[i]?=some v->cells'[i]?=some x->RV ψ (·∈st.ids) S w v x):
  Core F S0 N0 (putC st id cells') st.ids ψ S (w.setRow b new)/\Fr F w (w.setRow b new)/\Same S w (w.setRow b new):=by
 have p:(w.setRow b new).heap.size=w.heap.size:=by simp [World.setRow]
 have f:∀ k,k<w.heap.size->¬ Blk (ψ.val id) k->(w.setRow b new).heap[k]?=w.heap[k]?:=fun k _ hk=>ko1 b new k fun e=>hk (.of (by rw [c,e]));have key:∀ ob ob',kaa st.heap id=some ob->(∀ hk:Same S w (w.setRow b new),ObR ψ (·∈st.ids) S (w.setRow b new) id ob')->Core F S0 N0 ((id,ob')::st.heap) st.ids ψ S (w.setRow b new)/\Fr F w (w.setRow b new)/\Same S w (w.setRow b new):=fun ob ob' ho j=>by obtain ⟨r,_,l⟩:=a.obj id _ ho;have hk:Same S w (w.setRow b new):=fun k hk hl=>f k hl fun e=>(l k e).1 hk;obtain ⟨c1,c2,c3⟩:=a.upd (n:=ψ.len id) (v:=ψ.val id) (w':=w.setRow b new) (ob':=ob') ho (by omega) f (.inr ⟨rfl,rfl⟩) (fun b c => .inl c) (by rw [kwi];exact j hk);rw [kwi] at c1;exact ⟨c1,⟨rfl,rfl,rfl,by omega,c3⟩,c2⟩
 have j:=fun id o ho=>(a.obj id o ho).2.1;unfold objC objH at h;unfold putC;split at h;rename_i e' cells0 ho;simp only [qc,qq] at h;obtain ⟨rfl,rfl⟩:=h;obtain ⟨q0,b',cs',q1,q2,q3,q4,q5⟩:=j id _ ho;rw [q1] at c;simp only [ka3,qc] at c;subst c;rw [d] at q2;injection q2 with q2;injection q2 with e1 e2;subst e1 e2;exact key _ _ ho fun hk=>⟨q0,b',new,q1,klq b' d,by omega,h1,fun i v x hv m=>(hr i v x hv m).keep Ext.refl (fun _ h=>h) (fun _ h=>h) hk⟩;rename_i g' e' sz cells0 ho;simp only [qc,qq] at h;obtain ⟨rfl,rfl⟩:=h;obtain ⟨q0,qz,b',cs',n,cap,q1,q2,q3,q4,q5,q6,q7⟩:=j id _ ho;rw [q1] at c;simp only [ka3,qc] at c;subst c;rw [d] at q2;injection q2 with q2;injection q2 with e1 e2;subst e1 e2;exact key _ _ ho fun hk=>⟨q0,qz,b',new,n,cap,q1,klq b' d,by omega,q4,by omega,h1,fun i v x hv m=>(hr i v x hv m).keep Ext.refl (fun _ h=>h) (fun _ h=>h) hk⟩
 ·cases h
theorem kyt {g off:Nat} {cells ys:List AV} {vs:List Value} (c:Core F S0 N0 st.heap st.ids ψ S w) (h:objC st id=some (g,cells)) (j:off+ys.length<=cells.length) (hr:CR ψ (·∈st.ids) S w vs ys):
  ∃ b w1,ka3 (ψ.val id)=some b/\(storeCells ⟨b,off,none⟩ vs).run P w = .ok () w1/\Core F S0 N0 (putC st id (kc5 cells off ys)) st.ids ψ S w1/\Fr F w w1/\Same S w w1:=by
 obtain ⟨m,b,cs,e,q1,q2,q3,q4,q5⟩:=kii (fun id o ho=>(c.obj id o ho).2.1) h;have hst:=run_storeCells_at (P:=P) b off e vs 0 cs w q2 (by rw [hr.1];omega) hr.one;simp only [Nat.add_zero] at hst;obtain ⟨new,d⟩:∃ new:Array Value,new=(cs.toList.take off++vs++cs.toList.drop (off+vs.length)).toArray:=⟨_,rfl⟩;rw [<- d] at hst;have k:new.toList=kc5 cs.toList off vs:=by rw [d];simp [kc5,qa8]
 have f:off+vs.length<=cs.toList.length:=by simp [hr.1];omega
 have l:new.size=cs.size:=by rw [<- qa3,k,kj6 _ _ _ f];simp
 obtain ⟨c1,c2,c3⟩:=setC (kc5 cells off ys) c h q1 q2 l (kj6 _ _ _ j) (fun z a=>by
   unfold kc5 at a;simp only [qab] at a;rcases a with a | a | a;exact q4 z (qa7 a);exact hr.2.1 z a
   ·exact q4 z (qbj a)) fun i v z hv a=>by
  rw [<- qa4,k,kll _ _ _ f] at hv;rw [kll _ _ _ j] at a;rw [hr.1] at hv;split at hv;rename_i hi;rw [qp hi] at a;exact hr.2.2 _ v z hv a
  ·rename_i hi;rw [ql hi] at a;exact q5 _ v z (by simpa using hv) a
 exact ⟨b,w.setRow b new,q1,hst,c1,c2,c3⟩
theorem k95 {x y:Operand} {g off:Nat} {cells ys:List AV} (ho:o.op = .store t x y) (m:TdOk P t d) (n:st.eval x = .ref id g off) (i:objC st id=some (g,cells)) (hy:(st.eval y).cells=ys) (hl:ys.length=d.size) (h1:ys.all AV.single=true)
  (k:off+ys.length<=cells.length):kau P o st .any (putC st id (kc5 cells off ys)) st.ids:=by
 subst hy;intro F S0 N0 ψ S a w e;have c:=e.core;have j:=CR.cells (e.eval y) h1;obtain ⟨b,w1,q1,q2,q3,q4,q5⟩:=kyt (P:=P) c i k j;obtain ⟨p,_⟩:=kii (fun id o ho=>(c.obj id o ho).2.1) i;have hv:=e.eval x;rw [n] at hv;have l:a.eval x = .pointer (some ⟨b,off,none⟩):=by
  generalize a.eval x=u at hv;cases hv with
  | ref hK hn h1 hv=>
   obtain ⟨b',f,rfl⟩:=hv p.symm;rw [q1] at f;simp only [qc] at f;rw [f]
 refine km4 (w':=w1) ?_ ⟨ψ,S,q3, .any,q4,Ext.refl,fun _ h=>h,fun _ h=>h,q5⟩;have hcl:(a.eval y).cells.size=d.size:=by have:=j.1;simp at this;omega
 simp only [execOp,ho,Instr.storeAt,l,Instr.sureAddr,storeVar,m.size,Sem.run_bind,Sem.run_pure,Result.andThen_ok];rw [ql (by rw [hcl];simp)];simp only [q2];rfl
def srcH (T:List (TypeId×TD)) (H:Nat->Option AObj) (sz:Nat) (tx:TypeId) (y:AV):Option (Nat×List AV):=match kad T tx with
 | some d=>match d.kind,y with
  | .slice _,y=>match rdH H sz y with
   | some (n,_,ys)=>some (n,ys)
   | none=>none
  | .str, .fz (.atom (.string s))=>bif Nat.beq sz 1 then some (s.size,(byteCells s).map fun v => .fz (.atom v)) else none
  | _,_=>none
 | none=>none
abbrev srcE (T:List (TypeId×TD)) (sz:Nat) (st:St) (tx:TypeId) (y:AV):Option (Nat×List AV):=srcH T (kaa st.heap) sz tx y
variable {tx:TypeId}
theorem kut (g:TOk P T) {sz n:Nat} {v:Value} {y:AV} {ys:List AV} (hv:RV ψ (·∈st.ids) S w v y) (l:∀ id o,kaa st.heap id=some o->ObR ψ (·∈st.ids) S w id o) (h:srcE T sz st tx y=some (n,ys)):
  ∃ news,Src P sz tx v n news w/\CR ψ (·∈st.ids) S w news ys:=by
 unfold srcE srcH at h;split at h
 ·rename_i d j;split at h
  ·rename_i e hk;split at h
   ·rename_i m c zs hr;simp only [qc,qq] at h;obtain ⟨rfl,rfl⟩:=h;obtain ⟨A,cap,rfl,h1,q,_,cs,a,p,k⟩:=kpa hv l hr;have hu:=(g.get j).slice hk;cases A with
    | none=>
     obtain ⟨rfl,rfl⟩:=k;exact ⟨[],Src.ofNil w hu cap,a⟩
    | some ad=>exact ⟨cs,Src.ofSlice w hu ad _ cap cs (by rw [a.1,p]) k a.one,a⟩
   ·cases h
  ·rename_i s hk;cases f:Nat.beq sz 1 with
   | false=>rw [f] at h;cases h
   | true=>
    rw [f] at h;simp only [qe,qc,qq] at h;obtain ⟨rfl,rfl⟩:=h;obtain rfl:=qk f;rw [hv.atom];refine ⟨byteCells s,Src.ofString w ((g.get j).str hk) s,by simp,fun x b=>?_,fun i v x hv b=>?_⟩;obtain ⟨u,hu,rfl⟩:=qad.1 b;unfold byteCells at hu;obtain ⟨c,_,rfl⟩:=qad.1 hu;rfl
    ·rw [qr,qu] at b;obtain ⟨u,hu,rfl⟩:=b;rw [hv] at hu;injection hu with hu;subst hu;have:=qo hv;unfold byteCells at this;obtain ⟨c,_,rfl⟩:=qad.1 this;exact .fz (.atom rfl)
  ·cases h
 ·cases h
theorem kvp {t ty e:TypeId} {i:TypeInfo} (ht:P.underlying t=some (.slice e)) (hi:P.info? e=some i) {b off sLen:Nat} (sCap:Nat) {x:Value} {n:Nat} {news:List Value} (hs:Src P i.size tx x n news w) (a:sLen+n<=sCap) {w1:World} (hst:(storeCells ⟨b,off+sLen*i.size,none⟩ news).run P w = .ok () w1):
  (Builtin.append_ #[t,tx] ty #[.slice (some ⟨b,off,none⟩) sLen sCap,x]).run P w = .ok (.slice (some ⟨b,off,none⟩) (sLen+n) sCap) w1:=by
 rcases hs.kind with ⟨e',hk⟩ | hk <;> simp [Builtin.append_,run_underlying ht,run_underlying hk,sizeOf,typeInfo,hi,hs.len,a,hs.cells,kcq,hst]
theorem kvx {t:TypeId} (ty:TypeId) {e:TypeId} {de:TD} (ht:P.underlying t=some (.slice e)) (k:TdOk P e de) (l:de.zero.length=de.size) {A:Option Addr} {m:Nat} (cap:Nat) {n:Nat} {olds news:List Value} {xs ys:List AV} {x:Value} (hc:CR ψ K S w olds xs) (hl:xs.length=m*de.size) (hA:k2u w m olds A) (hs:Src P de.size tx x n news w) (hy:CR ψ K S w news ys) (C:cap<m+n) (D:(m+n)*(de.bytes+1)<=140737488355328):
  ∃ gc cur,(Builtin.append_ #[t,tx] ty #[.slice A m cap,x]).run P w = .ok (.slice (some ⟨w.heap.size,0,none⟩) (m+n) gc) (w.drew.alloc (.cells cur e))/\cur.size=gc*de.size/\m+n<=gc/\gc<=9223372036854775807/\(xs++ys).length=(m+n)*de.size /\
   (∀ x∈xs++ys,x.single=true)/\∀ (i:Nat) (v:Value) (x:AV),cur[i]?=some v->(xs++ys)[i]?=some x->RV ψ K S w v x:=by
 obtain ⟨⟨i,z,hi,c,d,o,p⟩,_⟩:=k;have q:z.cells.size=i.size:=by rw [<- qa3,p,l,c]
 rw [<- c] at hs hl ⊢;rw [Nat.mul_add,qbn] at D;have f:(Builtin.firstCells i.size m (.slice A m cap)).run P w.drew = .ok olds.toArray w.drew:=by
  cases A with
  | none=>
   obtain ⟨rfl,rfl⟩:=hA;exact run_firstCells_none w.drew i.size 0 0 cap
  | some ad=>exact run_firstCells_some w.drew i.size m ad m cap olds (by rw [hc.1,hl]) fun j v r=>by simpa using hA j v r
 have s:=nextslicecap_le C;have g:Builtin.nextslicecap (m+n) cap*i.bytes<=281474976710656:=by have:=qbk i.bytes s;rw [Nat.mul_assoc,d] at this;rw [d];omega
 have h:=run_append_grow_src (P:=P) w t tx ty e i z ht hi o A m cap olds f x n news hs C (by omega) g;have u:=grownCap_ge w (m+n) cap e;have B:=grownCap_le_maxLen w (m+n) cap e (by unfold maxLen;omega);have a:=hc.append hy;have b:(xs++ys).length=(m+n)*i.size:=by rw [qag,hl,<- hy.1,hs.newsLen,qbg]
 refine ⟨grownCap w (m+n) cap e,_,h,?_,u,by unfold maxLen at B;omega,b,a.2.1,fun j v y hv hy=>?_⟩;simp only [Array.size_append,List.size_toArray,size_zeroCells,q];rw [a.1,b,<- qbg];congr 1;omega
 ·have r:j<(olds++news).length:=by rw [a.1];exact (qf.1 hy).1
  rw [qbq (by simpa using r)] at hv;exact a.2.2 j v y (by simpa using hv) hy
theorem ks6 {x y:Operand} {ts:Array TypeId} {v:Value} {w1:World} (ho:o.op = .call { callee := .builtin .append,args:=#[x,y],argTypes:=ts }) (h:(Builtin.append_ ts o.type #[a.eval x,a.eval y]).run P w = .ok v w1):(execOp a.eval o).run P w = .ok (.value v) w1:=by simp only [execOp,ho,resolve,invoke,builtin,Sem.run_bind,Sem.run_pure,Result.andThen_ok,List.map_toArray,qas,List.map_nil,h]
theorem grow_grow {cur:Array Value} {e:TypeId}:Grow w (w.drew.alloc (.cells cur e)):=Below.step (kza w) (kbr _ _)
theorem k72 {x y:Operand} {e:TypeId} {de:TD} {m n k:Nat} {xs ys:List AV} (ho:o.op = .call { callee := .builtin .append,args:=#[x,y],argTypes:=#[t,tx] }) (q:TOk P T) (G:kad T t=some d) (hk:d.kind = .slice e) (r:kad T e=some de) (s:0<de.size) (u:de.zero.length=de.size)
  (H:rdSl de.size st (st.eval x)=some (m,some k,xs)) (hy:srcE T de.size st tx (st.eval y)=some (n,ys)) (I:k<m+n) (B:(m+n)*(de.bytes+1)<=140737488355328) (f:st.ids.contains id=false):
  kau P o st (.bsl id 0 0 (m+n) none) ((id, .xo (.blk 0 e de.size (xs++ys)))::st.heap) (id::st.ids):=by
 have f:id∉st.ids:=by simpa using f
 intro F S0 N0 ψ S a w g;have c:=g.core;have E:=fun id o ho=>(c.obj id o ho).2.1;obtain ⟨A,cap,C,_,_,j,cs,J,K,L⟩:=kpa (g.eval x) E H;obtain rfl:=j k rfl;obtain ⟨news,l,D⟩:=kut q (g.eval y) E hy;obtain ⟨gc,cur,p,g1,g2,g3,g4,g5,g6⟩:=kvx o.type ((q.get G).slice hk) (q.get r) u _ J K L l D I B;refine kaf _ _ (ks6 ho (by rw [C];exact p)) ⟨ψ.set id 0 (.slice (some ⟨w.heap.size,0,none⟩) (m+n) gc),S,?_,?_,Fr.of_grow c.fr grow_grow,kdw f _ _,fun _ h=>qj _ h,fun _ h=>h,Same.of_grow grow_grow⟩;have M:(m+n)*de.size<=gc*de.size:=qbk _ g2;refine c.add grow_grow f (fun b B=>by simp [ka3] at B;omega) ⟨kct _ _,s,w.heap.size,cur,m+n,gc,kav _ _,by simpa using heap_alloc_new w.drew (.cells cur e),g1,g3,by omega,g5,fun i v z hv s=>(g6 i v z hv s).keep (kdw f _ _) (fun _ h=>qj _ h) (fun _ h=>h) (Same.of_grow grow_grow)⟩
 ·exact .bsl (qn ..) (qau _) rfl fun _=>⟨w.heap.size,gc,by rw [kav];rfl,rfl,g2,g3,rfl,by rw [kav];rfl⟩
theorem k65 {x y:Operand} {e:TypeId} {de:TD} {g off m n k:Nat} {cells ys:List AV} (ho:o.op = .call { callee := .builtin .append,args:=#[x,y],argTypes:=#[t,tx] }) (s:TOk P T) (G:kad T t=some d) (hk:d.kind = .slice e) (u:kad T e=some de)
  (H:st.eval x = .bsl id g off m (some k)) (q:objC st id=some (g,cells)) (hy:srcE T de.size st tx (st.eval y)=some (n,ys)) (hr:m+n<=k) (v:off+m*de.size+ys.length<=cells.length):
  kau P o st (.bsl id g off (m+n) (some k)) (putC st id (kc5 cells (off+m*de.size) ys)) st.ids:=by
 intro F S0 N0 ψ S a w p;have f:=p.core;have D:=fun id o ho=>(f.obj id o ho).2.1;obtain ⟨I,_⟩:=kii D q;have hv:=p.eval x;rw [H] at hv;obtain ⟨hK,b,c,E,A,J,r,j⟩:=kj1 hv I;simp only [CapR] at j;subst j;obtain ⟨news,l,B⟩:=kut s (p.eval y) D hy;obtain ⟨b',w1,q1,q2,q3,q4,q5⟩:=kyt (P:=P) f q v B;rw [E] at q1;simp only [qc] at q1;subst q1;obtain ⟨⟨i,z,hi,C,K,L,M⟩,_⟩:=s.get u;rw [<- C] at l q2;refine kaf _ _ (ks6 ho (by rw [A];exact kvp ((s.get G).slice hk) hi _ l hr q2)) ⟨ψ,S,q3,?_,q4,Ext.refl,fun _ h=>h,fun _ h=>h,q5⟩;exact .bsl hK (by omega) rfl fun _=>⟨b,c,E,rfl,hr,r,rfl⟩
theorem kaej {x y:Operand} {e:TypeId} {de:TD} {g m n:Nat} {cells ys:List AV} (ho:o.op = .call { callee := .builtin .append,args:=#[x,y],argTypes:=#[t,tx] }) (M:TOk P T) (hd:kad T t=some d) (hk:d.kind = .slice e) (N:kad T e=some de) (ab:de.zero.length=de.size)
  (hx:st.eval x = .bsl id g 0 m none) (O:kaa st.heap id=some (.xo (.blk g e de.size cells))) (hl:cells.length=m*de.size) (hy:srcE T de.size st tx (st.eval y)=some (n,ys)) (hb:(m+n)*(de.bytes+1)<=140737488355328):
  kau P o st (.bsl id (g+1) 0 (m+n) none) ((id, .xo (.blk (g+1) e de.size (cells++ys)))::st.heap) st.ids:=by
 intro F S0 N0 ψ S a w I;have l:=I.core;have hO:=fun id o ho=>(l.obj id o ho).2.1;obtain ⟨ac,⟨hg,D,b,cs,n0,cap,h1,h2,h3,h4,h5,h6,h7⟩,ad⟩:=l.obj id _ O;have hv:=I.eval x;rw [hx] at hv;obtain ⟨hK,b',c,J,Q,ae,R,E⟩:=kj1 hv hg;rw [h1] at J E;simp only [ka3,qc] at J;subst J;have af:c=cap:=E.2;rw [af] at Q ae R;obtain ⟨news,q,r⟩:=kut M (I.eval y) hO hy;have U:CR ψ (·∈st.ids) S w (cs.toList.take cells.length) cells:=⟨by simp;omega,h6,fun i v x hv hx=>by
  rw [qaf] at hv;split at hv;exact h7 i v x (by simpa using hv) hx
  ·cases hv⟩
 have fin:∀ (v':Value) (w1:World) (b1 gc:Nat) (new:Array Value),(Builtin.append_ #[t,tx] o.type #[.slice (some ⟨b,0,none⟩) m cap,a.eval y]).run P w = .ok v' w1->v' = .slice (some ⟨b1,0,none⟩) (m+n) gc->w1.heap[b1]?=some (.cells new e (0,0))->new.size=gc*de.size->m+n<=gc->gc<=9223372036854775807 ->
   (cells++ys).length<=new.size->(∀ (i:Nat) (v:Value) (x:AV),new[i]?=some v->(cells++ys)[i]?=some x->RV ψ (·∈st.ids) S w v x)->w.heap.size<=w1.heap.size->(∀ k,k<w.heap.size->k≠b->w1.heap[k]?=w.heap[k]?)->(b1=b\/w.heap.size<=b1)->w1.os=w.os/\w1.tape=w.tape/\w1.output=w.output ->
   keg P o a w fun v w'=>∃ ψ' S',Core F S0 N0 ((id, .xo (.blk (g+1) e de.size (cells++ys)))::st.heap) st.ids ψ' S' w'/\RV ψ' (·∈st.ids) S' w' v (.bsl id (g+1) 0 (m+n) none)/\Fr F w w'/\Ext (·∈st.ids) ψ ψ'/\(∀ id,id∈st.ids->id∈st.ids)/\(∀ b,S b->S' b)/\Same S w w':=by
  intro v' w1 b1 gc new f K hh ag V X Y hr s Z ah hw;have B:∀ k,k<w.heap.size->¬ Blk (ψ.val id) k->w1.heap[k]?=w.heap[k]?:=fun k hk ai=>Z k hk fun e=>ai (.of (by rw [h1,e];rfl));have L:Same S w w1:=fun k hk hl=>B k hl fun e=>(ad k e).1 hk;have G:Ext (·∈st.ids) ψ (ψ.set id (g+1) v'):=kyy (.inl (by omega));obtain ⟨c1,c2,c3⟩:=l.upd (n:=g+1) (v:=v') (w':=w1) (ob' := .xo (.blk (g+1) e de.size (cells++ys))) O s B (.inl (by omega)) (fun k hk=>by
    rw [K] at hk;have hk:=hk.sl;simp only [ka3,qc] at hk;subst hk;rcases ah with rfl | h;exact .inl (.of (by rw [h1];rfl))
    ·exact .inr h)
   ⟨kct _ _,D,b1,new,m+n,gc,by rw [kav,K],hh,ag,X,Y,fun z D=>(qab.1 D).elim (h6 z) (r.2.1 z),fun i v z hv D=>(hr i v z hv D).keep G (fun _ h=>h) (fun _ h=>h) L⟩
  refine kaf _ _ (ks6 ho (by rw [Q];exact f)) ⟨_,S,c1,?_,⟨hw.1,hw.2.1,hw.2.2,s,c3⟩,G,fun _ h=>h,fun _ h=>h,c2⟩;subst K;exact .bsl ac (by rw [kct];exact qx _) rfl fun _=>⟨b1,gc,by rw [kav];rfl,rfl,V,X,rfl,by rw [kav];rfl⟩
 by_cases p:m+n<=cap
 ·obtain ⟨⟨i,z,hi,H,aj,ak,al⟩,_⟩:=M.get N;have aa:0+m*de.size+news.length<=cs.size:=by rw [q.newsLen,h3,Nat.zero_add,<- qbg];exact qbk _ p
  have hst:=run_storeCells_at (P:=P) b (0+m*de.size) e news 0 cs w h2 (by simpa using aa) r.one;simp only [Nat.add_zero] at hst;have f:=kvp (ty:=o.type) ((M.get hd).slice hk) hi cap (by rw [H];exact q) p (by rw [H];exact hst);have C:cells.length=0+m*de.size:=by omega
  refine fin _ _ b cap _ f rfl (klq b h2) ?_ p h4 ?_ (fun j v z hv D=>?_) (by simp [World.setRow]) (fun k _ hk=>ko1 b _ k hk) (.inl rfl) ⟨rfl,rfl,rfl⟩;simp;omega;simp [<- r.1];omega
  ·have hc2:=U.append r;rw [C] at hc2;refine hc2.2.2 j v z ?_ D;have hj:j<(List.take (0+m*de.size) cs.toList++news).length:=(by rw [hc2.1];exact (qf.1 D).1);simp only [List.getElem?_toArray] at hv;rw [qy hj] at hv;exact hv
 ·obtain ⟨gc,cur,f,g1,g2,g3,g4,g5,g6⟩:=kvx (m:=m) (A:=some ⟨b,0,none⟩) o.type ((M.get hd).slice hk) (M.get N) ab cap U hl (fun j u hu=>by
   rw [kcq];rw [qaf] at hu;split at hu;exact kuw h2 (by simpa using hu)
   ·cases hu) q r (by omega) hb
  have V:(m+n)*de.size<=gc*de.size:=qbk _ g2;exact fin _ _ w.heap.size gc cur f rfl (by simpa using heap_alloc_new w.drew (.cells cur e)) g1 g2 g3 (by omega) g6 grow_grow.size (fun k hk _=>grow_grow.block k hk) (.inr (qx _)) ⟨rfl,rfl,rfl⟩
theorem kaf6 {x y:Operand} {e:TypeId} {de:TD} {m:Nat} {c:Option Nat} {xs ys:List AV} (ho:o.op = .call { callee := .builtin .append,args:=#[x,y],argTypes:=#[t,tx] }) (k:TOk P T) (r:kad T t=some d) (hk:d.kind = .slice e) (l:kad T e=some de)
  (s:rdSl de.size st (st.eval x)=some (m,c,xs)) (hy:srcE T de.size st tx (st.eval y)=some (0,ys)):NStep P o st (st.eval x):=by
 intro ψ S a w ht q;obtain ⟨A,cap,f,n,_⟩:=kpa (Sim.eval_tmps ht x) q s;obtain ⟨news,b,u⟩:=kut k (Sim.eval_tmps ht y) q hy;obtain rfl:news=[]:=qaz (by rw [b.newsLen,Nat.zero_mul]);obtain ⟨⟨i,z,hi,p,v,B,C⟩,_⟩:=k.get l;rw [<- p] at b;have g:=Sim.eval_tmps ht x;rw [f] at g;have hu:=(k.get r).slice hk;have h:(Builtin.append_ #[t,tx] o.type #[.slice A m cap,a.eval y]).run P w = .ok (.slice A m cap) w:=by rcases b.kind with ⟨e',j⟩ | j <;> cases A <;> simp [Builtin.append_,run_underlying hu,run_underlying j,sizeOf,typeInfo,hi,b.len,n,b.cells,storeCells]
 exact kaf _ _ (ks6 ho (by rw [f];exact h)) ⟨kag _,g.here⟩
end Go.Proofs.YtchjomeomabamaaGreatDoor
