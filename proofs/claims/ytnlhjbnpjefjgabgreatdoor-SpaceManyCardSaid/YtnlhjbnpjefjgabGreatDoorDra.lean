import Derived.Test.YtnlhjbnpjefjgabGreatDoorDrz
set_option linter.all false
set_option linter.unusedSectionVars false
namespace Go.Proofs.YtnlhjbnpjefjgabGreatDoor
open Go Go.RowKit
variable [Dr]
abbrev Ent:=Bool×Nat×AObj
def hpD (x:Nat->Option Ent) (p:Nat->Bool):Nat->List (Nat×AObj)
 | 0=>[]
 | k+1=>match x k with
  | some q=>bif p k then q.2::hpD x p k else hpD x p k
  | none=>hpD x p k
def idD (x:Nat->Option Ent) (p:Nat->Bool):Nat->List Nat
 | 0=>[]
 | k+1=>match x k with
  | some q=>bif p k && q.1 then q.2.1::idD x p k else idD x p k
  | none=>idD x p k
theorem kmn {x:Nat->Option Ent} {p q:Nat->Bool}:∀ {k:Nat},(∀ j,j<k->x j≠none->p j=q j)->hpD x p k=hpD x q k
 | 0,_=>rfl
 | k+1,h=>by
  have ih:=kmn (k:=k) fun j b=>h j (by omega);simp only [hpD];cases a:x k with
  | none=>exact ih
  | some r=>rw [ih,h k (by omega) (by rw [a];exact fun h=>by cases h)]
theorem ktl {x:Nat->Option Ent} {p q:Nat->Bool}:∀ {k:Nat},(∀ j,j<k->x j≠none->p j=q j)->idD x p k=idD x q k
 | 0,_=>rfl
 | k+1,h=>by
  have ih:=ktl (k:=k) fun j b=>h j (by omega);simp only [idD];cases a:x k with
  | none=>exact ih
  | some r=>rw [ih,h k (by omega) (by rw [a];exact fun h=>by cases h)]
theorem kvn {x:Nat->Option Ent} {p:Nat->Bool}:∀ {k:Nat},(∀ j,j<k->p j=false)->hpD x p k=[]
 | 0,_=>rfl
 | k+1,h=>by simp only [hpD];rw [kvn (k:=k) fun j a=>h j (by omega),h k (by omega)];cases x k <;> rfl
theorem k1h {x:Nat->Option Ent} {p:Nat->Bool}:∀ {k:Nat},(∀ j,j<k->p j=false)->idD x p k=[]
 | 0,_=>rfl
 | k+1,h=>by simp only [idD];rw [k1h (k:=k) fun j a=>h j (by omega),h k (by omega)];cases x k <;> rfl
theorem ky9 {x y:Nat->Option Ent} {p:Nat->Bool}:∀ {k:Nat},(∀ j,j<k->x j=y j)->hpD x p k=hpD y p k
 | 0,_=>rfl
 | k+1,h=>by simp only [hpD];rw [ky9 (k:=k) fun j a=>h j (by omega),h k (by omega)]
theorem kzc {x y:Nat->Option Ent} {p:Nat->Bool}:∀ {k:Nat},(∀ j,j<k->x j=y j)->idD x p k=idD y p k
 | 0,_=>rfl
 | k+1,h=>by simp only [idD];rw [kzc (k:=k) fun j a=>h j (by omega),h k (by omega)]
theorem idD_mem {x:Nat->Option Ent} {p:Nat->Bool} {id:Nat}:∀ {k:Nat},id∈idD x p k↔∃ j ob,j<k/\p j=true/\x j=some (true,id,ob)
 | 0=>⟨fun h=>(by cases h),fun ⟨j,_,h,_⟩=>by omega⟩
 | k+1=>by
  have ih:=idD_mem (x:=x) (p:=p) (id:=id) (k:=k);have up:(∃ j ob,j<k/\p j=true/\x j=some (true,id,ob))->∃ j ob,j<k+1/\p j=true/\x j=some (true,id,ob):=fun ⟨j,ob,h1,b⟩=>⟨j,ob,by omega,b⟩;have down:(p k=true->∀ ob,x k≠some (true,id,ob))->(∃ j ob,j<k+1/\p j=true/\x j=some (true,id,ob))->∃ j ob,j<k/\p j=true/\x j=some (true,id,ob):=fun hk ⟨j,ob,h1,b,g⟩=>⟨j,ob,by
   by_cases i:j=k;subst i;exact absurd g (hk b ob)
   ·omega,b,g⟩
  simp only [idD];cases c:x k with
  | none=>
   simp only;rw [ih];exact ⟨up,down fun _ ob h=>by rw [c] at h;cases h⟩
  | some r=>
   simp only;obtain ⟨r1,r2,r3⟩:=r;cases hp:(p k && r1) with
   | false=>
    simp only [qw];rw [ih];refine ⟨up,down fun d ob h=>?_⟩;rw [c] at h;cases h;rw [d] at hp;cases hp
   | true=>
    rw [qo] at hp;obtain ⟨e,f⟩:=hp;subst f;simp only [qr,qan];rw [ih];refine ⟨fun h=>h.elim (fun h=>⟨k,r3,by omega,e,by rw [c,h]⟩) up,fun h=>?_⟩;by_cases a:id=r2;exact .inl a
    ·refine .inr (down (fun _ ob h=>?_) h);rw [c] at h;cases h;exact a rfl
theorem k3e {x:Nat->Option Ent} {p q:Nat->Bool} {i id:Nat} {f:Bool} {ob:AObj} {H:List (Nat×AObj)} (o:x i=some (f,id,ob)) (b:∀ j,q j=true↔j=i\/p j=true) (c:p i=false) (id':Nat):
  ∀ {k:Nat},i<k->(∀ j,j<k->i<j->p j=true->∀ f' ob',x j≠some (f',id,ob'))->kaa (hpD x q k++H) id'=if id=id' then some ob else kaa (hpD x p k++H) id'
 | 0,h,_=>by omega
 | k+1,h,hl=>by
  simp only [hpD];by_cases d:k=i
  ·subst d;have e:hpD x q k=hpD x p k:=kmn fun j s _=>by
    cases hp:p j with
    | true=>exact (b j).2 (.inr hp)
    | false=>
     cases g:q j with
     | false=>rfl
     | true=>
       rcases (b j).1 g with h | h;omega
       ·rw [hp] at h;cases h
   rw [o];simp only [(b k).2 (.inl rfl),c,qr,qw];rw [qbo,kae,e]
  ·have ih:=k3e o b c id' (k:=k) (H:=H) (by omega) (fun j s=>hl j (by omega));cases l:x k with
   | none=>simp only;exact ih
   | some r=>
    simp only;obtain ⟨r1,r2,r3⟩:=r;cases a:p k with
    | false=>
     have:q k=false:=by
      cases m:q k with
      | false=>rfl
      | true=>
        rcases (b k).1 m with h | h;exact absurd h d
        ·rw [a] at h;cases h
     rw [this];simp only [qw];exact ih
    | true=>
     rw [(b k).2 (.inr a)];simp only [qr,qbo];rw [kae,kae];have n:r2≠id:=fun h=>hl k (by omega) (by omega) a r1 r3 (by rw [l,h]);by_cases h1:r2=id';rw [qt h1,qt h1,qq (by rintro rfl;exact n h1)]
     ·rw [qq h1,qq h1];exact ih
theorem kve {x:Nat->Option Ent} {p q:Nat->Bool} {id:Nat} {H:List (Nat×AObj)}:∀ {k:Nat},(∀ j,j<k->∀ f ob,x j=some (f,id,ob)->p j=q j)->kaa (hpD x p k++H) id=kaa (hpD x q k++H) id
 | 0,_=>rfl
 | k+1,h=>by
  have ih:=kve (k:=k) (H:=H) fun j d=>h j (by omega);simp only [hpD];cases c:x k with
  | none=>exact ih
  | some r=>
   obtain ⟨r1,r2,r3⟩:=r;simp only;by_cases a:r2=id
   ·subst a;rw [h k (by omega) r1 r3 c];cases q k with
    | false=>exact ih
    | true=>simp only [qr,qbo,kae,if_true]
   ·have go:∀ b:Bool,kaa ((bif b then (r2,r3)::hpD x p k else hpD x p k)++H) id=kaa (hpD x p k++H) id:=fun b=>by
     cases b with
     | false=>rfl
     | true=>simp only [qr,qbo,kae,qq a]
    have go':∀ b:Bool,kaa ((bif b then (r2,r3)::hpD x q k else hpD x q k)++H) id=kaa (hpD x q k++H) id:=fun b=>by
     cases b with
     | false=>rfl
     | true=>simp only [qr,qbo,kae,qq a]
    rw [go,go',ih]
theorem kabm {x:Nat->Option Ent} {p:Nat->Bool} {id:Nat} {H:List (Nat×AObj)} {k:Nat} (h:∀ j,j<k->∀ f ob,x j≠some (f,id,ob)):kaa (hpD x p k++H) id=kaa H id:=by rw [kve (q:=fun _=>false) fun j a f ob b=>absurd b (h j a f ob),kvn fun _ _=>rfl];rfl
theorem kwi {F S0:Nat->Prop} {N0:Nat} {hp a:List (Nat×AObj)} {ids ids':List Nat} {ψ:Env} {S:Nat->Prop} {w:World} (h1:∀ id,kaa hp id=kaa a id) (d:∀ id,id∈ids↔id∈ids') (h:Core F S0 N0 hp ids ψ S w):Core F S0 N0 a ids' ψ S w:=by have hK:(fun id=>id∈ids)=(fun id=>id∈ids'):=funext fun id=>propext (d id);refine ⟨fun id o ho=>?_,fun id id' o o' b ho c=>h.inj id id' o o' b (by rw [h1];exact ho) (by rw [h1];exact c),h.lt,h.s0,h.n0,h.fr⟩;obtain ⟨e1,e2,e3⟩:=h.obj id o (by rw [h1];exact ho);refine ⟨(d id).1 e1,?_,e3⟩;have e2:ObR ψ (fun id=>id∈ids) S w id o:=e2;rw [hK] at e2;exact e2
def kdr (l:List Oper) (n:Nat) (ai:List Nat) (st:St) (i:Nat) (o:Oper) (fs:List (Nat×Option Nat×AV)):St:=
 { st with tmps:=hadd fs (keu o) (kgc l i n++st.tmps),ids:=ai }
def k47 (P:Program) (v:St) (o:Oper) (c:AV) (id:Nat) (ob:AObj):Prop:=∀ (a:List (Nat×AObj)) (ids':List Nat),ids'.contains id=false->StepA P o { v with heap:=a,ids:=ids' } c ((id,ob)::a) (id::ids')
def k46 (P:Program) (v:St) (o:Oper) (c:AV) (id:Nat) (ob:AObj):Prop:=∀ (a:List (Nat×AObj)) (ids':List Nat),kaa a id=kaa v.heap id->StepA P o { v with heap:=a,ids:=ids' } c ((id,ob)::a) ids'
def befB (l:List Oper) (i id:Nat) (es:List (Nat×Nat)):Bool:=es.all fun e=>!(e.2 == id) || anc l i e.1
def idsB (l:List Oper) (i:Nat) (nid:List Nat) (es:List (Nat×Nat)) (ids:List Nat):List Nat:=nid.filter (fun id=>befB l i id es)++ids
def kq2 (P:Program) (os:Array Oper) (n:Nat) (ai:List Nat) (Q:Exit->St->Prop) (st:St):Nat->Nat->List Oper->List (Nat×Option Nat×AV)->List (Nat×AObj)->List Nat->List (Nat×Nat)->Prop
 | 0,_,l,fs,hp,nid,_=>awpL P os l { st with tmps:=hadd fs (fun _=>true) st.tmps,heap:=hp++st.heap,ids:=nid++st.ids } Q
 | k+1,i,o::l,fs,hp,nid,es=>
  (∃ c,kq1 P os (kdr os.toList n ai st i o fs) o c/\okA (idsB os.toList i nid es st.ids) c=true/\kq2 P os n ai Q st k (i+1) l ((i,o.dst,c)::fs) hp nid es) \/
  (∃ c id ob,ka0 os (kdr os.toList n ai st i o fs) o=some true/\k47 P (kdr os.toList n ai st i o fs) o c id ob/\(st.ids.contains id || (st.heap.any fun q=>q.1 == id) || (es.any fun q=>q.2 == id) || !ai.contains id)=false/\kq2 P os n ai Q st k (i+1) l ((i,o.dst,c)::fs) ((id,ob)::hp) (id::nid) ((i,id)::es)) \/
  (∃ c id ob,ka0 os (kdr os.toList n ai st i o fs) o=some true/\k46 P { kdr os.toList n ai st i o fs with heap:=hp++st.heap } o c id ob/\(st.heap.any fun q=>q.1 == id)=false/\befB os.toList i id es=true/\kq2 P os n ai Q st k (i+1) l ((i,o.dst,c)::fs) ((id,ob)::hp) nid ((i,id)::es))
 | _+1,_,[],_,_,_,_=>False
section
variable {P:Program} {F S0:Nat->Prop} {N0:Nat} {w w':World} {S S':Nat->Prop} {ψ ψ':Env} {Q:Exit->St->Prop} {st:St} {os:Array Oper} {n:Nat} {ai:List Nat}
def esD (x:Nat->Option Ent):Nat->List (Nat×Nat)
 | 0=>[]
 | k+1=>match x k with
  | some q=>(k,q.2.1)::esD x k
  | none=>esD x k
theorem kzb {x y:Nat->Option Ent}:∀ {k:Nat},(∀ j,j<k->x j=y j)->esD x k=esD y k
 | 0,_=>rfl
 | k+1,h=>by simp only [esD];rw [kzb (k:=k) fun j a=>h j (by omega),h k (by omega)]
theorem kt4 {x:Nat->Option Ent} {j:Nat} {f:Bool} {id:Nat} {ob:AObj} (b:x j=some (f,id,ob)):∀ {k:Nat},j<k->(j,id)∈esD x k
 | 0,h=>by omega
 | k+1,h=>by
  simp only [esD];by_cases a:j=k;subst a;rw [b];exact qn ..
  ·have:=kt4 b (k:=k) (by omega);cases x k with
   | none=>exact this
   | some r=>exact qe _ this
def FactY (P:Program) (os:Array Oper) (n:Nat) (ai:List Nat) (st:St) (c:Nat->AV) (x:Nat->Option Ent) (i:Nat) (o:Oper):Prop:=
 (x i=none/\kq1 P os (kdr os.toList n ai st i o (fsOf os.toList c i)) o (c i)/\okA (idsB os.toList i (idD x (fun _=>true) i) (esD x i) st.ids) (c i)=true) \/
 (∃ id ob,x i=some (true,id,ob)/\ka0 os (kdr os.toList n ai st i o (fsOf os.toList c i)) o=some true/\k47 P (kdr os.toList n ai st i o (fsOf os.toList c i)) o (c i) id ob/\id∉st.ids/\(∀ q∈st.heap,q.1≠id)/\(∀ j,j<i->∀ f ob',x j≠some (f,id,ob'))/\id∈ai) \/
 (∃ id ob,x i=some (false,id,ob)/\ka0 os (kdr os.toList n ai st i o (fsOf os.toList c i)) o=some true/\k46 P { kdr os.toList n ai st i o (fsOf os.toList c i) with heap:=hpD x (fun _=>true) i++st.heap } o (c i) id ob/\(∀ q∈st.heap,q.1≠id)/\∀ j,j<i->∀ f ob',x j=some (f,id,ob')->anc os.toList i j=true)
theorem knl:∀ (k i:Nat) (l:List Oper) (c0:Nat->AV) (x0:Nat->Option Ent),os.toList.drop i=l->i+k=n ->
  kq2 P os n ai Q st k i l (fsOf os.toList c0 i) (hpD x0 (fun _=>true) i) (idD x0 (fun _=>true) i) (esD x0 i) ->
  ∃ c x,(∀ j,j<i->c j=c0 j)/\(∀ j,j<i->x j=x0 j)/\(∀ j o,i<=j->j<n->os.toList[j]?=some o->FactY P os n ai st c x j o) /\
   awpL P os (os.toList.drop n) { st with tmps:=hadd (fsOf os.toList c n) (fun _=>true) st.tmps,heap:=hpD x (fun _=>true) n++st.heap,ids:=idD x (fun _=>true) n++st.ids } Q
 | 0,i,l,c0,x0,hl,hn,h=>by
  obtain rfl:i=n:=by omega
  subst hl;exact ⟨c0,x0,fun _ _=>rfl,fun _ _=>rfl,fun j o h1 t=>by omega,h⟩
 | k+1,i,l,c0,x0,hl,hn,h=>by
  cases l with
  | nil=>exact h.elim
  | cons o l=>
   have d:os.toList[i]?=some o:=(by have:=qah (·[0]?) hl;simpa using this);have g:os.toList.drop (i+1)=l:=(by rw [<- List.drop_drop,hl];rfl);have A:dstT os.toList i=o.dst:=(by unfold dstT;rw [d];rfl);have cons:∀ c,(i,o.dst,c)::fsOf os.toList c0 i=fsOf os.toList (fun j=>if j=i then c else c0 j) (i+1):=fun c=>(by simp only [fsOf,A,if_true];rw [kd4 (k:=i) (c':=fun j=>if j=i then c else c0 j) fun j p=>by rw [qq (by omega)]]);have ex:∀ q:Option Ent,∀ j,j<i->(fun j=>if j=i then q else x0 j) j=x0 j:=fun q j p=>(by show (if j=i then q else x0 j)=x0 j;rw [qq (by omega)]);have xi:∀ q:Option Ent,(fun j=>if j=i then q else x0 j) i=q:=fun q=>(by show (if i=i then q else x0 i)=q;rw [qt rfl]);have c1h:∀ r:Ent,hpD (fun j=>if j=i then some r else x0 j) (fun _=>true) (i+1)=r.2::hpD x0 (fun _=>true) i:=fun r=>(by simp only [hpD,if_true,qr];rw [ky9 (ex (some r))]);have c1i:∀ r:Ent,idD (fun j=>if j=i then some r else x0 j) (fun _=>true) (i+1)=bif r.1 then r.2.1::idD x0 (fun _=>true) i else idD x0 (fun _=>true) i:=fun r=>(by simp only [idD,if_true,Bool.true_and];rw [kzc (ex (some r))]);have c1e:∀ r:Ent,esD (fun j=>if j=i then some r else x0 j) (i+1)=(i,r.2.1)::esD x0 i:=fun r=>(by simp only [esD,if_true];rw [kzb (ex (some r))]);have c0h:hpD (fun j=>if j=i then none else x0 j) (fun _=>true) (i+1)=hpD x0 (fun _=>true) i:=(by simp only [hpD,if_true];exact ky9 (ex none));have c0i:idD (fun j=>if j=i then none else x0 j) (fun _=>true) (i+1)=idD x0 (fun _=>true) i:=(by simp only [idD,if_true];exact kzc (ex none));have c0e:esD (fun j=>if j=i then none else x0 j) (i+1)=esD x0 i:=(by simp only [esD,if_true];exact kzb (ex none));rcases h with ⟨c,hf,v,h⟩ | ⟨c,id,ob,w,hf,e,h⟩ | ⟨c,id,ob,w,hf,e,u,h⟩
   ·rw [cons,<- c0h,<- c0i,<- c0e] at h;obtain ⟨c1,x1,k1,k2,k4,k5⟩:=knl k (i+1) l _ _ g (by omega) h;have e1:∀ j,j<i->c1 j=c0 j:=fun j p=>(by rw [k1 j (by omega),qq (by omega)]);have e2:c1 i=c:=(by rw [k1 i (by omega),qt rfl]);have e3:∀ j,j<i->x1 j=x0 j:=fun j p=>(by rw [k2 j (by omega),qq (by omega)]);refine ⟨c1,x1,e1,e3,fun j o' h1 t ho=>?_,k5⟩;by_cases a:j=i;subst a;rw [d] at ho;obtain rfl:=qy ho;refine .inl ⟨by rw [k2 j (by omega),qt rfl],?_⟩;rw [kd4 e1,e2,kzc e3,kzb e3];exact ⟨hf,v⟩
    ·exact k4 j o' (by omega) t ho
   ·rw [cons,<- c1h (true,id,ob),show id::idD x0 (fun _=>true) i=_ from (c1i (true,id,ob)).symm,show (i,id)::esD x0 i=_ from (c1e (true,id,ob)).symm] at h;obtain ⟨c1,x1,k1,k2,k4,k5⟩:=knl k (i+1) l _ _ g (by omega) h;have e1:∀ j,j<i->c1 j=c0 j:=fun j p=>(by rw [k1 j (by omega),qq (by omega)]);have e2:c1 i=c:=(by rw [k1 i (by omega),qt rfl]);have e3:∀ j,j<i->x1 j=x0 j:=fun j p=>(by rw [k2 j (by omega),qq (by omega)]);refine ⟨c1,x1,e1,e3,fun j o' h1 t ho=>?_,k5⟩;by_cases a:j=i
    ·subst a;rw [d] at ho;obtain rfl:=qy ho;simp only [Bool.or_eq_false_iff,Bool.not_eq_false'] at e;obtain ⟨⟨⟨g1,g2⟩,g3⟩,g4⟩:=e;refine .inr (.inl ⟨id,ob,by rw [k2 j (by omega),qt rfl],?_⟩);rw [kd4 e1,e2];refine ⟨w,hf,by simpa using g1,fun q y s=>?_,fun m hm f ob' z=>?_,by simpa using g4⟩;exact List.any_eq_false.1 g2 q y (by simpa using s)
     ·have b:(m,id)∈esD x0 j:=kt4 (by rw [<- e3 m hm];exact z) hm;exact List.any_eq_false.1 g3 _ b (by simp)
    ·exact k4 j o' (by omega) t ho
   ·rw [cons,<- c1h (false,id,ob),show idD x0 (fun _=>true) i=_ from (c1i (false,id,ob)).symm,show (i,id)::esD x0 i=_ from (c1e (false,id,ob)).symm] at h;obtain ⟨c1,x1,k1,k2,k4,k5⟩:=knl k (i+1) l _ _ g (by omega) h;have e1:∀ j,j<i->c1 j=c0 j:=fun j p=>(by rw [k1 j (by omega),qq (by omega)]);have e2:c1 i=c:=(by rw [k1 i (by omega),qt rfl]);have e3:∀ j,j<i->x1 j=x0 j:=fun j p=>(by rw [k2 j (by omega),qq (by omega)]);refine ⟨c1,x1,e1,e3,fun j o' h1 t ho=>?_,k5⟩;by_cases a:j=i;subst a;rw [d] at ho;obtain rfl:=qy ho;refine .inr (.inr ⟨id,ob,by rw [k2 j (by omega),qt rfl],?_⟩);rw [kd4 e1,e2,ky9 e3];refine ⟨w,hf,fun q y s=>List.any_eq_false.1 e q y (by simpa using s),fun m hm f ob' z=>?_⟩;have b:(m,id)∈esD x0 j:=kt4 (by rw [<- e3 m hm];exact z) hm;have:=qk.1 u _ b;simpa using this
    ·exact k4 j o' (by omega) t ho
def stY (l:List Oper) (n:Nat) (st:St) (c:Nat->AV) (x:Nat->Option Ent) (listed:Array Bool):St:=
 { st with tmps:=ke3 (fsOf l c n) (fun j=>listed.getD j false) st.tmps,heap:=hpD x (fun j=>listed.getD j false) n++st.heap,ids:=idD x (fun j=>listed.getD j false) n++st.ids }
structure DSY (F S0:Nat->Prop) (N0:Nat) (w0:World) (l:List Oper) (n:Nat) (st:St) (c:Nat->AV) (x:Nat->Option Ent) (listed:Array Bool) (a:Act) (w:World):Prop where
 inv:∃ ψ S,Sim F S0 N0 (stY l n st c x listed) ψ S a w
 fr:Fr F w0 w
 lsize:listed.size=l.length
 closed:∀ k o,listed.getD k false=true->l[k]?=some o->∀ e∈o.after,Region.binds .any e=true->listed.getD e.on false=true
theorem kaa6 (hm:P.follows .mixedOrders=true) {id:Nat} {l:List Oper} (hB:relB l n st.n=true) (bb:st.ids.all ai.contains=true)
  (h:kq2 P l.toArray n ai Q st n 0 l [] [] [] []):awp P (.region id l.toArray true) st Q:=by
 have ok:=kxs hB;obtain ⟨c,x,_,_,C,aq⟩:=knl (os:=l.toArray) n 0 l (fun _ => .any) (fun _=>none) rfl (by omega) h;simp only [List.toList_toArray] at C aq;have aa:∀ j j' f f' i ob ob',j<j'->j'<n->x j=some (f,i,ob)->x j'=some (f',i,ob')->anc l j' j=true:=fun j j' f f' i ob ob' ak bc h1 G=>by
  have B:j'<l.length:=by have:=ok.len;omega
  rcases C j' l[j'] (qas _) bc (qa B) with ⟨h,_⟩ | ⟨i',ob'',h,_,_,_,_,h6,_⟩ | ⟨i',ob'',h,_,_,_,h6⟩;rw [G] at h;cases h;rw [G] at h;cases h;exact absurd h1 (h6 j ak f ob)
  ·rw [G] at h;cases h;exact h6 j ak f ob h1
 have az:∀ j f i ob,j<n->x j=some (f,i,ob)->∀ q∈st.heap,q.1≠i:=fun j f i ob y D=>by
  have B:j<l.length:=by have:=ok.len;omega
  rcases C j l[j] (qas _) y (qa B) with ⟨h,_⟩ | ⟨i',ob'',h,_,_,_,h5,_,_⟩ | ⟨i',ob'',h,_,_,h5,_⟩;rw [D] at h;cases h;rw [D] at h;cases h;exact h5
  ·rw [D] at h;cases h;exact h5
 have ab:∀ (p:Nat->Bool) i,i∈idD x p n++st.ids->i∈ai:=fun p i hi=>by
  rcases qab.1 hi with hi | hi
  ·obtain ⟨j,ob,y,_,D⟩:=idD_mem.1 hi;have B:j<l.length:=(by have:=ok.len;omega);rcases C j l[j] (qas _) y (qa B) with ⟨h,_⟩ | ⟨i',ob'',h,_,_,_,_,_,h7⟩ | ⟨i',ob'',h,_⟩;rw [D] at h;cases h;rw [D] at h;cases h;exact h7
   ·rw [D] at h;cases h
  ·simpa using qk.1 bb i hi
 intro F S0 N0 ψ0 Sa a0 w0 z;have hs1:Sim F S0 N0 st ψ0 Sa a0 w0.drew:=⟨z.defers,z.size,fun t=>(z.tmps t).keep Ext.refl (fun _ h=>h) (fun _ h=>h) (fun _ _ _=>rfl),⟨fun id ob ho=>by obtain ⟨e1,e2,e3⟩:=z.core.obj id ob ho;exact ⟨e1,e2.keep Ext.refl (fun _ h=>h) (fun _ h=>h) (fun _ _ _=>rfl) ⟨rfl,rfl⟩ (fun _ _=>rfl),e3⟩,z.core.inj,z.core.lt,z.core.s0,z.core.n0,z.core.fr⟩⟩;refine wp_region_any hm ?_
 suffices key:∀ (fuel:Nat) (listed:Array Bool) (a:Act) (w:World),DSY F S0 N0 w0 l n st c x listed a w->(∀ k,listed.getD k false=true->k<n) ->
   ((List.range l.length).countP fun k=>!listed.getD k true)<=fuel->wpAny P .any l.toArray (PostA F S0 N0 w0 Q) fuel listed a w by
  have a1:hpD x (fun j=>(Array.replicate l.toArray.size false).getD j false) n=[]:=kvn fun j _=>kk4 _ _;have ac:idD x (fun j=>(Array.replicate l.toArray.size false).getD j false) n=[]:=k1h fun j _=>kk4 _ _;refine key _ _ _ _ ⟨⟨ψ0,Sa,?_⟩,Fr.drew,by simp,(fun k o hk=>by rw [kk4] at hk;cases hk)⟩ (fun k hk=>by rw [kk4] at hk;cases hk) ?_
  ·refine ⟨hs1.defers,hs1.size,fun t=>?_,?_⟩
   ·show RV _ (·∈idD x _ n++st.ids) _ _ _ (look .any (ke3 (fsOf l c n) _ st.tmps) t);rw [ac];rcases kbc (l:=l) (c:=c) (p:=fun j=>(Array.replicate l.toArray.size false).getD j false) (base:=st.tmps) (t:=t) n with ⟨j,_,y,_⟩ | ⟨_,G⟩;rw [kk4] at y;cases y
    ·rw [G];exact hs1.tmps t
   ·show Core F S0 N0 (hpD x _ n++st.heap) (idD x _ n++st.ids) _ _ _;rw [a1,ac];exact hs1.core
  ·refine qa7 (List.countP_le_length ..) ?_;simp
 intro fuel
 -- the end of the bn
 have fin:∀ (listed:Array Bool) (a:Act) (w:World),DSY F S0 N0 w0 l n st c x listed a w->(∀ i,i<n->listed.getD i false=true)->wpList P l.toArray (PostA F S0 N0 w0 Q) (l.drop n) a w:=by
  intro listed a w d g;obtain ⟨ψ,S,hs⟩:=d.inv;have hH:hpD x (fun j=>listed.getD j false) n=hpD x (fun _=>true) n:=kmn fun j y _=>g j y;have hI:idD x (fun j=>listed.getD j false) n=idD x (fun _=>true) n:=ktl fun j y _=>g j y;have bd:Sim F S0 N0 { st with tmps:=hadd (fsOf l c n) (fun _=>true) st.tmps,heap:=hpD x (fun _=>true) n++st.heap,ids:=idD x (fun _=>true) n++st.ids } ψ S a w:=by
   rw [<- hH,<- hI];refine ⟨hs.defers,hs.size,fun t=>?_,hs.core⟩;have ht:=hs.tmps t;show RV _ _ _ _ _ (look .any (hadd (fsOf l c n) (fun _=>true) st.tmps) t);have ht:RV ψ (·∈idD x (fun j=>listed.getD j false) n++st.ids) S w (a.tmps.getD t undef) (look .any (ke3 (fsOf l c n) (fun j=>listed.getD j false) st.tmps) t):=ht;rcases kk8 (l:=l) (c:=c) (p:=fun _=>true) (base:=st.tmps) (t:=t) n with h | ⟨j,h1,_,O,h4⟩ | ⟨h1,G⟩;rw [h];exact .any
   ·rw [h4];rcases kbc (l:=l) (c:=c) (p:=fun j=>listed.getD j false) (base:=st.tmps) (t:=t) n with ⟨j',e1,e2,e3,e4⟩ | ⟨e1,e2⟩;rw [e4] at ht;have be:j'=j:=(by unfold dstT at O e3;simp only [qc] at O e3;obtain ⟨o1,p1,p2⟩:=O;obtain ⟨o2,q1,q2⟩:=e3;exact ok.uniq j' j o2 o1 t e1 h1 q1 p1 q2 p2);rw [be] at ht;exact ht
    ·exact absurd O (e1 j h1 (g j h1))
   ·rw [G];rcases kbc (l:=l) (c:=c) (p:=fun j=>listed.getD j false) (base:=st.tmps) (t:=t) n with ⟨j',e1,e2,e3,e4⟩ | ⟨e1,e2⟩;exact absurd e3 (h1 j' e1)
    ·rw [e2] at ht;exact ht
  exact ka6 (fun e a' w' k=>k.pre d.fr) _ _ _ (aq F S0 N0 ψ S a w bd)
 induction fuel with
 | zero=>
  intro listed a w d hh hc;have g:∀ i,i<l.length->listed.getD i false=true:=fun i hi=>by have h0:((List.range l.length).countP fun k=>!listed.getD k true)=0:=(by omega);rw [List.countP_eq_zero] at h0;have:=h0 i (by simpa using hi);simp [d.lsize,hi] at this ⊢;exact this
  have hn:n=l.length:=by
   have:=ok.len;rcases qbe n l.length with h' | h';have:=hh n (g _ h');omega
   ·omega
  have H:=fin listed a w d fun i hi=>g i (by omega);rw [hn] at H;exact knk ok 0 l.length listed a w (by omega) (qu _) d.lsize (fun i hi=>⟨fun _=>hi,fun _=>by have:=g i hi;simp [d.lsize,hi] at this ⊢;exact this⟩) (by omega) H
 | succ fuel ih=>
  intro listed a w d hh hc;by_cases E:∀ i,i<n->listed.getD i false=true
  ·refine knk ok (fuel+1) n listed a w (qu _) ok.len d.lsize (fun i hi=>⟨fun hl=>hh i (by
    simp [d.lsize,hi] at hl ⊢;exact hl),fun J=>by
    have:=E i J;simp [d.lsize,hi] at this ⊢;exact this⟩) ?_ (fin listed a w d E)
   refine qa7 ?_ hc;rw [show l.length=n+(l.length - n) by have:=ok.len;omega,List.range_add,List.countP_append];have:((List.range (l.length - n)).map (n+·)).countP (fun k=>!listed.getD k true)=l.length - n:=(by rw [List.countP_eq_length.2,qj,List.length_range];intro k hk;simp only [qx,qbl] at hk;obtain ⟨m,hm,rfl⟩:=hk;have ak:n+m<l.length:=(by omega);have:listed.getD (n+m) false≠true:=fun h=>(by have:=hh _ h;omega);simp [d.lsize,ak] at this ⊢;exact this);omega
  ·have bf:Region.ready .any l.toArray listed≠[]:=by
    have bg:∃ i,i<n/\listed.getD i false=false/\∀ j,j<i->listed.getD j false=true:=by
     have:∃ i,i<n/\listed.getD i false=false:=(by simp only [Classical.not_forall] at E;obtain ⟨i,hi,L⟩:=E;exact ⟨i,hi,by simpa using L⟩);obtain ⟨i,hi,L⟩:=this
     induction i using Nat.strongRecOn with
     | _ i ihi=>
      by_cases g:∀ j,j<i->listed.getD j false=true;exact ⟨i,hi,L,g⟩
      ·simp only [Classical.not_forall] at g;obtain ⟨j,y,bh⟩:=g;exact ihi j y (by omega) (by simpa using bh)
    obtain ⟨i,hi,L,g⟩:=bg;have M:i<l.length:=(by have:=ok.len;omega);have:i∈Region.ready .any l.toArray listed:=mem_ready.2 ⟨by simp [d.lsize,M] at L ⊢;exact L,l[i],by simp [M],fun e Z al=>g _ (ok.edges i _ (qa M) e Z al)⟩;intro h0;rw [h0] at this;cases this
   refine ⟨fun h0=>absurd h0 bf,fun i hi=>?_⟩;obtain ⟨h0,o,ho,g⟩:=mem_ready.1 hi;have X:l[i]?=some o:=(by simpa using ho);have M:i<l.length:=(qd.1 X).1;have ad:=k2t h0;have R:∀ j,anc l i j=true->listed.getD j false=true:=fun j y=>
    kh0 (l:=l) (S:=fun j=>listed.getD j false=true) (fun m p hm hp e Z L=>d.closed m p hm hp e Z L) i o X g j y
   have I:∀ j,listed.getD j false=true->anc l j i=true->False:=fun j y ha=>(by have B:j<l.length:=(by have:=k9o y;rw [d.lsize] at this;exact this);have:=kh0 (l:=l) (S:=fun j=>listed.getD j false=true) (fun m p hm hp e Z L=>d.closed m p hm hp e Z L) j l[j] (qa B) (fun e Z L=>d.closed j _ y (qa B) e Z L) i ha;rw [ad] at this;cases this);have J:i<n:=by
    rcases qbe i n with h' | h';exact h'
    ·exfalso;apply E;intro j y;exact R j (ok.tail i j M h' (by omega))
   obtain ⟨ψ,S,hs⟩:=d.inv;have au:dstT l i=o.dst:=(by unfold dstT;rw [X];rfl);have N:∀ k,(listed.setIfInBounds i true).getD k false=true->k=i\/listed.getD k false=true:=fun k hk=>by
    by_cases a2:i=k;exact .inl a2.symm
    ·rw [getD_set_ne false a2] at hk;exact .inr hk
   have T:(listed.setIfInBounds i true).getD i false=true:=(by simp [d.lsize,M]);have a3:∀ t,o.dst=some t->t<st.n:=fun t ht=>ok.dst i o t J X ht
   -- the slots of the view
   have U:∀ (K:Nat->Prop),(∀ id,id∈(stY l n st c x listed).ids->K id)->∀ t,RV ψ K S w (a.tmps.getD t undef) (look .any (hadd (fsOf l c i) (keu o) (kgc l i n++st.tmps)) t):=fun K hK t=>by
    have ht:RV ψ (·∈(stY l n st c x listed).ids) S w (a.tmps.getD t undef) (look .any (ke3 (fsOf l c n) (fun j=>listed.getD j false) st.tmps) t):=hs.tmps t;have uniq:∀ {j j':Nat},j<n->j'<n->dstT l j=some t->dstT l j'=some t->j=j':=fun {j j'} h1 G O h4=>(by unfold dstT at O h4;simp only [qc] at O h4;obtain ⟨o1,p1,p2⟩:=O;obtain ⟨o2,q1,q2⟩:=h4;exact ok.uniq j j' o1 o2 t h1 G p1 q1 p2 q2);rcases kk8 (l:=l) (c:=c) (p:=keu o) (base:=kgc l i n++st.tmps) (t:=t) i with h | ⟨j,h1,G,O,h4⟩ | ⟨h1,G⟩;rw [h];exact .any
    ·rw [h4];have B:listed.getD j false=true:=(by obtain ⟨e,Z,bi,L⟩:=afterB_iff.1 G;rw [<- bi];exact g e Z L);rcases kbc (l:=l) (c:=c) (p:=fun j=>listed.getD j false) (base:=st.tmps) (t:=t) n with ⟨j',e1,e2,e3,e4⟩ | ⟨e1,e2⟩;rw [e4,uniq e1 (by omega) e3 O] at ht;exact ht.mono hK fun _ h=>h
     ·exact absurd O (e1 j (by omega) B)
    ·rw [G];rcases kp8 (l:=l) (i:=i) (base:=st.tmps) (t:=t) n with h | ⟨k1,k2⟩;rw [h];exact .any
     ·rw [k2];rcases kbc (l:=l) (c:=c) (p:=fun j=>listed.getD j false) (base:=st.tmps) (t:=t) n with ⟨j',e1,e2,e3,e4⟩ | ⟨e1,e2⟩
      ·exfalso;rcases k1 j' e1 e3 with h | h
       ·rcases qbe j' i with h' | h';exact h1 j' h' e3
        ·obtain rfl:j'=i:=(by omega);rw [ad] at e2;cases e2
       ·exact I j' e2 h
      ·rw [e2] at ht;exact ht.mono hK fun _ h=>h
   have fact:=C i o (qas _) J X;have next:∀ (ψ':Env) (S':Nat->Prop) (v:Value) (w':World),Fr F w w' ->
     Core F S0 N0 (stY l n st c x (listed.setIfInBounds i true)).heap (stY l n st c x (listed.setIfInBounds i true)).ids ψ' S' w'->RV ψ' (·∈(stY l n st c x (listed.setIfInBounds i true)).ids) S' w' v (c i)->(∀ t,RV ψ' (·∈(stY l n st c x (listed.setIfInBounds i true)).ids) S' w' (a.tmps.getD t undef) ((stY l n st c x listed).get t)) ->
     wpAny P .any l.toArray (PostA F S0 N0 w0 Q) fuel (listed.setIfInBounds i true) (a.put o.dst v) w':=fun ψ' S' v w' q4 q5 q6 q7=>by
    refine ih _ _ _ ⟨⟨ψ',S',?_⟩,d.fr.trans q4,by simp [d.lsize],?_⟩ (fun k hk=>(N k hk).elim (fun e=>by omega) (hh k)) ?_
    ·refine ⟨by rw [kux];exact hs.defers,by rw [kq7];exact hs.size,fun t=>?_,q5⟩;rw [kkc _ _ _ hs.size a3];have q7:=q7 t;show RV ψ' _ S' w' _ (look .any (ke3 (fsOf l c n) (fun j=>(listed.setIfInBounds i true).getD j false) st.tmps) t);have q7:RV ψ' (·∈(stY l n st c x (listed.setIfInBounds i true)).ids) S' w' (a.tmps.getD t undef) (look .any (ke3 (fsOf l c n) (fun j=>listed.getD j false) st.tmps) t):=q7;have uniq:∀ {j j':Nat},j<n->j'<n->dstT l j=some t->dstT l j'=some t->j=j':=fun {j j'} h1 G O h4=>(by unfold dstT at O h4;simp only [qc] at O h4;obtain ⟨o1,p1,p2⟩:=O;obtain ⟨o2,p3,p4⟩:=h4;exact ok.uniq j j' o1 o2 t h1 G p1 p3 p2 p4);rcases kbc (l:=l) (c:=c) (p:=fun j=>(listed.setIfInBounds i true).getD j false) (base:=st.tmps) (t:=t) n with ⟨j,e1,e2,e3,e4⟩ | ⟨e1,e2⟩
     ·rw [e4];by_cases Y:j=i;subst Y;rw [au] at e3;rw [qt e3];exact q6
      ·have B:=(N j e2).resolve_left Y;rw [qq (fun h=>Y (uniq e1 J e3 (by rw [au];exact h)))];rcases kbc (l:=l) (c:=c) (p:=fun j=>listed.getD j false) (base:=st.tmps) (t:=t) n with ⟨j',f1,f2,f3,f4⟩ | ⟨f1,f2⟩;rw [f4,uniq f1 e1 f3 e3] at q7;exact q7
       ·exact absurd e3 (f1 j e1 B)
     ·rw [e2,qq (fun h=>e1 i J T (by rw [au];exact h))];rcases kbc (l:=l) (c:=c) (p:=fun j=>listed.getD j false) (base:=st.tmps) (t:=t) n with ⟨j',f1,f2,f3,f4⟩ | ⟨f1,f2⟩;exact absurd f3 (e1 j' f1 (getD_set_true f2))
      ·rw [f2] at q7;exact q7
    ·intro k p hk hp e Z al;rcases N k hk with rfl | bj;rw [X] at hp;obtain rfl:=qy hp;exact getD_set_true (g e Z al)
     ·exact getD_set_true (d.closed k p bj hp e Z al)
    ·have:=kqx l.length M h0 (by rw [d.lsize];exact M);omega
   unfold wpOp;simp only [ho];have ae:=U (·∈ai) (fun id h=>ab _ id h);have af:∀ t,RV ψ (·∈(kdr l n ai st i o (fsOf l c i)).ids) S w (a.tmps.getD t undef) ((kdr l n ai st i o (fsOf l c i)).get t):=ae;have bk:∀ id ob,kaa (kdr l n ai st i o (fsOf l c i)).heap id=some ob->ObR ψ (·∈(kdr l n ai st i o (fsOf l c i)).ids) S w id ob:=fun id ob am=>by
    have am:kaa st.heap id=some ob:=am;have a4:∃ q∈st.heap,q.1=id:=by
     have gen:∀ H:List (Nat×AObj),kaa H id=some ob->∃ q∈H,q.1=id:=fun H=>by
      induction H with
      | nil=>intro h;cases h
      | cons q H ih=>
       intro h;rw [kae] at h;by_cases hq:q.1=id;exact ⟨q,qn ..,hq⟩
       ·rw [qq hq] at h;obtain ⟨q',h1,G⟩:=ih h;exact ⟨q',qe _ h1,G⟩
     exact gen _ am
    have a5:kaa (stY l n st c x listed).heap id=some ob:=(by show kaa (hpD x _ n++st.heap) id=some ob;rw [kabm,am];intro j y f ob' D;obtain ⟨q',h1,G⟩:=a4;exact az j f id ob' y D q' h1 G);obtain ⟨g1,g2,g3⟩:=hs.core.obj id ob a5;exact g2.keep Ext.refl (fun id h=>ab _ id h) (fun _ h=>h) (fun _ _ _=>rfl) ⟨rfl,rfl⟩ (fun _ _=>rfl)
   have ag:∀ id0 ob0 f,x i=some (f,id0,ob0)->∀ id,kaa ((id0,ob0)::(stY l n st c x listed).heap) id=kaa (stY l n st c x (listed.setIfInBounds i true)).heap id:=fun id0 ob0 f D id=>by
    show kaa ((id0,ob0)::(hpD x _ n++st.heap)) id=kaa (hpD x _ n++st.heap) id;rw [kae];refine (k3e (p:=fun j=>listed.getD j false) (q:=fun j=>(listed.setIfInBounds i true).getD j false) D (fun j=>⟨fun h=>N j h,fun h=>?_⟩) ad id J fun j y bl A f' ob' s=>?_).symm
    ·rcases h with rfl | h;exact T
     ·exact getD_set_true h
    ·exact I j A (aa i j _ _ _ _ _ bl y D s)
   rcases fact with ⟨D,hN,a6⟩ | ⟨id0,ob0,D,hg,hA,a7,a8,ah,_⟩ | ⟨id0,ob0,D,hg,hA,a8,ah⟩
   ·-- one that makes nothing
    have Y:∀ j,x j≠none->i≠j:=fun j s h=>s (by rw [<- h];exact D);have av:hpD x (fun j=>(listed.setIfInBounds i true).getD j false) n=hpD x (fun j=>listed.getD j false) n:=kmn fun j y s=>getD_set_ne false (Y j s);have aj:idD x (fun j=>(listed.setIfInBounds i true).getD j false) n=idD x (fun j=>listed.getD j false) n:=ktl fun j y s=>getD_set_ne false (Y j s);have u:(stY l n st c x (listed.setIfInBounds i true)).ids=(stY l n st c x listed).ids:=(by show idD x _ n++st.ids=_;rw [aj];rfl);have ar:(stY l n st c x (listed.setIfInBounds i true)).heap=(stY l n st c x listed).heap:=(by show hpD x _ n++st.heap=_;rw [av];rfl);have aw:∀ {v:Value} {S':Nat->Prop} {w':World},RV ψ (·∈(kdr l n ai st i o (fsOf l c i)).ids) S' w' v (c i)->RV ψ (·∈(stY l n st c x listed).ids) S' w' v (c i):=fun {v S' w'} hv=>
     (hv.subA a6).mono (fun id h=>by
      rcases qab.1 h with h | h;obtain ⟨h1,G⟩:=List.mem_filter.1 h;obtain ⟨j,ob,y,_,s⟩:=idD_mem.1 h1;have ha:=qk.1 G _ (kt4 s y);refine List.mem_append_left _ (idD_mem.2 ⟨j,ob,by omega,R j ?_,s⟩);simpa using ha
      ·exact qbr _ h) fun _ h=>h
    rcases hN with ⟨hg,hN⟩ | ⟨hg,hN⟩
    ·have hw:=kiy (kdr l n ai st i o (fsOf l c i)) af hg;rw [qt hw];refine .inl (kbq ?_ (hN ψ S a w af bk));rintro v w' ⟨g1,g2⟩;refine next ψ (fun b=>(S b\/w.heap.size<=b)/\b<w'.heap.size) v w' (Fr.of_grow hs.core.fr g1) ?_ ?_ fun t=>?_;rw [u,ar];exact hs.core.grow g1;rw [u];exact (aw g2).bound.mono (fun _ h=>h) fun _ h=>h
     ·rw [u];exact (hs.tmps t).keep Ext.refl (fun _ h=>h) (fun b L=>⟨.inl L,qba (hs.core.lt b L) g1.size⟩) (Same.of_grow g1)
    ·have hw:=kiy (kdr l n ai st i o (fsOf l c i)) af hg;rw [qq (by rw [hw];exact Bool.false_ne_true)];refine next ψ S undef w Fr.refl ?_ ?_ fun t=>?_;rw [u,ar];exact hs.core;rw [hN];exact .fz RF.undef
     ·rw [u];exact hs.tmps t
   ·-- one that makes an object
    have hw:=kiy (kdr l n ai st i o (fsOf l c i)) af hg;rw [qt hw];have a9:id0∉(stY l n st c x listed).ids:=by
     show id0∉idD x _ n++st.ids;intro hm;rcases qab.1 hm with hm | hm
     ·obtain ⟨j,ob,y,A,s⟩:=idD_mem.1 hm;rcases Nat.lt_trichotomy j i with h | h | h;exact ah j h _ _ s;subst h;rw [ad] at A;cases A
      ·exact I j A (aa i j _ _ _ _ _ h y D s)
     ·exact a7 hm
    have ax:Sim F S0 N0 { kdr l n ai st i o (fsOf l c i) with heap:=(stY l n st c x listed).heap,ids:=(stY l n st c x listed).ids } ψ S a w:=
     ⟨hs.defers,hs.size,fun t=>U (·∈(stY l n st c x listed).ids) (fun _ h=>h) t,hs.core⟩
    refine .inl (kbq ?_ (hA (stY l n st c x listed).heap (stY l n st c x listed).ids (by simpa using a9) F S0 N0 ψ S a w ax));rintro v w' ⟨ψ',S',g1,g2,g3,g4,g5,g6,g7⟩;have V:∀ id,id∈id0::(stY l n st c x listed).ids↔id∈(stY l n st c x (listed.setIfInBounds i true)).ids:=fun id=>by
     show id∈id0::(idD x _ n++st.ids)↔id∈idD x _ n++st.ids;simp only [qan,qab];constructor
     ·rintro (h | h | h);exact .inl (idD_mem.2 ⟨i,ob0,J,T,by rw [D,h]⟩);obtain ⟨j,ob,y,A,s⟩:=idD_mem.1 h;exact .inl (idD_mem.2 ⟨j,ob,y,getD_set_true A,s⟩)
      ·exact .inr h
     ·rintro (h | h)
      ·obtain ⟨j,ob,y,A,s⟩:=idD_mem.1 h;rcases N j A with rfl | A;rw [D] at s;cases s;exact .inl rfl
       ·exact .inr (.inl (idD_mem.2 ⟨j,ob,y,A,s⟩))
      ·exact .inr (.inr h)
    have bm:(fun id=>id∈id0::(stY l n st c x listed).ids)=fun id=>id∈(stY l n st c x (listed.setIfInBounds i true)).ids:=funext fun id=>propext (V id);refine next ψ' S' v w' g3 (kwi (ag id0 ob0 true D) V g1) ?_ fun t=>?_;have g2:RV ψ' (fun id=>id∈id0::(stY l n st c x listed).ids) S' w' v (c i):=g2;rw [bm] at g2;exact g2
    ·exact (hs.tmps t).keep g4 (fun id h=>(V id).1 (g5 id h)) g6 g7
   ·-- one that stores to one that was made bo
    have hw:=kiy (kdr l n ai st i o (fsOf l c i)) af hg;rw [qt hw];have aj:idD x (fun j=>(listed.setIfInBounds i true).getD j false) n=idD x (fun j=>listed.getD j false) n:=by
     have gen:∀ k,idD x (fun j=>(listed.setIfInBounds i true).getD j false) k=idD x (fun j=>listed.getD j false) k:=fun k=>by
      induction k with
      | zero=>rfl
      | succ k ihk=>
       simp only [idD,ihk];cases ba:x k with
       | none=>rfl
       | some r=>
        by_cases ao:i=k;subst ao;rw [D] at ba;cases ba;simp only [Bool.and_false]
        ·simp only [getD_set_ne false ao]
     exact gen n
    have u:(stY l n st c x (listed.setIfInBounds i true)).ids=(stY l n st c x listed).ids:=(by show idD x _ n++st.ids=_;rw [aj];rfl);have ax:Sim F S0 N0 { kdr l n ai st i o (fsOf l c i) with heap:=(stY l n st c x listed).heap,ids:=(stY l n st c x listed).ids } ψ S a w:=
     ⟨hs.defers,hs.size,fun t=>U (·∈(stY l n st c x listed).ids) (fun _ h=>h) t,hs.core⟩
    have ay:kaa (stY l n st c x listed).heap id0=kaa (hpD x (fun _=>true) i++st.heap) id0:=by
     show kaa (hpD x _ n++st.heap) id0=_;have e:hpD x (fun _=>true) i=hpD x (fun j=>decide (j<i)) n:=by
      have gen:∀ k,i<=k->hpD x (fun j=>decide (j<i)) k=hpD x (fun _=>true) i:=fun k hk=>by
       induction k with
       | zero=>
         obtain rfl:i=0:=(by omega);rfl
       | succ k ihk=>
        by_cases ao:i=k+1;subst ao;exact kmn fun j y _=>qau y
        ·rw [<- ihk (by omega)];simp only [hpD];cases x k with
         | none=>rfl
         | some r=>simp only [qax (show ¬ k<i by omega),qw]
      exact (gen n (by omega)).symm
     rw [e];refine kve fun j y f ob s=>?_;rcases Nat.lt_trichotomy j i with h | h | h;rw [qau h,R j (ah j h f ob s)];subst h;rw [ad,qax (Nat.lt_irrefl _)]
     ·rw [qax (by omega)];cases A:listed.getD j false with
      | false=>rfl
      | true=>exact (I j A (aa i j _ _ _ _ _ h y D s)).elim
    refine .inl (kbq ?_ (hA (stY l n st c x listed).heap (stY l n st c x listed).ids ay F S0 N0 ψ S a w ax));rintro v w' ⟨ψ',S',g1,g2,g3,g4,g5,g6,g7⟩;refine next ψ' S' v w' g3 ?_ ?_ fun t=>?_;rw [u];exact kwi (ag id0 ob0 false D) (fun _=>Iff.rfl) g1;rw [u];exact g2
    ·rw [u];exact (hs.tmps t).keep g4 g5 g6 g7
end
end Go.Proofs.YtnlhjbnpjefjgabGreatDoor
