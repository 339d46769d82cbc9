import Derived.Test.YtnlhjbnpjefjgaaGreatDoorOpr
set_option linter.all false
set_option linter.unusedSectionVars false
namespace Go.Proofs.YtnlhjbnpjefjgaaGreatDoor
open Go Go.RowKit
variable [Dr]
def anc (l:List Oper) (i j:Nat):Bool:=((kt7 l).getD i 0).testBit j
def dstT (l:List Oper) (j:Nat):Option Nat:=(l[j]?).bind (·.dst)
def phB (l:List Oper) (es:List Nat) (i:Nat):Bool:=es.all fun e=>bif Nat.blt e i then anc l i e else (bif Nat.blt i e then anc l e i else true)
def ktx (l:List Oper) (n:Nat) (es:List Nat):Bool:=es.all fun e=>Nat.blt e n && phB l es e
def klb (ch:List Nat):List (Nat×AObj)->List (Nat×AObj)
 | []=>[]
 | (k,v)::l=>bif ch.contains k then klb ch l else (k,v)::klb ch l
def khs (l:List Oper) (i:Nat):Nat->List (Nat×AV)
 | 0=>[]
 | j+1=>match dstT l j with
  | some d=>bif Nat.ble j i || anc l j i then khs l i j else (d, .any)::khs l i j
  | none=>khs l i j
def kdj (l:List Oper) (n:Nat) (es ch ai:List Nat) (st:St) (i:Nat) (o:Oper) (fs:List (Nat×Option Nat×AV)) (hp:List (Nat×AObj)) (ids:List Nat):St:=
 { st with tmps:=hadd fs (kgc o) (khs l i n++st.tmps),heap:=bif phB l es i then hp else klb ch st.heap,ids:=bif phB l es i then ids else ai }
def ko2 (P:Program) (os:Array Oper) (v:St) (o:Oper) (c:AV):Prop:=(kbk os v o=some true/\NStep P o v c)\/(kbk os v o=some false/\c = .fz (.tup []))
def kts (P:Program) (os:Array Oper) (l:List Oper) (n:Nat) (es ch ai:List Nat) (st v:St) (o:Oper) (c:AV) (hp:List (Nat×AObj)) (ids:List Nat) (a:List (Nat×AObj)) (ids':List Nat):Prop:=
 ((kbk os v o=some true/\StepA P o v c a ids')\/(kbk os v o=some false/\c = .fz (.tup [])/\a=hp/\ids'=ids))/\((∀ i,i<n->phB l es i=true)\/((∀ id,id∉ch->∀ ob,kaa hp id=some ob->kaa a id=some ob)/\(∀ id,id∈ids'->id∈ai)/\∀ id,id∈ids->id∈ids'))
def k6w (_:Program) (_:Array Oper) (_:Exit->St->Prop) (_ _:St) (_:Oper):Prop:=False
def kn6 (P:Program) (os:Array Oper) (n:Nat) (es ch ai:List Nat) (Q:Exit->St->Prop) (st:St):Nat->Nat->List Oper->List (Nat×Option Nat×AV)->List (Nat×AObj)->List Nat->Option Nat->Prop
 | 0,_,l,fs,hp,ids,none=>awpL P os l { st with tmps:=hadd fs (fun _=>true) st.tmps,heap:=hp,ids:=ids } Q
 | 0,_,_,_,_,_,some _=>True
 | k+1,i,o::l,fs,hp,ids,pn=>
  (∃ e,pn=some e/\anc os.toList i e=true/\kn6 P os n es ch ai Q st k (i+1) l ((i,o.dst, .any)::fs) hp ids pn) \/
  (es.contains i=false/\∃ c,ko2 P os (kdj os.toList n es ch ai st i o fs hp ids) o c/\(phB os.toList es i || okA st.ids c)=true/\kn6 P os n es ch ai Q st k (i+1) l ((i,o.dst,c)::fs) hp ids pn) \/
  (es.contains i=true/\pn=none/\∃ c a ids',kts P os os.toList n es ch ai st (kdj os.toList n es ch ai st i o fs hp ids) o c hp ids a ids'/\kn6 P os n es ch ai Q st k (i+1) l ((i,o.dst,c)::fs) a ids' none) \/
  (es.contains i=true/\pn=none/\k6w P os Q st (kdj os.toList n es ch ai st i o fs hp ids) o/\kn6 P os n es ch ai Q st k (i+1) l ((i,o.dst, .any)::fs) hp ids (some i))
 | _+1,_,[],_,_,_,_=>False
variable {P:Program} {F S0:Nat->Prop} {N0:Nat} {w w':World} {S S':Nat->Prop} {ψ ψ':Env} {Q:Exit->St->Prop} {st:St} {os:Array Oper} {n:Nat} {es ch ai:List Nat}
def fsOf (l:List Oper) (c:Nat->AV):Nat->List (Nat×Option Nat×AV)
 | 0=>[]
 | k+1=>(k,dstT l k,c k)::fsOf l c k
theorem kfq {l:List Oper} {c c':Nat->AV}:∀ {k:Nat},(∀ j,j<k->c j=c' j)->fsOf l c k=fsOf l c' k
 | 0,_=>rfl
 | k+1,h=>by simp only [fsOf,h k (by omega),kfq (k:=k) fun j a=>h j (by omega)]
def FactZ (P:Program) (os:Array Oper) (n:Nat) (es ch ai:List Nat) (Q:Exit->St->Prop) (st:St) (c:Nat->AV) (H:Nat->List (Nat×AObj)×List Nat) (pn:Option Nat) (i:Nat) (o:Oper):Prop:=
 (H (i+1)=H i/\∃ e,pn=some e/\e<i/\anc os.toList i e=true) \/
 (i∉es/\H (i+1)=H i/\ko2 P os (kdj os.toList n es ch ai st i o (fsOf os.toList c i) (H i).1 (H i).2) o (c i)/\(phB os.toList es i || okA st.ids (c i))=true) \/
 (i∈es/\(∀ e,pn=some e->i<e)/\kts P os os.toList n es ch ai st (kdj os.toList n es ch ai st i o (fsOf os.toList c i) (H i).1 (H i).2) o (c i) (H i).1 (H i).2 (H (i+1)).1 (H (i+1)).2) \/
 (i∈es/\pn=some i/\H (i+1)=H i/\k6w P os Q st (kdj os.toList n es ch ai st i o (fsOf os.toList c i) (H i).1 (H i).2) o)
theorem kl7:∀ (k i:Nat) (l:List Oper) (c0:Nat->AV) (H0:Nat->List (Nat×AObj)×List Nat) (pn0:Option Nat),os.toList.drop i=l->i+k=n->(∀ e,pn0=some e->e<i) ->
  kn6 P os n es ch ai Q st k i l (fsOf os.toList c0 i) (H0 i).1 (H0 i).2 pn0 ->
  ∃ c H pn,(∀ j,j<i->c j=c0 j)/\(∀ j,j<=i->H j=H0 j)/\(∀ e,pn0=some e->pn=some e)/\(∀ e,pn=some e->pn0=some e\/(i<=e/\e<n/\e∈es))/\(∀ j o,i<=j->j<n->os.toList[j]?=some o->FactZ P os n es ch ai Q st c H pn j o) /\
   (pn=none->awpL P os (os.toList.drop n) { st with tmps:=hadd (fsOf os.toList c n) (fun _=>true) st.tmps,heap:=(H n).1,ids:=(H n).2 } Q)
 | 0,i,l,c0,H0,pn0,hl,hn,hp,h=>by
  obtain rfl:i=n:=by omega
  refine ⟨c0,H0,pn0,fun _ _=>rfl,fun _ _=>rfl,fun _ h=>h,fun e h => .inl h,fun j o h1 m=>by omega,fun b=>?_⟩;subst b hl;exact h
 | k+1,i,l,c0,H0,pn0,hl,hn,hp,h=>by
  cases l with
  | nil=>exact h.elim
  | cons o l=>
   have d:os.toList[i]?=some o:=(by have:=qau (·[0]?) hl;simpa using this);have g:os.toList.drop (i+1)=l:=(by rw [<- List.drop_drop,hl];rfl);have t:dstT os.toList i=o.dst:=(by unfold dstT;rw [d];rfl);have cons:∀ c,(i,o.dst,c)::fsOf os.toList c0 i=fsOf os.toList (fun j=>if j=i then c else c0 j) (i+1):=fun c=>(by simp only [fsOf,t,if_true];rw [kfq (k:=i) (c':=fun j=>if j=i then c else c0 j) fun j p=>by rw [qj (by omega)]]);have u:∀ x:List (Nat×AObj)×List Nat,(fun j=>if j=i+1 then x else H0 j) (i+1)=x:=fun x=>(by simp);rcases h with ⟨e,r,ha,h⟩ | ⟨f,c,hf,s,h⟩ | ⟨f,b,c,q,ids',hf,h⟩ | ⟨f,b,hf,h⟩
   ·rw [cons] at h;obtain ⟨c1,H1,pn1,k1,k2,k3,k3',k4,k5⟩:=kl7 k (i+1) l _ (fun j=>if j=i+1 then H0 i else H0 j) pn0 g (by omega) (fun e h=>by have:=hp e h;omega) (by simpa using h);refine ⟨c1,H1,pn1,fun j p=>by rw [k1 j (by omega),qj (by omega)],fun j p=>by rw [k2 j (by omega),qj (by omega)],k3,fun e h=>(k3' e h).imp id (fun h=>⟨by omega,h.2⟩),fun j o' h1 m ho=>?_,k5⟩;by_cases a:j=i;subst a;rw [d] at ho;obtain rfl:=qag ho;exact .inl ⟨by rw [k2 (j+1) (qy _),qn rfl,k2 j (by omega),qj (by omega)],e,k3 e r,hp e r,ha⟩
    ·exact k4 j o' (by omega) m ho
   ·rw [cons] at h;obtain ⟨c1,H1,pn1,k1,k2,k3,k3',k4,k5⟩:=kl7 k (i+1) l _ (fun j=>if j=i+1 then H0 i else H0 j) pn0 g (by omega) (fun e h=>by have:=hp e h;omega) (by simpa using h);have e1:∀ j,j<i->c1 j=c0 j:=fun j p=>(by rw [k1 j (by omega),qj (by omega)]);have e2:c1 i=c:=(by rw [k1 i (by omega),qn rfl]);have e3:H1 i=H0 i:=(by rw [k2 i (by omega),qj (by omega)]);have e4:H1 (i+1)=H0 i:=(by rw [k2 (i+1) (qy _),qn rfl]);refine ⟨c1,H1,pn1,e1,fun j p=>by rw [k2 j (by omega),qj (by omega)],k3,fun e h=>(k3' e h).imp id (fun h=>⟨by omega,h.2⟩),fun j o' h1 m ho=>?_,k5⟩;by_cases a:j=i;subst a;rw [d] at ho;obtain rfl:=qag ho;refine .inr (.inl ⟨by simpa using f,by rw [e3,e4],?_⟩);rw [kfq e1,e2,e3];exact ⟨hf,s⟩
    ·exact k4 j o' (by omega) m ho
   ·subst b;rw [cons] at h;obtain ⟨c1,H1,pn1,k1,k2,k3,k3',k4,k5⟩:=kl7 k (i+1) l _ (fun j=>if j=i+1 then (q,ids') else H0 j) none g (by omega) (fun e h=>by cases h) (by simpa using h);have e1:∀ j,j<i->c1 j=c0 j:=fun j p=>(by rw [k1 j (by omega),qj (by omega)]);have e2:c1 i=c:=(by rw [k1 i (by omega),qn rfl]);have e3:H1 i=H0 i:=(by rw [k2 i (by omega),qj (by omega)]);have e4:H1 (i+1)=(q,ids'):=(by rw [k2 (i+1) (qy _),qn rfl]);refine ⟨c1,H1,pn1,e1,fun j p=>by rw [k2 j (by omega),qj (by omega)],k3,fun e h=>(k3' e h).imp id (fun h=>⟨by omega,h.2⟩),fun j o' h1 m ho=>?_,k5⟩;by_cases a:j=i
    ·subst a;rw [d] at ho;obtain rfl:=qag ho;refine .inr (.inr (.inl ⟨by simpa using f,fun e r=>?_,?_⟩))
     ·rcases k3' e r with h | h;cases h
      ·omega
     ·rw [kfq e1,e2,e3,e4];exact hf
    ·exact k4 j o' (by omega) m ho
   ·exact hf.elim
def kgj (fs:List (Nat×Option Nat×AV)) (p:Nat->Bool) (base:List (Nat×AV)):List (Nat×AV):=match fs with
 | []=>base
 | (j,some d,c)::l=>bif p j then (d,c)::kgj l p base else kgj l p base
 | (_,none,_)::l=>kgj l p base
theorem kby {l:List Oper} {c:Nat->AV} {p:Nat->Bool} {base:List (Nat×AV)} {t:Nat}:∀ k,(∃ j,j<k/\p j=true/\dstT l j=some t/\look .any (kgj (fsOf l c k) p base) t=c j) \/
  ((∀ j,j<k->p j=true->dstT l j≠some t)/\look .any (kgj (fsOf l c k) p base) t=look .any base t)
 | 0 => .inr ⟨fun j h=>by omega,rfl⟩
 | k+1=>by
  have ih:=kby (l:=l) (c:=c) (p:=p) (base:=base) (t:=t) k;simp only [fsOf];cases m:dstT l k with
  | none=>
   simp only [kgj];rcases ih with ⟨j,h1,a,g,i⟩ | ⟨h1,a⟩;exact .inl ⟨j,by omega,a,g,i⟩
   ·refine .inr ⟨fun j n hp=>?_,a⟩;by_cases b:j=k
    ·subst b;rw [m];exact fun h=>by cases h
    ·exact h1 j (by omega) hp
  | some d=>
   simp only [kgj];cases hp:p k with
   | false=>
    simp only [qf];rcases ih with ⟨j,h1,a,g,i⟩ | ⟨h1,a⟩;exact .inl ⟨j,by omega,a,g,i⟩
    ·refine .inr ⟨fun j n e=>?_,a⟩;by_cases b:j=k;subst b;rw [hp] at e;cases e
     ·exact h1 j (by omega) e
   | true=>
    simp only [qe,kbc];by_cases f:d=t;subst f;exact .inl ⟨k,by omega,hp,m,by rw [qn rfl]⟩
    ·rw [qj f];rcases ih with ⟨j,h1,a,g,i⟩ | ⟨h1,a⟩;exact .inl ⟨j,by omega,a,g,i⟩
     ·refine .inr ⟨fun j n e=>?_,a⟩;by_cases b:j=k;subst b;rw [m];exact fun h=>f (qag h)
      ·exact h1 j (by omega) e
theorem kkm {l:List Oper} {c:Nat->AV} {p:Nat->Bool} {base:List (Nat×AV)} {t:Nat}:∀ k,(look .any (hadd (fsOf l c k) p base) t = .any)\/(∃ j,j<k/\p j=true/\dstT l j=some t/\look .any (hadd (fsOf l c k) p base) t=c j) \/
  ((∀ j,j<k->dstT l j≠some t)/\look .any (hadd (fsOf l c k) p base) t=look .any base t)
 | 0 => .inr (.inr ⟨fun j h=>by omega,rfl⟩)
 | k+1=>by
  have ih:=kkm (l:=l) (c:=c) (p:=p) (base:=base) (t:=t) k;simp only [fsOf];cases f:dstT l k with
  | none=>
   simp only [hadd];rcases ih with h | ⟨j,h1,a,g,i⟩ | ⟨h1,a⟩;exact .inl h;exact .inr (.inl ⟨j,by omega,a,g,i⟩)
   ·refine .inr (.inr ⟨fun j m=>?_,a⟩);by_cases b:j=k
    ·subst b;rw [f];exact fun h=>by cases h
    ·exact h1 j (by omega)
  | some d=>
   simp only [hadd,kbc];by_cases e:d=t
   ·subst e;rw [qn rfl];cases hp:p k with
    | false=>exact .inl rfl
    | true=>exact .inr (.inl ⟨k,by omega,hp,f,rfl⟩)
   ·rw [qj e];rcases ih with h | ⟨j,h1,a,g,i⟩ | ⟨h1,a⟩;exact .inl h;exact .inr (.inl ⟨j,by omega,a,g,i⟩)
    ·refine .inr (.inr ⟨fun j m=>?_,a⟩);by_cases b:j=k;subst b;rw [f];exact fun h=>e (qag h)
     ·exact h1 j (by omega)
theorem kn9 {l:List Oper} {i:Nat} {base:List (Nat×AV)} {t:Nat}:∀ k,look .any (khs l i k++base) t = .any\/((∀ j,j<k->dstT l j=some t->j<=i\/anc l j i=true)/\look .any (khs l i k++base) t=look .any base t)
 | 0 => .inr ⟨fun j h=>by omega,rfl⟩
 | k+1=>by
  have ih:=kn9 (l:=l) (i:=i) (base:=base) (t:=t) k;simp only [khs];cases g:dstT l k with
  | none=>
   rcases ih with h | ⟨h1,e⟩;exact .inl h
   ·refine .inr ⟨fun j m a=>?_,e⟩;by_cases b:j=k;subst b;rw [g] at a;cases a
    ·exact h1 j (by omega) a
  | some d=>
   cases f:(Nat.ble k i || anc l k i) with
   | true=>
    simp only [f,qe];rcases ih with h | ⟨h1,e⟩;exact .inl h
    ·refine .inr ⟨fun j m a=>?_,e⟩;by_cases b:j=k;subst b;rw [qbx] at f;exact f.imp (fun h=>qr h) id
     ·exact h1 j (by omega) a
   | false=>
    simp only [f,qf,qbp,kbc];by_cases c:d=t;rw [qn c];exact .inl rfl
    ·rw [qj c];rcases ih with h | ⟨h1,e⟩;exact .inl h
     ·refine .inr ⟨fun j m a=>?_,e⟩;by_cases b:j=k;subst b;rw [g] at a;exact absurd (qag a) c
      ·exact h1 j (by omega) a
theorem kqk {ch:List Nat} {id:Nat} {ob:AObj}:∀ {l:List (Nat×AObj)},kaa (klb ch l) id=some ob->id∉ch/\kaa l id=some ob
 | [],h=>by cases h
 | (k,v)::l,h=>by
  simp only [klb] at h;cases hc:ch.contains k with
  | true=>
   rw [hc] at h;obtain ⟨h1,a⟩:=kqk (l:=l) h;refine ⟨h1,?_⟩;rw [kah,qj];exact a
   ·rintro rfl;exact h1 (by simpa using hc)
  | false=>
   rw [hc] at h;simp only [qf,kah] at h;rw [kah];by_cases hk:k=id;subst hk;rw [qn rfl] at h ⊢;exact ⟨by simpa using hc,h⟩
   ·rw [qj hk] at h ⊢;exact kqk h
theorem ko0 {ch:List Nat} {id:Nat} {ob:AObj} (a:id∉ch):∀ {l:List (Nat×AObj)},kaa l id=some ob->kaa (klb ch l) id=some ob
 | [],h=>by cases h
 | (k,v)::l,h=>by
  simp only [klb];rw [kah] at h;cases hc:ch.contains k with
  | true=>
   simp only [qe];rw [qj (by rintro rfl;exact a (by simpa using hc))] at h;exact ko0 a h
  | false=>
   simp only [qf,kah];by_cases hk:k=id;rw [qn hk] at h ⊢; exact h
   ·rw [qj hk] at h ⊢; exact ko0 a h
def kpx (ch:List Nat):List (Nat×AObj)->List Nat
 | []=>[]
 | (k,_)::l=>bif ch.contains k then kpx ch l else k::kpx ch l
theorem kvj {ch:List Nat} {id:Nat} {ob:AObj} (a:id∉ch):∀ {l:List (Nat×AObj)},kaa l id=some ob->id∈kpx ch l
 | [],h=>by cases h
 | (k,v)::l,h=>by
  simp only [kpx];rw [kah] at h;by_cases hk:k=id;subst hk;rw [show ch.contains k=false by simpa using a];exact qq ..
  ·rw [qj hk] at h;have:=kvj a (l:=l) h;cases ch.contains k with
   | true=>exact this
   | false=>exact qh _ this
theorem kabp {ch:List Nat} {hp a:List (Nat×AObj)} (h:(kpx ch hp).map (kaa a)=(kpx ch hp).map (kaa hp)):∀ id,id∉ch->∀ ob,kaa hp id=some ob->kaa a id=some ob:=fun id b ob ho=>by rw [List.map_inj_left.1 h id (kvj b ho)];exact ho
def stZ (l:List Oper) (n:Nat) (st:St) (c:Nat->AV) (H:Nat->List (Nat×AObj)×List Nat) (listed:Array Bool) (kD:Nat):St:=
 { st with tmps:=kgj (fsOf l c n) (fun j=>listed.getD j false) st.tmps,heap:=(H kD).1,ids:=(H kD).2 }
theorem kxb {es:List Nat} {H:Nat->List (Nat×AObj)×List Nat} {n:Nat} (g:∀ i,i<n->i∉es->H (i+1)=H i):∀ {a b:Nat},a<=b->b<=n->(∀ e,e∈es->¬ (a<=e/\e<b))->H a=H b
 | a,b,h1,j,f=>by
  induction b with
  | zero=>
    obtain rfl:a=0:=(by omega);rfl
  | succ b ih=>
   by_cases c:a=b+1;rw [c]
   ·rw [g b (by omega) (fun d=>f b d ⟨by omega,by omega⟩)];exact ih (by omega) (by omega) fun e d h=>f e d ⟨h.1,by omega⟩
def HistI (ids ids':List Nat) (ψ ψ':Env) (S S':Nat->Prop) (w w':World):Prop:=Ext (·∈ids) ψ ψ'/\(∀ i,i∈ids->i∈ids')/\(∀ b,S b->S' b)/\Same S w w'
theorem HistI.refl {ids:List Nat}:HistI ids ids ψ ψ S S w w:=⟨Ext.refl,fun _ h=>h,fun _ h=>h,fun _ _ _=>rfl⟩
theorem HistI.trans {ids ids' ids2:List Nat} {ψ2:Env} {S2:Nat->Prop} {w2:World} (h:HistI ids ids' ψ ψ' S S' w w') (k:HistI ids' ids2 ψ' ψ2 S' S2 w' w2):HistI ids ids2 ψ ψ2 S S2 w w2:=
 ⟨h.1.trans' k.1 h.2.1,fun i hi=>k.2.1 i (h.2.1 i hi),fun b a=>k.2.2.1 b (h.2.2.1 b a),h.2.2.2.trans' k.2.2.2 h.2.2.1⟩
structure DSx (F S0:Nat->Prop) (N0:Nat) (ψ0:Env) (Sa:Nat->Prop) (w0:World) (l:List Oper) (n:Nat) (es:List Nat) (st:St) (c:Nat->AV) (H:Nat->List (Nat×AObj)×List Nat) (listed:Array Bool) (a:Act) (w:World):Prop where
 inv:∃ kD ψ S,kD<=n/\(∀ e,e∈es->(listed.getD e false=true↔e<kD))/\Sim F S0 N0 (stZ l n st c H listed kD) ψ S a w/\HistI st.ids (H kD).2 ψ0 ψ Sa S w0 w
 fr:Fr F w0 w
 lsize:listed.size=l.length
 closed:∀ k o,listed.getD k false=true->l[k]?=some o->∀ e∈o.after,Region.binds .any e=true->listed.getD e.on false=true
def FactX (P:Program) (l:List Oper) (n:Nat) (es:List Nat) (chi chs:Nat->List Nat) (ai:List Nat) (st:St) (c:Nat->AV) (H:Nat->List (Nat×AObj)×List Nat) (i:Nat) (o:Oper):Prop:=
 (i∉es/\H (i+1)=H i/\ko2 P l.toArray (kdj l n es (chi i) ai st i o (fsOf l c i) (H i).1 (H i).2) o (c i)/\(phB l es i || okA st.ids (c i))=true) \/
 (i∈es/\kts P l.toArray l n es (chs i) ai st (kdj l n es (chi i) ai st i o (fsOf l c i) (H i).1 (H i).2) o (c i) (H i).1 (H i).2 (H (i+1)).1 (H (i+1)).2)
theorem kww (hm:P.follows .mixedOrders=true) {id:Nat} {l:List Oper} (c:Nat->AV) (H:Nat->List (Nat×AObj)×List Nat) (chi chs:Nat->List Nat) (hB:relB l n st.n=true) (bb:ktx l n es=true) (bc:st.ids.all ai.contains=true) (V:H 0=(st.heap,st.ids)) (bd:∀ j i,j∈es->i<n->anc l j i=false->∀ id,id∈chs j->id∈chi i) (J:∀ i o,i<n->l[i]?=some o->FactX P l n es chi chs ai st c H i o) {F S0:Nat->Prop} {N0:Nat} {ψ0:Env} {Sa:Nat->Prop} {a0:Act} {w0:World} (q:Sim F S0 N0 st ψ0 Sa a0 w0) (R:Exit->Act->World->Prop) (a2:∀ ψ S a w,Sim F S0 N0 { st with tmps:=hadd (fsOf l c n) (fun _=>true) st.tmps,heap:=(H n).1,ids:=(H n).2 } ψ S a w->Fr F w0 w->HistI st.ids (H n).2 ψ0 ψ Sa S w0 w->wpList P l.toArray R (l.drop n) a w):(Code.region id l.toArray true).wp P R a0 w0:=by
 have ok:=kus hB
 -- facts about the chain
 have af:∀ e,e∈es->e<n/\phB l es e=true:=fun e g=>by have:=qu.1 bb e g;rw [qv] at this;exact ⟨by simpa [Nat.blt_eq] using this.1,this.2⟩
 have a3:∀ i,phB l es i=true->∀ e,e∈es->(e<i->anc l i e=true)/\(i<e->anc l e i=true):=fun i hi e g=>by
  have:=qu.1 hi e g;refine ⟨fun r=>?_,fun r=>?_⟩;have u:Nat.blt e i=true:=(by simpa [Nat.blt_eq] using r);simpa [u] using this
  ·have u:Nat.blt i e=true:=(by simpa [Nat.blt_eq] using r);have be:Nat.blt e i=false:=by
    cases hx:Nat.blt e i with
    | false=>rfl
    | true=>
      have:e<i:=(by simpa [Nat.blt_eq] using hx);omega
   simpa [u,be] using this
 have hs1:Sim F S0 N0 st ψ0 Sa a0 w0.drew:=⟨q.defers,q.size,fun t=>(q.tmps t).keep Ext.refl (fun _ h=>h) (fun _ h=>h) (fun _ _ _=>rfl),⟨fun id ob ho=>by obtain ⟨e1,e2,e3⟩:=q.core.obj id ob ho;exact ⟨e1,e2.keep Ext.refl (fun _ h=>h) (fun _ h=>h) (fun _ _ _=>rfl) ⟨rfl,rfl⟩ (fun _ _=>rfl),e3⟩,q.core.inj,q.core.lt,q.core.s0,q.core.n0,q.core.fr⟩⟩;refine wp_region_any hm ?_;have ag:∀ i,i<n->i∉es->H (i+1)=H i:=fun i hi O=>by
  have A:i<l.length:=by have:=ok.len;omega
  rcases J i l[i] hi (qa A) with ⟨_,h1,_⟩ | ⟨h1,_⟩;exact h1
  ·exact absurd h1 O
 have s:¬ (∀ i,i<n->phB l es i=true)->∀ j,j<n->(∀ id,id∉chs j->∀ ob,kaa (H j).1 id=some ob->kaa (H (j+1)).1 id=some ob)/\((∀ id,id∈(H j).2->id∈ai)->∀ id,id∈(H (j+1)).2->id∈ai)/\∀ id,id∈(H j).2->id∈(H (j+1)).2:=fun Q j L=>by
  have E:j<l.length:=by have:=ok.len;omega
  rcases J j l[j] L (qa E) with ⟨_,h1,_⟩ | ⟨_,_,h1⟩;rw [h1];exact ⟨fun _ _ _ h=>h,fun h=>h,fun _ h=>h⟩
  ·obtain ⟨q1,q2,q3⟩:=h1.resolve_left Q;exact ⟨q1,fun _=>q2,q3⟩
 have T:¬ (∀ i,i<n->phB l es i=true)->∀ i,i<n->∀ k,k<=n->(∀ j,j<k->j∈es->anc l j i=false)->∀ id,id∉chi i->∀ ob,kaa st.heap id=some ob->kaa (H k).1 id=some ob:=fun Q i bf k=>by
  induction k with
  | zero=>intro _ _ id _ ob h;rw [V];exact h
  | succ k ih=>
   intro B a4 id a5 ob h;have hk:=ih (by omega) (fun j L=>a4 j (by omega)) id a5 ob h;by_cases ao:k∈es;exact (s Q k (by omega)).1 id (fun hc=>a5 (bd k i ao bf (a4 k (Nat.lt_succ_self _) ao) id hc)) ob hk
   ·rw [ag k (by omega) ao];exact hk
 have G:¬ (∀ i,i<n->phB l es i=true)->∀ k,k<=n->(∀ id,id∈(H k).2->id∈ai)/\∀ id,id∈st.ids->id∈(H k).2:=fun Q k=>by
  induction k with
  | zero=>intro _;rw [V];exact ⟨fun id h=>by simpa using qu.1 bc id h,fun _ h=>h⟩
  | succ k ih=>intro B;obtain ⟨q1,q2⟩:=ih (by omega);exact ⟨(s Q k (by omega)).2.1 q1,fun id h=>(s Q k (by omega)).2.2 id (q2 id h)⟩
 suffices key:∀ (fuel:Nat) (listed:Array Bool) (a:Act) (w:World),DSx F S0 N0 ψ0 Sa w0 l n es st c H listed a w->(∀ k,listed.getD k false=true->k<n) ->
   ((List.range l.length).countP fun k=>!listed.getD k true)<=fuel->wpAny P .any l.toArray R fuel listed a w by
  refine key _ _ _ _ ⟨⟨0,ψ0,Sa,qar _,fun e _=>by rw [kki];simp,?_,⟨Ext.refl,fun i h=>by rw [V];exact h,fun _ h=>h,fun _ _ _=>rfl⟩⟩,Fr.drew,by simp,(fun k o hk=>by rw [kki] at hk;cases hk)⟩ (fun k hk=>by rw [kki] at hk;cases hk) ?_
  ·refine ⟨hs1.defers,hs1.size,fun t=>?_,by show Core F S0 N0 (H 0).1 (H 0).2 _ _ _;rw [V];exact hs1.core⟩;show RV _ (·∈(H 0).2) _ _ _ (look .any (kgj (fsOf l c n) _ st.tmps) t);rw [V];rcases kby (l:=l) (c:=c) (p:=fun j=>(Array.replicate l.toArray.size false).getD j false) (base:=st.tmps) (t:=t) n with ⟨j,_,L,_⟩ | ⟨_,M⟩;rw [kki] at L;cases L
   ·rw [M];exact hs1.tmps t
  ·refine qap (List.countP_le_length ..) ?_;simp
 intro fuel
 -- the end of the bw
 have fin:∀ (listed:Array Bool) (a:Act) (w:World),DSx F S0 N0 ψ0 Sa w0 l n es st c H listed a w->(∀ i,i<n->listed.getD i false=true)->wpList P l.toArray R (l.drop n) a w:=by
  intro listed a w d f;obtain ⟨kD,ψ,S,B,hk,hs,X⟩:=d.inv;have aq:H kD=H n:=kxb (es:=es) (n:=n) ag B (qy _) fun e g h=>by have:=(hk e g).1 (f e h.2);omega
  have bg:Sim F S0 N0 { st with tmps:=hadd (fsOf l c n) (fun _=>true) st.tmps,heap:=(H n).1,ids:=(H n).2 } ψ S a w:=by
   refine ⟨hs.defers,hs.size,fun t=>?_,by rw [<- aq];exact hs.core⟩;have ht:=hs.tmps t;rw [<- aq];show RV _ _ _ _ _ (look .any (hadd (fsOf l c n) (fun _=>true) st.tmps) t);have ht:RV ψ (·∈(H kD).2) S w (a.tmps.getD t undef) (look .any (kgj (fsOf l c n) (fun j=>listed.getD j false) st.tmps) t):=ht;rcases kkm (l:=l) (c:=c) (p:=fun _=>true) (base:=st.tmps) (t:=t) n with h | ⟨j,h1,_,y,Y⟩ | ⟨h1,M⟩;rw [h];exact .any
   ·rw [Y];rcases kby (l:=l) (c:=c) (p:=fun j=>listed.getD j false) (base:=st.tmps) (t:=t) n with ⟨j',e1,e2,e3,e4⟩ | ⟨e1,e2⟩;rw [e4] at ht;have bh:j'=j:=(by unfold dstT at y e3;simp only [qg] at y e3;obtain ⟨o1,p1,p2⟩:=y;obtain ⟨o2,q1,q2⟩:=e3;exact ok.uniq j' j o2 o1 t e1 h1 q1 p1 q2 p2);rw [bh] at ht;exact ht
    ·exact absurd y (e1 j h1 (f j h1))
   ·rw [M];rcases kby (l:=l) (c:=c) (p:=fun j=>listed.getD j false) (base:=st.tmps) (t:=t) n with ⟨j',e1,e2,e3,e4⟩ | ⟨e1,e2⟩;exact absurd e3 (h1 j' e1)
    ·rw [e2] at ht;exact ht
  exact a2 ψ S a w bg d.fr (by rw [<- aq];exact X)
 induction fuel with
 | zero=>
  intro listed a w d hh hc;have f:∀ i,i<l.length->listed.getD i false=true:=fun i hi=>by have h0:((List.range l.length).countP fun k=>!listed.getD k true)=0:=(by omega);rw [List.countP_eq_zero] at h0;have:=h0 i (by simpa using hi);simp [d.lsize,hi] at this ⊢;exact this
  have hn:n=l.length:=by
   have:=ok.len;rcases qbl n l.length with h' | h';have:=hh n (f _ h');omega
   ·omega
  have H:=fin listed a w d fun i hi=>f i (by omega);rw [hn] at H;exact kl8 ok 0 l.length listed a w (by omega) (qy _) d.lsize (fun i hi=>⟨fun _=>hi,fun _=>by have:=f i hi;simp [d.lsize,hi] at this ⊢;exact this⟩) (by omega) H
 | succ fuel ih=>
  intro listed a w d hh hc;by_cases z:∀ i,i<n->listed.getD i false=true
  ·refine kl8 ok (fuel+1) n listed a w (qy _) ok.len d.lsize (fun i hi=>⟨fun hl=>hh i (by
    simp [d.lsize,hi] at hl ⊢;exact hl),fun C=>by
    have:=z i C;simp [d.lsize,hi] at this ⊢;exact this⟩) ?_ (fin listed a w d z)
   refine qap ?_ hc;rw [show l.length=n+(l.length - n) by have:=ok.len;omega,List.range_add,List.countP_append];have:((List.range (l.length - n)).map (n+·)).countP (fun k=>!listed.getD k true)=l.length - n:=(by rw [List.countP_eq_length.2,qaa,List.length_range];intro k hk;simp only [qaf,List.mem_range] at hk;obtain ⟨m,hm,rfl⟩:=hk;have r:n+m<l.length:=(by omega);have:listed.getD (n+m) false≠true:=fun h=>(by have:=hh _ h;omega);simp [d.lsize,r] at this ⊢;exact this);omega
  ·have ar:Region.ready .any l.toArray listed≠[]:=by
    have bi:∃ i,i<n/\listed.getD i false=false/\∀ j,j<i->listed.getD j false=true:=by
     have:∃ i,i<n/\listed.getD i false=false:=(by simp only [Classical.not_forall] at z;obtain ⟨i,hi,u⟩:=z;exact ⟨i,hi,by simpa using u⟩);obtain ⟨i,hi,u⟩:=this
     induction i using Nat.strongRecOn with
     | _ i ihi=>
      by_cases f:∀ j,j<i->listed.getD j false=true;exact ⟨i,hi,u,f⟩
      ·simp only [Classical.not_forall] at f;obtain ⟨j,L,bj⟩:=f;exact ihi j L (by omega) (by simpa using bj)
    obtain ⟨i,hi,u,f⟩:=bi;have A:i<l.length:=(by have:=ok.len;omega);have:i∈Region.ready .any l.toArray listed:=mem_ready.2 ⟨by simp [d.lsize,A] at u ⊢;exact u,l[i],by simp [A],fun e g ah=>f _ (ok.edges i _ (qa A) e g ah)⟩;intro h0;rw [h0] at this;cases this
   refine ⟨fun h0=>absurd h0 ar,fun i hi=>?_⟩;obtain ⟨h0,o,ho,f⟩:=mem_ready.1 hi;have U:l[i]?=some o:=(by simpa using ho);have A:i<l.length:=(qd.1 U).1;have aj:=kzi h0;have N:∀ j,anc l i j=true->listed.getD j false=true:=fun j L=>
    kip (l:=l) (S:=fun j=>listed.getD j false=true) (fun m p hm hp e g u=>d.closed m p hm hp e g u) i o U f j L
   have D:∀ j,listed.getD j false=true->anc l j i=true->False:=fun j L ha=>(by have E:j<l.length:=(by have:=k7b L;rw [d.lsize] at this;exact this);have:=kip (l:=l) (S:=fun j=>listed.getD j false=true) (fun m p hm hp e g u=>d.closed m p hm hp e g u) j l[j] (qa E) (fun e g u=>d.closed j _ L (qa E) e g u) i ha;rw [aj] at this;cases this);have C:i<n:=by
    rcases qbl i n with h' | h';exact h'
    ·exfalso;apply z;intro j L;exact N j (ok.tail i j A h' (by omega))
   obtain ⟨kD,ψ,S,B,hk,hs,X⟩:=d.inv;have au:dstT l i=o.dst:=(by unfold dstT;rw [U];rfl);have Z:∀ k,(listed.setIfInBounds i true).getD k false=true->k=i\/listed.getD k false=true:=fun k hk=>by
    by_cases a6:i=k;exact .inl a6.symm
    ·rw [getD_set_ne false a6] at hk;exact .inr hk
   have aa:(listed.setIfInBounds i true).getD i false=true:=(by simp [d.lsize,A]);have a7:∀ t,o.dst=some t->t<st.n:=fun t ht=>ok.dst i o t C U ht
   -- the bk agree with the text's,for what the view bl
   have ak:(∀ e,e∈es->(e<i↔e<kD))->H i=H kD:=fun a8=>by
    rcases Nat.le_total i kD with av | av
    ·exact kxb (es:=es) (n:=n) ag av B fun e g h=>by have:=a8 e g;omega
    ·exact (kxb (es:=es) (n:=n) ag av (by omega) fun e g h=>by have:=a8 e g;omega).symm
   have x:phB l es i=true->H i=H kD:=fun hp=>ak fun e g=>by
    obtain ⟨h1,M⟩:=a3 i hp e g;have y:=hk e g;constructor;intro r;exact y.1 (N e (h1 r))
    ·intro r;rcases Nat.lt_trichotomy e i with h | h | h;exact h;subst h;rw [y.2 r] at aj;cases aj
     ·exact (D e (y.2 r) (M h)).elim
   -- the slots of the view
   have ab:∀ (K:Nat->Prop),(∀ id,id∈(H kD).2->K id)->∀ t,RV ψ K S w (a.tmps.getD t undef) (look .any (hadd (fsOf l c i) (kgc o) (khs l i n++st.tmps)) t):=fun K hK t=>by
    have ht:RV ψ (·∈(H kD).2) S w (a.tmps.getD t undef) (look .any (kgj (fsOf l c n) (fun j=>listed.getD j false) st.tmps) t):=hs.tmps t;have uniq:∀ {j j':Nat},j<n->j'<n->dstT l j=some t->dstT l j'=some t->j=j':=fun {j j'} h1 M y Y=>(by unfold dstT at y Y;simp only [qg] at y Y;obtain ⟨o1,p1,p2⟩:=y;obtain ⟨o2,q1,q2⟩:=Y;exact ok.uniq j j' o1 o2 t h1 M p1 q1 p2 q2);rcases kkm (l:=l) (c:=c) (p:=kgc o) (base:=khs l i n++st.tmps) (t:=t) i with h | ⟨j,h1,M,y,Y⟩ | ⟨h1,M⟩;rw [h];exact .any
    ·rw [Y];have E:listed.getD j false=true:=(by obtain ⟨e,g,bm,u⟩:=afterB_iff.1 M;rw [<- bm];exact f e g u);rcases kby (l:=l) (c:=c) (p:=fun j=>listed.getD j false) (base:=st.tmps) (t:=t) n with ⟨j',e1,e2,e3,e4⟩ | ⟨e1,e2⟩;rw [e4,uniq e1 (by omega) e3 y] at ht;exact ht.mono hK fun _ h=>h
     ·exact absurd y (e1 j (by omega) E)
    ·rw [M];rcases kn9 (l:=l) (i:=i) (base:=st.tmps) (t:=t) n with h | ⟨k1,k2⟩;rw [h];exact .any
     ·rw [k2];rcases kby (l:=l) (c:=c) (p:=fun j=>listed.getD j false) (base:=st.tmps) (t:=t) n with ⟨j',e1,e2,e3,e4⟩ | ⟨e1,e2⟩
      ·exfalso;rcases k1 j' e1 e3 with h | h
       ·rcases qbl j' i with h' | h';exact h1 j' h' e3
        ·obtain rfl:j'=i:=(by omega);rw [aj] at e2;cases e2
       ·exact D j' e2 h
      ·rw [e2] at ht;exact ht.mono hK fun _ h=>h
   have fact:=J i o C U
   -- what a value in the slot leaves
   have next:∀ (kD':Nat) (ψ':Env) (S':Nat->Prop) (v:Value) (w':World),kD'<=n->(∀ e,e∈es->((listed.setIfInBounds i true).getD e false=true↔e<kD'))->Fr F w w'->HistI (H kD).2 (H kD').2 ψ ψ' S S' w w' ->
     Core F S0 N0 (H kD').1 (H kD').2 ψ' S' w'->RV ψ' (·∈(H kD').2) S' w' v (c i)->(∀ t,RV ψ' (·∈(H kD').2) S' w' (a.tmps.getD t undef) ((stZ l n st c H listed kD).get t)) ->
     wpAny P .any l.toArray R fuel (listed.setIfInBounds i true) (a.put o.dst v) w':=fun kD' ψ' S' v w' q1 q2 q4 q8 q5 q6 q7=>by
    refine ih _ _ _ ⟨⟨kD',ψ',S',q1,q2,?_,X.trans q8⟩,d.fr.trans q4,by simp [d.lsize],?_⟩ (fun k hk=>(Z k hk).elim (fun e=>by omega) (hh k)) ?_
    ·refine ⟨by rw [ksj];exact hs.defers,by rw [kw9];exact hs.size,fun t=>?_,q5⟩;rw [ko6 _ _ _ hs.size a7];have q7:=q7 t;show RV ψ' _ S' w' _ (look .any (kgj (fsOf l c n) (fun j=>(listed.setIfInBounds i true).getD j false) st.tmps) t);have q7:RV ψ' (·∈(H kD').2) S' w' (a.tmps.getD t undef) (look .any (kgj (fsOf l c n) (fun j=>listed.getD j false) st.tmps) t):=q7;have uniq:∀ {j j':Nat},j<n->j'<n->dstT l j=some t->dstT l j'=some t->j=j':=fun {j j'} h1 M y Y=>(by unfold dstT at y Y;simp only [qg] at y Y;obtain ⟨o1,p1,p2⟩:=y;obtain ⟨o2,p3,p4⟩:=Y;exact ok.uniq j j' o1 o2 t h1 M p1 p3 p2 p4);rcases kby (l:=l) (c:=c) (p:=fun j=>(listed.setIfInBounds i true).getD j false) (base:=st.tmps) (t:=t) n with ⟨j,e1,e2,e3,e4⟩ | ⟨e1,e2⟩
     ·rw [e4];by_cases aw:j=i;subst aw;rw [au] at e3;rw [qn e3];exact q6
      ·have E:=(Z j e2).resolve_left aw;rw [qj (fun h=>aw (uniq e1 C e3 (by rw [au];exact h)))];rcases kby (l:=l) (c:=c) (p:=fun j=>listed.getD j false) (base:=st.tmps) (t:=t) n with ⟨j',f1,f2,f3,f4⟩ | ⟨f1,f2⟩;rw [f4,uniq f1 e1 f3 e3] at q7;exact q7
       ·exact absurd e3 (f1 j e1 E)
     ·rw [e2,qj (fun h=>e1 i C aa (by rw [au];exact h))];rcases kby (l:=l) (c:=c) (p:=fun j=>listed.getD j false) (base:=st.tmps) (t:=t) n with ⟨j',f1,f2,f3,f4⟩ | ⟨f1,f2⟩;exact absurd f3 (e1 j' f1 (getD_set_true f2))
      ·rw [f2] at q7;exact q7
    ·intro k p hk hp e g ah;rcases Z k hk with rfl | bn;rw [U] at hp;obtain rfl:=qag hp;exact getD_set_true (f e g ah)
     ·exact getD_set_true (d.closed k p bn hp e g ah)
    ·have:=koy l.length A h0 (by rw [d.lsize];exact A);omega
   have ac:∀ e,e∈es->i∉es->((listed.setIfInBounds i true).getD e false=true↔e<kD):=fun e g bo=>(by have ar:i≠e:=fun h=>bo (h ▸ g);rw [getD_set_ne false ar];exact hk e g);unfold wpOp;simp only [ho];rcases fact with ⟨O,al,hN,am⟩ | ⟨O,bp,bq⟩
   ·-- one that changes nothing
    have an:∀ id,id∈(H kD).2->id∈(kdj l n es (chi i) ai st i o (fsOf l c i) (H i).1 (H i).2).ids:=fun id=>by
     show _->id∈(bif phB l es i then (H i).2 else ai);cases hp:phB l es i with
     | true=>simp only [qe];rw [x hp];exact fun h=>h
     | false=>simp only [qf];exact (G (fun h=>by rw [h i C] at hp;cases hp) kD B).1 id
    have ax:∀ {v:Value} {S':Nat->Prop} {w':World},RV ψ (·∈(kdj l n es (chi i) ai st i o (fsOf l c i) (H i).1 (H i).2).ids) S' w' v (c i)->RV ψ (·∈(H kD).2) S' w' v (c i):=fun {v S' w'} hv=>by
     cases hp:phB l es i with
     | true=>
      have g:(kdj l n es (chi i) ai st i o (fsOf l c i) (H i).1 (H i).2).ids=(H kD).2:=(by show (bif phB l es i then (H i).2 else ai)=_;rw [hp,qe,x hp]);rw [g] at hv;exact hv
     | false=>
      rw [hp,Bool.false_or] at am;exact (hv.subA am).mono (G (fun h=>by rw [h i C] at hp;cases hp) kD B).2 fun _ h=>h
    have ay:∀ t,RV ψ (·∈(kdj l n es (chi i) ai st i o (fsOf l c i) (H i).1 (H i).2).ids) S w (a.tmps.getD t undef) ((kdj l n es (chi i) ai st i o (fsOf l c i) (H i).1 (H i).2).get t):=ab _ an;have br:∀ id ob,kaa (kdj l n es (chi i) ai st i o (fsOf l c i) (H i).1 (H i).2).heap id=some ob->ObR ψ (·∈(kdj l n es (chi i) ai st i o (fsOf l c i) (H i).1 (H i).2).ids) S w id ob:=fun id ob I=>by
     have a9:kaa (H kD).1 id=some ob:=by
      have I:kaa (bif phB l es i then (H i).1 else klb (chi i) st.heap) id=some ob:=I;cases hp:phB l es i with
      | true=>rw [hp] at I;simp only [qe] at I;rw [x hp] at I;exact I
      | false=>
       rw [hp] at I;obtain ⟨g1,g2⟩:=kqk I;exact T (fun h=>by rw [h i C] at hp;cases hp) i C kD B (fun j L bs=>by
        cases ha:anc l j i with
        | false=>rfl
        | true=>exact (D j ((hk j bs).2 L) ha).elim) id g1 ob g2
     obtain ⟨g1,g2,g3⟩:=hs.core.obj id ob a9;exact g2.keep Ext.refl an (fun _ h=>h) (fun _ _ _=>rfl) ⟨rfl,rfl⟩ (fun _ _=>rfl)
    rcases hN with ⟨hg,hN⟩ | ⟨hg,hN⟩
    ·have hw:=kjb (kdj l n es (chi i) ai st i o (fsOf l c i) (H i).1 (H i).2) ay hg;rw [qn hw];refine .inl (kcg ?_ (hN ψ S a w ay br));rintro v w' ⟨g1,g2⟩;refine next kD ψ (fun b=>(S b\/w.heap.size<=b)/\b<w'.heap.size) v w' B (fun e g=>ac e g O) (Fr.of_grow hs.core.fr g1) ⟨Ext.refl,fun _ h=>h,fun b u=>⟨.inl u,qbo (hs.core.lt b u) g1.size⟩,Same.of_grow g1⟩ (hs.core.grow g1) ?_ fun t=>?_;exact (ax g2).bound.mono (fun _ h=>h) fun _ h=>h
     ·exact (hs.tmps t).keep Ext.refl (fun _ h=>h) (fun b u=>⟨.inl u,qbo (hs.core.lt b u) g1.size⟩) (Same.of_grow g1)
    ·have hw:=kjb (kdj l n es (chi i) ai st i o (fsOf l c i) (H i).1 (H i).2) ay hg;rw [qj (by rw [hw];exact qa0)];exact next kD ψ S undef w B (fun e g=>ac e g O) Fr.refl HistI.refl hs.core (by rw [hN];exact .fz RF.undef) fun t=>hs.tmps t
   ·-- one of the chain
    have hp:=(af i O).2;have ad:=x hp;have az:Sim F S0 N0 (kdj l n es (chi i) ai st i o (fsOf l c i) (H i).1 (H i).2) ψ S a w:=by
     refine ⟨hs.defers,hs.size,fun t=>?_,?_⟩;show RV ψ (·∈(bif phB l es i then (H i).2 else ai)) S w _ _;rw [hp];simp only [qe];rw [ad];have:=ab (·∈(H kD).2) (fun _ h=>h) t;rw [<- ad] at this ⊢;exact this
     ·show Core F S0 N0 (bif phB l es i then (H i).1 else klb (chi i) st.heap) (bif phB l es i then (H i).2 else ai) ψ S w;rw [hp];simp only [qe];rw [ad];exact hs.core
    have bt:(kdj l n es (chi i) ai st i o (fsOf l c i) (H i).1 (H i).2).ids=(H kD).2:=(by show (bif phB l es i then (H i).2 else ai)=_;rw [hp,qe,ad]);have ae:∀ e,e∈es->((listed.setIfInBounds i true).getD e false=true↔e<i+1):=fun e g=>by
     have y:=hk e g;obtain ⟨h1,M⟩:=a3 i hp e g;by_cases ba:i=e;subst ba;rw [aa];simp
     ·rw [getD_set_ne false ba,y];constructor
      ·intro r;rcases qbl e i with h | h;omega
       ·exact (D e (y.2 r) (M (by omega))).elim
      ·intro r;exact y.1 (N e (h1 (by omega)))
    rcases bp with ⟨hg,a1⟩ | ⟨hg,bu,hh,bv⟩;have hw:=ke5 az hg;rw [qn hw];refine .inl (kcg ?_ (a1 F S0 N0 ψ S a w az));rintro v w' ⟨ψ',S',g1,g2,g3,g4,g5,g6,g7⟩;rw [bt] at g4 g5;exact next (i+1) ψ' S' v w' (by omega) ae g3 ⟨g4,g5,g6,g7⟩ g1 g2 fun t=>(hs.tmps t).keep g4 g5 g6 g7
    ·have hw:=ke5 az hg;rw [qj (by rw [hw];exact qa0)];have al:H (i+1)=H kD:=(by rw [<- ad];exact Prod.ext hh bv);refine next (i+1) ψ S undef w (by omega) ae Fr.refl ⟨Ext.refl,fun j h=>by rw [al];exact h,fun _ h=>h,fun _ _ _=>rfl⟩ ?_ ?_ fun t=>?_;rw [al];exact hs.core;rw [bu];exact .fz RF.undef
     ·rw [al];exact hs.tmps t
theorem k7z (hm:P.follows .mixedOrders=true) {id:Nat} {l:List Oper} (t:relB l n st.n=true) (g:ktx l n es=true) (j:st.ids.all ai.contains=true)
  (h:kn6 P l.toArray n es ch ai Q st n 0 l [] st.heap st.ids none):awp P (.region id l.toArray true) st Q:=by
 obtain ⟨c,H,pn,_,m,_,p,b,f⟩:=kl7 (os:=l.toArray) n 0 l (fun _ => .any) (fun _=>(st.heap,st.ids)) none rfl (by omega) (fun e h=>by cases h) h;simp only [List.toList_toArray] at b f;have u:=(kus t).len;have q:pn=none:=by
  cases pn with
  | none=>rfl
  | some e=>
   exfalso;rcases p e rfl with h | ⟨_,r,v⟩;cases h
   ·have s:e<l.length:=(by omega);rcases b e l[e] (qar _) r (qa s) with ⟨_,e',d,x,_⟩ | ⟨d,_⟩ | ⟨_,d,_⟩ | ⟨_,_,_,d⟩;injection d with d;omega;exact d v;have:=d e rfl;omega
    ·exact d
 subst q;intro F S0 N0 ψ S a w hs;refine kww (l:=l) (id:=id) hm c H (fun _=>ch) (fun _=>ch) t g j (m 0 (qy _)) (fun _ _ _ _ _ _ h=>h) (fun i o hi ho=>?_) hs _ fun ψ S a w g1 g2 _=>kbm (fun e a' w' k=>k.pre g2) _ _ _ (f rfl F S0 N0 ψ S a w g1);rcases b i o (qar _) hi ho with ⟨_,e',d,_⟩ | d | ⟨h1,_,r⟩ | ⟨_,_,_,d⟩;cases d;exact .inl d;exact .inr ⟨h1,r⟩
 ·exact d.elim
end Go.Proofs.YtnlhjbnpjefjgaaGreatDoor
set_option linter.all false
set_option linter.unusedSectionVars false
namespace Go.Proofs.YtnlhjbnpjefjgaaGreatDoor
open Go Go.RowKit
variable [Dr]
abbrev Ent:=Bool×Nat×AObj
def hpD (x:Nat->Option Ent) (p:Nat->Bool):Nat->List (Nat×AObj)
 | 0=>[]
 | k+1=>match x k with
  | some q=>bif p k then q.2::hpD x p k else hpD x p k
  | none=>hpD x p k
def idD (x:Nat->Option Ent) (p:Nat->Bool):Nat->List Nat
 | 0=>[]
 | k+1=>match x k with
  | some q=>bif p k && q.1 then q.2.1::idD x p k else idD x p k
  | none=>idD x p k
theorem klk {x:Nat->Option Ent} {p q:Nat->Bool}:∀ {k:Nat},(∀ j,j<k->x j≠none->p j=q j)->hpD x p k=hpD x q k
 | 0,_=>rfl
 | k+1,h=>by
  have ih:=klk (k:=k) fun j b=>h j (by omega);simp only [hpD];cases a:x k with
  | none=>exact ih
  | some r=>rw [ih,h k (by omega) (by rw [a];exact fun h=>by cases h)]
theorem kq3 {x:Nat->Option Ent} {p q:Nat->Bool}:∀ {k:Nat},(∀ j,j<k->x j≠none->p j=q j)->idD x p k=idD x q k
 | 0,_=>rfl
 | k+1,h=>by
  have ih:=kq3 (k:=k) fun j b=>h j (by omega);simp only [idD];cases a:x k with
  | none=>exact ih
  | some r=>rw [ih,h k (by omega) (by rw [a];exact fun h=>by cases h)]
theorem ks9 {x:Nat->Option Ent} {p:Nat->Bool}:∀ {k:Nat},(∀ j,j<k->p j=false)->hpD x p k=[]
 | 0,_=>rfl
 | k+1,h=>by simp only [hpD];rw [ks9 (k:=k) fun j a=>h j (by omega),h k (by omega)];cases x k <;> rfl
theorem kya {x:Nat->Option Ent} {p:Nat->Bool}:∀ {k:Nat},(∀ j,j<k->p j=false)->idD x p k=[]
 | 0,_=>rfl
 | k+1,h=>by simp only [idD];rw [kya (k:=k) fun j a=>h j (by omega),h k (by omega)];cases x k <;> rfl
theorem kwd {x y:Nat->Option Ent} {p:Nat->Bool}:∀ {k:Nat},(∀ j,j<k->x j=y j)->hpD x p k=hpD y p k
 | 0,_=>rfl
 | k+1,h=>by simp only [hpD];rw [kwd (k:=k) fun j a=>h j (by omega),h k (by omega)]
theorem kwg {x y:Nat->Option Ent} {p:Nat->Bool}:∀ {k:Nat},(∀ j,j<k->x j=y j)->idD x p k=idD y p k
 | 0,_=>rfl
 | k+1,h=>by simp only [idD];rw [kwg (k:=k) fun j a=>h j (by omega),h k (by omega)]
theorem idD_mem {x:Nat->Option Ent} {p:Nat->Bool} {id:Nat}:∀ {k:Nat},id∈idD x p k↔∃ j ob,j<k/\p j=true/\x j=some (true,id,ob)
 | 0=>⟨fun h=>(by cases h),fun ⟨j,_,h,_⟩=>by omega⟩
 | k+1=>by
  have ih:=idD_mem (x:=x) (p:=p) (id:=id) (k:=k);have up:(∃ j ob,j<k/\p j=true/\x j=some (true,id,ob))->∃ j ob,j<k+1/\p j=true/\x j=some (true,id,ob):=fun ⟨j,ob,h1,b⟩=>⟨j,ob,by omega,b⟩;have down:(p k=true->∀ ob,x k≠some (true,id,ob))->(∃ j ob,j<k+1/\p j=true/\x j=some (true,id,ob))->∃ j ob,j<k/\p j=true/\x j=some (true,id,ob):=fun hk ⟨j,ob,h1,b,g⟩=>⟨j,ob,by
   by_cases i:j=k;subst i;exact absurd g (hk b ob)
   ·omega,b,g⟩
  simp only [idD];cases c:x k with
  | none=>
   simp only;rw [ih];exact ⟨up,down fun _ ob h=>by rw [c] at h;cases h⟩
  | some r=>
   simp only;obtain ⟨r1,r2,r3⟩:=r;cases hp:(p k && r1) with
   | false=>
    simp only [qf];rw [ih];refine ⟨up,down fun d ob h=>?_⟩;rw [c] at h;cases h;rw [d] at hp;cases hp
   | true=>
    rw [qv] at hp;obtain ⟨e,f⟩:=hp;subst f;simp only [qe,qat];rw [ih];refine ⟨fun h=>h.elim (fun h=>⟨k,r3,by omega,e,by rw [c,h]⟩) up,fun h=>?_⟩;by_cases a:id=r2;exact .inl a
    ·refine .inr (down (fun _ ob h=>?_) h);rw [c] at h;cases h;exact a rfl
theorem kz5 {x:Nat->Option Ent} {p q:Nat->Bool} {i id:Nat} {f:Bool} {ob:AObj} {H:List (Nat×AObj)} (o:x i=some (f,id,ob)) (b:∀ j,q j=true↔j=i\/p j=true) (c:p i=false) (id':Nat):
  ∀ {k:Nat},i<k->(∀ j,j<k->i<j->p j=true->∀ f' ob',x j≠some (f',id,ob'))->kaa (hpD x q k++H) id'=if id=id' then some ob else kaa (hpD x p k++H) id'
 | 0,h,_=>by omega
 | k+1,h,hl=>by
  simp only [hpD];by_cases d:k=i
  ·subst d;have e:hpD x q k=hpD x p k:=klk fun j s _=>by
    cases hp:p j with
    | true=>exact (b j).2 (.inr hp)
    | false=>
     cases g:q j with
     | false=>rfl
     | true=>
       rcases (b j).1 g with h | h;omega
       ·rw [hp] at h;cases h
   rw [o];simp only [(b k).2 (.inl rfl),c,qe,qf];rw [qbp,kah,e]
  ·have ih:=kz5 o b c id' (k:=k) (H:=H) (by omega) (fun j s=>hl j (by omega));cases l:x k with
   | none=>simp only;exact ih
   | some r=>
    simp only;obtain ⟨r1,r2,r3⟩:=r;cases a:p k with
    | false=>
     have:q k=false:=by
      cases m:q k with
      | false=>rfl
      | true=>
        rcases (b k).1 m with h | h;exact absurd h d
        ·rw [a] at h;cases h
     rw [this];simp only [qf];exact ih
    | true=>
     rw [(b k).2 (.inr a)];simp only [qe,qbp];rw [kah,kah];have n:r2≠id:=fun h=>hl k (by omega) (by omega) a r1 r3 (by rw [l,h]);by_cases h1:r2=id';rw [qn h1,qn h1,qj (by rintro rfl;exact n h1)]
     ·rw [qj h1,qj h1];exact ih
theorem ks0 {x:Nat->Option Ent} {p q:Nat->Bool} {id:Nat} {H:List (Nat×AObj)}:∀ {k:Nat},(∀ j,j<k->∀ f ob,x j=some (f,id,ob)->p j=q j)->kaa (hpD x p k++H) id=kaa (hpD x q k++H) id
 | 0,_=>rfl
 | k+1,h=>by
  have ih:=ks0 (k:=k) (H:=H) fun j d=>h j (by omega);simp only [hpD];cases c:x k with
  | none=>exact ih
  | some r=>
   obtain ⟨r1,r2,r3⟩:=r;simp only;by_cases a:r2=id
   ·subst a;rw [h k (by omega) r1 r3 c];cases q k with
    | false=>exact ih
    | true=>simp only [qe,qbp,kah,if_true]
   ·have go:∀ b:Bool,kaa ((bif b then (r2,r3)::hpD x p k else hpD x p k)++H) id=kaa (hpD x p k++H) id:=fun b=>by
     cases b with
     | false=>rfl
     | true=>simp only [qe,qbp,kah,qj a]
    have go':∀ b:Bool,kaa ((bif b then (r2,r3)::hpD x q k else hpD x q k)++H) id=kaa (hpD x q k++H) id:=fun b=>by
     cases b with
     | false=>rfl
     | true=>simp only [qe,qbp,kah,qj a]
    rw [go,go',ih]
theorem k9r {x:Nat->Option Ent} {p:Nat->Bool} {id:Nat} {H:List (Nat×AObj)} {k:Nat} (h:∀ j,j<k->∀ f ob,x j≠some (f,id,ob)):kaa (hpD x p k++H) id=kaa H id:=by rw [ks0 (q:=fun _=>false) fun j a f ob b=>absurd b (h j a f ob),ks9 fun _ _=>rfl];rfl
theorem ktu {F S0:Nat->Prop} {N0:Nat} {hp a:List (Nat×AObj)} {ids ids':List Nat} {ψ:Env} {S:Nat->Prop} {w:World} (h1:∀ id,kaa hp id=kaa a id) (d:∀ id,id∈ids↔id∈ids') (h:Core F S0 N0 hp ids ψ S w):Core F S0 N0 a ids' ψ S w:=by have hK:(fun id=>id∈ids)=(fun id=>id∈ids'):=funext fun id=>propext (d id);refine ⟨fun id o ho=>?_,fun id id' o o' b ho c=>h.inj id id' o o' b (by rw [h1];exact ho) (by rw [h1];exact c),h.lt,h.s0,h.n0,h.fr⟩;obtain ⟨e1,e2,e3⟩:=h.obj id o (by rw [h1];exact ho);refine ⟨(d id).1 e1,?_,e3⟩;have e2:ObR ψ (fun id=>id∈ids) S w id o:=e2;rw [hK] at e2;exact e2
def kfd (l:List Oper) (n:Nat) (ai:List Nat) (st:St) (i:Nat) (o:Oper) (fs:List (Nat×Option Nat×AV)):St:=
 { st with tmps:=hadd fs (kgc o) (khs l i n++st.tmps),ids:=ai }
def k1x (P:Program) (v:St) (o:Oper) (c:AV) (id:Nat) (ob:AObj):Prop:=∀ (a:List (Nat×AObj)) (ids':List Nat),ids'.contains id=false->StepA P o { v with heap:=a,ids:=ids' } c ((id,ob)::a) (id::ids')
def k1w (P:Program) (v:St) (o:Oper) (c:AV) (id:Nat) (ob:AObj):Prop:=∀ (a:List (Nat×AObj)) (ids':List Nat),kaa a id=kaa v.heap id->StepA P o { v with heap:=a,ids:=ids' } c ((id,ob)::a) ids'
def befB (l:List Oper) (i id:Nat) (es:List (Nat×Nat)):Bool:=es.all fun e=>!(e.2 == id) || anc l i e.1
def idsB (l:List Oper) (i:Nat) (nid:List Nat) (es:List (Nat×Nat)) (ids:List Nat):List Nat:=nid.filter (fun id=>befB l i id es)++ids
def ko3 (P:Program) (os:Array Oper) (n:Nat) (ai:List Nat) (Q:Exit->St->Prop) (st:St):Nat->Nat->List Oper->List (Nat×Option Nat×AV)->List (Nat×AObj)->List Nat->List (Nat×Nat)->Prop
 | 0,_,l,fs,hp,nid,_=>awpL P os l { st with tmps:=hadd fs (fun _=>true) st.tmps,heap:=hp++st.heap,ids:=nid++st.ids } Q
 | k+1,i,o::l,fs,hp,nid,es=>
  (∃ c,ko2 P os (kfd os.toList n ai st i o fs) o c/\okA (idsB os.toList i nid es st.ids) c=true/\ko3 P os n ai Q st k (i+1) l ((i,o.dst,c)::fs) hp nid es) \/
  (∃ c id ob,kbk os (kfd os.toList n ai st i o fs) o=some true/\k1x P (kfd os.toList n ai st i o fs) o c id ob/\(st.ids.contains id || (st.heap.any fun q=>q.1 == id) || (es.any fun q=>q.2 == id) || !ai.contains id)=false/\ko3 P os n ai Q st k (i+1) l ((i,o.dst,c)::fs) ((id,ob)::hp) (id::nid) ((i,id)::es)) \/
  (∃ c id ob,kbk os (kfd os.toList n ai st i o fs) o=some true/\k1w P { kfd os.toList n ai st i o fs with heap:=hp++st.heap } o c id ob/\(st.heap.any fun q=>q.1 == id)=false/\befB os.toList i id es=true/\ko3 P os n ai Q st k (i+1) l ((i,o.dst,c)::fs) ((id,ob)::hp) nid ((i,id)::es))
 | _+1,_,[],_,_,_,_=>False
variable {P:Program} {F S0:Nat->Prop} {N0:Nat} {w w':World} {S S':Nat->Prop} {ψ ψ':Env} {Q:Exit->St->Prop} {st:St} {os:Array Oper} {n:Nat} {ai:List Nat}
def esD (x:Nat->Option Ent):Nat->List (Nat×Nat)
 | 0=>[]
 | k+1=>match x k with
  | some q=>(k,q.2.1)::esD x k
  | none=>esD x k
theorem kwf {x y:Nat->Option Ent}:∀ {k:Nat},(∀ j,j<k->x j=y j)->esD x k=esD y k
 | 0,_=>rfl
 | k+1,h=>by simp only [esD];rw [kwf (k:=k) fun j a=>h j (by omega),h k (by omega)]
theorem kro {x:Nat->Option Ent} {j:Nat} {f:Bool} {id:Nat} {ob:AObj} (b:x j=some (f,id,ob)):∀ {k:Nat},j<k->(j,id)∈esD x k
 | 0,h=>by omega
 | k+1,h=>by
  simp only [esD];by_cases a:j=k;subst a;rw [b];exact qq ..
  ·have:=kro b (k:=k) (by omega);cases x k with
   | none=>exact this
   | some r=>exact qh _ this
def FactY (P:Program) (os:Array Oper) (n:Nat) (ai:List Nat) (st:St) (c:Nat->AV) (x:Nat->Option Ent) (i:Nat) (o:Oper):Prop:=
 (x i=none/\ko2 P os (kfd os.toList n ai st i o (fsOf os.toList c i)) o (c i)/\okA (idsB os.toList i (idD x (fun _=>true) i) (esD x i) st.ids) (c i)=true) \/
 (∃ id ob,x i=some (true,id,ob)/\kbk os (kfd os.toList n ai st i o (fsOf os.toList c i)) o=some true/\k1x P (kfd os.toList n ai st i o (fsOf os.toList c i)) o (c i) id ob/\id∉st.ids/\(∀ q∈st.heap,q.1≠id)/\(∀ j,j<i->∀ f ob',x j≠some (f,id,ob'))/\id∈ai) \/
 (∃ id ob,x i=some (false,id,ob)/\kbk os (kfd os.toList n ai st i o (fsOf os.toList c i)) o=some true/\k1w P { kfd os.toList n ai st i o (fsOf os.toList c i) with heap:=hpD x (fun _=>true) i++st.heap } o (c i) id ob/\(∀ q∈st.heap,q.1≠id)/\∀ j,j<i->∀ f ob',x j=some (f,id,ob')->anc os.toList i j=true)
theorem kma:∀ (k i:Nat) (l:List Oper) (c0:Nat->AV) (x0:Nat->Option Ent),os.toList.drop i=l->i+k=n ->
  ko3 P os n ai Q st k i l (fsOf os.toList c0 i) (hpD x0 (fun _=>true) i) (idD x0 (fun _=>true) i) (esD x0 i) ->
  ∃ c x,(∀ j,j<i->c j=c0 j)/\(∀ j,j<i->x j=x0 j)/\(∀ j o,i<=j->j<n->os.toList[j]?=some o->FactY P os n ai st c x j o) /\
   awpL P os (os.toList.drop n) { st with tmps:=hadd (fsOf os.toList c n) (fun _=>true) st.tmps,heap:=hpD x (fun _=>true) n++st.heap,ids:=idD x (fun _=>true) n++st.ids } Q
 | 0,i,l,c0,x0,hl,hn,h=>by
  obtain rfl:i=n:=by omega
  subst hl;exact ⟨c0,x0,fun _ _=>rfl,fun _ _=>rfl,fun j o h1 t=>by omega,h⟩
 | k+1,i,l,c0,x0,hl,hn,h=>by
  cases l with
  | nil=>exact h.elim
  | cons o l=>
   have d:os.toList[i]?=some o:=(by have:=qau (·[0]?) hl;simpa using this);have g:os.toList.drop (i+1)=l:=(by rw [<- List.drop_drop,hl];rfl);have A:dstT os.toList i=o.dst:=(by unfold dstT;rw [d];rfl);have cons:∀ c,(i,o.dst,c)::fsOf os.toList c0 i=fsOf os.toList (fun j=>if j=i then c else c0 j) (i+1):=fun c=>(by simp only [fsOf,A,if_true];rw [kfq (k:=i) (c':=fun j=>if j=i then c else c0 j) fun j p=>by rw [qj (by omega)]]);have ex:∀ q:Option Ent,∀ j,j<i->(fun j=>if j=i then q else x0 j) j=x0 j:=fun q j p=>(by show (if j=i then q else x0 j)=x0 j;rw [qj (by omega)]);have xi:∀ q:Option Ent,(fun j=>if j=i then q else x0 j) i=q:=fun q=>(by show (if i=i then q else x0 i)=q;rw [qn rfl]);have c1h:∀ r:Ent,hpD (fun j=>if j=i then some r else x0 j) (fun _=>true) (i+1)=r.2::hpD x0 (fun _=>true) i:=fun r=>(by simp only [hpD,if_true,qe];rw [kwd (ex (some r))]);have c1i:∀ r:Ent,idD (fun j=>if j=i then some r else x0 j) (fun _=>true) (i+1)=bif r.1 then r.2.1::idD x0 (fun _=>true) i else idD x0 (fun _=>true) i:=fun r=>(by simp only [idD,if_true,Bool.true_and];rw [kwg (ex (some r))]);have c1e:∀ r:Ent,esD (fun j=>if j=i then some r else x0 j) (i+1)=(i,r.2.1)::esD x0 i:=fun r=>(by simp only [esD,if_true];rw [kwf (ex (some r))]);have c0h:hpD (fun j=>if j=i then none else x0 j) (fun _=>true) (i+1)=hpD x0 (fun _=>true) i:=(by simp only [hpD,if_true];exact kwd (ex none));have c0i:idD (fun j=>if j=i then none else x0 j) (fun _=>true) (i+1)=idD x0 (fun _=>true) i:=(by simp only [idD,if_true];exact kwg (ex none));have c0e:esD (fun j=>if j=i then none else x0 j) (i+1)=esD x0 i:=(by simp only [esD,if_true];exact kwf (ex none));rcases h with ⟨c,hf,v,h⟩ | ⟨c,id,ob,w,hf,e,h⟩ | ⟨c,id,ob,w,hf,e,u,h⟩
   ·rw [cons,<- c0h,<- c0i,<- c0e] at h;obtain ⟨c1,x1,k1,k2,k4,k5⟩:=kma k (i+1) l _ _ g (by omega) h;have e1:∀ j,j<i->c1 j=c0 j:=fun j p=>(by rw [k1 j (by omega),qj (by omega)]);have e2:c1 i=c:=(by rw [k1 i (by omega),qn rfl]);have e3:∀ j,j<i->x1 j=x0 j:=fun j p=>(by rw [k2 j (by omega),qj (by omega)]);refine ⟨c1,x1,e1,e3,fun j o' h1 t ho=>?_,k5⟩;by_cases a:j=i;subst a;rw [d] at ho;obtain rfl:=qag ho;refine .inl ⟨by rw [k2 j (by omega),qn rfl],?_⟩;rw [kfq e1,e2,kwg e3,kwf e3];exact ⟨hf,v⟩
    ·exact k4 j o' (by omega) t ho
   ·rw [cons,<- c1h (true,id,ob),show id::idD x0 (fun _=>true) i=_ from (c1i (true,id,ob)).symm,show (i,id)::esD x0 i=_ from (c1e (true,id,ob)).symm] at h;obtain ⟨c1,x1,k1,k2,k4,k5⟩:=kma k (i+1) l _ _ g (by omega) h;have e1:∀ j,j<i->c1 j=c0 j:=fun j p=>(by rw [k1 j (by omega),qj (by omega)]);have e2:c1 i=c:=(by rw [k1 i (by omega),qn rfl]);have e3:∀ j,j<i->x1 j=x0 j:=fun j p=>(by rw [k2 j (by omega),qj (by omega)]);refine ⟨c1,x1,e1,e3,fun j o' h1 t ho=>?_,k5⟩;by_cases a:j=i
    ·subst a;rw [d] at ho;obtain rfl:=qag ho;simp only [Bool.or_eq_false_iff,Bool.not_eq_false'] at e;obtain ⟨⟨⟨g1,g2⟩,g3⟩,g4⟩:=e;refine .inr (.inl ⟨id,ob,by rw [k2 j (by omega),qn rfl],?_⟩);rw [kfq e1,e2];refine ⟨w,hf,by simpa using g1,fun q y s=>?_,fun m hm f ob' z=>?_,by simpa using g4⟩;exact List.any_eq_false.1 g2 q y (by simpa using s)
     ·have b:(m,id)∈esD x0 j:=kro (by rw [<- e3 m hm];exact z) hm;exact List.any_eq_false.1 g3 _ b (by simp)
    ·exact k4 j o' (by omega) t ho
   ·rw [cons,<- c1h (false,id,ob),show idD x0 (fun _=>true) i=_ from (c1i (false,id,ob)).symm,show (i,id)::esD x0 i=_ from (c1e (false,id,ob)).symm] at h;obtain ⟨c1,x1,k1,k2,k4,k5⟩:=kma k (i+1) l _ _ g (by omega) h;have e1:∀ j,j<i->c1 j=c0 j:=fun j p=>(by rw [k1 j (by omega),qj (by omega)]);have e2:c1 i=c:=(by rw [k1 i (by omega),qn rfl]);have e3:∀ j,j<i->x1 j=x0 j:=fun j p=>(by rw [k2 j (by omega),qj (by omega)]);refine ⟨c1,x1,e1,e3,fun j o' h1 t ho=>?_,k5⟩;by_cases a:j=i;subst a;rw [d] at ho;obtain rfl:=qag ho;refine .inr (.inr ⟨id,ob,by rw [k2 j (by omega),qn rfl],?_⟩);rw [kfq e1,e2,kwd e3];refine ⟨w,hf,fun q y s=>List.any_eq_false.1 e q y (by simpa using s),fun m hm f ob' z=>?_⟩;have b:(m,id)∈esD x0 j:=kro (by rw [<- e3 m hm];exact z) hm;have:=qu.1 u _ b;simpa using this
    ·exact k4 j o' (by omega) t ho
def stY (l:List Oper) (n:Nat) (st:St) (c:Nat->AV) (x:Nat->Option Ent) (listed:Array Bool):St:=
 { st with tmps:=kgj (fsOf l c n) (fun j=>listed.getD j false) st.tmps,heap:=hpD x (fun j=>listed.getD j false) n++st.heap,ids:=idD x (fun j=>listed.getD j false) n++st.ids }
structure DSY (F S0:Nat->Prop) (N0:Nat) (w0:World) (l:List Oper) (n:Nat) (st:St) (c:Nat->AV) (x:Nat->Option Ent) (listed:Array Bool) (a:Act) (w:World):Prop where
 inv:∃ ψ S,Sim F S0 N0 (stY l n st c x listed) ψ S a w
 fr:Fr F w0 w
 lsize:listed.size=l.length
 closed:∀ k o,listed.getD k false=true->l[k]?=some o->∀ e∈o.after,Region.binds .any e=true->listed.getD e.on false=true
theorem k82 (hm:P.follows .mixedOrders=true) {id:Nat} {l:List Oper} (hB:relB l n st.n=true) (bb:st.ids.all ai.contains=true)
  (h:ko3 P l.toArray n ai Q st n 0 l [] [] [] []):awp P (.region id l.toArray true) st Q:=by
 have ok:=kus hB;obtain ⟨c,x,_,_,C,aq⟩:=kma (os:=l.toArray) n 0 l (fun _ => .any) (fun _=>none) rfl (by omega) h;simp only [List.toList_toArray] at C aq;have aa:∀ j j' f f' i ob ob',j<j'->j'<n->x j=some (f,i,ob)->x j'=some (f',i,ob')->anc l j' j=true:=fun j j' f f' i ob ob' ak bc h1 G=>by
  have B:j'<l.length:=by have:=ok.len;omega
  rcases C j' l[j'] (qar _) bc (qa B) with ⟨h,_⟩ | ⟨i',ob'',h,_,_,_,_,h6,_⟩ | ⟨i',ob'',h,_,_,_,h6⟩;rw [G] at h;cases h;rw [G] at h;cases h;exact absurd h1 (h6 j ak f ob)
  ·rw [G] at h;cases h;exact h6 j ak f ob h1
 have az:∀ j f i ob,j<n->x j=some (f,i,ob)->∀ q∈st.heap,q.1≠i:=fun j f i ob y D=>by
  have B:j<l.length:=by have:=ok.len;omega
  rcases C j l[j] (qar _) y (qa B) with ⟨h,_⟩ | ⟨i',ob'',h,_,_,_,h5,_,_⟩ | ⟨i',ob'',h,_,_,h5,_⟩;rw [D] at h;cases h;rw [D] at h;cases h;exact h5
  ·rw [D] at h;cases h;exact h5
 have ab:∀ (p:Nat->Bool) i,i∈idD x p n++st.ids->i∈ai:=fun p i hi=>by
  rcases qab.1 hi with hi | hi
  ·obtain ⟨j,ob,y,_,D⟩:=idD_mem.1 hi;have B:j<l.length:=(by have:=ok.len;omega);rcases C j l[j] (qar _) y (qa B) with ⟨h,_⟩ | ⟨i',ob'',h,_,_,_,_,_,h7⟩ | ⟨i',ob'',h,_⟩;rw [D] at h;cases h;rw [D] at h;cases h;exact h7
   ·rw [D] at h;cases h
  ·simpa using qu.1 bb i hi
 intro F S0 N0 ψ0 Sa a0 w0 z;have hs1:Sim F S0 N0 st ψ0 Sa a0 w0.drew:=⟨z.defers,z.size,fun t=>(z.tmps t).keep Ext.refl (fun _ h=>h) (fun _ h=>h) (fun _ _ _=>rfl),⟨fun id ob ho=>by obtain ⟨e1,e2,e3⟩:=z.core.obj id ob ho;exact ⟨e1,e2.keep Ext.refl (fun _ h=>h) (fun _ h=>h) (fun _ _ _=>rfl) ⟨rfl,rfl⟩ (fun _ _=>rfl),e3⟩,z.core.inj,z.core.lt,z.core.s0,z.core.n0,z.core.fr⟩⟩;refine wp_region_any hm ?_
 suffices key:∀ (fuel:Nat) (listed:Array Bool) (a:Act) (w:World),DSY F S0 N0 w0 l n st c x listed a w->(∀ k,listed.getD k false=true->k<n) ->
   ((List.range l.length).countP fun k=>!listed.getD k true)<=fuel->wpAny P .any l.toArray (PostA F S0 N0 w0 Q) fuel listed a w by
  have a1:hpD x (fun j=>(Array.replicate l.toArray.size false).getD j false) n=[]:=ks9 fun j _=>kki _ _;have ac:idD x (fun j=>(Array.replicate l.toArray.size false).getD j false) n=[]:=kya fun j _=>kki _ _;refine key _ _ _ _ ⟨⟨ψ0,Sa,?_⟩,Fr.drew,by simp,(fun k o hk=>by rw [kki] at hk;cases hk)⟩ (fun k hk=>by rw [kki] at hk;cases hk) ?_
  ·refine ⟨hs1.defers,hs1.size,fun t=>?_,?_⟩
   ·show RV _ (·∈idD x _ n++st.ids) _ _ _ (look .any (kgj (fsOf l c n) _ st.tmps) t);rw [ac];rcases kby (l:=l) (c:=c) (p:=fun j=>(Array.replicate l.toArray.size false).getD j false) (base:=st.tmps) (t:=t) n with ⟨j,_,y,_⟩ | ⟨_,G⟩;rw [kki] at y;cases y
    ·rw [G];exact hs1.tmps t
   ·show Core F S0 N0 (hpD x _ n++st.heap) (idD x _ n++st.ids) _ _ _;rw [a1,ac];exact hs1.core
  ·refine qap (List.countP_le_length ..) ?_;simp
 intro fuel
 -- the end of the bn
 have fin:∀ (listed:Array Bool) (a:Act) (w:World),DSY F S0 N0 w0 l n st c x listed a w->(∀ i,i<n->listed.getD i false=true)->wpList P l.toArray (PostA F S0 N0 w0 Q) (l.drop n) a w:=by
  intro listed a w d g;obtain ⟨ψ,S,hs⟩:=d.inv;have hH:hpD x (fun j=>listed.getD j false) n=hpD x (fun _=>true) n:=klk fun j y _=>g j y;have hI:idD x (fun j=>listed.getD j false) n=idD x (fun _=>true) n:=kq3 fun j y _=>g j y;have bd:Sim F S0 N0 { st with tmps:=hadd (fsOf l c n) (fun _=>true) st.tmps,heap:=hpD x (fun _=>true) n++st.heap,ids:=idD x (fun _=>true) n++st.ids } ψ S a w:=by
   rw [<- hH,<- hI];refine ⟨hs.defers,hs.size,fun t=>?_,hs.core⟩;have ht:=hs.tmps t;show RV _ _ _ _ _ (look .any (hadd (fsOf l c n) (fun _=>true) st.tmps) t);have ht:RV ψ (·∈idD x (fun j=>listed.getD j false) n++st.ids) S w (a.tmps.getD t undef) (look .any (kgj (fsOf l c n) (fun j=>listed.getD j false) st.tmps) t):=ht;rcases kkm (l:=l) (c:=c) (p:=fun _=>true) (base:=st.tmps) (t:=t) n with h | ⟨j,h1,_,O,h4⟩ | ⟨h1,G⟩;rw [h];exact .any
   ·rw [h4];rcases kby (l:=l) (c:=c) (p:=fun j=>listed.getD j false) (base:=st.tmps) (t:=t) n with ⟨j',e1,e2,e3,e4⟩ | ⟨e1,e2⟩;rw [e4] at ht;have be:j'=j:=(by unfold dstT at O e3;simp only [qg] at O e3;obtain ⟨o1,p1,p2⟩:=O;obtain ⟨o2,q1,q2⟩:=e3;exact ok.uniq j' j o2 o1 t e1 h1 q1 p1 q2 p2);rw [be] at ht;exact ht
    ·exact absurd O (e1 j h1 (g j h1))
   ·rw [G];rcases kby (l:=l) (c:=c) (p:=fun j=>listed.getD j false) (base:=st.tmps) (t:=t) n with ⟨j',e1,e2,e3,e4⟩ | ⟨e1,e2⟩;exact absurd e3 (h1 j' e1)
    ·rw [e2] at ht;exact ht
  exact kbm (fun e a' w' k=>k.pre d.fr) _ _ _ (aq F S0 N0 ψ S a w bd)
 induction fuel with
 | zero=>
  intro listed a w d hh hc;have g:∀ i,i<l.length->listed.getD i false=true:=fun i hi=>by have h0:((List.range l.length).countP fun k=>!listed.getD k true)=0:=(by omega);rw [List.countP_eq_zero] at h0;have:=h0 i (by simpa using hi);simp [d.lsize,hi] at this ⊢;exact this
  have hn:n=l.length:=by
   have:=ok.len;rcases qbl n l.length with h' | h';have:=hh n (g _ h');omega
   ·omega
  have H:=fin listed a w d fun i hi=>g i (by omega);rw [hn] at H;exact kl8 ok 0 l.length listed a w (by omega) (qy _) d.lsize (fun i hi=>⟨fun _=>hi,fun _=>by have:=g i hi;simp [d.lsize,hi] at this ⊢;exact this⟩) (by omega) H
 | succ fuel ih=>
  intro listed a w d hh hc;by_cases E:∀ i,i<n->listed.getD i false=true
  ·refine kl8 ok (fuel+1) n listed a w (qy _) ok.len d.lsize (fun i hi=>⟨fun hl=>hh i (by
    simp [d.lsize,hi] at hl ⊢;exact hl),fun J=>by
    have:=E i J;simp [d.lsize,hi] at this ⊢;exact this⟩) ?_ (fin listed a w d E)
   refine qap ?_ hc;rw [show l.length=n+(l.length - n) by have:=ok.len;omega,List.range_add,List.countP_append];have:((List.range (l.length - n)).map (n+·)).countP (fun k=>!listed.getD k true)=l.length - n:=(by rw [List.countP_eq_length.2,qaa,List.length_range];intro k hk;simp only [qaf,List.mem_range] at hk;obtain ⟨m,hm,rfl⟩:=hk;have ak:n+m<l.length:=(by omega);have:listed.getD (n+m) false≠true:=fun h=>(by have:=hh _ h;omega);simp [d.lsize,ak] at this ⊢;exact this);omega
  ·have bf:Region.ready .any l.toArray listed≠[]:=by
    have bg:∃ i,i<n/\listed.getD i false=false/\∀ j,j<i->listed.getD j false=true:=by
     have:∃ i,i<n/\listed.getD i false=false:=(by simp only [Classical.not_forall] at E;obtain ⟨i,hi,L⟩:=E;exact ⟨i,hi,by simpa using L⟩);obtain ⟨i,hi,L⟩:=this
     induction i using Nat.strongRecOn with
     | _ i ihi=>
      by_cases g:∀ j,j<i->listed.getD j false=true;exact ⟨i,hi,L,g⟩
      ·simp only [Classical.not_forall] at g;obtain ⟨j,y,bh⟩:=g;exact ihi j y (by omega) (by simpa using bh)
    obtain ⟨i,hi,L,g⟩:=bg;have M:i<l.length:=(by have:=ok.len;omega);have:i∈Region.ready .any l.toArray listed:=mem_ready.2 ⟨by simp [d.lsize,M] at L ⊢;exact L,l[i],by simp [M],fun e Z al=>g _ (ok.edges i _ (qa M) e Z al)⟩;intro h0;rw [h0] at this;cases this
   refine ⟨fun h0=>absurd h0 bf,fun i hi=>?_⟩;obtain ⟨h0,o,ho,g⟩:=mem_ready.1 hi;have X:l[i]?=some o:=(by simpa using ho);have M:i<l.length:=(qd.1 X).1;have ad:=kzi h0;have R:∀ j,anc l i j=true->listed.getD j false=true:=fun j y=>
    kip (l:=l) (S:=fun j=>listed.getD j false=true) (fun m p hm hp e Z L=>d.closed m p hm hp e Z L) i o X g j y
   have I:∀ j,listed.getD j false=true->anc l j i=true->False:=fun j y ha=>(by have B:j<l.length:=(by have:=k7b y;rw [d.lsize] at this;exact this);have:=kip (l:=l) (S:=fun j=>listed.getD j false=true) (fun m p hm hp e Z L=>d.closed m p hm hp e Z L) j l[j] (qa B) (fun e Z L=>d.closed j _ y (qa B) e Z L) i ha;rw [ad] at this;cases this);have J:i<n:=by
    rcases qbl i n with h' | h';exact h'
    ·exfalso;apply E;intro j y;exact R j (ok.tail i j M h' (by omega))
   obtain ⟨ψ,S,hs⟩:=d.inv;have au:dstT l i=o.dst:=(by unfold dstT;rw [X];rfl);have N:∀ k,(listed.setIfInBounds i true).getD k false=true->k=i\/listed.getD k false=true:=fun k hk=>by
    by_cases a2:i=k;exact .inl a2.symm
    ·rw [getD_set_ne false a2] at hk;exact .inr hk
   have T:(listed.setIfInBounds i true).getD i false=true:=(by simp [d.lsize,M]);have a3:∀ t,o.dst=some t->t<st.n:=fun t ht=>ok.dst i o t J X ht
   -- the slots of the view
   have U:∀ (K:Nat->Prop),(∀ id,id∈(stY l n st c x listed).ids->K id)->∀ t,RV ψ K S w (a.tmps.getD t undef) (look .any (hadd (fsOf l c i) (kgc o) (khs l i n++st.tmps)) t):=fun K hK t=>by
    have ht:RV ψ (·∈(stY l n st c x listed).ids) S w (a.tmps.getD t undef) (look .any (kgj (fsOf l c n) (fun j=>listed.getD j false) st.tmps) t):=hs.tmps t;have uniq:∀ {j j':Nat},j<n->j'<n->dstT l j=some t->dstT l j'=some t->j=j':=fun {j j'} h1 G O h4=>(by unfold dstT at O h4;simp only [qg] at O h4;obtain ⟨o1,p1,p2⟩:=O;obtain ⟨o2,q1,q2⟩:=h4;exact ok.uniq j j' o1 o2 t h1 G p1 q1 p2 q2);rcases kkm (l:=l) (c:=c) (p:=kgc o) (base:=khs l i n++st.tmps) (t:=t) i with h | ⟨j,h1,G,O,h4⟩ | ⟨h1,G⟩;rw [h];exact .any
    ·rw [h4];have B:listed.getD j false=true:=(by obtain ⟨e,Z,bi,L⟩:=afterB_iff.1 G;rw [<- bi];exact g e Z L);rcases kby (l:=l) (c:=c) (p:=fun j=>listed.getD j false) (base:=st.tmps) (t:=t) n with ⟨j',e1,e2,e3,e4⟩ | ⟨e1,e2⟩;rw [e4,uniq e1 (by omega) e3 O] at ht;exact ht.mono hK fun _ h=>h
     ·exact absurd O (e1 j (by omega) B)
    ·rw [G];rcases kn9 (l:=l) (i:=i) (base:=st.tmps) (t:=t) n with h | ⟨k1,k2⟩;rw [h];exact .any
     ·rw [k2];rcases kby (l:=l) (c:=c) (p:=fun j=>listed.getD j false) (base:=st.tmps) (t:=t) n with ⟨j',e1,e2,e3,e4⟩ | ⟨e1,e2⟩
      ·exfalso;rcases k1 j' e1 e3 with h | h
       ·rcases qbl j' i with h' | h';exact h1 j' h' e3
        ·obtain rfl:j'=i:=(by omega);rw [ad] at e2;cases e2
       ·exact I j' e2 h
      ·rw [e2] at ht;exact ht.mono hK fun _ h=>h
   have fact:=C i o (qar _) J X;have next:∀ (ψ':Env) (S':Nat->Prop) (v:Value) (w':World),Fr F w w' ->
     Core F S0 N0 (stY l n st c x (listed.setIfInBounds i true)).heap (stY l n st c x (listed.setIfInBounds i true)).ids ψ' S' w'->RV ψ' (·∈(stY l n st c x (listed.setIfInBounds i true)).ids) S' w' v (c i)->(∀ t,RV ψ' (·∈(stY l n st c x (listed.setIfInBounds i true)).ids) S' w' (a.tmps.getD t undef) ((stY l n st c x listed).get t)) ->
     wpAny P .any l.toArray (PostA F S0 N0 w0 Q) fuel (listed.setIfInBounds i true) (a.put o.dst v) w':=fun ψ' S' v w' q4 q5 q6 q7=>by
    refine ih _ _ _ ⟨⟨ψ',S',?_⟩,d.fr.trans q4,by simp [d.lsize],?_⟩ (fun k hk=>(N k hk).elim (fun e=>by omega) (hh k)) ?_
    ·refine ⟨by rw [ksj];exact hs.defers,by rw [kw9];exact hs.size,fun t=>?_,q5⟩;rw [ko6 _ _ _ hs.size a3];have q7:=q7 t;show RV ψ' _ S' w' _ (look .any (kgj (fsOf l c n) (fun j=>(listed.setIfInBounds i true).getD j false) st.tmps) t);have q7:RV ψ' (·∈(stY l n st c x (listed.setIfInBounds i true)).ids) S' w' (a.tmps.getD t undef) (look .any (kgj (fsOf l c n) (fun j=>listed.getD j false) st.tmps) t):=q7;have uniq:∀ {j j':Nat},j<n->j'<n->dstT l j=some t->dstT l j'=some t->j=j':=fun {j j'} h1 G O h4=>(by unfold dstT at O h4;simp only [qg] at O h4;obtain ⟨o1,p1,p2⟩:=O;obtain ⟨o2,p3,p4⟩:=h4;exact ok.uniq j j' o1 o2 t h1 G p1 p3 p2 p4);rcases kby (l:=l) (c:=c) (p:=fun j=>(listed.setIfInBounds i true).getD j false) (base:=st.tmps) (t:=t) n with ⟨j,e1,e2,e3,e4⟩ | ⟨e1,e2⟩
     ·rw [e4];by_cases Y:j=i;subst Y;rw [au] at e3;rw [qn e3];exact q6
      ·have B:=(N j e2).resolve_left Y;rw [qj (fun h=>Y (uniq e1 J e3 (by rw [au];exact h)))];rcases kby (l:=l) (c:=c) (p:=fun j=>listed.getD j false) (base:=st.tmps) (t:=t) n with ⟨j',f1,f2,f3,f4⟩ | ⟨f1,f2⟩;rw [f4,uniq f1 e1 f3 e3] at q7;exact q7
       ·exact absurd e3 (f1 j e1 B)
     ·rw [e2,qj (fun h=>e1 i J T (by rw [au];exact h))];rcases kby (l:=l) (c:=c) (p:=fun j=>listed.getD j false) (base:=st.tmps) (t:=t) n with ⟨j',f1,f2,f3,f4⟩ | ⟨f1,f2⟩;exact absurd f3 (e1 j' f1 (getD_set_true f2))
      ·rw [f2] at q7;exact q7
    ·intro k p hk hp e Z al;rcases N k hk with rfl | bj;rw [X] at hp;obtain rfl:=qag hp;exact getD_set_true (g e Z al)
     ·exact getD_set_true (d.closed k p bj hp e Z al)
    ·have:=koy l.length M h0 (by rw [d.lsize];exact M);omega
   unfold wpOp;simp only [ho];have ae:=U (·∈ai) (fun id h=>ab _ id h);have af:∀ t,RV ψ (·∈(kfd l n ai st i o (fsOf l c i)).ids) S w (a.tmps.getD t undef) ((kfd l n ai st i o (fsOf l c i)).get t):=ae;have bk:∀ id ob,kaa (kfd l n ai st i o (fsOf l c i)).heap id=some ob->ObR ψ (·∈(kfd l n ai st i o (fsOf l c i)).ids) S w id ob:=fun id ob am=>by
    have am:kaa st.heap id=some ob:=am;have a4:∃ q∈st.heap,q.1=id:=by
     have gen:∀ H:List (Nat×AObj),kaa H id=some ob->∃ q∈H,q.1=id:=fun H=>by
      induction H with
      | nil=>intro h;cases h
      | cons q H ih=>
       intro h;rw [kah] at h;by_cases hq:q.1=id;exact ⟨q,qq ..,hq⟩
       ·rw [qj hq] at h;obtain ⟨q',h1,G⟩:=ih h;exact ⟨q',qh _ h1,G⟩
     exact gen _ am
    have a5:kaa (stY l n st c x listed).heap id=some ob:=(by show kaa (hpD x _ n++st.heap) id=some ob;rw [k9r,am];intro j y f ob' D;obtain ⟨q',h1,G⟩:=a4;exact az j f id ob' y D q' h1 G);obtain ⟨g1,g2,g3⟩:=hs.core.obj id ob a5;exact g2.keep Ext.refl (fun id h=>ab _ id h) (fun _ h=>h) (fun _ _ _=>rfl) ⟨rfl,rfl⟩ (fun _ _=>rfl)
   have ag:∀ id0 ob0 f,x i=some (f,id0,ob0)->∀ id,kaa ((id0,ob0)::(stY l n st c x listed).heap) id=kaa (stY l n st c x (listed.setIfInBounds i true)).heap id:=fun id0 ob0 f D id=>by
    show kaa ((id0,ob0)::(hpD x _ n++st.heap)) id=kaa (hpD x _ n++st.heap) id;rw [kah];refine (kz5 (p:=fun j=>listed.getD j false) (q:=fun j=>(listed.setIfInBounds i true).getD j false) D (fun j=>⟨fun h=>N j h,fun h=>?_⟩) ad id J fun j y bl A f' ob' s=>?_).symm
    ·rcases h with rfl | h;exact T
     ·exact getD_set_true h
    ·exact I j A (aa i j _ _ _ _ _ bl y D s)
   rcases fact with ⟨D,hN,a6⟩ | ⟨id0,ob0,D,hg,hA,a7,a8,ah,_⟩ | ⟨id0,ob0,D,hg,hA,a8,ah⟩
   ·-- one that makes nothing
    have Y:∀ j,x j≠none->i≠j:=fun j s h=>s (by rw [<- h];exact D);have av:hpD x (fun j=>(listed.setIfInBounds i true).getD j false) n=hpD x (fun j=>listed.getD j false) n:=klk fun j y s=>getD_set_ne false (Y j s);have aj:idD x (fun j=>(listed.setIfInBounds i true).getD j false) n=idD x (fun j=>listed.getD j false) n:=kq3 fun j y s=>getD_set_ne false (Y j s);have u:(stY l n st c x (listed.setIfInBounds i true)).ids=(stY l n st c x listed).ids:=(by show idD x _ n++st.ids=_;rw [aj];rfl);have ar:(stY l n st c x (listed.setIfInBounds i true)).heap=(stY l n st c x listed).heap:=(by show hpD x _ n++st.heap=_;rw [av];rfl);have aw:∀ {v:Value} {S':Nat->Prop} {w':World},RV ψ (·∈(kfd l n ai st i o (fsOf l c i)).ids) S' w' v (c i)->RV ψ (·∈(stY l n st c x listed).ids) S' w' v (c i):=fun {v S' w'} hv=>
     (hv.subA a6).mono (fun id h=>by
      rcases qab.1 h with h | h;obtain ⟨h1,G⟩:=qbc.1 h;obtain ⟨j,ob,y,_,s⟩:=idD_mem.1 h1;have ha:=qu.1 G _ (kro s y);refine List.mem_append_left _ (idD_mem.2 ⟨j,ob,by omega,R j ?_,s⟩);simpa using ha
      ·exact qb3 _ h) fun _ h=>h
    rcases hN with ⟨hg,hN⟩ | ⟨hg,hN⟩
    ·have hw:=kjb (kfd l n ai st i o (fsOf l c i)) af hg;rw [qn hw];refine .inl (kcg ?_ (hN ψ S a w af bk));rintro v w' ⟨g1,g2⟩;refine next ψ (fun b=>(S b\/w.heap.size<=b)/\b<w'.heap.size) v w' (Fr.of_grow hs.core.fr g1) ?_ ?_ fun t=>?_;rw [u,ar];exact hs.core.grow g1;rw [u];exact (aw g2).bound.mono (fun _ h=>h) fun _ h=>h
     ·rw [u];exact (hs.tmps t).keep Ext.refl (fun _ h=>h) (fun b L=>⟨.inl L,qbo (hs.core.lt b L) g1.size⟩) (Same.of_grow g1)
    ·have hw:=kjb (kfd l n ai st i o (fsOf l c i)) af hg;rw [qj (by rw [hw];exact qa0)];refine next ψ S undef w Fr.refl ?_ ?_ fun t=>?_;rw [u,ar];exact hs.core;rw [hN];exact .fz RF.undef
     ·rw [u];exact hs.tmps t
   ·-- one that makes an object
    have hw:=kjb (kfd l n ai st i o (fsOf l c i)) af hg;rw [qn hw];have a9:id0∉(stY l n st c x listed).ids:=by
     show id0∉idD x _ n++st.ids;intro hm;rcases qab.1 hm with hm | hm
     ·obtain ⟨j,ob,y,A,s⟩:=idD_mem.1 hm;rcases Nat.lt_trichotomy j i with h | h | h;exact ah j h _ _ s;subst h;rw [ad] at A;cases A
      ·exact I j A (aa i j _ _ _ _ _ h y D s)
     ·exact a7 hm
    have ax:Sim F S0 N0 { kfd l n ai st i o (fsOf l c i) with heap:=(stY l n st c x listed).heap,ids:=(stY l n st c x listed).ids } ψ S a w:=
     ⟨hs.defers,hs.size,fun t=>U (·∈(stY l n st c x listed).ids) (fun _ h=>h) t,hs.core⟩
    refine .inl (kcg ?_ (hA (stY l n st c x listed).heap (stY l n st c x listed).ids (by simpa using a9) F S0 N0 ψ S a w ax));rintro v w' ⟨ψ',S',g1,g2,g3,g4,g5,g6,g7⟩;have V:∀ id,id∈id0::(stY l n st c x listed).ids↔id∈(stY l n st c x (listed.setIfInBounds i true)).ids:=fun id=>by
     show id∈id0::(idD x _ n++st.ids)↔id∈idD x _ n++st.ids;simp only [qat,qab];constructor
     ·rintro (h | h | h);exact .inl (idD_mem.2 ⟨i,ob0,J,T,by rw [D,h]⟩);obtain ⟨j,ob,y,A,s⟩:=idD_mem.1 h;exact .inl (idD_mem.2 ⟨j,ob,y,getD_set_true A,s⟩)
      ·exact .inr h
     ·rintro (h | h)
      ·obtain ⟨j,ob,y,A,s⟩:=idD_mem.1 h;rcases N j A with rfl | A;rw [D] at s;cases s;exact .inl rfl
       ·exact .inr (.inl (idD_mem.2 ⟨j,ob,y,A,s⟩))
      ·exact .inr (.inr h)
    have bm:(fun id=>id∈id0::(stY l n st c x listed).ids)=fun id=>id∈(stY l n st c x (listed.setIfInBounds i true)).ids:=funext fun id=>propext (V id);refine next ψ' S' v w' g3 (ktu (ag id0 ob0 true D) V g1) ?_ fun t=>?_;have g2:RV ψ' (fun id=>id∈id0::(stY l n st c x listed).ids) S' w' v (c i):=g2;rw [bm] at g2;exact g2
    ·exact (hs.tmps t).keep g4 (fun id h=>(V id).1 (g5 id h)) g6 g7
   ·-- one that stores to one that was made here
    have hw:=kjb (kfd l n ai st i o (fsOf l c i)) af hg;rw [qn hw];have aj:idD x (fun j=>(listed.setIfInBounds i true).getD j false) n=idD x (fun j=>listed.getD j false) n:=by
     have gen:∀ k,idD x (fun j=>(listed.setIfInBounds i true).getD j false) k=idD x (fun j=>listed.getD j false) k:=fun k=>by
      induction k with
      | zero=>rfl
      | succ k ihk=>
       simp only [idD,ihk];cases ba:x k with
       | none=>rfl
       | some r=>
        by_cases ao:i=k;subst ao;rw [D] at ba;cases ba;simp only [Bool.and_false]
        ·simp only [getD_set_ne false ao]
     exact gen n
    have u:(stY l n st c x (listed.setIfInBounds i true)).ids=(stY l n st c x listed).ids:=(by show idD x _ n++st.ids=_;rw [aj];rfl);have ax:Sim F S0 N0 { kfd l n ai st i o (fsOf l c i) with heap:=(stY l n st c x listed).heap,ids:=(stY l n st c x listed).ids } ψ S a w:=
     ⟨hs.defers,hs.size,fun t=>U (·∈(stY l n st c x listed).ids) (fun _ h=>h) t,hs.core⟩
    have ay:kaa (stY l n st c x listed).heap id0=kaa (hpD x (fun _=>true) i++st.heap) id0:=by
     show kaa (hpD x _ n++st.heap) id0=_;have e:hpD x (fun _=>true) i=hpD x (fun j=>decide (j<i)) n:=by
      have gen:∀ k,i<=k->hpD x (fun j=>decide (j<i)) k=hpD x (fun _=>true) i:=fun k hk=>by
       induction k with
       | zero=>
         obtain rfl:i=0:=(by omega);rfl
       | succ k ihk=>
        by_cases ao:i=k+1;subst ao;exact klk fun j y _=>qs y
        ·rw [<- ihk (by omega)];simp only [hpD];cases x k with
         | none=>rfl
         | some r=>simp only [qp (show ¬ k<i by omega),qf]
      exact (gen n (by omega)).symm
     rw [e];refine ks0 fun j y f ob s=>?_;rcases Nat.lt_trichotomy j i with h | h | h;rw [qs h,R j (ah j h f ob s)];subst h;rw [ad,qp (Nat.lt_irrefl _)]
     ·rw [qp (by omega)];cases A:listed.getD j false with
      | false=>rfl
      | true=>exact (I j A (aa i j _ _ _ _ _ h y D s)).elim
    refine .inl (kcg ?_ (hA (stY l n st c x listed).heap (stY l n st c x listed).ids ay F S0 N0 ψ S a w ax));rintro v w' ⟨ψ',S',g1,g2,g3,g4,g5,g6,g7⟩;refine next ψ' S' v w' g3 ?_ ?_ fun t=>?_;rw [u];exact ktu (ag id0 ob0 false D) (fun _=>Iff.rfl) g1;rw [u];exact g2
    ·rw [u];exact (hs.tmps t).keep g4 g5 g6 g7
end Go.Proofs.YtnlhjbnpjefjgaaGreatDoor
