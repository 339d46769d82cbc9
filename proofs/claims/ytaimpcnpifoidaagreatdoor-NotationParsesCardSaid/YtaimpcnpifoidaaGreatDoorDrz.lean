import Derived.Test.YtaimpcnpifoidaaGreatDoorDfr
set_option linter.all false
namespace Go.Proofs.YtaimpcnpifoidaaGreatDoor
open Go Go.RowKit
def anc (l:List Oper) (i j:Nat):Bool:=((k2r l).getD i 0).testBit j
def dstT (l:List Oper) (j:Nat):Option Nat:=(l[j]?).bind (·.dst)
def phB (l:List Oper) (es:List Nat) (i:Nat):Bool:=es.all fun e=>bif Nat.blt e i then anc l i e else (bif Nat.blt i e then anc l e i else true)
def kadf (l:List Oper) (n:Nat) (es:List Nat):Bool:=es.all fun e=>Nat.blt e n && phB l es e
def kud (ch:List Nat):List (Nat×AObj)->List (Nat×AObj)
 | []=>[]
 | (k,v)::l=>bif ch.contains k then kud ch l else (k,v)::kud ch l
def kor (l:List Oper) (i:Nat):Nat->List (Nat×AV)
 | 0=>[]
 | j+1=>match dstT l j with
  | some d=>bif Nat.ble j i || anc l j i then kor l i j else (d, .any)::kor l i j
  | none=>kor l i j
def kjr (l:List Oper) (n:Nat) (es ch ai:List Nat) (st:St) (i:Nat) (o:Oper) (fs:List (Nat×Option Nat×AV)) (hp:List (Nat×AObj)) (ids:List Nat):St:=
 { st with tmps:=hadd fs (kmg o) (kor l i n++st.tmps),heap:=bif phB l es i then hp else kud ch st.heap,ids:=bif phB l es i then ids else ai }
def pnE (v:Value):PanicEntry:={ v:=v,recovered:=false }
def k68 (P:Program) (o:Oper) (st:St) (v:Value) (b:List (Nat×AObj)) (ids':List Nat):Prop:=
 ∀ F S0 N0 ψ S a w,Sim F S0 N0 st ψ S a w->∀ (next:Act->World->Prop) (Q:Exit->Act->World->Prop),
  (∀ w',(∃ ψ' S',Core F S0 N0 b ids' ψ' S' w'/\Fr F w w')->Q (.panic [pnE v]) a w')->o.wp P a w next Q
def k5h (P:Program) (os:Array Oper) (v:St) (o:Oper) (c:AV):Prop:=(kdi os v o=some true/\NStep P o v c)\/(kdi os v o=some false/\c = .fz (.tup []))
def kajh (P:Program) (os:Array Oper) (l:List Oper) (n:Nat) (es ch ai:List Nat) (st v:St) (o:Oper) (c:AV) (hp:List (Nat×AObj)) (ids:List Nat) (a:List (Nat×AObj)) (ids':List Nat):Prop:=
 ((kdi os v o=some true/\kcx P o v c a ids')\/(kdi os v o=some false/\c = .fz (.tup [])/\a=hp/\ids'=ids))/\((∀ i,i<n->phB l es i=true)\/((∀ id,id∉ch->∀ ob,kab hp id=some ob->kab a id=some ob)/\(∀ id,id∈ids'->id∈ai)/\∀ id,id∈ids->id∈ids'))
def kai7 (P:Program) (os:Array Oper) (Q:Exit->St->Prop) (st v:St) (o:Oper):Prop:=
 kdi os v o=some true/\∃ pv a ids',k68 P o v pv a ids'/\Q (.panic [pnE pv]) { st with tmps:=[],heap:=a,ids:=ids' }
def kt6 (P:Program) (os:Array Oper) (n:Nat) (es ch ai:List Nat) (Q:Exit->St->Prop) (st:St):Nat->Nat->List Oper->List (Nat×Option Nat×AV)->List (Nat×AObj)->List Nat->Option Nat->Prop
 | 0,_,l,fs,hp,ids,none=>awpL P os l { st with tmps:=hadd fs (fun _=>true) st.tmps,heap:=hp,ids:=ids } Q
 | 0,_,_,_,_,_,some _=>True
 | k+1,i,o::l,fs,hp,ids,pn=>
  (∃ e,pn=some e/\anc os.toList i e=true/\kt6 P os n es ch ai Q st k (i+1) l ((i,o.dst, .any)::fs) hp ids pn) \/
  (es.contains i=false/\∃ c,k5h P os (kjr os.toList n es ch ai st i o fs hp ids) o c/\(phB os.toList es i || okA st.ids c)=true/\kt6 P os n es ch ai Q st k (i+1) l ((i,o.dst,c)::fs) hp ids pn) \/
  (es.contains i=true/\pn=none/\∃ c a ids',kajh P os os.toList n es ch ai st (kjr os.toList n es ch ai st i o fs hp ids) o c hp ids a ids'/\kt6 P os n es ch ai Q st k (i+1) l ((i,o.dst,c)::fs) a ids' none) \/
  (es.contains i=true/\pn=none/\kai7 P os Q st (kjr os.toList n es ch ai st i o fs hp ids) o/\kt6 P os n es ch ai Q st k (i+1) l ((i,o.dst, .any)::fs) hp ids (some i))
 | _+1,_,[],_,_,_,_=>False
section
variable {P:Program} {F S0:Nat->Prop} {N0:Nat} {w w':World} {S S':Nat->Prop} {ψ ψ':Env} {Q:Exit->St->Prop} {st:St} {os:Array Oper} {n:Nat} {es ch ai:List Nat}
def fsOf (l:List Oper) (c:Nat->AV):Nat->List (Nat×Option Nat×AV)
 | 0=>[]
 | k+1=>(k,dstT l k,c k)::fsOf l c k
theorem kjp {l:List Oper} {c c':Nat->AV}:∀ {k:Nat},(∀ j,j<k->c j=c' j)->fsOf l c k=fsOf l c' k
 | 0,_=>rfl
 | k+1,h=>by simp only [fsOf,h k (by omega),kjp (k:=k) fun j a=>h j (by omega)]
def FactZ (P:Program) (os:Array Oper) (n:Nat) (es ch ai:List Nat) (Q:Exit->St->Prop) (st:St) (c:Nat->AV) (H:Nat->List (Nat×AObj)×List Nat) (pn:Option Nat) (i:Nat) (o:Oper):Prop:=
 (H (i+1)=H i/\∃ e,pn=some e/\e<i/\anc os.toList i e=true) \/
 (i∉es/\H (i+1)=H i/\k5h P os (kjr os.toList n es ch ai st i o (fsOf os.toList c i) (H i).1 (H i).2) o (c i)/\(phB os.toList es i || okA st.ids (c i))=true) \/
 (i∈es/\(∀ e,pn=some e->i<e)/\kajh P os os.toList n es ch ai st (kjr os.toList n es ch ai st i o (fsOf os.toList c i) (H i).1 (H i).2) o (c i) (H i).1 (H i).2 (H (i+1)).1 (H (i+1)).2) \/
 (i∈es/\pn=some i/\H (i+1)=H i/\kai7 P os Q st (kjr os.toList n es ch ai st i o (fsOf os.toList c i) (H i).1 (H i).2) o)
theorem kpf:∀ (k i:Nat) (l:List Oper) (c0:Nat->AV) (H0:Nat->List (Nat×AObj)×List Nat) (pn0:Option Nat),os.toList.drop i=l->i+k=n->(∀ e,pn0=some e->e<i) ->
  kt6 P os n es ch ai Q st k i l (fsOf os.toList c0 i) (H0 i).1 (H0 i).2 pn0 ->
  ∃ c H pn,(∀ j,j<i->c j=c0 j)/\(∀ j,j<=i->H j=H0 j)/\(∀ e,pn0=some e->pn=some e)/\(∀ e,pn=some e->pn0=some e\/(i<=e/\e<n/\e∈es))/\(∀ j o,i<=j->j<n->os.toList[j]?=some o->FactZ P os n es ch ai Q st c H pn j o) /\
   (pn=none->awpL P os (os.toList.drop n) { st with tmps:=hadd (fsOf os.toList c n) (fun _=>true) st.tmps,heap:=(H n).1,ids:=(H n).2 } Q)
 | 0,i,l,c0,H0,pn0,hl,hn,hp,h=>by
  obtain rfl:i=n:=by omega
  refine ⟨c0,H0,pn0,fun _ _=>rfl,fun _ _=>rfl,fun _ h=>h,fun e h => .inl h,fun j o h1 h2=>by omega,fun d=>?_⟩;subst d hl;exact h
 | k+1,i,l,c0,H0,pn0,hl,hn,hp,h=>by
  cases l with
  | nil=>exact h.elim
  | cons o l=>
   have f:os.toList[i]?=some o:=(by have:=q9 (·[0]?) hl;simpa using this);have g:os.toList.drop (i+1)=l:=(by rw [<- List.drop_drop,hl];rfl);have hd:dstT os.toList i=o.dst:=(by unfold dstT;rw [f];rfl);have cons:∀ c,(i,o.dst,c)::fsOf os.toList c0 i=fsOf os.toList (fun j=>if j=i then c else c0 j) (i+1):=fun c=>(by simp only [fsOf,hd,qa6];rw [kjp (k:=i) (c':=fun j=>if j=i then c else c0 j) fun j m=>by rw [qg (by omega)]]);have t:∀ x:List (Nat×AObj)×List Nat,(fun j=>if j=i+1 then x else H0 j) (i+1)=x:=fun x=>(by simp);rcases h with ⟨e,r,ha,h⟩ | ⟨b,c,p,s,h⟩ | ⟨b,d,c,q,ids',p,h⟩ | ⟨b,d,p,h⟩
   ·rw [cons] at h;obtain ⟨c1,H1,pn1,k1,k2,k3,k3',k4,k5⟩:=kpf k (i+1) l _ (fun j=>if j=i+1 then H0 i else H0 j) pn0 g (by omega) (fun e h=>by have:=hp e h;omega) (by simpa using h);refine ⟨c1,H1,pn1,fun j m=>by rw [k1 j (by omega),qg (by omega)],fun j m=>by rw [k2 j (by omega),qg (by omega)],k3,fun e h=>(k3' e h).imp id (fun h=>⟨by omega,h.2⟩),fun j o' h1 h2 ho=>?_,k5⟩;by_cases a:j=i;subst a;rw [f] at ho;obtain rfl:=qq ho;exact .inl ⟨by rw [k2 (j+1) (qy _),qj rfl,k2 j (by omega),qg (by omega)],e,k3 e r,hp e r,ha⟩
    ·exact k4 j o' (by omega) h2 ho
   ·rw [cons] at h;obtain ⟨c1,H1,pn1,k1,k2,k3,k3',k4,k5⟩:=kpf k (i+1) l _ (fun j=>if j=i+1 then H0 i else H0 j) pn0 g (by omega) (fun e h=>by have:=hp e h;omega) (by simpa using h);have e1:∀ j,j<i->c1 j=c0 j:=fun j m=>(by rw [k1 j (by omega),qg (by omega)]);have e2:c1 i=c:=(by rw [k1 i (by omega),qj rfl]);have e3:H1 i=H0 i:=(by rw [k2 i (by omega),qg (by omega)]);have e4:H1 (i+1)=H0 i:=(by rw [k2 (i+1) (qy _),qj rfl]);refine ⟨c1,H1,pn1,e1,fun j m=>by rw [k2 j (by omega),qg (by omega)],k3,fun e h=>(k3' e h).imp id (fun h=>⟨by omega,h.2⟩),fun j o' h1 h2 ho=>?_,k5⟩;by_cases a:j=i;subst a;rw [f] at ho;obtain rfl:=qq ho;refine .inr (.inl ⟨by simpa using b,by rw [e3,e4],?_⟩);rw [kjp e1,e2,e3];exact ⟨p,s⟩
    ·exact k4 j o' (by omega) h2 ho
   ·subst d;rw [cons] at h;obtain ⟨c1,H1,pn1,k1,k2,k3,k3',k4,k5⟩:=kpf k (i+1) l _ (fun j=>if j=i+1 then (q,ids') else H0 j) none g (by omega) (fun e h=>by cases h) (by simpa using h);have e1:∀ j,j<i->c1 j=c0 j:=fun j m=>(by rw [k1 j (by omega),qg (by omega)]);have e2:c1 i=c:=(by rw [k1 i (by omega),qj rfl]);have e3:H1 i=H0 i:=(by rw [k2 i (by omega),qg (by omega)]);have e4:H1 (i+1)=(q,ids'):=(by rw [k2 (i+1) (qy _),qj rfl]);refine ⟨c1,H1,pn1,e1,fun j m=>by rw [k2 j (by omega),qg (by omega)],k3,fun e h=>(k3' e h).imp id (fun h=>⟨by omega,h.2⟩),fun j o' h1 h2 ho=>?_,k5⟩;by_cases a:j=i
    ·subst a;rw [f] at ho;obtain rfl:=qq ho;refine .inr (.inr (.inl ⟨by simpa using b,fun e r=>?_,?_⟩))
     ·rcases k3' e r with h | h;cases h
      ·omega
     ·rw [kjp e1,e2,e3,e4];exact p
    ·exact k4 j o' (by omega) h2 ho
   ·subst d;rw [cons] at h;obtain ⟨c1,H1,pn1,k1,k2,k3,k3',k4,k5⟩:=kpf k (i+1) l _ (fun j=>if j=i+1 then H0 i else H0 j) (some i) g (by omega) (fun e h=>by injection h with h;omega) (by simpa using h);have e1:∀ j,j<i->c1 j=c0 j:=fun j m=>(by rw [k1 j (by omega),qg (by omega)]);have e3:H1 i=H0 i:=(by rw [k2 i (by omega),qg (by omega)]);refine ⟨c1,H1,pn1,e1,fun j m=>by rw [k2 j (by omega),qg (by omega)],(fun e h=>by cases h),fun e h=>?_,fun j o' h1 h2 ho=>?_,k5⟩
    ·rcases k3' e h with h | h;injection h with h;subst h;exact .inr ⟨by omega,by omega,by simpa using b⟩
     ·exact .inr ⟨by omega,h.2⟩
    by_cases a:j=i;subst a;rw [f] at ho;obtain rfl:=qq ho;refine .inr (.inr (.inr ⟨by simpa using b,k3 j rfl,by rw [k2 (j+1) (qy _),qj rfl,k2 j (by omega),qg (by omega)],?_⟩));rw [kjp e1,e3];exact p
    ·exact k4 j o' (by omega) h2 ho
def kjv (fs:List (Nat×Option Nat×AV)) (p:Nat->Bool) (base:List (Nat×AV)):List (Nat×AV):=match fs with
 | []=>base
 | (j,some d,c)::l=>bif p j then (d,c)::kjv l p base else kjv l p base
 | (_,none,_)::l=>kjv l p base
theorem kdl {l:List Oper} {c:Nat->AV} {p:Nat->Bool} {base:List (Nat×AV)} {t:Nat}:∀ k,(∃ j,j<k/\p j=true/\dstT l j=some t/\look .any (kjv (fsOf l c k) p base) t=c j) \/
  ((∀ j,j<k->p j=true->dstT l j≠some t)/\look .any (kjv (fsOf l c k) p base) t=look .any base t)
 | 0 => .inr ⟨fun j h=>by omega,rfl⟩
 | k+1=>by
  have ih:=kdl (l:=l) (c:=c) (p:=p) (base:=base) (t:=t) k;simp only [fsOf];cases hd:dstT l k with
  | none=>
   simp only [kjv];rcases ih with ⟨j,h1,h2,h3,f⟩ | ⟨h1,h2⟩;exact .inl ⟨j,by omega,h2,h3,f⟩
   ·refine .inr ⟨fun j g hp=>?_,h2⟩;by_cases a:j=k
    ·subst a;rw [hd];exact fun h=>by cases h
    ·exact h1 j (by omega) hp
  | some d=>
   simp only [kjv];cases hp:p k with
   | false=>
    simp only [qd];rcases ih with ⟨j,h1,h2,h3,f⟩ | ⟨h1,h2⟩;exact .inl ⟨j,by omega,h2,h3,f⟩
    ·refine .inr ⟨fun j g b=>?_,h2⟩;by_cases a:j=k;subst a;rw [hp] at b;cases b
     ·exact h1 j (by omega) b
   | true=>
    simp only [qf,kdt];by_cases e:d=t;subst e;exact .inl ⟨k,by omega,hp,hd,by rw [qj rfl]⟩
    ·rw [qg e];rcases ih with ⟨j,h1,h2,h3,f⟩ | ⟨h1,h2⟩;exact .inl ⟨j,by omega,h2,h3,f⟩
     ·refine .inr ⟨fun j g b=>?_,h2⟩;by_cases a:j=k;subst a;rw [hd];exact fun h=>e (qq h)
      ·exact h1 j (by omega) b
theorem kpv {l:List Oper} {c:Nat->AV} {p:Nat->Bool} {base:List (Nat×AV)} {t:Nat}:∀ k,(look .any (hadd (fsOf l c k) p base) t = .any)\/(∃ j,j<k/\p j=true/\dstT l j=some t/\look .any (hadd (fsOf l c k) p base) t=c j) \/
  ((∀ j,j<k->dstT l j≠some t)/\look .any (hadd (fsOf l c k) p base) t=look .any base t)
 | 0 => .inr (.inr ⟨fun j h=>by omega,rfl⟩)
 | k+1=>by
  have ih:=kpv (l:=l) (c:=c) (p:=p) (base:=base) (t:=t) k;simp only [fsOf];cases hd:dstT l k with
  | none=>
   simp only [hadd];rcases ih with h | ⟨j,h1,h2,h3,e⟩ | ⟨h1,h2⟩;exact .inl h;exact .inr (.inl ⟨j,by omega,h2,h3,e⟩)
   ·refine .inr (.inr ⟨fun j f=>?_,h2⟩);by_cases a:j=k
    ·subst a;rw [hd];exact fun h=>by cases h
    ·exact h1 j (by omega)
  | some d=>
   simp only [hadd,kdt];by_cases b:d=t
   ·subst b;rw [qj rfl];cases hp:p k with
    | false=>exact .inl rfl
    | true=>exact .inr (.inl ⟨k,by omega,hp,hd,rfl⟩)
   ·rw [qg b];rcases ih with h | ⟨j,h1,h2,h3,e⟩ | ⟨h1,h2⟩;exact .inl h;exact .inr (.inl ⟨j,by omega,h2,h3,e⟩)
    ·refine .inr (.inr ⟨fun j f=>?_,h2⟩);by_cases a:j=k;subst a;rw [hd];exact fun h=>b (qq h)
     ·exact h1 j (by omega)
theorem kuq {l:List Oper} {i:Nat} {base:List (Nat×AV)} {t:Nat}:∀ k,look .any (kor l i k++base) t = .any\/((∀ j,j<k->dstT l j=some t->j<=i\/anc l j i=true)/\look .any (kor l i k++base) t=look .any base t)
 | 0 => .inr ⟨fun j h=>by omega,rfl⟩
 | k+1=>by
  have ih:=kuq (l:=l) (i:=i) (base:=base) (t:=t) k;simp only [kor];cases hd:dstT l k with
  | none=>
   rcases ih with h | ⟨h1,h2⟩;exact .inl h
   ·refine .inr ⟨fun j f a=>?_,h2⟩;by_cases b:j=k;subst b;rw [hd] at a;cases a
    ·exact h1 j (by omega) a
  | some d=>
   cases e:(Nat.ble k i || anc l k i) with
   | true=>
    simp only [e,qf];rcases ih with h | ⟨h1,h2⟩;exact .inl h
    ·refine .inr ⟨fun j f a=>?_,h2⟩;by_cases b:j=k;subst b;rw [Bool.or_eq_true] at e;exact e.imp (fun h=>qai h) id
     ·exact h1 j (by omega) a
   | false=>
    simp only [e,qd,qam,kdt];by_cases c:d=t;rw [qj c];exact .inl rfl
    ·rw [qg c];rcases ih with h | ⟨h1,h2⟩;exact .inl h
     ·refine .inr ⟨fun j f a=>?_,h2⟩;by_cases b:j=k;subst b;rw [hd] at a;exact absurd (qq a) c
      ·exact h1 j (by omega) a
theorem kx0 {ch:List Nat} {id:Nat} {ob:AObj}:∀ {l:List (Nat×AObj)},kab (kud ch l) id=some ob->id∉ch/\kab l id=some ob
 | [],h=>by cases h
 | (k,v)::l,h=>by
  simp only [kud] at h;cases hc:ch.contains k with
  | true=>
   rw [hc] at h;obtain ⟨h1,h2⟩:=kx0 (l:=l) h;refine ⟨h1,?_⟩;rw [kae,qg];exact h2
   ·rintro rfl;exact h1 (by simpa using hc)
  | false=>
   rw [hc] at h;simp only [qd,kae] at h;rw [kae];by_cases hk:k=id;subst hk;rw [qj rfl] at h ⊢;exact ⟨by simpa using hc,h⟩
   ·rw [qg hk] at h ⊢;exact kx0 h
def kwt (ch:List Nat):List (Nat×AObj)->List Nat
 | []=>[]
 | (k,_)::l=>bif ch.contains k then kwt ch l else k::kwt ch l
theorem k4d {ch:List Nat} {id:Nat} {ob:AObj} (hid:id∉ch):∀ {l:List (Nat×AObj)},kab l id=some ob->id∈kwt ch l
 | [],h=>by cases h
 | (k,v)::l,h=>by
  simp only [kwt];rw [kae] at h;by_cases hk:k=id;subst hk;rw [show ch.contains k=false by simpa using hid];exact qt ..
  ·rw [qg hk] at h;have:=k4d hid (l:=l) h;cases ch.contains k with
   | true=>exact this
   | false=>exact qn _ this
theorem kanf {ch:List Nat} {hp a:List (Nat×AObj)} (h:(kwt ch hp).map (kab a)=(kwt ch hp).map (kab hp)):∀ id,id∉ch->∀ ob,kab hp id=some ob->kab a id=some ob:=fun id hid ob ho=>by rw [List.map_inj_left.1 h id (k4d hid ho)];exact ho
def stZ (l:List Oper) (n:Nat) (st:St) (c:Nat->AV) (H:Nat->List (Nat×AObj)×List Nat) (listed:Array Bool) (kD:Nat):St:=
 { st with tmps:=kjv (fsOf l c n) (fun j=>listed.getD j false) st.tmps,heap:=(H kD).1,ids:=(H kD).2 }
structure DSt (F S0:Nat->Prop) (N0:Nat) (w0:World) (l:List Oper) (n:Nat) (es:List Nat) (st:St) (c:Nat->AV) (H:Nat->List (Nat×AObj)×List Nat) (pn:Option Nat) (listed:Array Bool) (a:Act) (w:World):Prop where
 inv:∃ kD ψ S,kD<=n/\(∀ e,e∈es->(listed.getD e false=true↔e<kD))/\Sim F S0 N0 (stZ l n st c H listed kD) ψ S a w
 fr:Fr F w0 w
 lsize:listed.size=l.length
 closed:∀ k o,listed.getD k false=true->l[k]?=some o->∀ e∈o.after,Region.binds .any e=true->listed.getD e.on false=true
 nopan:∀ e,pn=some e->listed.getD e false=false
theorem k69 {es:List Nat} {H:Nat->List (Nat×AObj)×List Nat} {n:Nat} (f:∀ i,i<n->i∉es->H (i+1)=H i):∀ {a b:Nat},a<=b->b<=n->(∀ e,e∈es->¬ (a<=e/\e<b))->H a=H b
 | a,b,h1,h2,h3=>by
  induction b with
  | zero=>
    obtain rfl:a=0:=(by omega);rfl
  | succ b ih=>
   by_cases c:a=b+1;rw [c]
   ·rw [f b (by omega) (fun d=>h3 b d ⟨by omega,by omega⟩)];exact ih (by omega) (by omega) fun e d h=>h3 e d ⟨h.1,by omega⟩
theorem kall (hm:P.follows .mixedOrders=true) {id:Nat} {l:List Oper} (hB:relB l n st.n=true) (bc:kadf l n es=true) (bd:st.ids.all ai.contains=true)
  (h:kt6 P l.toArray n es ch ai Q st n 0 l [] st.heap st.ids none):awp P (.region id l.toArray true) st Q:=by
 have ok:=k97 hB;obtain ⟨c,H,pn,_,T,_,aa,x,ak⟩:=kpf (os:=l.toArray) n 0 l (fun _ => .any) (fun _=>(st.heap,st.ids)) none rfl (by omega) (fun e h=>by cases h) h;have T:H 0=(st.heap,st.ids):=T 0 (qy _);have a2:=aa;have aa:∀ e,pn=some e->e<n:=fun e f=>by
  rcases aa e f with h | h;cases h
  ·exact h.2.1
 simp only [List.toList_toArray] at x ak
 -- facts about the chain
 have R:∀ e,e∈es->e<n/\phB l es e=true:=fun e f=>by have:=qs.1 bc e f;rw [q8] at this;exact ⟨by simpa [Nat.blt_eq] using this.1,this.2⟩
 have a3:∀ i,phB l es i=true->∀ e,e∈es->(e<i->anc l i e=true)/\(i<e->anc l e i=true):=fun i hi e f=>by
  have:=qs.1 hi e f;refine ⟨fun s=>?_,fun s=>?_⟩;have z:Nat.blt e i=true:=(by simpa [Nat.blt_eq] using s);simpa [z] using this
  ·have z:Nat.blt i e=true:=(by simpa [Nat.blt_eq] using s);have be:Nat.blt e i=false:=by
    cases hx:Nat.blt e i with
    | false=>rfl
    | true=>
      have:e<i:=(by simpa [Nat.blt_eq] using hx);omega
   simpa [z,be] using this
 intro F S0 N0 ψ0 Sa a0 w0 q;have af:Sim F S0 N0 st ψ0 Sa a0 w0.drew:=⟨q.defers,q.size,fun t=>(q.tmps t).keep Ext.refl (fun _ h=>h) (fun _ h=>h) (fun _ _ _=>rfl),⟨fun id ob ho=>by obtain ⟨e1,e2,e3⟩:=q.core.obj id ob ho;exact ⟨e1,e2.keep Ext.refl (fun _ h=>h) (fun _ h=>h) (fun _ _ _=>rfl) ⟨rfl,rfl⟩ (fun _ _=>rfl),e3⟩,q.core.inj,q.core.lt,q.core.s0,q.core.n0,q.core.fr⟩⟩;refine wp_region_any hm ?_;have an:∀ i,i<n->i∉es->H (i+1)=H i:=fun i hi A=>by
  have B:i<l.length:=by have:=ok.len;omega
  rcases x i l[i] (qz _) hi (qc B) with ⟨h1,_⟩ | ⟨_,h1,_⟩ | ⟨h1,_⟩ | ⟨h1,_⟩;exact h1;exact h1;exact absurd h1 A
  ·exact absurd h1 A
 have ao:∀ e,pn=some e->e∈es:=fun e f=>by
  rcases a2 e f with h | h;cases h
  ·exact h.2.2
 have u:¬ (∀ i,i<n->phB l es i=true)->∀ j,j<n->(∀ id,id∉ch->∀ ob,kab (H j).1 id=some ob->kab (H (j+1)).1 id=some ob)/\((∀ id,id∈(H j).2->id∈ai)->∀ id,id∈(H (j+1)).2->id∈ai)/\∀ id,id∈(H j).2->id∈(H (j+1)).2:=fun U j hj=>by
  have I:j<l.length:=by have:=ok.len;omega
  rcases x j l[j] (qz _) hj (qc I) with ⟨h1,_⟩ | ⟨_,h1,_⟩ | ⟨_,_,_,h1⟩ | ⟨_,_,h1,_⟩;rw [h1];exact ⟨fun _ _ _ h=>h,fun h=>h,fun _ h=>h⟩;rw [h1];exact ⟨fun _ _ _ h=>h,fun h=>h,fun _ h=>h⟩;obtain ⟨q1,q2,q3⟩:=h1.resolve_left U;exact ⟨q1,fun _=>q2,q3⟩
  ·rw [h1];exact ⟨fun _ _ _ h=>h,fun h=>h,fun _ h=>h⟩
 have V:¬ (∀ i,i<n->phB l es i=true)->∀ k,k<=n->∀ id,id∉ch->∀ ob,kab st.heap id=some ob->kab (H k).1 id=some ob:=fun U k=>by
  induction k with
  | zero=>intro _ id _ ob h;rw [T];exact h
  | succ k ih=>intro C id hid ob h;exact (u U k (by omega)).1 id hid ob (ih (by omega) id hid ob h)
 have J:¬ (∀ i,i<n->phB l es i=true)->∀ k,k<=n->(∀ id,id∈(H k).2->id∈ai)/\∀ id,id∈st.ids->id∈(H k).2:=fun U k=>by
  induction k with
  | zero=>intro _;rw [T];exact ⟨fun id h=>by simpa using qs.1 bd id h,fun _ h=>h⟩
  | succ k ih=>intro C;obtain ⟨q1,q2⟩:=ih (by omega);exact ⟨(u U k (by omega)).2.1 q1,fun id h=>(u U k (by omega)).2.2 id (q2 id h)⟩
 suffices key:∀ (fuel:Nat) (listed:Array Bool) (a:Act) (w:World),DSt F S0 N0 w0 l n es st c H pn listed a w->(∀ k,listed.getD k false=true->k<n) ->
   ((List.range l.length).countP fun k=>!listed.getD k true)<=fuel->wpAny P .any l.toArray (PostA F S0 N0 w0 Q) fuel listed a w by
  refine key _ _ _ _ ⟨⟨0,ψ0,Sa,qz _,fun e _=>by rw [kof];simp,?_⟩,Fr.drew,by simp,(fun k o hk=>by rw [kof] at hk;cases hk),fun e _=>kof _ _⟩ (fun k hk=>by rw [kof] at hk;cases hk) ?_
  ·refine ⟨af.defers,af.size,fun t=>?_,by show Core F S0 N0 (H 0).1 (H 0).2 _ _ _;rw [T];exact af.core⟩;show RV _ (·∈(H 0).2) _ _ _ (look .any (kjv (fsOf l c n) _ st.tmps) t);rw [T];rcases kdl (l:=l) (c:=c) (p:=fun j=>(Array.replicate l.toArray.size false).getD j false) (base:=st.tmps) (t:=t) n with ⟨j,_,hj,_⟩ | ⟨_,h2⟩;rw [kof] at hj;cases hj
   ·rw [h2];exact af.tmps t
  ·refine qbd (List.countP_le_length ..) ?_;simp
 intro fuel
 -- the end of the bv
 have fin:∀ (listed:Array Bool) (a:Act) (w:World),DSt F S0 N0 w0 l n es st c H pn listed a w->(∀ i,i<n->listed.getD i false=true)->wpList P l.toArray (PostA F S0 N0 w0 Q) (l.drop n) a w:=by
  intro listed a w d g;have aq:pn=none:=by
   cases hp:pn with
   | none=>rfl
   | some e=>
    have:=d.nopan e hp;rw [g e (aa e hp)] at this;cases this
  obtain ⟨kD,ψ,S,C,hk,hs⟩:=d.inv;have a4:H kD=H n:=k69 (es:=es) (n:=n) an C (qy _) fun e f h=>by have:=(hk e f).1 (g e h.2);omega
  have bf:Sim F S0 N0 { st with tmps:=hadd (fsOf l c n) (fun _=>true) st.tmps,heap:=(H n).1,ids:=(H n).2 } ψ S a w:=by
   refine ⟨hs.defers,hs.size,fun t=>?_,by rw [<- a4];exact hs.core⟩;have ht:=hs.tmps t;rw [<- a4];show RV _ _ _ _ _ (look .any (hadd (fsOf l c n) (fun _=>true) st.tmps) t);have ht:RV ψ (·∈(H kD).2) S w (a.tmps.getD t undef) (look .any (kjv (fsOf l c n) (fun j=>listed.getD j false) st.tmps) t):=ht;rcases kpv (l:=l) (c:=c) (p:=fun _=>true) (base:=st.tmps) (t:=t) n with h | ⟨j,h1,_,h3,h4⟩ | ⟨h1,h2⟩;rw [h];exact .any
   ·rw [h4];rcases kdl (l:=l) (c:=c) (p:=fun j=>listed.getD j false) (base:=st.tmps) (t:=t) n with ⟨j',e1,e2,e3,e4⟩ | ⟨e1,e2⟩;rw [e4] at ht;have bg:j'=j:=(by unfold dstT at h3 e3;simp only [qk] at h3 e3;obtain ⟨o1,p1,p2⟩:=h3;obtain ⟨o2,q1,q2⟩:=e3;exact ok.uniq j' j o2 o1 t e1 h1 q1 p1 q2 p2);rw [bg] at ht;exact ht
    ·exact absurd h3 (e1 j h1 (g j h1))
   ·rw [h2];rcases kdl (l:=l) (c:=c) (p:=fun j=>listed.getD j false) (base:=st.tmps) (t:=t) n with ⟨j',e1,e2,e3,e4⟩ | ⟨e1,e2⟩;exact absurd e3 (h1 j' e1)
    ·rw [e2] at ht;exact ht
  exact kgh (fun e a' w' k=>k.pre d.fr) _ _ _ (ak aq F S0 N0 ψ S a w bf)
 induction fuel with
 | zero=>
  intro listed a w d hh hc;have g:∀ i,i<l.length->listed.getD i false=true:=fun i hi=>by have h0:((List.range l.length).countP fun k=>!listed.getD k true)=0:=(by omega);rw [List.countP_eq_zero] at h0;have:=h0 i (by simpa using hi);simp [d.lsize,hi] at this ⊢;exact this
  have hn:n=l.length:=by
   have:=ok.len;rcases qbe n l.length with h' | h';have:=hh n (g _ h');omega
   ·omega
  have H:=fin listed a w d fun i hi=>g i (by omega);rw [hn] at H;exact ksk ok 0 l.length listed a w (by omega) (qy _) d.lsize (fun i hi=>⟨fun _=>hi,fun _=>by have:=g i hi;simp [d.lsize,hi] at this ⊢;exact this⟩) (by omega) H
 | succ fuel ih=>
  intro listed a w d hh hc;by_cases y:∀ i,i<n->listed.getD i false=true
  ·refine ksk ok (fuel+1) n listed a w (qy _) ok.len d.lsize (fun i hi=>⟨fun hl=>hh i (by
    simp [d.lsize,hi] at hl ⊢;exact hl),fun D=>by
    have:=y i D;simp [d.lsize,hi] at this ⊢;exact this⟩) ?_ (fin listed a w d y)
   refine qbd ?_ hc;rw [show l.length=n+(l.length - n) by have:=ok.len;omega,List.range_add,List.countP_append];have:((List.range (l.length - n)).map (n+·)).countP (fun k=>!listed.getD k true)=l.length - n:=(by rw [List.countP_eq_length.2,qag,List.length_range];intro k hk;simp only [qa3,List.mem_range] at hk;obtain ⟨m,hm,rfl⟩:=hk;have s:n+m<l.length:=(by omega);have:listed.getD (n+m) false≠true:=fun h=>(by have:=hh _ h;omega);simp [d.lsize,s] at this ⊢;exact this);omega
  ·have hne:Region.ready .any l.toArray listed≠[]:=by
    have bh:∃ i,i<n/\listed.getD i false=false/\∀ j,j<i->listed.getD j false=true:=by
     have:∃ i,i<n/\listed.getD i false=false:=(by simp only [Classical.not_forall] at y;obtain ⟨i,hi,z⟩:=y;exact ⟨i,hi,by simpa using z⟩);obtain ⟨i,hi,z⟩:=this
     induction i using Nat.strongRecOn with
     | _ i ihi=>
      by_cases g:∀ j,j<i->listed.getD j false=true;exact ⟨i,hi,z,g⟩
      ·simp only [Classical.not_forall] at g;obtain ⟨j,hj,bi⟩:=g;exact ihi j hj (by omega) (by simpa using bi)
    obtain ⟨i,hi,z,g⟩:=bh;have B:i<l.length:=(by have:=ok.len;omega);have:i∈Region.ready .any l.toArray listed:=mem_ready.2 ⟨by simp [d.lsize,B] at z ⊢;exact z,l[i],by simp [B],fun e f ag=>g _ (ok.edges i _ (qc B) e f ag)⟩;intro h0;rw [h0] at this;cases this
   refine ⟨fun h0=>absurd h0 hne,fun i hi=>?_⟩;obtain ⟨h0,o,ho,g⟩:=mem_ready.1 hi;have X:l[i]?=some o:=(by simpa using ho);have B:i<l.length:=(qo.1 X).1;have ah:=k9u h0;have E:∀ j,anc l i j=true->listed.getD j false=true:=fun j hj=>
    knh (l:=l) (S:=fun j=>listed.getD j false=true) (fun m p hm hp e f z=>d.closed m p hm hp e f z) i o X g j hj
   have M:∀ j,listed.getD j false=true->anc l j i=true->False:=fun j hj ha=>(by have I:j<l.length:=(by have:=kai5 hj;rw [d.lsize] at this;exact this);have:=knh (l:=l) (S:=fun j=>listed.getD j false=true) (fun m p hm hp e f z=>d.closed m p hm hp e f z) j l[j] (qc I) (fun e f z=>d.closed j _ hj (qc I) e f z) i ha;rw [ah] at this;cases this);have D:i<n:=by
    rcases qbe i n with h' | h';exact h'
    ·exfalso;apply y;intro j hj;exact E j (ok.tail i j B h' (by omega))
   obtain ⟨kD,ψ,S,C,hk,hs⟩:=d.inv;have ar:dstT l i=o.dst:=(by unfold dstT;rw [X];rfl);have ab:∀ k,(listed.setIfInBounds i true).getD k false=true->k=i\/listed.getD k false=true:=fun k hk=>by
    by_cases a5:i=k;exact .inl a5.symm
    ·rw [getD_set_ne false a5] at hk;exact .inr hk
   have ac:(listed.setIfInBounds i true).getD i false=true:=(by simp [d.lsize,B]);have a6:∀ t,o.dst=some t->t<st.n:=fun t ht=>ok.dst i o t D X ht
   -- the bj agree with the text's,for what the view bk
   have aj:(∀ e,e∈es->(e<i↔e<kD))->H i=H kD:=fun a7=>by
    rcases Nat.le_total i kD with au | au
    ·exact k69 (es:=es) (n:=n) an au C fun e f h=>by have:=a7 e f;omega
    ·exact (k69 (es:=es) (n:=n) an au (by omega) fun e f h=>by have:=a7 e f;omega).symm
   have r:phB l es i=true->H i=H kD:=fun hp=>aj fun e f=>by
    obtain ⟨h1,h2⟩:=a3 i hp e f;have h3:=hk e f;constructor;intro s;exact h3.1 (E e (h1 s))
    ·intro s;rcases Nat.lt_trichotomy e i with h | h | h;exact h;subst h;rw [h3.2 s] at ah;cases ah
     ·exact (M e (h3.2 s) (h2 h)).elim
   -- the slots of the view
   have N:∀ (K:Nat->Prop),(∀ id,id∈(H kD).2->K id)->∀ t,RV ψ K S w (a.tmps.getD t undef) (look .any (hadd (fsOf l c i) (kmg o) (kor l i n++st.tmps)) t):=fun K hK t=>by
    have ht:RV ψ (·∈(H kD).2) S w (a.tmps.getD t undef) (look .any (kjv (fsOf l c n) (fun j=>listed.getD j false) st.tmps) t):=hs.tmps t;have uniq:∀ {j j':Nat},j<n->j'<n->dstT l j=some t->dstT l j'=some t->j=j':=fun {j j'} h1 h2 h3 h4=>(by unfold dstT at h3 h4;simp only [qk] at h3 h4;obtain ⟨o1,p1,p2⟩:=h3;obtain ⟨o2,q1,q2⟩:=h4;exact ok.uniq j j' o1 o2 t h1 h2 p1 q1 p2 q2);rcases kpv (l:=l) (c:=c) (p:=kmg o) (base:=kor l i n++st.tmps) (t:=t) i with h | ⟨j,h1,h2,h3,h4⟩ | ⟨h1,h2⟩;rw [h];exact .any
    ·rw [h4];have I:listed.getD j false=true:=(by obtain ⟨e,f,bl,z⟩:=afterB_iff.1 h2;rw [<- bl];exact g e f z);rcases kdl (l:=l) (c:=c) (p:=fun j=>listed.getD j false) (base:=st.tmps) (t:=t) n with ⟨j',e1,e2,e3,e4⟩ | ⟨e1,e2⟩;rw [e4,uniq e1 (by omega) e3 h3] at ht;exact ht.mono hK fun _ h=>h
     ·exact absurd h3 (e1 j (by omega) I)
    ·rw [h2];rcases kuq (l:=l) (i:=i) (base:=st.tmps) (t:=t) n with h | ⟨k1,k2⟩;rw [h];exact .any
     ·rw [k2];rcases kdl (l:=l) (c:=c) (p:=fun j=>listed.getD j false) (base:=st.tmps) (t:=t) n with ⟨j',e1,e2,e3,e4⟩ | ⟨e1,e2⟩
      ·exfalso;rcases k1 j' e1 e3 with h | h
       ·rcases qbe j' i with h' | h';exact h1 j' h' e3
        ·obtain rfl:j'=i:=(by omega);rw [ah] at e2;cases e2
       ·exact M j' e2 h
      ·rw [e2] at ht;exact ht.mono hK fun _ h=>h
   have fact:=x i o (qz _) D X
   -- what a value in the slot leaves
   have next:∀ (kD':Nat) (ψ':Env) (S':Nat->Prop) (v:Value) (w':World),kD'<=n->(∀ e,e∈es->((listed.setIfInBounds i true).getD e false=true↔e<kD'))->(∀ e,pn=some e->e≠i)->Fr F w w' ->
     Core F S0 N0 (H kD').1 (H kD').2 ψ' S' w'->RV ψ' (·∈(H kD').2) S' w' v (c i)->(∀ t,RV ψ' (·∈(H kD').2) S' w' (a.tmps.getD t undef) ((stZ l n st c H listed kD).get t)) ->
     wpAny P .any l.toArray (PostA F S0 N0 w0 Q) fuel (listed.setIfInBounds i true) (a.put o.dst v) w':=fun kD' ψ' S' v w' q1 q2 q3 q4 q5 q6 q7=>by
    refine ih _ _ _ ⟨⟨kD',ψ',S',q1,q2,?_⟩,d.fr.trans q4,by simp [d.lsize],?_,?_⟩ (fun k hk=>(ab k hk).elim (fun e=>by omega) (hh k)) ?_
    ·refine ⟨by rw [kz6];exact hs.defers,by rw [kvy];exact hs.size,fun t=>?_,q5⟩;rw [ks1 hs.size a6];have q7:=q7 t;show RV ψ' _ S' w' _ (look .any (kjv (fsOf l c n) (fun j=>(listed.setIfInBounds i true).getD j false) st.tmps) t);have q7:RV ψ' (·∈(H kD').2) S' w' (a.tmps.getD t undef) (look .any (kjv (fsOf l c n) (fun j=>listed.getD j false) st.tmps) t):=q7;have uniq:∀ {j j':Nat},j<n->j'<n->dstT l j=some t->dstT l j'=some t->j=j':=fun {j j'} h1 h2 h3 h4=>(by unfold dstT at h3 h4;simp only [qk] at h3 h4;obtain ⟨o1,p1,p2⟩:=h3;obtain ⟨o2,p3,p4⟩:=h4;exact ok.uniq j j' o1 o2 t h1 h2 p1 p3 p2 p4);rcases kdl (l:=l) (c:=c) (p:=fun j=>(listed.setIfInBounds i true).getD j false) (base:=st.tmps) (t:=t) n with ⟨j,e1,e2,e3,e4⟩ | ⟨e1,e2⟩
     ·rw [e4];by_cases av:j=i;subst av;rw [ar] at e3;rw [qj e3];exact q6
      ·have I:=(ab j e2).resolve_left av;rw [qg (fun h=>av (uniq e1 D e3 (by rw [ar];exact h)))];rcases kdl (l:=l) (c:=c) (p:=fun j=>listed.getD j false) (base:=st.tmps) (t:=t) n with ⟨j',f1,f2,f3,f4⟩ | ⟨f1,f2⟩;rw [f4,uniq f1 e1 f3 e3] at q7;exact q7
       ·exact absurd e3 (f1 j e1 I)
     ·rw [e2,qg (fun h=>e1 i D ac (by rw [ar];exact h))];rcases kdl (l:=l) (c:=c) (p:=fun j=>listed.getD j false) (base:=st.tmps) (t:=t) n with ⟨j',f1,f2,f3,f4⟩ | ⟨f1,f2⟩;exact absurd f3 (e1 j' f1 (getD_set_true f2))
      ·rw [f2] at q7;exact q7
    ·intro k p hk hp e f ag;rcases ab k hk with rfl | bm;rw [X] at hp;obtain rfl:=qq hp;exact getD_set_true (g e f ag)
     ·exact getD_set_true (d.closed k p bm hp e f ag)
    intro e f;rw [getD_set_ne false (Ne.symm (q3 e f))];exact d.nopan e f
    ·have:=kvv (m:=l.length) B h0 (by rw [d.lsize];exact B);omega
   have ad:∀ e,e∈es->i∉es->((listed.setIfInBounds i true).getD e false=true↔e<kD):=fun e f bn=>(by have hne:i≠e:=fun h=>bn (h ▸ f);rw [getD_set_ne false hne];exact hk e f);unfold wpOp;simp only [ho];rcases fact with ⟨_,e,f,_,ha⟩ | ⟨A,aw,hN,al⟩ | ⟨A,ax,bo,bp⟩ | ⟨A,ax,_,hg,pv,bw,ids',O,hq⟩;have:=d.nopan e f;rw [E e ha] at this;cases this
   ·have a8:∀ e,pn=some e->e≠i:=fun e f Y=>by
     subst Y;have bq:=aa e f;have a9:e∈es:=by
      have ba:e<l.length:=(by have:=ok.len;omega);rcases x e l[e] (qz _) bq (qc ba) with ⟨_,e',ay,h1,_⟩ | ⟨h1,h2,h3⟩ | ⟨h1,_⟩ | ⟨h1,_⟩;rw [f] at ay;injection ay with ay;omega;exact (ao e f);exact h1
      ·exact h1
     exact A a9
    -- one that changes nothing
    have am:∀ id,id∈(H kD).2->id∈(kjr l n es ch ai st i o (fsOf l c i) (H i).1 (H i).2).ids:=fun id=>by
     show _->id∈(bif phB l es i then (H i).2 else ai);cases hp:phB l es i with
     | true=>simp only [qf];rw [r hp];exact fun h=>h
     | false=>simp only [qd];exact (J (fun h=>by rw [h i D] at hp;cases hp) kD C).1 id
    have az:∀ {v:Value} {S':Nat->Prop} {w':World},RV ψ (·∈(kjr l n es ch ai st i o (fsOf l c i) (H i).1 (H i).2).ids) S' w' v (c i)->RV ψ (·∈(H kD).2) S' w' v (c i):=fun {v S' w'} hv=>by
     cases hp:phB l es i with
     | true=>
      have f:(kjr l n es ch ai st i o (fsOf l c i) (H i).1 (H i).2).ids=(H kD).2:=(by show (bif phB l es i then (H i).2 else ai)=_;rw [hp,qf,r hp]);rw [f] at hv;exact hv
     | false=>
      rw [hp,Bool.false_or] at al;exact (hv.subA al).mono (J (fun h=>by rw [h i D] at hp;cases hp) kD C).2 fun _ h=>h
    have a1:∀ t,RV ψ (·∈(kjr l n es ch ai st i o (fsOf l c i) (H i).1 (H i).2).ids) S w (a.tmps.getD t undef) ((kjr l n es ch ai st i o (fsOf l c i) (H i).1 (H i).2).get t):=N _ am;have br:∀ id ob,kab (kjr l n es ch ai st i o (fsOf l c i) (H i).1 (H i).2).heap id=some ob->ObR ψ (·∈(kjr l n es ch ai st i o (fsOf l c i) (H i).1 (H i).2).ids) S w id ob:=fun id ob L=>by
     have bb:kab (H kD).1 id=some ob:=by
      have L:kab (bif phB l es i then (H i).1 else kud ch st.heap) id=some ob:=L;cases hp:phB l es i with
      | true=>rw [hp] at L;simp only [qf] at L;rw [r hp] at L;exact L
      | false=>
       rw [hp] at L;obtain ⟨g1,g2⟩:=kx0 L;exact V (fun h=>by rw [h i D] at hp;cases hp) kD C id g1 ob g2
     obtain ⟨g1,g2,g3⟩:=hs.core.obj id ob bb;exact g2.keep Ext.refl am (fun _ h=>h) (fun _ _ _=>rfl) ⟨rfl,rfl⟩ (fun _ _=>rfl)
    rcases hN with ⟨hg,hN⟩ | ⟨hg,hN⟩
    ·have hw:=knt (st:=kjr l n es ch ai st i o (fsOf l c i) (H i).1 (H i).2) a1 hg;rw [qj hw];refine .inl (kmi ?_ (hN ψ S a w a1 br));rintro v w' ⟨g1,g2⟩;refine next kD ψ (fun b=>(S b\/w.heap.size<=b)/\b<w'.heap.size) v w' C (fun e f=>ad e f A) a8 (Fr.of_grow hs.core.fr g1) (hs.core.grow g1) ?_ fun t=>?_;exact (az g2).bound.mono (fun _ h=>h) fun _ h=>h
     ·exact (hs.tmps t).keep Ext.refl (fun _ h=>h) (fun b z=>⟨.inl z,qbp (hs.core.lt b z) g1.size⟩) (Same.of_grow g1)
    ·have hw:=knt (st:=kjr l n es ch ai st i o (fsOf l c i) (H i).1 (H i).2) a1 hg;rw [qg (by rw [hw];exact Bool.false_ne_true)];exact next kD ψ S undef w C (fun e f=>ad e f A) a8 Fr.refl hs.core (by rw [hN];exact .fz RF.undef) fun t=>hs.tmps t
   ·-- one of the chain
    have hp:=(R i A).2;have G:=r hp;have Z:Sim F S0 N0 (kjr l n es ch ai st i o (fsOf l c i) (H i).1 (H i).2) ψ S a w:=by
     refine ⟨hs.defers,hs.size,fun t=>?_,?_⟩;show RV ψ (·∈(bif phB l es i then (H i).2 else ai)) S w _ _;rw [hp];simp only [qf];rw [G];have:=N (·∈(H kD).2) (fun _ h=>h) t;rw [<- G] at this ⊢;exact this
     ·show Core F S0 N0 (bif phB l es i then (H i).1 else kud ch st.heap) (bif phB l es i then (H i).2 else ai) ψ S w;rw [hp];simp only [qf];rw [G];exact hs.core
    have bs:(kjr l n es ch ai st i o (fsOf l c i) (H i).1 (H i).2).ids=(H kD).2:=(by show (bif phB l es i then (H i).2 else ai)=_;rw [hp,qf,G]);have ae:∀ e,e∈es->((listed.setIfInBounds i true).getD e false=true↔e<i+1):=fun e f=>by
     have h3:=hk e f;obtain ⟨h1,h2⟩:=a3 i hp e f;by_cases Y:i=e;subst Y;rw [ac];simp
     ·rw [getD_set_ne false Y,h3];constructor
      ·intro s;rcases qbe e i with h | h;omega
       ·exact (M e (h3.2 s) (h2 (by omega))).elim
      ·intro s;exact h3.1 (E e (h1 (by omega)))
    rcases bo with ⟨hg,O⟩ | ⟨hg,bt,hh,bu⟩;have hw:=kks Z hg;rw [qj hw];refine .inl (kmi ?_ (O F S0 N0 ψ S a w Z));rintro v w' ⟨ψ',S',g1,g2,g3,g4,g5,g6,g7⟩;rw [bs] at g4 g5;exact next (i+1) ψ' S' v w' (by omega) ae (fun e f Y=>by have:=ax e f;omega) g3 g1 g2 fun t=>(hs.tmps t).keep g4 g5 g6 g7
    ·have hw:=kks Z hg;rw [qg (by rw [hw];exact Bool.false_ne_true)];have aw:H (i+1)=H kD:=(by rw [<- G];exact Prod.ext hh bu);refine next (i+1) ψ S undef w (by omega) ae (fun e f Y=>by have:=ax e f;omega) Fr.refl ?_ ?_ fun t=>?_;rw [aw];exact hs.core;rw [bt];exact .fz RF.undef
     ·rw [aw];exact hs.tmps t
   ·-- one that panics
    have hp:=(R i A).2;have G:=r hp;have Z:Sim F S0 N0 (kjr l n es ch ai st i o (fsOf l c i) (H i).1 (H i).2) ψ S a w:=by
     refine ⟨hs.defers,hs.size,fun t=>?_,?_⟩;show RV ψ (·∈(bif phB l es i then (H i).2 else ai)) S w _ _;rw [hp];simp only [qf];rw [G];have:=N (·∈(H kD).2) (fun _ h=>h) t;rw [<- G] at this ⊢;exact this
     ·show Core F S0 N0 (bif phB l es i then (H i).1 else kud ch st.heap) (bif phB l es i then (H i).2 else ai) ψ S w;rw [hp];simp only [qf];rw [G];exact hs.core
    have hw:=kks Z hg;rw [qj hw];refine .inl (O F S0 N0 ψ S a w Z _ _ ?_);rintro w' ⟨ψ',S',g1,g2⟩;exact ⟨_,ψ',S',hq,⟨hs.defers,hs.size,fun t => .any,g1⟩,d.fr.trans g2⟩
end
end Go.Proofs.YtaimpcnpifoidaaGreatDoor
