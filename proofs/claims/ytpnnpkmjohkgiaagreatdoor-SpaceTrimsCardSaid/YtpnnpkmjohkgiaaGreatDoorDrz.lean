import Derived.Test.YtpnnpkmjohkgiaaGreatDoorDfr
set_option linter.all false
namespace Go.Proofs.YtpnnpkmjohkgiaaGreatDoor
open Go Go.RowKit
def anc (l:List Oper) (i j:Nat):Bool:=((kmg l).getD i 0).testBit j
def dstT (l:List Oper) (j:Nat):Option Nat:=(l[j]?).bind (·.dst)
def phB (l:List Oper) (es:List Nat) (i:Nat):Bool:=es.all fun e=>bif Nat.blt e i then anc l i e else (bif Nat.blt i e then anc l e i else true)
def kl6 (l:List Oper) (n:Nat) (es:List Nat):Bool:=es.all fun e=>Nat.blt e n && phB l es e
def ke5 (ch:List Nat):List (Nat×AObj)->List (Nat×AObj)
 | []=>[]
 | (k,v)::l=>bif ch.contains k then ke5 ch l else (k,v)::ke5 ch l
def kdu (l:List Oper) (i:Nat):Nat->List (Nat×AV)
 | 0=>[]
 | j+1=>match dstT l j with
  | some d=>bif Nat.ble j i || anc l j i then kdu l i j else (d, .any)::kdu l i j
  | none=>kdu l i j
def kbb (l:List Oper) (n:Nat) (es ch ai:List Nat) (st:St) (i:Nat) (o:Oper) (fs:List (Nat×Option Nat×AV)) (hp:List (Nat×AObj)) (ids:List Nat):St:=
 { st with tmps:=hadd fs (kcz o) (kdu l i n++st.tmps),heap:=bif phB l es i then hp else ke5 ch st.heap,ids:=bif phB l es i then ids else ai }
def pnE (v:Value):PanicEntry:={ v:=v,recovered:=false }
def k1v (P:Program) (o:Oper) (st:St) (v:Value) (b:List (Nat×AObj)) (ids':List Nat):Prop:=
 ∀ F S0 N0 ψ S a w,Sim F S0 N0 st ψ S a w->∀ (next:Act->World->Prop) (Q:Exit->Act->World->Prop),
  (∀ w',(∃ ψ' S',Core F S0 N0 b ids' ψ' S' w'/\Fr F w w')->Q (.panic [pnE v]) a w')->o.wp P a w next Q
def kil (P:Program) (os:Array Oper) (v:St) (o:Oper) (c:AV):Prop:=(ka8 os v o=some true/\NStep P o v c)\/(ka8 os v o=some false/\c = .fz (.tup []))
def kl0 (P:Program) (os:Array Oper) (l:List Oper) (n:Nat) (es ch ai:List Nat) (st v:St) (o:Oper) (c:AV) (hp:List (Nat×AObj)) (ids:List Nat) (a:List (Nat×AObj)) (ids':List Nat):Prop:=
 ((ka8 os v o=some true/\StepA P o v c a ids')\/(ka8 os v o=some false/\c = .fz (.tup [])/\a=hp/\ids'=ids))/\((∀ i,i<n->phB l es i=true)\/((∀ id,id∉ch->∀ ob,kab hp id=some ob->kab a id=some ob)/\(∀ id,id∈ids'->id∈ai)/\∀ id,id∈ids->id∈ids'))
def kxh (P:Program) (os:Array Oper) (Q:Exit->St->Prop) (st v:St) (o:Oper):Prop:=
 ka8 os v o=some true/\∃ pv a ids',k1v P o v pv a ids'/\Q (.panic [pnE pv]) { st with tmps:=[],heap:=a,ids:=ids' }
def kh0 (P:Program) (os:Array Oper) (n:Nat) (es ch ai:List Nat) (Q:Exit->St->Prop) (st:St):Nat->Nat->List Oper->List (Nat×Option Nat×AV)->List (Nat×AObj)->List Nat->Option Nat->Prop
 | 0,_,l,fs,hp,ids,none=>awpL P os l { st with tmps:=hadd fs (fun _=>true) st.tmps,heap:=hp,ids:=ids } Q
 | 0,_,_,_,_,_,some _=>True
 | k+1,i,o::l,fs,hp,ids,pn=>
  (∃ e,pn=some e/\anc os.toList i e=true/\kh0 P os n es ch ai Q st k (i+1) l ((i,o.dst, .any)::fs) hp ids pn) \/
  (es.contains i=false/\∃ c,kil P os (kbb os.toList n es ch ai st i o fs hp ids) o c/\(phB os.toList es i || okA st.ids c)=true/\kh0 P os n es ch ai Q st k (i+1) l ((i,o.dst,c)::fs) hp ids pn) \/
  (es.contains i=true/\pn=none/\∃ c a ids',kl0 P os os.toList n es ch ai st (kbb os.toList n es ch ai st i o fs hp ids) o c hp ids a ids'/\kh0 P os n es ch ai Q st k (i+1) l ((i,o.dst,c)::fs) a ids' none) \/
  (es.contains i=true/\pn=none/\kxh P os Q st (kbb os.toList n es ch ai st i o fs hp ids) o/\kh0 P os n es ch ai Q st k (i+1) l ((i,o.dst, .any)::fs) hp ids (some i))
 | _+1,_,[],_,_,_,_=>False
section
variable {P:Program} {F S0:Nat->Prop} {N0:Nat} {w w':World} {S S':Nat->Prop} {ψ ψ':Env} {Q:Exit->St->Prop} {st:St} {os:Array Oper} {n:Nat} {es ch ai:List Nat}
def fsOf (l:List Oper) (c:Nat->AV):Nat->List (Nat×Option Nat×AV)
 | 0=>[]
 | k+1=>(k,dstT l k,c k)::fsOf l c k
theorem kcq {l:List Oper} {c c':Nat->AV}:∀ {k:Nat},(∀ j,j<k->c j=c' j)->fsOf l c k=fsOf l c' k
 | 0,_=>rfl
 | k+1,h=>by simp only [fsOf,h k (by omega),kcq (k:=k) fun j a=>h j (by omega)]
def FactZ (P:Program) (os:Array Oper) (n:Nat) (es ch ai:List Nat) (Q:Exit->St->Prop) (st:St) (c:Nat->AV) (H:Nat->List (Nat×AObj)×List Nat) (pn:Option Nat) (i:Nat) (o:Oper):Prop:=
 (H (i+1)=H i/\∃ e,pn=some e/\e<i/\anc os.toList i e=true) \/
 (i∉es/\H (i+1)=H i/\kil P os (kbb os.toList n es ch ai st i o (fsOf os.toList c i) (H i).1 (H i).2) o (c i)/\(phB os.toList es i || okA st.ids (c i))=true) \/
 (i∈es/\(∀ e,pn=some e->i<e)/\kl0 P os os.toList n es ch ai st (kbb os.toList n es ch ai st i o (fsOf os.toList c i) (H i).1 (H i).2) o (c i) (H i).1 (H i).2 (H (i+1)).1 (H (i+1)).2) \/
 (i∈es/\pn=some i/\H (i+1)=H i/\kxh P os Q st (kbb os.toList n es ch ai st i o (fsOf os.toList c i) (H i).1 (H i).2) o)
theorem kfx:∀ (k i:Nat) (l:List Oper) (c0:Nat->AV) (H0:Nat->List (Nat×AObj)×List Nat) (pn0:Option Nat),os.toList.drop i=l->i+k=n->(∀ e,pn0=some e->e<i) ->
  kh0 P os n es ch ai Q st k i l (fsOf os.toList c0 i) (H0 i).1 (H0 i).2 pn0 ->
  ∃ c H pn,(∀ j,j<i->c j=c0 j)/\(∀ j,j<=i->H j=H0 j)/\(∀ e,pn0=some e->pn=some e)/\(∀ e,pn=some e->pn0=some e\/(i<=e/\e<n/\e∈es))/\(∀ j o,i<=j->j<n->os.toList[j]?=some o->FactZ P os n es ch ai Q st c H pn j o) /\
   (pn=none->awpL P os (os.toList.drop n) { st with tmps:=hadd (fsOf os.toList c n) (fun _=>true) st.tmps,heap:=(H n).1,ids:=(H n).2 } Q)
 | 0,i,l,c0,H0,pn0,hl,hn,hp,h=>by
  obtain rfl:i=n:=by omega
  refine ⟨c0,H0,pn0,fun _ _=>rfl,fun _ _=>rfl,fun _ h=>h,fun e h => .inl h,fun j o h1 m=>by omega,fun d=>?_⟩;subst d hl;exact h
 | k+1,i,l,c0,H0,pn0,hl,hn,hp,h=>by
  cases l with
  | nil=>exact h.elim
  | cons o l=>
   have f:os.toList[i]?=some o:=(by have:=congrArg (·[0]?) hl;simpa using this);have g:os.toList.drop (i+1)=l:=(by rw [<- List.drop_drop,hl];rfl);have t:dstT os.toList i=o.dst:=(by unfold dstT;rw [f];rfl);have cons:∀ c,(i,o.dst,c)::fsOf os.toList c0 i=fsOf os.toList (fun j=>if j=i then c else c0 j) (i+1):=fun c=>(by simp only [fsOf,t,if_true];rw [kcq (k:=i) (c':=fun j=>if j=i then c else c0 j) fun j p=>by rw [qh (by omega)]]);have u:∀ x:List (Nat×AObj)×List Nat,(fun j=>if j=i+1 then x else H0 j) (i+1)=x:=fun x=>(by simp);rcases h with ⟨e,r,ha,h⟩ | ⟨b,c,hf,s,h⟩ | ⟨b,d,c,q,ids',hf,h⟩ | ⟨b,d,hf,h⟩
   ·rw [cons] at h;obtain ⟨c1,H1,pn1,k1,k2,k3,k3',k4,k5⟩:=kfx k (i+1) l _ (fun j=>if j=i+1 then H0 i else H0 j) pn0 g (by omega) (fun e h=>by have:=hp e h;omega) (by simpa using h);refine ⟨c1,H1,pn1,fun j p=>by rw [k1 j (by omega),qh (by omega)],fun j p=>by rw [k2 j (by omega),qh (by omega)],k3,fun e h=>(k3' e h).imp id (fun h=>⟨by omega,h.2⟩),fun j o' h1 m ho=>?_,k5⟩;by_cases a:j=i;subst a;rw [f] at ho;obtain rfl:=qag ho;exact .inl ⟨by rw [k2 (j+1) (qt _),qq rfl,k2 j (by omega),qh (by omega)],e,k3 e r,hp e r,ha⟩
    ·exact k4 j o' (by omega) m ho
   ·rw [cons] at h;obtain ⟨c1,H1,pn1,k1,k2,k3,k3',k4,k5⟩:=kfx k (i+1) l _ (fun j=>if j=i+1 then H0 i else H0 j) pn0 g (by omega) (fun e h=>by have:=hp e h;omega) (by simpa using h);have e1:∀ j,j<i->c1 j=c0 j:=fun j p=>(by rw [k1 j (by omega),qh (by omega)]);have e2:c1 i=c:=(by rw [k1 i (by omega),qq rfl]);have e3:H1 i=H0 i:=(by rw [k2 i (by omega),qh (by omega)]);have e4:H1 (i+1)=H0 i:=(by rw [k2 (i+1) (qt _),qq rfl]);refine ⟨c1,H1,pn1,e1,fun j p=>by rw [k2 j (by omega),qh (by omega)],k3,fun e h=>(k3' e h).imp id (fun h=>⟨by omega,h.2⟩),fun j o' h1 m ho=>?_,k5⟩;by_cases a:j=i;subst a;rw [f] at ho;obtain rfl:=qag ho;refine .inr (.inl ⟨by simpa using b,by rw [e3,e4],?_⟩);rw [kcq e1,e2,e3];exact ⟨hf,s⟩
    ·exact k4 j o' (by omega) m ho
   ·subst d;rw [cons] at h;obtain ⟨c1,H1,pn1,k1,k2,k3,k3',k4,k5⟩:=kfx k (i+1) l _ (fun j=>if j=i+1 then (q,ids') else H0 j) none g (by omega) (fun e h=>by cases h) (by simpa using h);have e1:∀ j,j<i->c1 j=c0 j:=fun j p=>(by rw [k1 j (by omega),qh (by omega)]);have e2:c1 i=c:=(by rw [k1 i (by omega),qq rfl]);have e3:H1 i=H0 i:=(by rw [k2 i (by omega),qh (by omega)]);have e4:H1 (i+1)=(q,ids'):=(by rw [k2 (i+1) (qt _),qq rfl]);refine ⟨c1,H1,pn1,e1,fun j p=>by rw [k2 j (by omega),qh (by omega)],k3,fun e h=>(k3' e h).imp id (fun h=>⟨by omega,h.2⟩),fun j o' h1 m ho=>?_,k5⟩;by_cases a:j=i
    ·subst a;rw [f] at ho;obtain rfl:=qag ho;refine .inr (.inr (.inl ⟨by simpa using b,fun e r=>?_,?_⟩))
     ·rcases k3' e r with h | h;cases h
      ·omega
     ·rw [kcq e1,e2,e3,e4];exact hf
    ·exact k4 j o' (by omega) m ho
   ·subst d;rw [cons] at h;obtain ⟨c1,H1,pn1,k1,k2,k3,k3',k4,k5⟩:=kfx k (i+1) l _ (fun j=>if j=i+1 then H0 i else H0 j) (some i) g (by omega) (fun e h=>by injection h with h;omega) (by simpa using h);have e1:∀ j,j<i->c1 j=c0 j:=fun j p=>(by rw [k1 j (by omega),qh (by omega)]);have e3:H1 i=H0 i:=(by rw [k2 i (by omega),qh (by omega)]);refine ⟨c1,H1,pn1,e1,fun j p=>by rw [k2 j (by omega),qh (by omega)],(fun e h=>by cases h),fun e h=>?_,fun j o' h1 m ho=>?_,k5⟩
    ·rcases k3' e h with h | h;injection h with h;subst h;exact .inr ⟨by omega,by omega,by simpa using b⟩
     ·exact .inr ⟨by omega,h.2⟩
    by_cases a:j=i;subst a;rw [f] at ho;obtain rfl:=qag ho;refine .inr (.inr (.inr ⟨by simpa using b,k3 j rfl,by rw [k2 (j+1) (qt _),qq rfl,k2 j (by omega),qh (by omega)],?_⟩));rw [kcq e1,e3];exact hf
    ·exact k4 j o' (by omega) m ho
def kcn (fs:List (Nat×Option Nat×AV)) (p:Nat->Bool) (base:List (Nat×AV)):List (Nat×AV):=match fs with
 | []=>base
 | (j,some d,c)::l=>bif p j then (d,c)::kcn l p base else kcn l p base
 | (_,none,_)::l=>kcn l p base
theorem kat {l:List Oper} {c:Nat->AV} {p:Nat->Bool} {base:List (Nat×AV)} {t:Nat}:∀ k,(∃ j,j<k/\p j=true/\dstT l j=some t/\look .any (kcn (fsOf l c k) p base) t=c j) \/
  ((∀ j,j<k->p j=true->dstT l j≠some t)/\look .any (kcn (fsOf l c k) p base) t=look .any base t)
 | 0 => .inr ⟨fun j h=>by omega,rfl⟩
 | k+1=>by
  have ih:=kat (l:=l) (c:=c) (p:=p) (base:=base) (t:=t) k;simp only [fsOf];cases m:dstT l k with
  | none=>
   simp only [kcn];rcases ih with ⟨j,h1,a,g,i⟩ | ⟨h1,a⟩;exact .inl ⟨j,by omega,a,g,i⟩
   ·refine .inr ⟨fun j n hp=>?_,a⟩;by_cases b:j=k
    ·subst b;rw [m];exact fun h=>by cases h
    ·exact h1 j (by omega) hp
  | some d=>
   simp only [kcn];cases hp:p k with
   | false=>
    simp only [qg];rcases ih with ⟨j,h1,a,g,i⟩ | ⟨h1,a⟩;exact .inl ⟨j,by omega,a,g,i⟩
    ·refine .inr ⟨fun j n e=>?_,a⟩;by_cases b:j=k;subst b;rw [hp] at e;cases e
     ·exact h1 j (by omega) e
   | true=>
    simp only [qe,ka5];by_cases f:d=t;subst f;exact .inl ⟨k,by omega,hp,m,by rw [qq rfl]⟩
    ·rw [qh f];rcases ih with ⟨j,h1,a,g,i⟩ | ⟨h1,a⟩;exact .inl ⟨j,by omega,a,g,i⟩
     ·refine .inr ⟨fun j n e=>?_,a⟩;by_cases b:j=k;subst b;rw [m];exact fun h=>f (qag h)
      ·exact h1 j (by omega) e
theorem kej {l:List Oper} {c:Nat->AV} {p:Nat->Bool} {base:List (Nat×AV)} {t:Nat}:∀ k,(look .any (hadd (fsOf l c k) p base) t = .any)\/(∃ j,j<k/\p j=true/\dstT l j=some t/\look .any (hadd (fsOf l c k) p base) t=c j) \/
  ((∀ j,j<k->dstT l j≠some t)/\look .any (hadd (fsOf l c k) p base) t=look .any base t)
 | 0 => .inr (.inr ⟨fun j h=>by omega,rfl⟩)
 | k+1=>by
  have ih:=kej (l:=l) (c:=c) (p:=p) (base:=base) (t:=t) k;simp only [fsOf];cases f:dstT l k with
  | none=>
   simp only [hadd];rcases ih with h | ⟨j,h1,a,g,i⟩ | ⟨h1,a⟩;exact .inl h;exact .inr (.inl ⟨j,by omega,a,g,i⟩)
   ·refine .inr (.inr ⟨fun j m=>?_,a⟩);by_cases b:j=k
    ·subst b;rw [f];exact fun h=>by cases h
    ·exact h1 j (by omega)
  | some d=>
   simp only [hadd,ka5];by_cases e:d=t
   ·subst e;rw [qq rfl];cases hp:p k with
    | false=>exact .inl rfl
    | true=>exact .inr (.inl ⟨k,by omega,hp,f,rfl⟩)
   ·rw [qh e];rcases ih with h | ⟨j,h1,a,g,i⟩ | ⟨h1,a⟩;exact .inl h;exact .inr (.inl ⟨j,by omega,a,g,i⟩)
    ·refine .inr (.inr ⟨fun j m=>?_,a⟩);by_cases b:j=k;subst b;rw [f];exact fun h=>e (qag h)
     ·exact h1 j (by omega)
theorem kgf {l:List Oper} {i:Nat} {base:List (Nat×AV)} {t:Nat}:∀ k,look .any (kdu l i k++base) t = .any\/((∀ j,j<k->dstT l j=some t->j<=i\/anc l j i=true)/\look .any (kdu l i k++base) t=look .any base t)
 | 0 => .inr ⟨fun j h=>by omega,rfl⟩
 | k+1=>by
  have ih:=kgf (l:=l) (i:=i) (base:=base) (t:=t) k;simp only [kdu];cases g:dstT l k with
  | none=>
   rcases ih with h | ⟨h1,e⟩;exact .inl h
   ·refine .inr ⟨fun j m a=>?_,e⟩;by_cases b:j=k;subst b;rw [g] at a;cases a
    ·exact h1 j (by omega) a
  | some d=>
   cases f:(Nat.ble k i || anc l k i) with
   | true=>
    simp only [f,qe];rcases ih with h | ⟨h1,e⟩;exact .inl h
    ·refine .inr ⟨fun j m a=>?_,e⟩;by_cases b:j=k;subst b;rw [Bool.or_eq_true] at f;exact f.imp (fun h=>qk h) id
     ·exact h1 j (by omega) a
   | false=>
    simp only [f,qg,List.cons_append,ka5];by_cases c:d=t;rw [qq c];exact .inl rfl
    ·rw [qh c];rcases ih with h | ⟨h1,e⟩;exact .inl h
     ·refine .inr ⟨fun j m a=>?_,e⟩;by_cases b:j=k;subst b;rw [g] at a;exact absurd (qag a) c
      ·exact h1 j (by omega) a
theorem khs {ch:List Nat} {id:Nat} {ob:AObj}:∀ {l:List (Nat×AObj)},kab (ke5 ch l) id=some ob->id∉ch/\kab l id=some ob
 | [],h=>by cases h
 | (k,v)::l,h=>by
  simp only [ke5] at h;cases hc:ch.contains k with
  | true=>
   rw [hc] at h;obtain ⟨h1,a⟩:=khs (l:=l) h;refine ⟨h1,?_⟩;rw [kae,qh];exact a
   ·rintro rfl;exact h1 (by simpa using hc)
  | false=>
   rw [hc] at h;simp only [qg,kae] at h;rw [kae];by_cases hk:k=id;subst hk;rw [qq rfl] at h ⊢;exact ⟨by simpa using hc,h⟩
   ·rw [qh hk] at h ⊢;exact khs h
theorem kij {ch:List Nat} {id:Nat} {ob:AObj} (a:id∉ch):∀ {l:List (Nat×AObj)},kab l id=some ob->kab (ke5 ch l) id=some ob
 | [],h=>by cases h
 | (k,v)::l,h=>by
  simp only [ke5];rw [kae] at h;cases hc:ch.contains k with
  | true=>
   simp only [qe];rw [qh (by rintro rfl;exact a (by simpa using hc))] at h;exact kij a h
  | false=>
   simp only [qg,kae];by_cases hk:k=id;rw [qq hk] at h ⊢; exact h
   ·rw [qh hk] at h ⊢; exact kij a h
def ki7 (ch:List Nat):List (Nat×AObj)->List Nat
 | []=>[]
 | (k,_)::l=>bif ch.contains k then ki7 ch l else k::ki7 ch l
theorem kni {ch:List Nat} {id:Nat} {ob:AObj} (a:id∉ch):∀ {l:List (Nat×AObj)},kab l id=some ob->id∈ki7 ch l
 | [],h=>by cases h
 | (k,v)::l,h=>by
  simp only [ki7];rw [kae] at h;by_cases hk:k=id;subst hk;rw [show ch.contains k=false by simpa using a];exact qv ..
  ·rw [qh hk] at h;have:=kni a (l:=l) h;cases ch.contains k with
   | true=>exact this
   | false=>exact qs _ this
theorem k17 {ch:List Nat} {hp a:List (Nat×AObj)} (h:(ki7 ch hp).map (kab a)=(ki7 ch hp).map (kab hp)):∀ id,id∉ch->∀ ob,kab hp id=some ob->kab a id=some ob:=fun id b ob ho=>by rw [List.map_inj_left.1 h id (kni b ho)];exact ho
def stZ (l:List Oper) (n:Nat) (st:St) (c:Nat->AV) (H:Nat->List (Nat×AObj)×List Nat) (listed:Array Bool) (kD:Nat):St:=
 { st with tmps:=kcn (fsOf l c n) (fun j=>listed.getD j false) st.tmps,heap:=(H kD).1,ids:=(H kD).2 }
structure DSt (F S0:Nat->Prop) (N0:Nat) (w0:World) (l:List Oper) (n:Nat) (es:List Nat) (st:St) (c:Nat->AV) (H:Nat->List (Nat×AObj)×List Nat) (pn:Option Nat) (listed:Array Bool) (a:Act) (w:World):Prop where
 inv:∃ kD ψ S,kD<=n/\(∀ e,e∈es->(listed.getD e false=true↔e<kD))/\Sim F S0 N0 (stZ l n st c H listed kD) ψ S a w
 fr:Fr F w0 w
 lsize:listed.size=l.length
 closed:∀ k o,listed.getD k false=true->l[k]?=some o->∀ e∈o.after,Region.binds .any e=true->listed.getD e.on false=true
 nopan:∀ e,pn=some e->listed.getD e false=false
theorem kic {es:List Nat} {H:Nat->List (Nat×AObj)×List Nat} {n:Nat} (g:∀ i,i<n->i∉es->H (i+1)=H i):∀ {a b:Nat},a<=b->b<=n->(∀ e,e∈es->¬ (a<=e/\e<b))->H a=H b
 | a,b,h1,j,f=>by
  induction b with
  | zero=>
    obtain rfl:a=0:=(by omega);rfl
  | succ b ih=>
   by_cases c:a=b+1;rw [c]
   ·rw [g b (by omega) (fun d=>f b d ⟨by omega,by omega⟩)];exact ih (by omega) (by omega) fun e d h=>f e d ⟨h.1,by omega⟩
theorem kym (hm:P.follows .mixedOrders=true) {id:Nat} {l:List Oper} (hB:relB l n st.n=true) (bf:kl6 l n es=true) (bg:st.ids.all ai.contains=true)
  (h:kh0 P l.toArray n es ch ai Q st n 0 l [] st.heap st.ids none):awp P (.region id l.toArray true) st Q:=by
 have ok:=km3 hB;obtain ⟨c,H,pn,_,V,_,ac,y,al⟩:=kfx (os:=l.toArray) n 0 l (fun _ => .any) (fun _=>(st.heap,st.ids)) none rfl (by omega) (fun e h=>by cases h) h;have V:H 0=(st.heap,st.ids):=V 0 (qt _);have a4:=ac;have ac:∀ e,pn=some e->e<n:=fun e f=>by
  rcases ac e f with h | h;cases h
  ·exact h.2.1
 simp only [List.toList_toArray] at y al
 -- facts about the chain
 have U:∀ e,e∈es->e<n/\phB l es e=true:=fun e f=>by have:=ql.1 bf e f;rw [qn] at this;exact ⟨by simpa [qbd] using this.1,this.2⟩
 have a5:∀ i,phB l es i=true->∀ e,e∈es->(e<i->anc l i e=true)/\(i<e->anc l e i=true):=fun i hi e f=>by
  have:=ql.1 hi e f;refine ⟨fun s=>?_,fun s=>?_⟩;have A:Nat.blt e i=true:=(by simpa [qbd] using s);simpa [A] using this
  ·have A:Nat.blt i e=true:=(by simpa [qbd] using s);have bh:Nat.blt e i=false:=by
    cases hx:Nat.blt e i with
    | false=>rfl
    | true=>
      have:e<i:=(by simpa [qbd] using hx);omega
   simpa [A,bh] using this
 intro F S0 N0 ψ0 Sa a0 w0 q;have hs1:Sim F S0 N0 st ψ0 Sa a0 w0.drew:=⟨q.defers,q.size,fun t=>(q.tmps t).keep Ext.refl (fun _ h=>h) (fun _ h=>h) (fun _ _ _=>rfl),⟨fun id ob ho=>by obtain ⟨e1,e2,e3⟩:=q.core.obj id ob ho;exact ⟨e1,e2.keep Ext.refl (fun _ h=>h) (fun _ h=>h) (fun _ _ _=>rfl) ⟨rfl,rfl⟩ (fun _ _=>rfl),e3⟩,q.core.inj,q.core.lt,q.core.s0,q.core.n0,q.core.fr⟩⟩;refine wp_region_any hm ?_;have ao:∀ i,i<n->i∉es->H (i+1)=H i:=fun i hi B=>by
  have C:i<l.length:=by have:=ok.len;omega
  rcases y i l[i] (qar _) hi (qa C) with ⟨h1,_⟩ | ⟨_,h1,_⟩ | ⟨h1,_⟩ | ⟨h1,_⟩;exact h1;exact h1;exact absurd h1 B
  ·exact absurd h1 B
 have aq:∀ e,pn=some e->e∈es:=fun e f=>by
  rcases a4 e f with h | h;cases h
  ·exact h.2.2
 have u:¬ (∀ i,i<n->phB l es i=true)->∀ j,j<n->(∀ id,id∉ch->∀ ob,kab (H j).1 id=some ob->kab (H (j+1)).1 id=some ob)/\((∀ id,id∈(H j).2->id∈ai)->∀ id,id∈(H (j+1)).2->id∈ai)/\∀ id,id∈(H j).2->id∈(H (j+1)).2:=fun X j hj=>by
  have J:j<l.length:=by have:=ok.len;omega
  rcases y j l[j] (qar _) hj (qa J) with ⟨h1,_⟩ | ⟨_,h1,_⟩ | ⟨_,_,_,h1⟩ | ⟨_,_,h1,_⟩;rw [h1];exact ⟨fun _ _ _ h=>h,fun h=>h,fun _ h=>h⟩;rw [h1];exact ⟨fun _ _ _ h=>h,fun h=>h,fun _ h=>h⟩;obtain ⟨q1,q2,q3⟩:=h1.resolve_left X;exact ⟨q1,fun _=>q2,q3⟩
  ·rw [h1];exact ⟨fun _ _ _ h=>h,fun h=>h,fun _ h=>h⟩
 have Y:¬ (∀ i,i<n->phB l es i=true)->∀ k,k<=n->∀ id,id∉ch->∀ ob,kab st.heap id=some ob->kab (H k).1 id=some ob:=fun X k=>by
  induction k with
  | zero=>intro _ id _ ob h;rw [V];exact h
  | succ k ih=>intro D id a6 ob h;exact (u X k (by omega)).1 id a6 ob (ih (by omega) id a6 ob h)
 have L:¬ (∀ i,i<n->phB l es i=true)->∀ k,k<=n->(∀ id,id∈(H k).2->id∈ai)/\∀ id,id∈st.ids->id∈(H k).2:=fun X k=>by
  induction k with
  | zero=>intro _;rw [V];exact ⟨fun id h=>by simpa using ql.1 bg id h,fun _ h=>h⟩
  | succ k ih=>intro D;obtain ⟨q1,q2⟩:=ih (by omega);exact ⟨(u X k (by omega)).2.1 q1,fun id h=>(u X k (by omega)).2.2 id (q2 id h)⟩
 suffices key:∀ (fuel:Nat) (listed:Array Bool) (a:Act) (w:World),DSt F S0 N0 w0 l n es st c H pn listed a w->(∀ k,listed.getD k false=true->k<n) ->
   ((List.range l.length).countP fun k=>!listed.getD k true)<=fuel->wpAny P .any l.toArray (PostA F S0 N0 w0 Q) fuel listed a w by
  refine key _ _ _ _ ⟨⟨0,ψ0,Sa,qar _,fun e _=>by rw [kd6];simp,?_⟩,Fr.drew,by simp,(fun k o hk=>by rw [kd6] at hk;cases hk),fun e _=>kd6 _ _⟩ (fun k hk=>by rw [kd6] at hk;cases hk) ?_
  ·refine ⟨hs1.defers,hs1.size,fun t=>?_,by show Core F S0 N0 (H 0).1 (H 0).2 _ _ _;rw [V];exact hs1.core⟩;show RV _ (·∈(H 0).2) _ _ _ (look .any (kcn (fsOf l c n) _ st.tmps) t);rw [V];rcases kat (l:=l) (c:=c) (p:=fun j=>(Array.replicate l.toArray.size false).getD j false) (base:=st.tmps) (t:=t) n with ⟨j,_,hj,_⟩ | ⟨_,N⟩;rw [kd6] at hj;cases hj
   ·rw [N];exact hs1.tmps t
  ·refine qat (List.countP_le_length ..) ?_;simp
 intro fuel
 -- the end of the bz
 have fin:∀ (listed:Array Bool) (a:Act) (w:World),DSt F S0 N0 w0 l n es st c H pn listed a w->(∀ i,i<n->listed.getD i false=true)->wpList P l.toArray (PostA F S0 N0 w0 Q) (l.drop n) a w:=by
  intro listed a w d g;have ar:pn=none:=by
   cases hp:pn with
   | none=>rfl
   | some e=>
    have:=d.nopan e hp;rw [g e (ac e hp)] at this;cases this
  obtain ⟨kD,ψ,S,D,hk,hs⟩:=d.inv;have a7:H kD=H n:=kic (es:=es) (n:=n) ao D (qt _) fun e f h=>by have:=(hk e f).1 (g e h.2);omega
  have bi:Sim F S0 N0 { st with tmps:=hadd (fsOf l c n) (fun _=>true) st.tmps,heap:=(H n).1,ids:=(H n).2 } ψ S a w:=by
   refine ⟨hs.defers,hs.size,fun t=>?_,by rw [<- a7];exact hs.core⟩;have ht:=hs.tmps t;rw [<- a7];show RV _ _ _ _ _ (look .any (hadd (fsOf l c n) (fun _=>true) st.tmps) t);have ht:RV ψ (·∈(H kD).2) S w (a.tmps.getD t undef) (look .any (kcn (fsOf l c n) (fun j=>listed.getD j false) st.tmps) t):=ht;rcases kej (l:=l) (c:=c) (p:=fun _=>true) (base:=st.tmps) (t:=t) n with h | ⟨j,h1,_,x,h4⟩ | ⟨h1,N⟩;rw [h];exact .any
   ·rw [h4];rcases kat (l:=l) (c:=c) (p:=fun j=>listed.getD j false) (base:=st.tmps) (t:=t) n with ⟨j',e1,e2,e3,e4⟩ | ⟨e1,e2⟩;rw [e4] at ht;have bj:j'=j:=(by unfold dstT at x e3;simp only [qi] at x e3;obtain ⟨o1,p1,p2⟩:=x;obtain ⟨o2,q1,q2⟩:=e3;exact ok.uniq j' j o2 o1 t e1 h1 q1 p1 q2 p2);rw [bj] at ht;exact ht
    ·exact absurd x (e1 j h1 (g j h1))
   ·rw [N];rcases kat (l:=l) (c:=c) (p:=fun j=>listed.getD j false) (base:=st.tmps) (t:=t) n with ⟨j',e1,e2,e3,e4⟩ | ⟨e1,e2⟩;exact absurd e3 (h1 j' e1)
    ·rw [e2] at ht;exact ht
  exact kbu (fun e a' w' k=>k.pre d.fr) _ _ _ (al ar F S0 N0 ψ S a w bi)
 induction fuel with
 | zero=>
  intro listed a w d hh hc;have g:∀ i,i<l.length->listed.getD i false=true:=fun i hi=>by have h0:((List.range l.length).countP fun k=>!listed.getD k true)=0:=(by omega);rw [List.countP_eq_zero] at h0;have:=h0 i (by simpa using hi);simp [d.lsize,hi] at this ⊢;exact this
  have hn:n=l.length:=by
   have:=ok.len;rcases qau n l.length with h' | h';have:=hh n (g _ h');omega
   ·omega
  have H:=fin listed a w d fun i hi=>g i (by omega);rw [hn] at H;exact ke3 ok 0 l.length listed a w (by omega) (qt _) d.lsize (fun i hi=>⟨fun _=>hi,fun _=>by have:=g i hi;simp [d.lsize,hi] at this ⊢;exact this⟩) (by omega) H
 | succ fuel ih=>
  intro listed a w d hh hc;by_cases z:∀ i,i<n->listed.getD i false=true
  ·refine ke3 ok (fuel+1) n listed a w (qt _) ok.len d.lsize (fun i hi=>⟨fun hl=>hh i (by
    simp [d.lsize,hi] at hl ⊢;exact hl),fun E=>by
    have:=z i E;simp [d.lsize,hi] at this ⊢;exact this⟩) ?_ (fin listed a w d z)
   refine qat ?_ hc;rw [show l.length=n+(l.length - n) by have:=ok.len;omega,List.range_add,List.countP_append];have:((List.range (l.length - n)).map (n+·)).countP (fun k=>!listed.getD k true)=l.length - n:=(by rw [List.countP_eq_length.2,qaj,List.length_range];intro k hk;simp only [qaf,List.mem_range] at hk;obtain ⟨m,hm,rfl⟩:=hk;have s:n+m<l.length:=(by omega);have:listed.getD (n+m) false≠true:=fun h=>(by have:=hh _ h;omega);simp [d.lsize,s] at this ⊢;exact this);omega
  ·have au:Region.ready .any l.toArray listed≠[]:=by
    have bk:∃ i,i<n/\listed.getD i false=false/\∀ j,j<i->listed.getD j false=true:=by
     have:∃ i,i<n/\listed.getD i false=false:=(by simp only [Classical.not_forall] at z;obtain ⟨i,hi,A⟩:=z;exact ⟨i,hi,by simpa using A⟩);obtain ⟨i,hi,A⟩:=this
     induction i using Nat.strongRecOn with
     | _ i ihi=>
      by_cases g:∀ j,j<i->listed.getD j false=true;exact ⟨i,hi,A,g⟩
      ·simp only [Classical.not_forall] at g;obtain ⟨j,hj,bl⟩:=g;exact ihi j hj (by omega) (by simpa using bl)
    obtain ⟨i,hi,A,g⟩:=bk;have C:i<l.length:=(by have:=ok.len;omega);have:i∈Region.ready .any l.toArray listed:=mem_ready.2 ⟨by simp [d.lsize,C] at A ⊢;exact A,l[i],by simp [C],fun e f ah=>g _ (ok.edges i _ (qa C) e f ah)⟩;intro h0;rw [h0] at this;cases this
   refine ⟨fun h0=>absurd h0 au,fun i hi=>?_⟩;obtain ⟨h0,o,ho,g⟩:=mem_ready.1 hi;have Z:l[i]?=some o:=(by simpa using ho);have C:i<l.length:=(qd.1 Z).1;have aj:=kmo h0;have G:∀ j,anc l i j=true->listed.getD j false=true:=fun j hj=>
    kdp (l:=l) (S:=fun j=>listed.getD j false=true) (fun m p hm hp e f A=>d.closed m p hm hp e f A) i o Z g j hj
   have O:∀ j,listed.getD j false=true->anc l j i=true->False:=fun j hj ha=>(by have J:j<l.length:=(by have:=ks5 hj;rw [d.lsize] at this;exact this);have:=kdp (l:=l) (S:=fun j=>listed.getD j false=true) (fun m p hm hp e f A=>d.closed m p hm hp e f A) j l[j] (qa J) (fun e f A=>d.closed j _ hj (qa J) e f A) i ha;rw [aj] at this;cases this);have E:i<n:=by
    rcases qau i n with h' | h';exact h'
    ·exfalso;apply z;intro j hj;exact G j (ok.tail i j C h' (by omega))
   obtain ⟨kD,ψ,S,D,hk,hs⟩:=d.inv;have av:dstT l i=o.dst:=(by unfold dstT;rw [Z];rfl);have ad:∀ k,(listed.setIfInBounds i true).getD k false=true->k=i\/listed.getD k false=true:=fun k hk=>by
    by_cases a8:i=k;exact .inl a8.symm
    ·rw [getD_set_ne false a8] at hk;exact .inr hk
   have ae:(listed.setIfInBounds i true).getD i false=true:=(by simp [d.lsize,C]);have a9:∀ t,o.dst=some t->t<st.n:=fun t ht=>ok.dst i o t E Z ht
   -- the bm agree with the text's,for what the view bn
   have ak:(∀ e,e∈es->(e<i↔e<kD))->H i=H kD:=fun ba=>by
    rcases Nat.le_total i kD with aw | aw
    ·exact kic (es:=es) (n:=n) ao aw D fun e f h=>by have:=ba e f;omega
    ·exact (kic (es:=es) (n:=n) ao aw (by omega) fun e f h=>by have:=ba e f;omega).symm
   have r:phB l es i=true->H i=H kD:=fun hp=>ak fun e f=>by
    obtain ⟨h1,N⟩:=a5 i hp e f;have x:=hk e f;constructor;intro s;exact x.1 (G e (h1 s))
    ·intro s;rcases Nat.lt_trichotomy e i with h | h | h;exact h;subst h;rw [x.2 s] at aj;cases aj
     ·exact (O e (x.2 s) (N h)).elim
   -- the slots of the view
   have R:∀ (K:Nat->Prop),(∀ id,id∈(H kD).2->K id)->∀ t,RV ψ K S w (a.tmps.getD t undef) (look .any (hadd (fsOf l c i) (kcz o) (kdu l i n++st.tmps)) t):=fun K hK t=>by
    have ht:RV ψ (·∈(H kD).2) S w (a.tmps.getD t undef) (look .any (kcn (fsOf l c n) (fun j=>listed.getD j false) st.tmps) t):=hs.tmps t;have uniq:∀ {j j':Nat},j<n->j'<n->dstT l j=some t->dstT l j'=some t->j=j':=fun {j j'} h1 N x h4=>(by unfold dstT at x h4;simp only [qi] at x h4;obtain ⟨o1,p1,p2⟩:=x;obtain ⟨o2,q1,q2⟩:=h4;exact ok.uniq j j' o1 o2 t h1 N p1 q1 p2 q2);rcases kej (l:=l) (c:=c) (p:=kcz o) (base:=kdu l i n++st.tmps) (t:=t) i with h | ⟨j,h1,N,x,h4⟩ | ⟨h1,N⟩;rw [h];exact .any
    ·rw [h4];have J:listed.getD j false=true:=(by obtain ⟨e,f,bo,A⟩:=afterB_iff.1 N;rw [<- bo];exact g e f A);rcases kat (l:=l) (c:=c) (p:=fun j=>listed.getD j false) (base:=st.tmps) (t:=t) n with ⟨j',e1,e2,e3,e4⟩ | ⟨e1,e2⟩;rw [e4,uniq e1 (by omega) e3 x] at ht;exact ht.mono hK fun _ h=>h
     ·exact absurd x (e1 j (by omega) J)
    ·rw [N];rcases kgf (l:=l) (i:=i) (base:=st.tmps) (t:=t) n with h | ⟨k1,k2⟩;rw [h];exact .any
     ·rw [k2];rcases kat (l:=l) (c:=c) (p:=fun j=>listed.getD j false) (base:=st.tmps) (t:=t) n with ⟨j',e1,e2,e3,e4⟩ | ⟨e1,e2⟩
      ·exfalso;rcases k1 j' e1 e3 with h | h
       ·rcases qau j' i with h' | h';exact h1 j' h' e3
        ·obtain rfl:j'=i:=(by omega);rw [aj] at e2;cases e2
       ·exact O j' e2 h
      ·rw [e2] at ht;exact ht.mono hK fun _ h=>h
   have fact:=y i o (qar _) E Z
   -- what a value in the slot leaves
   have next:∀ (kD':Nat) (ψ':Env) (S':Nat->Prop) (v:Value) (w':World),kD'<=n->(∀ e,e∈es->((listed.setIfInBounds i true).getD e false=true↔e<kD'))->(∀ e,pn=some e->e≠i)->Fr F w w' ->
     Core F S0 N0 (H kD').1 (H kD').2 ψ' S' w'->RV ψ' (·∈(H kD').2) S' w' v (c i)->(∀ t,RV ψ' (·∈(H kD').2) S' w' (a.tmps.getD t undef) ((stZ l n st c H listed kD).get t)) ->
     wpAny P .any l.toArray (PostA F S0 N0 w0 Q) fuel (listed.setIfInBounds i true) (a.put o.dst v) w':=fun kD' ψ' S' v w' q1 q2 q3 q4 q5 q6 q7=>by
    refine ih _ _ _ ⟨⟨kD',ψ',S',q1,q2,?_⟩,d.fr.trans q4,by simp [d.lsize],?_,?_⟩ (fun k hk=>(ad k hk).elim (fun e=>by omega) (hh k)) ?_
    ·refine ⟨by rw [kh3];exact hs.defers,by rw [kla];exact hs.size,fun t=>?_,q5⟩;rw [kha hs.size a9];have q7:=q7 t;show RV ψ' _ S' w' _ (look .any (kcn (fsOf l c n) (fun j=>(listed.setIfInBounds i true).getD j false) st.tmps) t);have q7:RV ψ' (·∈(H kD').2) S' w' (a.tmps.getD t undef) (look .any (kcn (fsOf l c n) (fun j=>listed.getD j false) st.tmps) t):=q7;have uniq:∀ {j j':Nat},j<n->j'<n->dstT l j=some t->dstT l j'=some t->j=j':=fun {j j'} h1 N x h4=>(by unfold dstT at x h4;simp only [qi] at x h4;obtain ⟨o1,p1,p2⟩:=x;obtain ⟨o2,p3,p4⟩:=h4;exact ok.uniq j j' o1 o2 t h1 N p1 p3 p2 p4);rcases kat (l:=l) (c:=c) (p:=fun j=>(listed.setIfInBounds i true).getD j false) (base:=st.tmps) (t:=t) n with ⟨j,e1,e2,e3,e4⟩ | ⟨e1,e2⟩
     ·rw [e4];by_cases ax:j=i;subst ax;rw [av] at e3;rw [qq e3];exact q6
      ·have J:=(ad j e2).resolve_left ax;rw [qh (fun h=>ax (uniq e1 E e3 (by rw [av];exact h)))];rcases kat (l:=l) (c:=c) (p:=fun j=>listed.getD j false) (base:=st.tmps) (t:=t) n with ⟨j',f1,f2,f3,f4⟩ | ⟨f1,f2⟩;rw [f4,uniq f1 e1 f3 e3] at q7;exact q7
       ·exact absurd e3 (f1 j e1 J)
     ·rw [e2,qh (fun h=>e1 i E ae (by rw [av];exact h))];rcases kat (l:=l) (c:=c) (p:=fun j=>listed.getD j false) (base:=st.tmps) (t:=t) n with ⟨j',f1,f2,f3,f4⟩ | ⟨f1,f2⟩;exact absurd f3 (e1 j' f1 (getD_set_true f2))
      ·rw [f2] at q7;exact q7
    ·intro k p hk hp e f ah;rcases ad k hk with rfl | bp;rw [Z] at hp;obtain rfl:=qag hp;exact getD_set_true (g e f ah)
     ·exact getD_set_true (d.closed k p bp hp e f ah)
    intro e f;rw [getD_set_ne false (Ne.symm (q3 e f))];exact d.nopan e f
    ·have:=kgd (m:=l.length) C h0 (by rw [d.lsize];exact C);omega
   have af:∀ e,e∈es->i∉es->((listed.setIfInBounds i true).getD e false=true↔e<kD):=fun e f bq=>(by have au:i≠e:=fun h=>bq (h ▸ f);rw [getD_set_ne false au];exact hk e f);unfold wpOp;simp only [ho];rcases fact with ⟨_,e,f,_,ha⟩ | ⟨B,ay,hN,am⟩ | ⟨B,az,br,bs⟩ | ⟨B,az,_,hg,pv,b0,ids',T,hq⟩;have:=d.nopan e f;rw [G e ha] at this;cases this
   ·have bb:∀ e,pn=some e->e≠i:=fun e f aa=>by
     subst aa;have bt:=ac e f;have bc:e∈es:=by
      have bd:e<l.length:=(by have:=ok.len;omega);rcases y e l[e] (qar _) bt (qa bd) with ⟨_,e',a1,h1,_⟩ | ⟨h1,N,x⟩ | ⟨h1,_⟩ | ⟨h1,_⟩;rw [f] at a1;injection a1 with a1;omega;exact (aq e f);exact h1
      ·exact h1
     exact B bc
    -- one that changes nothing
    have an:∀ id,id∈(H kD).2->id∈(kbb l n es ch ai st i o (fsOf l c i) (H i).1 (H i).2).ids:=fun id=>by
     show _->id∈(bif phB l es i then (H i).2 else ai);cases hp:phB l es i with
     | true=>simp only [qe];rw [r hp];exact fun h=>h
     | false=>simp only [qg];exact (L (fun h=>by rw [h i E] at hp;cases hp) kD D).1 id
    have a2:∀ {v:Value} {S':Nat->Prop} {w':World},RV ψ (·∈(kbb l n es ch ai st i o (fsOf l c i) (H i).1 (H i).2).ids) S' w' v (c i)->RV ψ (·∈(H kD).2) S' w' v (c i):=fun {v S' w'} hv=>by
     cases hp:phB l es i with
     | true=>
      have f:(kbb l n es ch ai st i o (fsOf l c i) (H i).1 (H i).2).ids=(H kD).2:=(by show (bif phB l es i then (H i).2 else ai)=_;rw [hp,qe,r hp]);rw [f] at hv;exact hv
     | false=>
      rw [hp,Bool.false_or] at am;exact (hv.subA am).mono (L (fun h=>by rw [h i E] at hp;cases hp) kD D).2 fun _ h=>h
    have a3:∀ t,RV ψ (·∈(kbb l n es ch ai st i o (fsOf l c i) (H i).1 (H i).2).ids) S w (a.tmps.getD t undef) ((kbb l n es ch ai st i o (fsOf l c i) (H i).1 (H i).2).get t):=R _ an;have bu:∀ id ob,kab (kbb l n es ch ai st i o (fsOf l c i) (H i).1 (H i).2).heap id=some ob->ObR ψ (·∈(kbb l n es ch ai st i o (fsOf l c i) (H i).1 (H i).2).ids) S w id ob:=fun id ob M=>by
     have be:kab (H kD).1 id=some ob:=by
      have M:kab (bif phB l es i then (H i).1 else ke5 ch st.heap) id=some ob:=M;cases hp:phB l es i with
      | true=>rw [hp] at M;simp only [qe] at M;rw [r hp] at M;exact M
      | false=>
       rw [hp] at M;obtain ⟨g1,g2⟩:=khs M;exact Y (fun h=>by rw [h i E] at hp;cases hp) kD D id g1 ob g2
     obtain ⟨g1,g2,g3⟩:=hs.core.obj id ob be;exact g2.keep Ext.refl an (fun _ h=>h) (fun _ _ _=>rfl) ⟨rfl,rfl⟩ (fun _ _=>rfl)
    rcases hN with ⟨hg,hN⟩ | ⟨hg,hN⟩
    ·have hw:=kec (st:=kbb l n es ch ai st i o (fsOf l c i) (H i).1 (H i).2) a3 hg;rw [qq hw];refine .inl (kco ?_ (hN ψ S a w a3 bu));rintro v w' ⟨g1,g2⟩;refine next kD ψ (fun b=>(S b\/w.heap.size<=b)/\b<w'.heap.size) v w' D (fun e f=>af e f B) bb (Fr.of_grow hs.core.fr g1) (hs.core.grow g1) ?_ fun t=>?_;exact (a2 g2).bound.mono (fun _ h=>h) fun _ h=>h
     ·exact (hs.tmps t).keep Ext.refl (fun _ h=>h) (fun b A=>⟨.inl A,qa6 (hs.core.lt b A) g1.size⟩) (Same.of_grow g1)
    ·have hw:=kec (st:=kbb l n es ch ai st i o (fsOf l c i) (H i).1 (H i).2) a3 hg;rw [qh (by rw [hw];exact qah)];exact next kD ψ S undef w D (fun e f=>af e f B) bb Fr.refl hs.core (by rw [hN];exact .fz RF.undef) fun t=>hs.tmps t
   ·-- one of the chain
    have hp:=(U i B).2;have I:=r hp;have ab:Sim F S0 N0 (kbb l n es ch ai st i o (fsOf l c i) (H i).1 (H i).2) ψ S a w:=by
     refine ⟨hs.defers,hs.size,fun t=>?_,?_⟩;show RV ψ (·∈(bif phB l es i then (H i).2 else ai)) S w _ _;rw [hp];simp only [qe];rw [I];have:=R (·∈(H kD).2) (fun _ h=>h) t;rw [<- I] at this ⊢;exact this
     ·show Core F S0 N0 (bif phB l es i then (H i).1 else ke5 ch st.heap) (bif phB l es i then (H i).2 else ai) ψ S w;rw [hp];simp only [qe];rw [I];exact hs.core
    have bv:(kbb l n es ch ai st i o (fsOf l c i) (H i).1 (H i).2).ids=(H kD).2:=(by show (bif phB l es i then (H i).2 else ai)=_;rw [hp,qe,I]);have ag:∀ e,e∈es->((listed.setIfInBounds i true).getD e false=true↔e<i+1):=fun e f=>by
     have x:=hk e f;obtain ⟨h1,N⟩:=a5 i hp e f;by_cases aa:i=e;subst aa;rw [ae];simp
     ·rw [getD_set_ne false aa,x];constructor
      ·intro s;rcases qau e i with h | h;omega
       ·exact (O e (x.2 s) (N (by omega))).elim
      ·intro s;exact x.1 (G e (h1 (by omega)))
    rcases br with ⟨hg,T⟩ | ⟨hg,bw,hh,bx⟩;have hw:=kcw ab hg;rw [qq hw];refine .inl (kco ?_ (T F S0 N0 ψ S a w ab));rintro v w' ⟨ψ',S',g1,g2,g3,g4,g5,g6,g7⟩;rw [bv] at g4 g5;exact next (i+1) ψ' S' v w' (by omega) ag (fun e f aa=>by have:=az e f;omega) g3 g1 g2 fun t=>(hs.tmps t).keep g4 g5 g6 g7
    ·have hw:=kcw ab hg;rw [qh (by rw [hw];exact qah)];have ay:H (i+1)=H kD:=(by rw [<- I];exact Prod.ext hh bx);refine next (i+1) ψ S undef w (by omega) ag (fun e f aa=>by have:=az e f;omega) Fr.refl ?_ ?_ fun t=>?_;rw [ay];exact hs.core;rw [bw];exact .fz RF.undef
     ·rw [ay];exact hs.tmps t
   ·-- one that panics
    have hp:=(U i B).2;have I:=r hp;have ab:Sim F S0 N0 (kbb l n es ch ai st i o (fsOf l c i) (H i).1 (H i).2) ψ S a w:=by
     refine ⟨hs.defers,hs.size,fun t=>?_,?_⟩;show RV ψ (·∈(bif phB l es i then (H i).2 else ai)) S w _ _;rw [hp];simp only [qe];rw [I];have:=R (·∈(H kD).2) (fun _ h=>h) t;rw [<- I] at this ⊢;exact this
     ·show Core F S0 N0 (bif phB l es i then (H i).1 else ke5 ch st.heap) (bif phB l es i then (H i).2 else ai) ψ S w;rw [hp];simp only [qe];rw [I];exact hs.core
    have hw:=kcw ab hg;rw [qq hw];refine .inl (T F S0 N0 ψ S a w ab _ _ ?_);rintro w' ⟨ψ',S',g1,g2⟩;exact ⟨_,ψ',S',hq,⟨hs.defers,hs.size,fun t => .any,g1⟩,d.fr.trans g2⟩
end
end Go.Proofs.YtpnnpkmjohkgiaaGreatDoor
