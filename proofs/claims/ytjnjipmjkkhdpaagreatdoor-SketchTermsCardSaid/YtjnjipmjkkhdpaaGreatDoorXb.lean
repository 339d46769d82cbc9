import Derived.Test.YtjnjipmjkkhdpaaGreatDoorOpr
import Derived.Deep.AppendSrc
set_option linter.all false
set_option linter.unusedSectionVars false
namespace Go.Proofs.YtjnjipmjkkhdpaaGreatDoor
open Go Go.RowKit
variable [Dr]
def anc (l:List Oper) (i j:Nat):Bool:=((kms l).getD i 0).testBit j
def dstT (l:List Oper) (j:Nat):Option Nat:=(l[j]?).bind (·.dst)
def phB (l:List Oper) (es:List Nat) (i:Nat):Bool:=es.all fun e=>bif Nat.blt e i then anc l i e else (bif Nat.blt i e then anc l e i else true)
def kne (l:List Oper) (n:Nat) (es:List Nat):Bool:=es.all fun e=>Nat.blt e n && phB l es e
def klc (ch:List Nat):List (Nat×AObj)->List (Nat×AObj)
 | []=>[]
 | (k,v)::l=>bif ch.contains k then klc ch l else (k,v)::klc ch l
def khx (l:List Oper) (i:Nat):Nat->List (Nat×AV)
 | 0=>[]
 | j+1=>match dstT l j with
  | some d=>bif Nat.ble j i || anc l j i then khx l i j else (d, .any)::khx l i j
  | none=>khx l i j
def kcp (l:List Oper) (n:Nat) (es ch ai:List Nat) (st:St) (i:Nat) (o:Oper) (fs:List (Nat×Option Nat×AV)) (hp:List (Nat×AObj)) (ids:List Nat):St:=
 { st with tmps:=hadd fs (kf9 o) (khx l i n++st.tmps),heap:=bif phB l es i then hp else klc ch st.heap,ids:=bif phB l es i then ids else ai }
def pnE (v:Value):PanicEntry:={ v:=v,recovered:=false }
def krd (P:Program) (os:Array Oper) (v:St) (o:Oper) (c:AV):Prop:=(kbi os v o=some true/\NStep P o v c)\/(kbi os v o=some false/\c = .fz (.tup []))
def kt0 (P:Program) (os:Array Oper) (l:List Oper) (n:Nat) (es ch ai:List Nat) (st v:St) (o:Oper) (c:AV) (hp:List (Nat×AObj)) (ids:List Nat) (a:List (Nat×AObj)) (ids':List Nat):Prop:=
 ((kbi os v o=some true/\StepA P o v c a ids')\/(kbi os v o=some false/\c = .fz (.tup [])/\a=hp/\ids'=ids))/\((∀ i,i<n->phB l es i=true)\/((∀ id,id∉ch->∀ ob,kaa hp id=some ob->kaa a id=some ob)/\(∀ id,id∈ids'->id∈ai)/\∀ id,id∈ids->id∈ids'))
def k7m (_:Program) (_:Array Oper) (_:Exit->St->Prop) (_ _:St) (_:Oper):Prop:=False
def kmu [Rd] (P:Program) (os:Array Oper) (n:Nat) (es ch ai:List Nat) (Q:Exit->St->Prop) (st:St):Nat->Nat->List Oper->List (Nat×Option Nat×AV)->List (Nat×AObj)->List Nat->Option Nat->Prop
 | 0,_,l,fs,hp,ids,none=>awpL P os l { st with tmps:=hadd fs (fun _=>true) st.tmps,heap:=hp,ids:=ids } Q
 | 0,_,_,_,_,_,some _=>True
 | k+1,i,o::l,fs,hp,ids,pn=>
  (∃ e,pn=some e/\anc os.toList i e=true/\kmu P os n es ch ai Q st k (i+1) l ((i,o.dst, .any)::fs) hp ids pn) \/
  (es.contains i=false/\∃ c,krd P os (kcp os.toList n es ch ai st i o fs hp ids) o c/\(phB os.toList es i || okA st.ids c)=true/\kmu P os n es ch ai Q st k (i+1) l ((i,o.dst,c)::fs) hp ids pn) \/
  (es.contains i=true/\pn=none/\∃ c a ids',kt0 P os os.toList n es ch ai st (kcp os.toList n es ch ai st i o fs hp ids) o c hp ids a ids'/\kmu P os n es ch ai Q st k (i+1) l ((i,o.dst,c)::fs) a ids' none) \/
  (es.contains i=true/\pn=none/\k7m P os Q st (kcp os.toList n es ch ai st i o fs hp ids) o/\kmu P os n es ch ai Q st k (i+1) l ((i,o.dst, .any)::fs) hp ids (some i))
 | _+1,_,[],_,_,_,_=>False
variable {P:Program} {F S0:Nat->Prop} {N0:Nat} {w w':World} {S S':Nat->Prop} {ψ ψ':Env} {Q:Exit->St->Prop} {st:St} {os:Array Oper} {n:Nat} {es ch ai:List Nat}
def fsOf (l:List Oper) (c:Nat->AV):Nat->List (Nat×Option Nat×AV)
 | 0=>[]
 | k+1=>(k,dstT l k,c k)::fsOf l c k
theorem kih {l:List Oper} {c c':Nat->AV}:∀ {k:Nat},(∀ j,j<k->c j=c' j)->fsOf l c k=fsOf l c' k
 | 0,_=>rfl
 | k+1,h=>by simp only [fsOf,h k (by omega),kih (k:=k) fun j a=>h j (by omega)]
def FactZ [Rd] (P:Program) (os:Array Oper) (n:Nat) (es ch ai:List Nat) (Q:Exit->St->Prop) (st:St) (c:Nat->AV) (H:Nat->List (Nat×AObj)×List Nat) (pn:Option Nat) (i:Nat) (o:Oper):Prop:=
 (H (i+1)=H i/\∃ e,pn=some e/\e<i/\anc os.toList i e=true) \/
 (i∉es/\H (i+1)=H i/\krd P os (kcp os.toList n es ch ai st i o (fsOf os.toList c i) (H i).1 (H i).2) o (c i)/\(phB os.toList es i || okA st.ids (c i))=true) \/
 (i∈es/\(∀ e,pn=some e->i<e)/\kt0 P os os.toList n es ch ai st (kcp os.toList n es ch ai st i o (fsOf os.toList c i) (H i).1 (H i).2) o (c i) (H i).1 (H i).2 (H (i+1)).1 (H (i+1)).2) \/
 (i∈es/\pn=some i/\H (i+1)=H i/\k7m P os Q st (kcp os.toList n es ch ai st i o (fsOf os.toList c i) (H i).1 (H i).2) o)
theorem kj6 [Rd] {rest:List Oper}:∀ (k i:Nat) (l:List Oper) (c0:Nat->AV) (H0:Nat->List (Nat×AObj)×List Nat) (pn0:Option Nat),os.toList.drop i=l++rest->i+k=n->(∀ e,pn0=some e->e<i) ->
  kmu P os n es ch ai Q st k i l (fsOf os.toList c0 i) (H0 i).1 (H0 i).2 pn0 ->
  ∃ c H pn,(∀ j,j<i->c j=c0 j)/\(∀ j,j<=i->H j=H0 j)/\(∀ e,pn0=some e->pn=some e)/\(∀ e,pn=some e->pn0=some e\/(i<=e/\e<n/\e∈es))/\(∀ j o,i<=j->j<n->os.toList[j]?=some o->FactZ P os n es ch ai Q st c H pn j o) /\
   (pn=none->awpL P os (l.drop k) { st with tmps:=hadd (fsOf os.toList c n) (fun _=>true) st.tmps,heap:=(H n).1,ids:=(H n).2 } Q)
 | 0,i,l,c0,H0,pn0,hl,hn,hp,h=>by
  obtain rfl:i=n:=by omega
  refine ⟨c0,H0,pn0,fun _ _=>rfl,fun _ _=>rfl,fun _ h=>h,fun e h => .inl h,fun j o h1 p=>by omega,fun d=>?_⟩;subst d;exact h
 | k+1,i,l,c0,H0,pn0,hl,hn,hp,h=>by
  cases l with
  | nil=>exact h.elim
  | cons o l=>
   have f:os.toList[i]?=some o:=(by have:=qa2 (·[0]?) hl;simpa using this);have m:os.toList.drop (i+1)=l++rest:=(by rw [<- List.drop_drop,hl];rfl);have hd:dstT os.toList i=o.dst:=(by unfold dstT;rw [f];rfl);have cons:∀ c,(i,o.dst,c)::fsOf os.toList c0 i=fsOf os.toList (fun j=>if j=i then c else c0 j) (i+1):=fun c=>(by simp only [fsOf,hd,if_true];rw [kih (k:=i) (c':=fun j=>if j=i then c else c0 j) fun j q=>by rw [qj (by omega)]]);have v:∀ x:List (Nat×AObj)×List Nat,(fun j=>if j=i+1 then x else H0 j) (i+1)=x:=fun x=>(by simp);rcases h with ⟨e,t,ha,h⟩ | ⟨g,c,r,u,h⟩ | ⟨g,d,c,s,ids',r,h⟩ | ⟨g,d,r,h⟩
   ·rw [cons] at h;obtain ⟨c1,H1,pn1,k1,k2,k3,k3',k4,k5⟩:=kj6 k (i+1) l _ (fun j=>if j=i+1 then H0 i else H0 j) pn0 m (by omega) (fun e h=>by have:=hp e h;omega) (by simpa using h);refine ⟨c1,H1,pn1,fun j q=>by rw [k1 j (by omega),qj (by omega)],fun j q=>by rw [k2 j (by omega),qj (by omega)],k3,fun e h=>(k3' e h).imp id (fun h=>⟨by omega,h.2⟩),fun j o' h1 p a=>?_,k5⟩;by_cases b:j=i;subst b;rw [f] at a;obtain rfl:=qu a;exact .inl ⟨by rw [k2 (j+1) (qv _),qr rfl,k2 j (by omega),qj (by omega)],e,k3 e t,hp e t,ha⟩
    ·exact k4 j o' (by omega) p a
   ·rw [cons] at h;obtain ⟨c1,H1,pn1,k1,k2,k3,k3',k4,k5⟩:=kj6 k (i+1) l _ (fun j=>if j=i+1 then H0 i else H0 j) pn0 m (by omega) (fun e h=>by have:=hp e h;omega) (by simpa using h);have e1:∀ j,j<i->c1 j=c0 j:=fun j q=>(by rw [k1 j (by omega),qj (by omega)]);have e2:c1 i=c:=(by rw [k1 i (by omega),qr rfl]);have e3:H1 i=H0 i:=(by rw [k2 i (by omega),qj (by omega)]);have e4:H1 (i+1)=H0 i:=(by rw [k2 (i+1) (qv _),qr rfl]);refine ⟨c1,H1,pn1,e1,fun j q=>by rw [k2 j (by omega),qj (by omega)],k3,fun e h=>(k3' e h).imp id (fun h=>⟨by omega,h.2⟩),fun j o' h1 p a=>?_,k5⟩;by_cases b:j=i;subst b;rw [f] at a;obtain rfl:=qu a;refine .inr (.inl ⟨by simpa using g,by rw [e3,e4],?_⟩);rw [kih e1,e2,e3];exact ⟨r,u⟩
    ·exact k4 j o' (by omega) p a
   ·subst d;rw [cons] at h;obtain ⟨c1,H1,pn1,k1,k2,k3,k3',k4,k5⟩:=kj6 k (i+1) l _ (fun j=>if j=i+1 then (s,ids') else H0 j) none m (by omega) (fun e h=>by cases h) (by simpa using h);have e1:∀ j,j<i->c1 j=c0 j:=fun j q=>(by rw [k1 j (by omega),qj (by omega)]);have e2:c1 i=c:=(by rw [k1 i (by omega),qr rfl]);have e3:H1 i=H0 i:=(by rw [k2 i (by omega),qj (by omega)]);have e4:H1 (i+1)=(s,ids'):=(by rw [k2 (i+1) (qv _),qr rfl]);refine ⟨c1,H1,pn1,e1,fun j q=>by rw [k2 j (by omega),qj (by omega)],k3,fun e h=>(k3' e h).imp id (fun h=>⟨by omega,h.2⟩),fun j o' h1 p a=>?_,k5⟩;by_cases b:j=i
    ·subst b;rw [f] at a;obtain rfl:=qu a;refine .inr (.inr (.inl ⟨by simpa using g,fun e t=>?_,?_⟩))
     ·rcases k3' e t with h | h;cases h
      ·omega
     ·rw [kih e1,e2,e3,e4];exact r
    ·exact k4 j o' (by omega) p a
   ·exact r.elim
def kio (fs:List (Nat×Option Nat×AV)) (p:Nat->Bool) (base:List (Nat×AV)):List (Nat×AV):=match fs with
 | []=>base
 | (j,some d,c)::l=>bif p j then (d,c)::kio l p base else kio l p base
 | (_,none,_)::l=>kio l p base
theorem ke5 {l:List Oper} {c:Nat->AV} {p:Nat->Bool} {base:List (Nat×AV)} {t:Nat}:∀ k,(∃ j,j<k/\p j=true/\dstT l j=some t/\look .any (kio (fsOf l c k) p base) t=c j) \/
  ((∀ j,j<k->p j=true->dstT l j≠some t)/\look .any (kio (fsOf l c k) p base) t=look .any base t)
 | 0 => .inr ⟨fun j h=>by omega,rfl⟩
 | k+1=>by
  have ih:=ke5 (l:=l) (c:=c) (p:=p) (base:=base) (t:=t) k;simp only [fsOf];cases hd:dstT l k with
  | none=>
   simp only [kio];rcases ih with ⟨j,h1,a,g,i⟩ | ⟨h1,a⟩;exact .inl ⟨j,by omega,a,g,i⟩
   ·refine .inr ⟨fun j m hp=>?_,a⟩;by_cases b:j=k
    ·subst b;rw [hd];exact fun h=>by cases h
    ·exact h1 j (by omega) hp
  | some d=>
   simp only [kio];cases hp:p k with
   | false=>
    simp only [qo];rcases ih with ⟨j,h1,a,g,i⟩ | ⟨h1,a⟩;exact .inl ⟨j,by omega,a,g,i⟩
    ·refine .inr ⟨fun j m e=>?_,a⟩;by_cases b:j=k;subst b;rw [hp] at e;cases e
     ·exact h1 j (by omega) e
   | true=>
    simp only [qg,kaw];by_cases f:d=t;subst f;exact .inl ⟨k,by omega,hp,hd,by rw [qr rfl]⟩
    ·rw [qj f];rcases ih with ⟨j,h1,a,g,i⟩ | ⟨h1,a⟩;exact .inl ⟨j,by omega,a,g,i⟩
     ·refine .inr ⟨fun j m e=>?_,a⟩;by_cases b:j=k;subst b;rw [hd];exact fun h=>f (qu h)
      ·exact h1 j (by omega) e
theorem kpd {l:List Oper} {c:Nat->AV} {p:Nat->Bool} {base:List (Nat×AV)} {t:Nat}:∀ k,(look .any (hadd (fsOf l c k) p base) t = .any)\/(∃ j,j<k/\p j=true/\dstT l j=some t/\look .any (hadd (fsOf l c k) p base) t=c j) \/
  ((∀ j,j<k->dstT l j≠some t)/\look .any (hadd (fsOf l c k) p base) t=look .any base t)
 | 0 => .inr (.inr ⟨fun j h=>by omega,rfl⟩)
 | k+1=>by
  have ih:=kpd (l:=l) (c:=c) (p:=p) (base:=base) (t:=t) k;simp only [fsOf];cases hd:dstT l k with
  | none=>
   simp only [hadd];rcases ih with h | ⟨j,h1,a,f,g⟩ | ⟨h1,a⟩;exact .inl h;exact .inr (.inl ⟨j,by omega,a,f,g⟩)
   ·refine .inr (.inr ⟨fun j i=>?_,a⟩);by_cases b:j=k
    ·subst b;rw [hd];exact fun h=>by cases h
    ·exact h1 j (by omega)
  | some d=>
   simp only [hadd,kaw];by_cases e:d=t
   ·subst e;rw [qr rfl];cases hp:p k with
    | false=>exact .inl rfl
    | true=>exact .inr (.inl ⟨k,by omega,hp,hd,rfl⟩)
   ·rw [qj e];rcases ih with h | ⟨j,h1,a,f,g⟩ | ⟨h1,a⟩;exact .inl h;exact .inr (.inl ⟨j,by omega,a,f,g⟩)
    ·refine .inr (.inr ⟨fun j i=>?_,a⟩);by_cases b:j=k;subst b;rw [hd];exact fun h=>e (qu h)
     ·exact h1 j (by omega)
theorem ksb {l:List Oper} {i:Nat} {base:List (Nat×AV)} {t:Nat}:∀ k,look .any (khx l i k++base) t = .any\/((∀ j,j<k->dstT l j=some t->j<=i\/anc l j i=true)/\look .any (khx l i k++base) t=look .any base t)
 | 0 => .inr ⟨fun j h=>by omega,rfl⟩
 | k+1=>by
  have ih:=ksb (l:=l) (i:=i) (base:=base) (t:=t) k;simp only [khx];cases hd:dstT l k with
  | none=>
   rcases ih with h | ⟨h1,e⟩;exact .inl h
   ·refine .inr ⟨fun j g a=>?_,e⟩;by_cases b:j=k;subst b;rw [hd] at a;cases a
    ·exact h1 j (by omega) a
  | some d=>
   cases f:(Nat.ble k i || anc l k i) with
   | true=>
    simp only [f,qg];rcases ih with h | ⟨h1,e⟩;exact .inl h
    ·refine .inr ⟨fun j g a=>?_,e⟩;by_cases b:j=k;subst b;rw [qbt] at f;exact f.imp (fun h=>qh h) id
     ·exact h1 j (by omega) a
   | false=>
    simp only [f,qo,List.cons_append,kaw];by_cases c:d=t;rw [qr c];exact .inl rfl
    ·rw [qj c];rcases ih with h | ⟨h1,e⟩;exact .inl h
     ·refine .inr ⟨fun j g a=>?_,e⟩;by_cases b:j=k;subst b;rw [hd] at a;exact absurd (qu a) c
      ·exact h1 j (by omega) a
theorem kqq {ch:List Nat} {id:Nat} {ob:AObj}:∀ {l:List (Nat×AObj)},kaa (klc ch l) id=some ob->id∉ch/\kaa l id=some ob
 | [],h=>by cases h
 | (k,v)::l,h=>by
  simp only [klc] at h;cases hc:ch.contains k with
  | true=>
   rw [hc] at h;obtain ⟨h1,a⟩:=kqq (l:=l) h;refine ⟨h1,?_⟩;rw [kab,qj];exact a
   ·rintro rfl;exact h1 (by simpa using hc)
  | false=>
   rw [hc] at h;simp only [qo,kab] at h;rw [kab];by_cases hk:k=id;subst hk;rw [qr rfl] at h ⊢;exact ⟨by simpa using hc,h⟩
   ·rw [qj hk] at h ⊢;exact kqq h
theorem kow {ch:List Nat} {id:Nat} {ob:AObj} (a:id∉ch):∀ {l:List (Nat×AObj)},kaa l id=some ob->kaa (klc ch l) id=some ob
 | [],h=>by cases h
 | (k,v)::l,h=>by
  simp only [klc];rw [kab] at h;cases hc:ch.contains k with
  | true=>
   simp only [qg];rw [qj (by rintro rfl;exact a (by simpa using hc))] at h;exact kow a h
  | false=>
   simp only [qo,kab];by_cases hk:k=id;rw [qr hk] at h ⊢; exact h
   ·rw [qj hk] at h ⊢; exact kow a h
def kp0 (ch:List Nat):List (Nat×AObj)->List Nat
 | []=>[]
 | (k,_)::l=>bif ch.contains k then kp0 ch l else k::kp0 ch l
theorem kv2 {ch:List Nat} {id:Nat} {ob:AObj} (a:id∉ch):∀ {l:List (Nat×AObj)},kaa l id=some ob->id∈kp0 ch l
 | [],h=>by cases h
 | (k,v)::l,h=>by
  simp only [kp0];rw [kab] at h;by_cases hk:k=id;subst hk;rw [show ch.contains k=false by simpa using a];exact qt ..
  ·rw [qj hk] at h;have:=kv2 a (l:=l) h;cases ch.contains k with
   | true=>exact this
   | false=>exact qf _ this
theorem kabq {ch:List Nat} {hp a:List (Nat×AObj)} (h:(kp0 ch hp).map (kaa a)=(kp0 ch hp).map (kaa hp)):∀ id,id∉ch->∀ ob,kaa hp id=some ob->kaa a id=some ob:=fun id b ob c=>by rw [List.map_inj_left.1 h id (kv2 b c)];exact c
def stZ (l:List Oper) (n:Nat) (st:St) (c:Nat->AV) (H:Nat->List (Nat×AObj)×List Nat) (listed:Array Bool) (kD:Nat):St:=
 { st with tmps:=kio (fsOf l c n) (fun j=>listed.getD j false) st.tmps,heap:=(H kD).1,ids:=(H kD).2 }
theorem kyf {es:List Nat} {H:Nat->List (Nat×AObj)×List Nat} {n:Nat} (g:∀ i,i<n->i∉es->H (i+1)=H i):∀ {a b:Nat},a<=b->b<=n->(∀ e,e∈es->¬ (a<=e/\e<b))->H a=H b
 | a,b,h1,j,f=>by
  induction b with
  | zero=>
    obtain rfl:a=0:=(by omega);rfl
  | succ b ih=>
   by_cases c:a=b+1;rw [c]
   ·rw [g b (by omega) (fun d=>f b d ⟨by omega,by omega⟩)];exact ih (by omega) (by omega) fun e d h=>f e d ⟨h.1,by omega⟩
def HistI (ids ids':List Nat) (ψ ψ':Env) (S S':Nat->Prop) (w w':World):Prop:=Ext (·∈ids) ψ ψ'/\(∀ i,i∈ids->i∈ids')/\(∀ b,S b->S' b)/\Same S w w'
theorem HistI.refl {ids:List Nat}:HistI ids ids ψ ψ S S w w:=⟨Ext.refl,fun _ h=>h,fun _ h=>h,fun _ _ _=>rfl⟩
theorem HistI.trans {ids ids' ids2:List Nat} {ψ2:Env} {S2:Nat->Prop} {w2:World} (h:HistI ids ids' ψ ψ' S S' w w') (k:HistI ids' ids2 ψ' ψ2 S' S2 w' w2):HistI ids ids2 ψ ψ2 S S2 w w2:=
 ⟨h.1.trans' k.1 h.2.1,fun i hi=>k.2.1 i (h.2.1 i hi),fun b a=>k.2.2.1 b (h.2.2.1 b a),h.2.2.2.trans' k.2.2.2 h.2.2.1⟩
structure DSx (F S0:Nat->Prop) (N0:Nat) (ψ0:Env) (Sa:Nat->Prop) (w0:World) (l:List Oper) (n:Nat) (es:List Nat) (st:St) (c:Nat->AV) (H:Nat->List (Nat×AObj)×List Nat) (listed:Array Bool) (a:Act) (w:World):Prop where
 inv:∃ kD ψ S,kD<=n/\(∀ e,e∈es->(listed.getD e false=true↔e<kD))/\Sim F S0 N0 (stZ l n st c H listed kD) ψ S a w/\HistI st.ids (H kD).2 ψ0 ψ Sa S w0 w
 fr:Fr F w0 w
 lsize:listed.size=l.length
 closed:∀ k o,listed.getD k false=true->l[k]?=some o->∀ e∈o.after,Region.binds .any e=true->listed.getD e.on false=true
def k71 (P:Program) (l:List Oper) (n:Nat) (es:List Nat) (chi chs:Nat->List Nat) (ai:List Nat) (st:St) (c:Nat->AV) (H:Nat->List (Nat×AObj)×List Nat) (i:Nat) (o:Oper):Prop:=
 (i∉es/\H (i+1)=H i/\krd P l.toArray (kcp l n es (chi i) ai st i o (fsOf l c i) (H i).1 (H i).2) o (c i)/\(phB l es i || okA st.ids (c i))=true) \/
 (i∈es/\kt0 P l.toArray l n es (chs i) ai st (kcp l n es (chi i) ai st i o (fsOf l c i) (H i).1 (H i).2) o (c i) (H i).1 (H i).2 (H (i+1)).1 (H (i+1)).2)
theorem kvs [Rd] (hm:P.follows .mixedOrders=true) {id:Nat} {l:List Oper} {c:Nat->AV} {H:Nat->List (Nat×AObj)×List Nat} (chi chs:Nat->List Nat) (ok:kzp l n st.n) (tail0:∀ k j,k<l.length->n<=k->j<n->((kms l).getD k 0).testBit j=true) (E:Act->World->Prop) (bd:kne l n es=true) (be:st.ids.all ai.contains=true) (X:H 0=(st.heap,st.ids)) (bf:∀ j i,j∈es->i<n->anc l j i=false->∀ id,id∈chs j->id∈chi i) (M:∀ i o,i<n->l[i]?=some o->k71 P l n es chi chs ai st c H i o) {F S0:Nat->Prop} {N0:Nat} {ψ0:Env} {Sa:Nat->Prop} {a0:Act} {w0:World} (q:Sim F S0 N0 st ψ0 Sa a0 w0) (R:Exit->Act->World->Prop) (a4:∀ ψ S a w,Sim F S0 N0 { st with tmps:=hadd (fsOf l c n) (fun _=>true) st.tmps,heap:=(H n).1,ids:=(H n).2 } ψ S a w->Fr F w0 w->HistI st.ids (H n).2 ψ0 ψ Sa S w0 w->E a w) (an:∀ (fuel:Nat) (listed:Array Bool) (a:Act) (w:World),listed.size=l.length->(∀ i,i<l.length->(listed.getD i true=true↔i<n))->l.length - n<=fuel->E a w->kml P .any l.toArray R fuel listed a w):Cwp P (Code.region id l.toArray true) R a0 w0:=by
 -- facts about the chain
 have ag:∀ e,e∈es->e<n/\phB l es e=true:=fun e g=>by have:=qq.1 bd e g;rw [qk] at this;exact ⟨by simpa [Nat.blt_eq] using this.1,this.2⟩
 have a5:∀ i,phB l es i=true->∀ e,e∈es->(e<i->anc l i e=true)/\(i<e->anc l e i=true):=fun i hi e g=>by
  have:=qq.1 hi e g;refine ⟨fun r=>?_,fun r=>?_⟩;have u:Nat.blt e i=true:=(by simpa [Nat.blt_eq] using r);simpa [u] using this
  ·have u:Nat.blt i e=true:=(by simpa [Nat.blt_eq] using r);have bg:Nat.blt e i=false:=by
    cases hx:Nat.blt e i with
    | false=>rfl
    | true=>
      have:e<i:=(by simpa [Nat.blt_eq] using hx);omega
   simpa [u,bg] using this
 have hs1:Sim F S0 N0 st ψ0 Sa a0 w0.drew:=⟨q.defers,q.size,fun t=>(q.tmps t).keep Ext.refl (fun _ h=>h) (fun _ h=>h) (fun _ _ _=>rfl),⟨fun id ob ho=>by obtain ⟨e1,e2,e3⟩:=q.core.obj id ob ho;exact ⟨e1,e2.keep Ext.refl (fun _ h=>h) (fun _ h=>h) (fun _ _ _=>rfl) ⟨rfl,rfl⟩ (fun _ _=>rfl),e3⟩,q.core.inj,q.core.lt,q.core.s0,q.core.n0,q.core.fr⟩⟩;refine kwu hm ?_;have ah:∀ i,i<n->i∉es->H (i+1)=H i:=fun i hi Q=>by
  have A:i<l.length:=by have:=ok.len;omega
  rcases M i l[i] hi (qa A) with ⟨_,h1,_⟩ | ⟨h1,_⟩;exact h1
  ·exact absurd h1 Q
 have s:¬ (∀ i,i<n->phB l es i=true)->∀ j,j<n->(∀ id,id∉chs j->∀ ob,kaa (H j).1 id=some ob->kaa (H (j+1)).1 id=some ob)/\((∀ id,id∈(H j).2->id∈ai)->∀ id,id∈(H (j+1)).2->id∈ai)/\∀ id,id∈(H j).2->id∈(H (j+1)).2:=fun T j L=>by
  have G:j<l.length:=by have:=ok.len;omega
  rcases M j l[j] L (qa G) with ⟨_,h1,_⟩ | ⟨_,_,h1⟩;rw [h1];exact ⟨fun _ _ _ h=>h,fun h=>h,fun _ h=>h⟩
  ·obtain ⟨q1,q2,q3⟩:=h1.resolve_left T;exact ⟨q1,fun _=>q2,q3⟩
 have U:¬ (∀ i,i<n->phB l es i=true)->∀ i,i<n->∀ k,k<=n->(∀ j,j<k->j∈es->anc l j i=false)->∀ id,id∉chi i->∀ ob,kaa st.heap id=some ob->kaa (H k).1 id=some ob:=fun T i bh k=>by
  induction k with
  | zero=>intro _ _ id _ ob h;rw [X];exact h
  | succ k ih=>
   intro B a6 id a7 ob h;have hk:=ih (by omega) (fun j L=>a6 j (by omega)) id a7 ob h;by_cases ar:k∈es;exact (s T k (by omega)).1 id (fun hc=>a7 (bf k i ar bh (a6 k (Nat.lt_succ_self _) ar) id hc)) ob hk
   ·rw [ah k (by omega) ar];exact hk
 have I:¬ (∀ i,i<n->phB l es i=true)->∀ k,k<=n->(∀ id,id∈(H k).2->id∈ai)/\∀ id,id∈st.ids->id∈(H k).2:=fun T k=>by
  induction k with
  | zero=>intro _;rw [X];exact ⟨fun id h=>by simpa using qq.1 be id h,fun _ h=>h⟩
  | succ k ih=>intro B;obtain ⟨q1,q2⟩:=ih (by omega);exact ⟨(s T k (by omega)).2.1 q1,fun id h=>(s T k (by omega)).2.2 id (q2 id h)⟩
 suffices key:∀ (fuel:Nat) (listed:Array Bool) (a:Act) (w:World),DSx F S0 N0 ψ0 Sa w0 l n es st c H listed a w->(∀ k,listed.getD k false=true->k<n) ->
   ((List.range l.length).countP fun k=>!listed.getD k true)<=fuel->kml P .any l.toArray R fuel listed a w by
  refine key _ _ _ _ ⟨⟨0,ψ0,Sa,qaq _,fun e _=>by rw [kto];simp,?_,⟨Ext.refl,fun i h=>by rw [X];exact h,fun _ h=>h,fun _ _ _=>rfl⟩⟩,Fr.drew,by simp,(fun k o hk=>by rw [kto] at hk;cases hk)⟩ (fun k hk=>by rw [kto] at hk;cases hk) ?_
  ·refine ⟨hs1.defers,hs1.size,fun t=>?_,by show Core F S0 N0 (H 0).1 (H 0).2 _ _ _;rw [X];exact hs1.core⟩;show RV _ (·∈(H 0).2) _ _ _ (look .any (kio (fsOf l c n) _ st.tmps) t);rw [X];rcases ke5 (l:=l) (c:=c) (p:=fun j=>(Array.replicate l.toArray.size false).getD j false) (base:=st.tmps) (t:=t) n with ⟨j,_,L,_⟩ | ⟨_,N⟩;rw [kto] at L;cases L
   ·rw [N];exact hs1.tmps t
  ·refine qar (List.countP_le_length ..) ?_;simp
 intro fuel
 -- the end of the bz
 have fin:∀ (listed:Array Bool) (a:Act) (w:World),DSx F S0 N0 ψ0 Sa w0 l n es st c H listed a w->(∀ i,i<n->listed.getD i false=true)->E a w:=by
  intro listed a w d f;obtain ⟨kD,ψ,S,B,hk,hs,Y⟩:=d.inv;have au:H kD=H n:=kyf (es:=es) (n:=n) ah B (qv _) fun e g h=>by have:=(hk e g).1 (f e h.2);omega
  have bi:Sim F S0 N0 { st with tmps:=hadd (fsOf l c n) (fun _=>true) st.tmps,heap:=(H n).1,ids:=(H n).2 } ψ S a w:=by
   refine ⟨hs.defers,hs.size,fun t=>?_,by rw [<- au];exact hs.core⟩;have ht:=hs.tmps t;rw [<- au];show RV _ _ _ _ _ (look .any (hadd (fsOf l c n) (fun _=>true) st.tmps) t);have ht:RV ψ (·∈(H kD).2) S w (a.tmps.getD t undef) (look .any (kio (fsOf l c n) (fun j=>listed.getD j false) st.tmps) t):=ht;rcases kpd (l:=l) (c:=c) (p:=fun _=>true) (base:=st.tmps) (t:=t) n with h | ⟨j,h1,_,y,Z⟩ | ⟨h1,N⟩;rw [h];exact .any
   ·rw [Z];rcases ke5 (l:=l) (c:=c) (p:=fun j=>listed.getD j false) (base:=st.tmps) (t:=t) n with ⟨j',e1,e2,e3,e4⟩ | ⟨e1,e2⟩;rw [e4] at ht;have bj:j'=j:=(by unfold dstT at y e3;simp only [qi] at y e3;obtain ⟨o1,p1,p2⟩:=y;obtain ⟨o2,q1,q2⟩:=e3;exact ok.uniq j' j o2 o1 t e1 h1 q1 p1 q2 p2);rw [bj] at ht;exact ht
    ·exact absurd y (e1 j h1 (f j h1))
   ·rw [N];rcases ke5 (l:=l) (c:=c) (p:=fun j=>listed.getD j false) (base:=st.tmps) (t:=t) n with ⟨j',e1,e2,e3,e4⟩ | ⟨e1,e2⟩;exact absurd e3 (h1 j' e1)
    ·rw [e2] at ht;exact ht
  exact a4 ψ S a w bi d.fr (by rw [<- au];exact Y)
 induction fuel with
 | zero=>
  intro listed a w d hh hc;have f:∀ i,i<l.length->listed.getD i false=true:=fun i hi=>by have h0:((List.range l.length).countP fun k=>!listed.getD k true)=0:=(by omega);rw [List.countP_eq_zero] at h0;have:=h0 i (by simpa using hi);simp [d.lsize,hi] at this ⊢;exact this
  have hn:n=l.length:=by
   have:=ok.len;rcases qa6 n l.length with h' | h';have:=hh n (f _ h');omega
   ·omega
  exact an 0 listed a w d.lsize (fun i hi=>⟨fun _=>by omega,fun _=>by have:=f i hi;simp [d.lsize,hi] at this ⊢;exact this⟩) (by omega) (fin listed a w d fun i hi=>f i (by omega))
 | succ fuel ih=>
  intro listed a w d hh hc;by_cases z:∀ i,i<n->listed.getD i false=true
  ·refine an (fuel+1) listed a w d.lsize (fun i hi=>⟨fun hl=>hh i (by
    simp [d.lsize,hi] at hl ⊢;exact hl),fun C=>by
    have:=z i C;simp [d.lsize,hi] at this ⊢;exact this⟩) ?_ (fin listed a w d z)
   refine qar ?_ hc;rw [show l.length=n+(l.length - n) by have:=ok.len;omega,List.range_add,List.countP_append];have:((List.range (l.length - n)).map (n+·)).countP (fun k=>!listed.getD k true)=l.length - n:=(by rw [List.countP_eq_length.2,qs,List.length_range];intro k hk;simp only [qap,List.mem_range] at hk;obtain ⟨m,hm,rfl⟩:=hk;have r:n+m<l.length:=(by omega);have:listed.getD (n+m) false≠true:=fun h=>(by have:=hh _ h;omega);simp [d.lsize,r] at this ⊢;exact this);omega
  ·have av:Region.ready .any l.toArray listed≠[]:=by
    have bk:∃ i,i<n/\listed.getD i false=false/\∀ j,j<i->listed.getD j false=true:=by
     have:∃ i,i<n/\listed.getD i false=false:=(by simp only [Classical.not_forall] at z;obtain ⟨i,hi,u⟩:=z;exact ⟨i,hi,by simpa using u⟩);obtain ⟨i,hi,u⟩:=this
     induction i using Nat.strongRecOn with
     | _ i ihi=>
      by_cases f:∀ j,j<i->listed.getD j false=true;exact ⟨i,hi,u,f⟩
      ·simp only [Classical.not_forall] at f;obtain ⟨j,L,bl⟩:=f;exact ihi j L (by omega) (by simpa using bl)
    obtain ⟨i,hi,u,f⟩:=bk;have A:i<l.length:=(by have:=ok.len;omega);have:i∈Region.ready .any l.toArray listed:=mem_ready.2 ⟨by simp [d.lsize,A] at u ⊢;exact u,l[i],by simp [A],fun e g aj=>f _ (ok.edges i _ (qa A) e g aj)⟩;intro h0;rw [h0] at this;cases this
   refine ⟨fun h0=>absurd h0 av,fun i hi=>?_⟩;obtain ⟨h0,o,ho,f⟩:=mem_ready.1 hi;have V:l[i]?=some o:=(by simpa using ho);have A:i<l.length:=(qd.1 V).1;have ak:=k8k h0;have O:∀ j,anc l i j=true->listed.getD j false=true:=fun j L=>
    kj7 (l:=l) (S:=fun j=>listed.getD j false=true) (fun m p hm hp e g u=>d.closed m p hm hp e g u) i o V f j L
   have D:∀ j,listed.getD j false=true->anc l j i=true->False:=fun j L ha=>(by have G:j<l.length:=(by have:=gD_lt L;rw [d.lsize] at this;exact this);have:=kj7 (l:=l) (S:=fun j=>listed.getD j false=true) (fun m p hm hp e g u=>d.closed m p hm hp e g u) j l[j] (qa G) (fun e g u=>d.closed j _ L (qa G) e g u) i ha;rw [ak] at this;cases this);have C:i<n:=by
    rcases qa6 i n with h' | h';exact h'
    ·exfalso;apply z;intro j L;exact O j (tail0 i j A h' L)
   obtain ⟨kD,ψ,S,B,hk,hs,Y⟩:=d.inv;have aw:dstT l i=o.dst:=(by unfold dstT;rw [V];rfl);have aa:∀ k,(listed.setIfInBounds i true).getD k false=true->k=i\/listed.getD k false=true:=fun k hk=>by
    by_cases a8:i=k;exact .inl a8.symm
    ·rw [getD_set_ne false a8] at hk;exact .inr hk
   have ab:(listed.setIfInBounds i true).getD i false=true:=(by simp [d.lsize,A]);have a9:∀ t,o.dst=some t->t<st.n:=fun t ht=>ok.dst i o t C V ht
   -- the bm agree with the text's,for what the view bn
   have al:(∀ e,e∈es->(e<i↔e<kD))->H i=H kD:=fun ba=>by
    rcases Nat.le_total i kD with ax | ax
    ·exact kyf (es:=es) (n:=n) ah ax B fun e g h=>by have:=ba e g;omega
    ·exact (kyf (es:=es) (n:=n) ah ax (by omega) fun e g h=>by have:=ba e g;omega).symm
   have x:phB l es i=true->H i=H kD:=fun hp=>al fun e g=>by
    obtain ⟨h1,N⟩:=a5 i hp e g;have y:=hk e g;constructor;intro r;exact y.1 (O e (h1 r))
    ·intro r;rcases Nat.lt_trichotomy e i with h | h | h;exact h;subst h;rw [y.2 r] at ak;cases ak
     ·exact (D e (y.2 r) (N h)).elim
   -- the slots of the view
   have ac:∀ (K:Nat->Prop),(∀ id,id∈(H kD).2->K id)->∀ t,RV ψ K S w (a.tmps.getD t undef) (look .any (hadd (fsOf l c i) (kf9 o) (khx l i n++st.tmps)) t):=fun K hK t=>by
    have ht:RV ψ (·∈(H kD).2) S w (a.tmps.getD t undef) (look .any (kio (fsOf l c n) (fun j=>listed.getD j false) st.tmps) t):=hs.tmps t;have uniq:∀ {j j':Nat},j<n->j'<n->dstT l j=some t->dstT l j'=some t->j=j':=fun {j j'} h1 N y Z=>(by unfold dstT at y Z;simp only [qi] at y Z;obtain ⟨o1,p1,p2⟩:=y;obtain ⟨o2,q1,q2⟩:=Z;exact ok.uniq j j' o1 o2 t h1 N p1 q1 p2 q2);rcases kpd (l:=l) (c:=c) (p:=kf9 o) (base:=khx l i n++st.tmps) (t:=t) i with h | ⟨j,h1,N,y,Z⟩ | ⟨h1,N⟩;rw [h];exact .any
    ·rw [Z];have G:listed.getD j false=true:=(by obtain ⟨e,g,bo,u⟩:=afterB_iff.1 N;rw [<- bo];exact f e g u);rcases ke5 (l:=l) (c:=c) (p:=fun j=>listed.getD j false) (base:=st.tmps) (t:=t) n with ⟨j',e1,e2,e3,e4⟩ | ⟨e1,e2⟩;rw [e4,uniq e1 (by omega) e3 y] at ht;exact ht.mono hK fun _ h=>h
     ·exact absurd y (e1 j (by omega) G)
    ·rw [N];rcases ksb (l:=l) (i:=i) (base:=st.tmps) (t:=t) n with h | ⟨k1,k2⟩;rw [h];exact .any
     ·rw [k2];rcases ke5 (l:=l) (c:=c) (p:=fun j=>listed.getD j false) (base:=st.tmps) (t:=t) n with ⟨j',e1,e2,e3,e4⟩ | ⟨e1,e2⟩
      ·exfalso;rcases k1 j' e1 e3 with h | h
       ·rcases qa6 j' i with h' | h';exact h1 j' h' e3
        ·obtain rfl:j'=i:=(by omega);rw [ak] at e2;cases e2
       ·exact D j' e2 h
      ·rw [e2] at ht;exact ht.mono hK fun _ h=>h
   have fact:=M i o C V
   -- what a value in the slot leaves
   have next:∀ (kD':Nat) (ψ':Env) (S':Nat->Prop) (v:Value) (w':World),kD'<=n->(∀ e,e∈es->((listed.setIfInBounds i true).getD e false=true↔e<kD'))->Fr F w w'->HistI (H kD).2 (H kD').2 ψ ψ' S S' w w' ->
     Core F S0 N0 (H kD').1 (H kD').2 ψ' S' w'->RV ψ' (·∈(H kD').2) S' w' v (c i)->(∀ t,RV ψ' (·∈(H kD').2) S' w' (a.tmps.getD t undef) ((stZ l n st c H listed kD).get t)) ->
     kml P .any l.toArray R fuel (listed.setIfInBounds i true) (a.put o.dst v) w':=fun kD' ψ' S' v w' q1 q2 q4 q8 q5 q6 q7=>by
    refine ih _ _ _ ⟨⟨kD',ψ',S',q1,q2,?_,Y.trans q8⟩,d.fr.trans q4,by simp [d.lsize],?_⟩ (fun k hk=>(aa k hk).elim (fun e=>by omega) (hh k)) ?_
    ·refine ⟨by rw [kz9];exact hs.defers,by rw [kst];exact hs.size,fun t=>?_,q5⟩;rw [kks _ _ _ hs.size a9];have q7:=q7 t;show RV ψ' _ S' w' _ (look .any (kio (fsOf l c n) (fun j=>(listed.setIfInBounds i true).getD j false) st.tmps) t);have q7:RV ψ' (·∈(H kD').2) S' w' (a.tmps.getD t undef) (look .any (kio (fsOf l c n) (fun j=>listed.getD j false) st.tmps) t):=q7;have uniq:∀ {j j':Nat},j<n->j'<n->dstT l j=some t->dstT l j'=some t->j=j':=fun {j j'} h1 N y Z=>(by unfold dstT at y Z;simp only [qi] at y Z;obtain ⟨o1,p1,p2⟩:=y;obtain ⟨o2,p3,p4⟩:=Z;exact ok.uniq j j' o1 o2 t h1 N p1 p3 p2 p4);rcases ke5 (l:=l) (c:=c) (p:=fun j=>(listed.setIfInBounds i true).getD j false) (base:=st.tmps) (t:=t) n with ⟨j,e1,e2,e3,e4⟩ | ⟨e1,e2⟩
     ·rw [e4];by_cases ay:j=i;subst ay;rw [aw] at e3;rw [qr e3];exact q6
      ·have G:=(aa j e2).resolve_left ay;rw [qj (fun h=>ay (uniq e1 C e3 (by rw [aw];exact h)))];rcases ke5 (l:=l) (c:=c) (p:=fun j=>listed.getD j false) (base:=st.tmps) (t:=t) n with ⟨j',f1,f2,f3,f4⟩ | ⟨f1,f2⟩;rw [f4,uniq f1 e1 f3 e3] at q7;exact q7
       ·exact absurd e3 (f1 j e1 G)
     ·rw [e2,qj (fun h=>e1 i C ab (by rw [aw];exact h))];rcases ke5 (l:=l) (c:=c) (p:=fun j=>listed.getD j false) (base:=st.tmps) (t:=t) n with ⟨j',f1,f2,f3,f4⟩ | ⟨f1,f2⟩;exact absurd f3 (e1 j' f1 (getD_set_true f2))
      ·rw [f2] at q7;exact q7
    ·intro k p hk hp e g aj;rcases aa k hk with rfl | bp;rw [V] at hp;obtain rfl:=qu hp;exact getD_set_true (f e g aj)
     ·exact getD_set_true (d.closed k p bp hp e g aj)
    ·have:=kvo l.length A h0 (by rw [d.lsize];exact A);omega
   have ad:∀ e,e∈es->i∉es->((listed.setIfInBounds i true).getD e false=true↔e<kD):=fun e g bq=>(by have av:i≠e:=fun h=>bq (h ▸ g);rw [getD_set_ne false av];exact hk e g);unfold wpOp;simp only [ho];rcases fact with ⟨Q,am,hN,ao⟩ | ⟨Q,br,bs⟩
   ·-- one that changes nothing
    have aq:∀ id,id∈(H kD).2->id∈(kcp l n es (chi i) ai st i o (fsOf l c i) (H i).1 (H i).2).ids:=fun id=>by
     show _->id∈(bif phB l es i then (H i).2 else ai);cases hp:phB l es i with
     | true=>simp only [qg];rw [x hp];exact fun h=>h
     | false=>simp only [qo];exact (I (fun h=>by rw [h i C] at hp;cases hp) kD B).1 id
    have az:∀ {v:Value} {S':Nat->Prop} {w':World},RV ψ (·∈(kcp l n es (chi i) ai st i o (fsOf l c i) (H i).1 (H i).2).ids) S' w' v (c i)->RV ψ (·∈(H kD).2) S' w' v (c i):=fun {v S' w'} hv=>by
     cases hp:phB l es i with
     | true=>
      have g:(kcp l n es (chi i) ai st i o (fsOf l c i) (H i).1 (H i).2).ids=(H kD).2:=(by show (bif phB l es i then (H i).2 else ai)=_;rw [hp,qg,x hp]);rw [g] at hv;exact hv
     | false=>
      rw [hp,Bool.false_or] at ao;exact (hv.subA ao).mono (I (fun h=>by rw [h i C] at hp;cases hp) kD B).2 fun _ h=>h
    have a1:∀ t,RV ψ (·∈(kcp l n es (chi i) ai st i o (fsOf l c i) (H i).1 (H i).2).ids) S w (a.tmps.getD t undef) ((kcp l n es (chi i) ai st i o (fsOf l c i) (H i).1 (H i).2).get t):=ac _ aq;have bt:∀ id ob,kaa (kcp l n es (chi i) ai st i o (fsOf l c i) (H i).1 (H i).2).heap id=some ob->ObR ψ (·∈(kcp l n es (chi i) ai st i o (fsOf l c i) (H i).1 (H i).2).ids) S w id ob:=fun id ob J=>by
     have bb:kaa (H kD).1 id=some ob:=by
      have J:kaa (bif phB l es i then (H i).1 else klc (chi i) st.heap) id=some ob:=J;cases hp:phB l es i with
      | true=>rw [hp] at J;simp only [qg] at J;rw [x hp] at J;exact J
      | false=>
       rw [hp] at J;obtain ⟨g1,g2⟩:=kqq J;exact U (fun h=>by rw [h i C] at hp;cases hp) i C kD B (fun j L bu=>by
        cases ha:anc l j i with
        | false=>rfl
        | true=>exact (D j ((hk j bu).2 L) ha).elim) id g1 ob g2
     obtain ⟨g1,g2,g3⟩:=hs.core.obj id ob bb;exact g2.keep Ext.refl aq (fun _ h=>h) (fun _ _ _=>rfl) ⟨rfl,rfl⟩ (fun _ _=>rfl)
    rcases hN with ⟨hg,hN⟩ | ⟨hg,hN⟩
    ·have hw:=kut (kcp l n es (chi i) ai st i o (fsOf l c i) (H i).1 (H i).2) a1 hg;rw [qr hw];refine (kje ?_ (hN ψ S a w a1 bt));rintro v w' ⟨g1,g2⟩;refine next kD ψ (fun b=>(S b\/w.heap.size<=b)/\b<w'.heap.size) v w' B (fun e g=>ad e g Q) (Fr.of_grow hs.core.fr g1) ⟨Ext.refl,fun _ h=>h,fun b u=>⟨.inl u,qbb (hs.core.lt b u) g1.size⟩,Same.of_grow g1⟩ (hs.core.grow g1) ?_ fun t=>?_;exact (az g2).bound.mono (fun _ h=>h) fun _ h=>h
     ·exact (hs.tmps t).keep Ext.refl (fun _ h=>h) (fun b u=>⟨.inl u,qbb (hs.core.lt b u) g1.size⟩) (Same.of_grow g1)
    ·have hw:=kut (kcp l n es (chi i) ai st i o (fsOf l c i) (H i).1 (H i).2) a1 hg;rw [qj (by rw [hw];exact Bool.false_ne_true)];exact next kD ψ S undef w B (fun e g=>ad e g Q) Fr.refl HistI.refl hs.core (by rw [hN];exact .fz RF.undef) fun t=>hs.tmps t
   ·-- one of the chain
    have hp:=(ag i Q).2;have ae:=x hp;have a2:Sim F S0 N0 (kcp l n es (chi i) ai st i o (fsOf l c i) (H i).1 (H i).2) ψ S a w:=by
     refine ⟨hs.defers,hs.size,fun t=>?_,?_⟩;show RV ψ (·∈(bif phB l es i then (H i).2 else ai)) S w _ _;rw [hp];simp only [qg];rw [ae];have:=ac (·∈(H kD).2) (fun _ h=>h) t;rw [<- ae] at this ⊢;exact this
     ·show Core F S0 N0 (bif phB l es i then (H i).1 else klc (chi i) st.heap) (bif phB l es i then (H i).2 else ai) ψ S w;rw [hp];simp only [qg];rw [ae];exact hs.core
    have bv:(kcp l n es (chi i) ai st i o (fsOf l c i) (H i).1 (H i).2).ids=(H kD).2:=(by show (bif phB l es i then (H i).2 else ai)=_;rw [hp,qg,ae]);have af:∀ e,e∈es->((listed.setIfInBounds i true).getD e false=true↔e<i+1):=fun e g=>by
     have y:=hk e g;obtain ⟨h1,N⟩:=a5 i hp e g;by_cases bc:i=e;subst bc;rw [ab];simp
     ·rw [getD_set_ne false bc,y];constructor
      ·intro r;rcases qa6 e i with h | h;omega
       ·exact (D e (y.2 r) (N (by omega))).elim
      ·intro r;exact y.1 (O e (h1 (by omega)))
    rcases br with ⟨hg,a3⟩ | ⟨hg,bw,hh,bx⟩;have hw:=kdp a2 hg;rw [qr hw];refine (kje ?_ (a3 F S0 N0 ψ S a w a2));rintro v w' ⟨ψ',S',g1,g2,g3,g4,g5,g6,g7⟩;rw [bv] at g4 g5;exact next (i+1) ψ' S' v w' (by omega) af g3 ⟨g4,g5,g6,g7⟩ g1 g2 fun t=>(hs.tmps t).keep g4 g5 g6 g7
    ·have hw:=kdp a2 hg;rw [qj (by rw [hw];exact Bool.false_ne_true)];have am:H (i+1)=H kD:=(by rw [<- ae];exact Prod.ext hh bx);refine next (i+1) ψ S undef w (by omega) af Fr.refl ⟨Ext.refl,fun j h=>by rw [am];exact h,fun _ h=>h,fun _ _ _=>rfl⟩ ?_ ?_ fun t=>?_;rw [am];exact hs.core;rw [bw];exact .fz RF.undef
     ·rw [am];exact hs.tmps t
theorem kxt [Rd] (hm:P.follows .mixedOrders=true) {id:Nat} {l:List Oper} (c:Nat->AV) (H:Nat->List (Nat×AObj)×List Nat) (chi chs:Nat->List Nat) (r:relB l n st.n=true) (g:kne l n es=true) (h:st.ids.all ai.contains=true) (m:H 0=(st.heap,st.ids)) (p:∀ j i,j∈es->i<n->anc l j i=false->∀ id,id∈chs j->id∈chi i) (b:∀ i o,i<n->l[i]?=some o->k71 P l n es chi chs ai st c H i o) {F S0:Nat->Prop} {N0:Nat} {ψ0:Env} {Sa:Nat->Prop} {a0:Act} {w0:World} (d:Sim F S0 N0 st ψ0 Sa a0 w0) (R:Exit->Act->World->Prop) (e:∀ ψ S a w,Sim F S0 N0 { st with tmps:=hadd (fsOf l c n) (fun _=>true) st.tmps,heap:=(H n).1,ids:=(H n).2 } ψ S a w->Fr F w0 w->HistI st.ids (H n).2 ψ0 ψ Sa S w0 w->ka5 P l.toArray R (l.drop n) a w):Cwp P (Code.region id l.toArray true) R a0 w0:=
 have ok:=k01 r
 kvs hm _ _ ⟨ok.sel,ok.len,ok.edges,ok.dst,ok.uniq,ok.looks⟩ (fun k j h1 f q=>ok.tail k j h1 f (qbb q f)) (ka5 P l.toArray R (l.drop n)) g h m p b d R e fun fuel listed a w h1 f q s=>k14 ok fuel n listed a w (qv _) ok.len h1 f q s
theorem k8w [Rd] (hm:P.follows .mixedOrders=true) {id:Nat} {l:List Oper} (t:relB l n st.n=true) (g:kne l n es=true) (j:st.ids.all ai.contains=true)
  (h:kmu P l.toArray n es ch ai Q st n 0 l [] st.heap st.ids none):awp P (.region id l.toArray true) st Q:=by
 obtain ⟨c,H,pn,_,m,_,p,b,f⟩:=kj6 (os:=l.toArray) (rest:=[]) n 0 l (fun _ => .any) (fun _=>(st.heap,st.ids)) none (by simp) (by omega) (fun e h=>by cases h) h;simp only [List.toList_toArray] at b f;have u:=(k01 t).len;have q:pn=none:=by
  cases pn with
  | none=>rfl
  | some e=>
   exfalso;rcases p e rfl with h | ⟨_,r,v⟩;cases h
   ·have s:e<l.length:=(by omega);rcases b e l[e] (qaq _) r (qa s) with ⟨_,e',d,y,_⟩ | ⟨d,_⟩ | ⟨_,d,_⟩ | ⟨_,_,_,d⟩;injection d with d;omega;exact d v;have:=d e rfl;omega
    ·exact d
 subst q;intro F S0 N0 ψ S a w hs;refine kxt (l:=l) (id:=id) hm c H (fun _=>ch) (fun _=>ch) t g j (m 0 (qv _)) (fun _ _ _ _ _ _ h=>h) (fun i o hi x=>?_) hs _ fun ψ S a w g1 g2 _=>kcu (fun e a' w' k=>k.pre g2) _ _ _ (f rfl F S0 N0 ψ S a w g1);rcases b i o (qaq _) hi x with ⟨_,e',d,_⟩ | d | ⟨h1,_,r⟩ | ⟨_,_,_,d⟩;cases d;exact .inl d;exact .inr ⟨h1,r⟩
 ·exact d.elim
end Go.Proofs.YtjnjipmjkkhdpaaGreatDoor
set_option linter.all false
set_option linter.unusedSectionVars false
namespace Go.Proofs.YtjnjipmjkkhdpaaGreatDoor
open Go Go.RowKit
variable [Dr]
def krt (l:List Oper) (n:Nat) (ai:List Nat) (st:St) (i:Nat) (o:Oper) (fs:List (Nat×Option Nat×AV)):St:=
 { st with tmps:=hadd fs (kf9 o) (khx l i n++st.tmps),ids:=ai }
def k8a (P:Program) (v:St) (o:Oper) (c:AV) (id:Nat) (ob:AObj):Prop:=∀ (a:List (Nat×AObj)) (ids':List Nat),ids'.contains id=false->StepA P o { v with heap:=a,ids:=ids' } c ((id,ob)::a) (id::ids')
def k79 (P:Program) (v:St) (o:Oper) (c:AV) (id:Nat) (ob:AObj):Prop:=∀ (a:List (Nat×AObj)) (ids':List Nat),kaa a id=kaa v.heap id->StepA P o { v with heap:=a,ids:=ids' } c ((id,ob)::a) ids'
def befB (l:List Oper) (i id:Nat) (es:List (Nat×Nat)):Bool:=es.all fun e=>!(e.2 == id) || anc l i e.1
def idsB (l:List Oper) (i:Nat) (nid:List Nat) (es:List (Nat×Nat)) (ids:List Nat):List Nat:=nid.filter (fun id=>befB l i id es)++ids
def ktl [Rd] (P:Program) (os:Array Oper) (n:Nat) (ai:List Nat) (Q:Exit->St->Prop) (st:St):Nat->Nat->List Oper->List (Nat×Option Nat×AV)->List (Nat×AObj)->List Nat->List (Nat×Nat)->Prop
 | 0,_,l,fs,hp,nid,_=>awpL P os l { st with tmps:=hadd fs (fun _=>true) st.tmps,heap:=hp++st.heap,ids:=nid++st.ids } Q
 | k+1,i,o::l,fs,hp,nid,es=>
  (∃ c,krd P os (krt os.toList n ai st i o fs) o c/\okA (idsB os.toList i nid es st.ids) c=true/\ktl P os n ai Q st k (i+1) l ((i,o.dst,c)::fs) hp nid es) \/
  (∃ c id ob,kbi os (krt os.toList n ai st i o fs) o=some true/\k8a P (krt os.toList n ai st i o fs) o c id ob/\(st.ids.contains id || (st.heap.any fun q=>q.1 == id) || (es.any fun q=>q.2 == id) || !ai.contains id)=false/\ktl P os n ai Q st k (i+1) l ((i,o.dst,c)::fs) ((id,ob)::hp) (id::nid) ((i,id)::es)) \/
  (∃ c id ob,kbi os (krt os.toList n ai st i o fs) o=some true/\k79 P { krt os.toList n ai st i o fs with heap:=hp++st.heap } o c id ob/\(st.heap.any fun q=>q.1 == id)=false/\befB os.toList i id es=true/\ktl P os n ai Q st k (i+1) l ((i,o.dst,c)::fs) ((id,ob)::hp) nid ((i,id)::es))
 | _+1,_,[],_,_,_,_=>False
variable {P:Program} {F S0:Nat->Prop} {N0:Nat} {w w':World} {S S':Nat->Prop} {ψ ψ':Env} {Q:Exit->St->Prop} {st:St} {os:Array Oper} {n:Nat} {ai:List Nat}
end Go.Proofs.YtjnjipmjkkhdpaaGreatDoor
set_option linter.all false
namespace Go.Proofs.YtjnjipmjkkhdpaaGreatDoor
open Go Go.RowKit
def objH (H:Nat->Option AObj) (id:Nat):Option (Nat×List AV):=match H id with
 | some (.box _ cells)=>some (0,cells)
 | some (.xo (.blk g _ _ cells))=>some (g,cells)
 | _=>none
abbrev objC (st:St) (id:Nat):Option (Nat×List AV):=objH (kaa st.heap) id
def putC (st:St) (id:Nat) (cells:List AV):List (Nat×AObj):=match kaa st.heap id with
 | some (.box e _)=>(id, .box e cells)::st.heap
 | some (.xo (.blk g e sz _))=>(id, .xo (.blk g e sz cells))::st.heap
 | _=>st.heap
def kui (H:Nat->Option AObj):AV->Option (List AV)
 | .fz (.fp cs)=>some (cs.map .fz)
 | .ref id n off=>match objH H id with
  | some (g,cells)=>bif Nat.beq n g then some (cells.drop off) else none
  | none=>none
 | _=>none
abbrev kyk (st:St):AV->Option (List AV):=kui (kaa st.heap)
def kqf (H:Nat->Option AObj) (off:Nat) (x:AV):Option AV:=match x with
 | .fz (.fp cs)=>match cs.drop off with
  | []=>none
  | y::ys=>some (.fz (.fp (y::ys)))
 | .ref id n o=>match objH H id with
  | some (g,_)=>bif Nat.beq n g then some (.ref id n (o+off)) else none
  | none=>none
 | _=>none
abbrev kq8 (st:St) (off:Nat) (x:AV):Option AV:=kqf (kaa st.heap) off x
def kpn:List FV->List AV
 | []=>[]
 | x::l=>x.cells.map .fz++kpn l
def rdH (H:Nat->Option AObj) (sz:Nat):AV->Option (Nat×Option Nat×List AV)
 | .fz (.lst size n xs)=>bif Nat.beq size sz && Nat.beq n xs.length then some (n,none,kpn xs) else none
 | .lim size n xs=>bif Nat.beq size sz && Nat.beq n xs.length then some (n,some n,kpn xs) else none
 | .fz (.atom (.slice none 0 0))=>some (0,some 0,[])
 | .bsl id g off len cap=>match objH H id with
  | some (g',cells)=>bif Nat.beq g g' && Nat.ble (off+len*sz) cells.length then some (len,cap,(cells.drop off).take (len*sz)) else none
  | none=>none
 | _=>none
abbrev rdSl (sz:Nat) (st:St):AV->Option (Nat×Option Nat×List AV):=rdH (kaa st.heap) sz
section
variable {P:Program} {F S0:Nat->Prop} {N0:Nat} {w w':World} {S S':Nat->Prop} {ψ ψ':Env} {K:Nat->Prop} {T:List (TypeId×TD)} {o:Oper} {a:Act} {st:St} {t:TypeId} {d:TD} {id:Nat}
theorem kfk {g:Nat} {cells:List AV} (f:∀ id o,kaa st.heap id=some o->ObR ψ (·∈st.ids) S w id o) (h:objC st id=some (g,cells)):
  ψ.len id=g/\∃ b cs e,kap (ψ.val id)=some b/\w.heap[b]?=some (.cells cs e (0,0))/\cells.length<=cs.size/\(∀ x∈cells,x.single=true)/\∀ (i:Nat) (v:Value) (x:AV),cs[i]?=some v->cells[i]?=some x->RV ψ (·∈st.ids) S w v x:=by
 unfold objC objH at h;split at h;rename_i e cells' a;simp only [qc,qp] at h;obtain ⟨rfl,rfl⟩:=h;obtain ⟨h0,b,cs,h1,c,k,j,d⟩:=f id _ a;exact ⟨h0,b,cs,e,by rw [h1];rfl,c,by omega,j,d⟩;rename_i g' e sz cells' a;simp only [qc,qp] at h;obtain ⟨rfl,rfl⟩:=h;obtain ⟨h0,p,b,cs,n,cap,h1,c,k,j,d,l,m⟩:=f id _ a;exact ⟨h0,b,cs,e,by rw [h1];rfl,c,d,l,m⟩
 ·cases h
theorem krp {b k:Nat} {cs:Array Value} {e:TypeId} {u:Value} (h:w.heap[b]?=some (.cells cs e (0,0))) (a:cs[k]?=some u):w.cell? ⟨b,k,none⟩=some u:=by simp only [World.cell?,h];simpa using a
theorem kvu {v:Value} {x:AV} {xs:List AV} (hv:RV ψ (·∈st.ids) S w v x) (f:∀ id o,kaa st.heap id=some o->ObR ψ (·∈st.ids) S w id o) (h:kyk st x=some xs):
  ∃ b o,v = .pointer (some ⟨b,o,none⟩)/\k18 ψ (·∈st.ids) S w b o xs:=by
 unfold kyk kui at h;split at h;rename_i cs;exact kpg hv f h
 ·rename_i id n off;split at h
  ·rename_i g cells k;cases hn:Nat.beq n g with
   | false=>rw [hn] at h;cases h
   | true=>
    rw [hn] at h;simp only [qg,qc] at h;subst h;obtain rfl:=qe hn;obtain ⟨h0,b,cs,e,h1,l,s,m,p⟩:=kfk f k;cases hv with
    | ref hK q r d=>
     obtain ⟨b',a,rfl⟩:=d h0.symm;rw [h1] at a;simp only [qc] at a;subst a;refine ⟨b,off,rfl,(cs.toList.take cells.length).drop off,fun j u c=>?_,by simp;omega,fun x hx=>m x (qbe hx),fun i v x hv hx=>?_⟩
     ·rw [qag,qw] at c;split at c;exact krp l (by simpa using c)
      ·cases c
     ·rw [qag,qw] at hv;rw [qag] at hx;split at hv;exact p _ v x (by simpa using hv) hx
      ·cases hv
  ·cases h
 ·cases h
theorem kuu {b off:Nat} {xs:List AV} {c:AV} (hd:TdOk P t d) (hx:k18 ψ K S w b off xs) (hc:kjl d xs=some c):∃ u,(loadVar t ⟨b,off,none⟩).run P w = .ok u w/\RV ψ K S w u c:=by
 obtain ⟨cs,g,hl,h1,hr⟩:=hx;unfold kjl at hc;cases hk:d.kind.agg with
 | false=>
  rw [hk] at hc;simp only [qo] at hc;cases xs with
  | nil=>cases hc
  | cons y ys=>
   simp only [List.head?_cons,qc] at hc;subst hc;have h:cs[0]?=some (cs[0]'(by simp at hl;omega)):=qa _;have e:w.cell? ⟨b,off,none⟩=some (cs[0]'(by simp at hl;omega)):=(by simpa using g 0 _ h);exact ⟨cs[0]'(by simp at hl;omega),by simp [loadVar,hd.isAgg,hk,e],hr 0 _ y h rfl⟩
 | true=>
  rw [hk] at hc;simp only [qg] at hc;cases f:Nat.ble d.size xs.length with
  | false=>rw [f] at hc;cases hc
  | true=>
   rw [f] at hc;simp only [qg,qc] at hc;subst hc;have m:=qh f;have k:(cs.take d.size).length=d.size:=(by rw [q9];omega);have a:=run_loadCells_list (P:=P) w ⟨b,off,none⟩ (cs.take d.size) fun j v l=>by
    rw [qw] at l;split at l;rw [kbg];exact g j v l
    ·cases l
   rw [k] at a;refine ⟨.agg (cs.take d.size).toArray,by simp [loadVar,hd.isAgg,hk,hd.size,a],RV.aggA (by simp [hl]) (fun x hx=>h1 x (qa4 hx)) fun i v x hv hx=>?_⟩;simp only [qbr] at hv;rw [qw] at hv hx;split at hv;rename_i hi;rw [qr hi] at hx;exact hr i v x hv hx
   ·cases hv
theorem k8h {x:Operand} {xs:List AV} {c:AV} (e:o.op = .load t x) (hd:TdOk P t d) (hx:kyk st (st.eval x)=some xs) (hc:kjl d xs=some c):NStep P o st c:=by intro ψ S a w ht f;obtain ⟨b,off,hv,hcl⟩:=kvu (Sim.eval_tmps ht x) f hx;obtain ⟨u,h1,g⟩:=kuu (P:=P) hd hcl hc;refine kad w u ?_ ⟨kae _,g.here⟩;simp [execOp,e,hv,Instr.loadAt,Instr.sureAddr,h1]
theorem kqe {off:Nat} {v:Value} {x c:AV} (hv:RV ψ (·∈st.ids) S w v x) (i:∀ id o,kaa st.heap id=some o->ObR ψ (·∈st.ids) S w id o) (h:kq8 st off x=some c):
  ∃ b o,v = .pointer (some ⟨b,o,none⟩)/\RV ψ (·∈st.ids) S w (.pointer (some ⟨b,o+off,none⟩)) c:=by
 unfold kq8 kqf at h;split at h;exact kn3 (off:=off) hv i h
 ·rename_i id n off';split at h
  ·rename_i g cells j;cases hn:Nat.beq n g with
   | false=>rw [hn] at h;cases h
   | true=>
    rw [hn] at h;simp only [qg,qc] at h;subst h;obtain rfl:=qe hn;obtain ⟨h0,b,cs,e,h1,_⟩:=kfk i j;cases hv with
    | ref hK a k d=>
     obtain ⟨b',f,rfl⟩:=d h0.symm;exact ⟨b',off',rfl, .ref hK a rfl fun _=>⟨b',f,rfl⟩⟩
  ·cases h
 ·cases h
theorem k53 {s:TypeId} {x:Operand} {f:Nat} {fs:List (TypeId×Nat)} {ft:TypeId} {off:Nat} {df:TD} {c:AV} (l:o.op = .fieldAddr s x f) (hd:TdOk P s d) (hk:d.kind = .st fs) (k:fs[f]?=some (ft,off)) (h:TdOk P ft df) (m:df.size≠0)
  (hc:kq8 st off (st.eval x)=some c):NStep P o st c:=by
 intro ψ S a w ht n;obtain ⟨b,off',hv,hr⟩:=kqe (Sim.eval_tmps ht x) n hc;obtain ⟨gs,p,i⟩:=hd.strct hk;have e:∃ g:Field,gs[f]?=some g/\g.type=ft/\g.offset=off:=by rw [<- i,ql,qn] at k;obtain ⟨g,e,j⟩:=k;simp only [qp] at j;exact ⟨g,by simpa using e,j.1,j.2⟩
 obtain ⟨g,e,rfl,rfl⟩:=e;refine kad w _ ?_ ⟨kae _,hr.here⟩;simp [execOp,l,hv,Instr.fieldAt,p,e,Instr.sureAddr,fieldPlace,h.size,m,kbg]
theorem kaa2 {x:Operand} {c:AV} (d:o.op = .nilCheck x) (hc:kq8 st 0 (st.eval x)=some c):NStep P o st c:=by intro ψ S a w ht e;obtain ⟨b,off',hv,hr⟩:=kqe (Sim.eval_tmps ht x) e hc;refine kad w _ ?_ ⟨kae _,hr.here⟩;simp [execOp,d,hv]
theorem kabi {x y:Operand} {n e:Nat} {de:TD} {k:IntKind} {i:Int} {c:AV} (j:o.op = .indexAddr t x y) (hd:TdOk P t d) (hk:d.kind = .arr n e) (g:TdOk P e de) (hy:st.eval y = .fz (.atom (.int k i))) (h0:0<=i) (hi:i<n)
  (hc:kq8 st (i.toNat*de.size) (st.eval x)=some c):NStep P o st c:=by
 intro ψ S a w ht l;obtain ⟨b,off',hv,hr⟩:=kqe (Sim.eval_tmps ht x) l hc;have f:=Sim.eval_tmps ht y;rw [hy] at f;have h:=f.atom;refine kad w _ ?_ ⟨kae _,hr.here⟩;simp [execOp,j,hv,h,Instr.indexAt,asIntOf,run_underlying (hd.arr hk),Instr.sureAddr,h0,hi,g.size,kbg]
theorem kgv {v:Value} {g off len:Nat} {cap:Option Nat} (h:RV ψ K S w v (.bsl id g off len cap)) (a:ψ.len id=g):K id/\∃ b c,kap (ψ.val id)=some b/\v = .slice (some ⟨b,off,none⟩) len c/\len<=c/\c<=9223372036854775807/\CapR (ψ.val id) off c cap:=by
 cases h with
 | bsl hK hn h1 hv=>exact ⟨hK,hv a.symm⟩
theorem kaa3 {x y:Operand} {e:TypeId} {de:TD} {k:IntKind} {i:Int} {g off len:Nat} {cap:Option Nat} {cells:List AV} (j:o.op = .indexAddr t x y) (hd:TdOk P t d) (hk:d.kind = .slice e) (f:TdOk P e de) (hx:st.eval x = .bsl id g off len cap)
  (h:objC st id=some (g,cells)) (hy:st.eval y = .fz (.atom (.int k i))) (h0:0<=i) (hi:i<len):NStep P o st (.ref id g (off+i.toNat*de.size)):=by
 intro ψ S a w ht l;have h1:=Sim.eval_tmps ht y;rw [hy] at h1;have hv:=Sim.eval_tmps ht x;rw [hx] at hv;obtain ⟨m,_⟩:=kfk l h;obtain ⟨hK,b,c,n,p,_⟩:=kgv hv m;refine kad w (.pointer (some ⟨b,off+i.toNat*de.size,none⟩)) ?_ ⟨kae _, .ref hK (by omega) rfl fun _=>⟨b,n,rfl⟩⟩;simp [execOp,j,Instr.indexAt,h1.atom,asIntOf,run_underlying (hd.slice hk),p,h0,hi,f.size,kbg]
def kzi (w:World) (n:Nat) (cs:List Value):Option Addr->Prop
 | none=>n=0/\cs=[]
 | some ad=>∀ (j:Nat) (u:Value),cs[j]?=some u->w.cell? (ad.add j)=some u
def CR (ψ:Env) (K S:Nat->Prop) (w:World) (cs:List Value) (xs:List AV):Prop:=
 cs.length=xs.length/\(∀ x∈xs,x.single=true)/\∀ (i:Nat) (v:Value) (x:AV),cs[i]?=some v->xs[i]?=some x->RV ψ K S w v x
theorem CR.nil:CR ψ K S w [] []:=⟨rfl,(fun x h=>by cases h),fun i v x h=>by simp at h⟩
theorem CR.append {cs ds:List Value} {xs ys:List AV} (h:CR ψ K S w cs xs) (k:CR ψ K S w ds ys):CR ψ K S w (cs++ds) (xs++ys):=by
 obtain ⟨h1,a,b⟩:=h;obtain ⟨k1,k2,k3⟩:=k;refine ⟨by simp [h1,k1],fun x hx=>(qaz.1 hx).elim (a x) (k2 x),fun i v x hv hx=>?_⟩;by_cases hi:i<cs.length;rw [qab hi] at hv;rw [qab (by omega)] at hx;exact b i v x hv hx
 ·rw [qad (by omega)] at hv hx;rw [h1] at hv;exact k3 _ v x hv hx
theorem CR.one {cs:List Value} {xs:List AV} (h:CR ψ K S w cs xs):∀ v∈cs,v.oneCell'=true:=fun v hv=>by
 obtain ⟨i,hi,rfl⟩:=qah.1 hv;have hx:i<xs.length:=by rw [<- h.1];exact hi
 exact (h.2.2 i _ _ (qa hi) (qa hx)).one (h.2.1 _ (qx hx))
theorem CR.sub {cs:List Value} {xs:List AV} (h:CR ψ K S w cs xs) (i n:Nat):CR ψ K S w ((cs.drop i).take n) ((xs.drop i).take n):=by
 refine ⟨by simp [h.1],fun x hx=>h.2.1 x (qbe (qa4 hx)),fun j v x hv hx=>?_⟩;rw [qw] at hv hx;split at hv;rename_i a;rw [qr a] at hx;rw [qag] at hv hx;exact h.2.2 _ v x hv hx
 ·cases hv
theorem CR.cells {v:Value} {x:AV} (h:RV ψ K S w v x) (h1:x.cells.all AV.single=true):CR ψ K S w v.cells.toList x.cells:=by have hs:∀ y∈x.cells,y.single=true:=qq.1 h1;obtain ⟨e1,e2,e3⟩:=RV.cells h hs;exact ⟨by simpa using e1,hs,fun i v x hv hx=>e2 i v x (by simpa using hv) hx⟩
theorem kys {b size:Nat}:∀ (xs:List FV) (o:Nat),(∀ (i:Nat) (x:FV),xs[i]?=some x->∃ cs,At w b (o+i*size) cs/\cs.length=size/\x.cells.length=size/\(∀ y∈x.cells,y.single=true)/\∀ (j:Nat) (v:Value) (y:FV),cs[j]?=some v->x.cells[j]?=some y->RF S w v y) ->
  ∃ cs,At w b o cs/\CR ψ K S w cs (kpn xs)/\cs.length=xs.length*size
 | [],o,_=>⟨[],fun j u h=>by simp at h,CR.nil,by simp⟩
 | x::xs,o,h=>by
  obtain ⟨cs,h1,c,e,f,g⟩:=h 0 x rfl;obtain ⟨ds,k1,k2,k3⟩:=kys xs (o+size) fun i y hy=>by
   have:=h (i+1) y (by simpa using hy)
   rwa [show o+(i+1)*size=o+size+i*size by rw [qaw];omega] at this
  refine ⟨cs++ds,fun j u a=>?_,CR.append ⟨by simp [c,e],fun y hy=>?_,fun j v y hv hy=>?_⟩ k2,by simp [c,k3,qaw];omega⟩
  ·by_cases k:j<size;rw [qab (by omega)] at a;have:=h1 j u a;simpa using this
   ·rw [qad (by omega),c] at a;have:=k1 _ u a
    rwa [show o+size+(j - size)=o+j by omega] at this
  obtain ⟨z,d,rfl⟩:=qap.1 hy;exact f z d
  ·rw [ql,qn] at hy;obtain ⟨z,d,rfl⟩:=hy;exact .fz (g j v z hv d)
theorem k1e {A:Option Addr} {size n cap:Nat} {xs:List FV} (h:RF S w (.slice A n cap) (.lst size n xs)):n=xs.length/\n<=cap/\cap<=9223372036854775807/\∃ cs,CR ψ K S w cs (kpn xs)/\(kpn xs).length=n*size/\kzi w n cs A:=by
 obtain ⟨A0,cap0,css,hv,hn,hc,hm,hs,ha,hl,hr⟩:=h.lst_inv;injection hv with e1 _ e3;subst e1 e3 hn;refine ⟨rfl,hc,hm,?_⟩;cases xs with
 | nil=>
  refine ⟨[],CR.nil,by simp [kpn],?_⟩;cases A with
  | none=>exact ⟨rfl,rfl⟩
  | some ad=>exact fun j u h=>by simp at h
 | cons x xs=>
  obtain ⟨b,o,rfl,_,_⟩:=ha 0 x rfl;obtain ⟨cs,h1,c,d⟩:=kys (ψ:=ψ) (K:=K) (S:=S) (w:=w) (b:=b) (size:=size) (x::xs) o fun i y hy=>by obtain ⟨b',o',hA,_,a⟩:=ha i y hy;injection hA with hA;injection hA with e1 e2;subst e1 e2;obtain ⟨l1,l2,l3⟩:=hl i y hy;exact ⟨css i,a,l1,l2,l3,fun j v z hv e=>hr i y j v z hy hv e⟩
  exact ⟨cs,c,by rw [<- c.1,d],fun j u f=>by rw [kbg];exact h1 j u f⟩
theorem kmv {sz n:Nat} {c:Option Nat} {v:Value} {x:AV} {ys:List AV} (hv:RV ψ (·∈st.ids) S w v x) (y:∀ id o,kaa st.heap id=some o->ObR ψ (·∈st.ids) S w id o) (h:rdSl sz st x=some (n,c,ys)):
  ∃ A cap,v = .slice A n cap/\n<=cap/\cap<=9223372036854775807/\(∀ k,c=some k->cap=k)/\∃ cs,CR ψ (·∈st.ids) S w cs ys/\ys.length=n*sz/\kzi w n cs A:=by
 unfold rdSl rdH at h;split at h
 ·rename_i size m xs;cases a:(Nat.beq size sz && Nat.beq m xs.length) with
  | false=>rw [a] at h;cases h
  | true=>
   rw [a] at h;simp only [qg,qc,qp] at h;obtain ⟨rfl,rfl,rfl⟩:=h;simp only [qk] at a;obtain rfl:=qe a.1;have hv:=hv.inv;obtain ⟨A,cap,css,rfl,_⟩:=hv.lst_inv;obtain ⟨_,p,q,r⟩:=k1e (ψ:=ψ) (K:=(·∈st.ids)) hv;exact ⟨A,cap,rfl,p,q,(fun k hk=>by cases hk),r⟩
 ·rename_i size m xs;cases a:(Nat.beq size sz && Nat.beq m xs.length) with
  | false=>rw [a] at h;cases h
  | true=>
   rw [a] at h;simp only [qg,qc,qp] at h;obtain ⟨rfl,rfl,rfl⟩:=h;simp only [qk] at a;obtain rfl:=qe a.1;cases hv with
   | lim hv=>
    obtain ⟨_,p,q,r⟩:=k1e (ψ:=ψ) (K:=(·∈st.ids)) hv;exact ⟨_,_,rfl,p,q,(fun k hk=>by injection hk),r⟩
 simp only [qc,qp] at h;obtain ⟨rfl,rfl,rfl⟩:=h;rw [hv.atom];exact ⟨none,0,rfl,qv _,by omega,(fun k hk=>by injection hk),[],CR.nil,by simp,rfl,rfl⟩
 ·rename_i id g off len cap;split at h
  ·rename_i g' cells z;cases a:(Nat.beq g g' && Nat.ble (off+len*sz) cells.length) with
   | false=>rw [a] at h;cases h
   | true=>
    rw [a] at h;simp only [qg,qc,qp] at h;obtain ⟨rfl,rfl,rfl⟩:=h;simp only [qk] at a;obtain rfl:=qe a.1;have B:=qh a.2;obtain ⟨C,b,cs,e,q1,q2,q3,q4,q5⟩:=kfk y z;obtain ⟨hK,b',c',f,rfl,s,hm,d⟩:=kgv hv C;rw [q1] at f;simp only [qc] at f;subst f;have t:CR ψ (·∈st.ids) S w (cs.toList.take cells.length) cells:=⟨by simp;omega,q4,fun i v x hv hx=>by
     rw [qw] at hv;split at hv;exact q5 i v x (by simpa using hv) hx
     ·cases hv⟩
    refine ⟨some ⟨b,off,none⟩,c',rfl,s,hm,(fun k hk=>by rw [hk] at d;exact d),_,t.sub off (len*sz),by simp;omega,fun j u l=>?_⟩;rw [kbg];rw [qw] at l;split at l
    ·rw [qag,qw] at l;split at l;exact krp q2 (by simpa using l)
     ·cases l
    ·cases l
  ·cases h
 ·cases h
theorem ks3:ψ.set id (ψ.len id) (ψ.val id)=ψ:=by
 unfold Env.set;congr 1
 ·funext i;split;rename_i h;rw [h]
  ·rfl
 ·funext i;split;rename_i h;rw [h]
  ·rfl
theorem setC {g b:Nat} {cells:List AV} (cells':List AV) {cs new:Array Value} {e:TypeId} (a:Core F S0 N0 st.heap st.ids ψ S w) (h:objC st id=some (g,cells)) (d:kap (ψ.val id)=some b) (f:w.heap[b]?=some (.cells cs e (0,0))) (q:new.size=cs.size) (hl:cells'.length=cells.length) (h1:∀ x∈cells',x.single=true) (hr:∀ (i:Nat) (v:Value) (x:AV),new[i]?=some v->cells'[i]?=some x->RV ψ (·∈st.ids) S w v x):
  Core F S0 N0 (putC st id cells') st.ids ψ S (w.setRow b new)/\Fr F w (w.setRow b new)/\Same S w (w.setRow b new):=by
 have p:(w.setRow b new).heap.size=w.heap.size:=by simp [World.setRow]
 have j:∀ k,k<w.heap.size->¬ Blk (ψ.val id) k->(w.setRow b new).heap[k]?=w.heap[k]?:=fun k _ hk=>kgd b new k fun e=>hk (.of (by rw [d,e]));have key:∀ ob ob',kaa st.heap id=some ob->(∀ hk:Same S w (w.setRow b new),ObR ψ (·∈st.ids) S (w.setRow b new) id ob')->Core F S0 N0 ((id,ob')::st.heap) st.ids ψ S (w.setRow b new)/\Fr F w (w.setRow b new)/\Same S w (w.setRow b new):=fun ob ob' c l=>by obtain ⟨r,_,m⟩:=a.obj id _ c;have hk:Same S w (w.setRow b new):=fun k hk hl=>j k hl fun e=>(m k e).1 hk;obtain ⟨c1,c2,c3⟩:=a.upd (n:=ψ.len id) (v:=ψ.val id) (w':=w.setRow b new) (ob':=ob') c (by omega) j (.inr ⟨rfl,rfl⟩) (fun b d => .inl d) (by rw [ks3];exact l hk);rw [ks3] at c1;exact ⟨c1,⟨rfl,rfl,rfl,by omega,c3,fun _=>qv _⟩,c2⟩
 have l:=fun id o c=>(a.obj id o c).2.1;unfold objC objH at h;unfold putC;split at h;rename_i e' cells0 c;simp only [qc,qp] at h;obtain ⟨rfl,rfl⟩:=h;obtain ⟨q0,b',cs',q1,q2,q3,q4,q5⟩:=l id _ c;rw [q1] at d;simp only [kap,qc] at d;subst d;rw [f] at q2;injection q2 with q2;injection q2 with e1 e2;subst e1 e2;exact key _ _ c fun hk=>⟨q0,b',new,q1,ke4 b' f,by omega,h1,fun i v x hv hx=>(hr i v x hv hx).keep Ext.refl (fun _ h=>h) (fun _ h=>h) hk⟩;rename_i g' e' sz cells0 c;simp only [qc,qp] at h;obtain ⟨rfl,rfl⟩:=h;obtain ⟨q0,qz,b',cs',n,cap,q1,q2,q3,q4,q5,q6,q7⟩:=l id _ c;rw [q1] at d;simp only [kap,qc] at d;subst d;rw [f] at q2;injection q2 with q2;injection q2 with e1 e2;subst e1 e2;exact key _ _ c fun hk=>⟨q0,qz,b',new,n,cap,q1,ke4 b' f,by omega,q4,by omega,h1,fun i v x hv hx=>(hr i v x hv hx).keep Ext.refl (fun _ h=>h) (fun _ h=>h) hk⟩
 ·cases h
theorem kvh {g off:Nat} {cells ys:List AV} {vs:List Value} (c:Core F S0 N0 st.heap st.ids ψ S w) (h:objC st id=some (g,cells)) (j:off+ys.length<=cells.length) (hr:CR ψ (·∈st.ids) S w vs ys):
  ∃ b w1,kap (ψ.val id)=some b/\(storeCells ⟨b,off,none⟩ vs).run P w = .ok () w1/\Core F S0 N0 (putC st id (kbw cells off ys)) st.ids ψ S w1/\Fr F w w1/\Same S w w1:=by
 obtain ⟨n,b,cs,e,q1,q2,q3,q4,q5⟩:=kfk (fun id o m=>(c.obj id o m).2.1) h;have hst:=run_storeCells_at (P:=P) b off e vs 0 cs w q2 (by rw [hr.1];omega) hr.one;simp only [Nat.add_zero] at hst;obtain ⟨new,d⟩:∃ new:Array Value,new=(cs.toList.take off++vs++cs.toList.drop (off+vs.length)).toArray:=⟨_,rfl⟩;rw [<- d] at hst;have k:new.toList=kbw cs.toList off vs:=by rw [d];simp [kbw,qbi]
 have f:off+vs.length<=cs.toList.length:=by simp [hr.1];omega
 have l:new.size=cs.size:=by rw [<- qac,k,kg0 _ _ _ f];simp
 obtain ⟨c1,c2,c3⟩:=setC (kbw cells off ys) c h q1 q2 l (kg0 _ _ _ j) (fun z a=>by
   unfold kbw at a;simp only [qaz] at a;rcases a with a | a | a;exact q4 z (qa4 a);exact hr.2.1 z a
   ·exact q4 z (qbe a)) fun i v z hv a=>by
  rw [<- qal,k,ki7 _ _ _ f] at hv;rw [ki7 _ _ _ j] at a;rw [hr.1] at hv;split at hv;rename_i hi;rw [qr hi] at a;exact hr.2.2 _ v z hv a
  ·rename_i hi;rw [qj hi] at a;exact q5 _ v z (by simpa using hv) a
 exact ⟨b,w.setRow b new,q1,hst,c1,c2,c3⟩
theorem k55 {x y:Operand} {g off:Nat} {cells ys:List AV} (k:o.op = .store t x y) (hd:TdOk P t d) (hx:st.eval x = .ref id g off) (i:objC st id=some (g,cells)) (hy:(st.eval y).cells=ys) (hl:ys.length=d.size) (h1:ys.all AV.single=true)
  (l:off+ys.length<=cells.length):StepA P o st .any (putC st id (kbw cells off ys)) st.ids:=by
 subst hy;intro F S0 N0 ψ S a w e;have c:=e.core;have j:=CR.cells (e.eval y) h1;obtain ⟨b,w1,q1,q2,q3,q4,q5⟩:=kvh (P:=P) c i l j;obtain ⟨n,_⟩:=kfk (fun id o k=>(c.obj id o k).2.1) i;have hv:=e.eval x;rw [hx] at hv;have m:a.eval x = .pointer (some ⟨b,off,none⟩):=by
  generalize a.eval x=u at hv;cases hv with
  | ref hK hn h1 hv=>
   obtain ⟨b',f,rfl⟩:=hv n.symm;rw [q1] at f;simp only [qc] at f;rw [f]
 refine kin w1 ?_ ⟨ψ,S,q3, .any,q4,Ext.refl,fun _ h=>h,fun _ h=>h,q5⟩;have hcl:(a.eval y).cells.size=d.size:=by have:=j.1;simp at this;omega
 simp only [execOp,k,Instr.storeAt,m,Instr.sureAddr,storeVar,hd.size,Sem.run_bind,Sem.run_pure,Result.andThen_ok];rw [qj (by rw [hcl];simp)];simp only [q2];rfl
end
def srcH (T:List (TypeId×TD)) (H:Nat->Option AObj) (sz:Nat) (tx:TypeId) (y:AV):Option (Nat×List AV):=match kac T tx with
 | some d=>match d.kind,y with
  | .slice _,y=>match rdH H sz y with
   | some (n,_,ys)=>some (n,ys)
   | none=>none
  | .str, .fz (.atom (.string s))=>bif Nat.beq sz 1 then some (s.size,(byteCells s).map fun v => .fz (.atom v)) else none
  | _,_=>none
 | none=>none
abbrev srcE (T:List (TypeId×TD)) (sz:Nat) (st:St) (tx:TypeId) (y:AV):Option (Nat×List AV):=srcH T (kaa st.heap) sz tx y
section
variable {P:Program} {F S0:Nat->Prop} {N0:Nat} {w w':World} {S S':Nat->Prop} {ψ ψ':Env} {K:Nat->Prop} {T:List (TypeId×TD)} {o:Oper} {a:Act} {st:St} {t tx:TypeId} {d:TD} {id:Nat}
theorem krk (g:TOk P T) {sz n:Nat} {v:Value} {y:AV} {ys:List AV} (hv:RV ψ (·∈st.ids) S w v y) (k:∀ id o,kaa st.heap id=some o->ObR ψ (·∈st.ids) S w id o) (h:srcE T sz st tx y=some (n,ys)):
  ∃ news,Src P sz tx v n news w/\CR ψ (·∈st.ids) S w news ys:=by
 unfold srcE srcH at h;split at h
 ·rename_i d hd;split at h
  ·rename_i e hk;split at h
   ·rename_i m c zs hr;simp only [qc,qp] at h;obtain ⟨rfl,rfl⟩:=h;obtain ⟨A,cap,rfl,h1,p,_,cs,b,l,j⟩:=kmv hv k hr;have a:=(g.get hd).slice hk;cases A with
    | none=>
     obtain ⟨rfl,rfl⟩:=j;exact ⟨[],Src.ofNil w a cap,b⟩
    | some ad=>exact ⟨cs,Src.ofSlice w a ad _ cap cs (by rw [b.1,l]) j b.one,b⟩
   ·cases h
  ·rename_i s hk;cases f:Nat.beq sz 1 with
   | false=>rw [f] at h;cases h
   | true=>
    rw [f] at h;simp only [qg,qc,qp] at h;obtain ⟨rfl,rfl⟩:=h;obtain rfl:=qe f;rw [hv.atom];refine ⟨byteCells s,Src.ofString w ((g.get hd).str hk) s,by simp,fun x hx=>?_,fun i v x hv hx=>?_⟩;obtain ⟨u,a,rfl⟩:=qap.1 hx;unfold byteCells at a;obtain ⟨c,_,rfl⟩:=qap.1 a;rfl
    ·rw [ql,qn] at hx;obtain ⟨u,a,rfl⟩:=hx;rw [hv] at a;injection a with a;subst a;have:=qm hv;unfold byteCells at this;obtain ⟨c,_,rfl⟩:=qap.1 this;exact .fz (.atom rfl)
  ·cases h
 ·cases h
theorem kse {t ty e:TypeId} {i:TypeInfo} (ht:P.underlying t=some (.slice e)) (hi:P.info? e=some i) {b off sLen:Nat} (sCap:Nat) {x:Value} {n:Nat} {news:List Value} (hs:Src P i.size tx x n news w) (a:sLen+n<=sCap) {w1:World} (hst:(storeCells ⟨b,off+sLen*i.size,none⟩ news).run P w = .ok () w1):
  (Builtin.append_ #[t,tx] ty #[.slice (some ⟨b,off,none⟩) sLen sCap,x]).run P w = .ok (.slice (some ⟨b,off,none⟩) (sLen+n) sCap) w1:=by
 rcases hs.kind with ⟨e',hk⟩ | hk <;> simp [Builtin.append_,run_underlying ht,run_underlying hk,sizeOf,typeInfo,hi,hs.len,a,hs.cells,kbg,hst]
theorem ksm {t:TypeId} (ty:TypeId) {e:TypeId} {de:TD} (ht:P.underlying t=some (.slice e)) (k:TdOk P e de) (l:de.zero.length=de.size) {A:Option Addr} {m:Nat} (cap:Nat) {n:Nat} {olds news:List Value} {xs ys:List AV} {x:Value} (hc:CR ψ K S w olds xs) (hl:xs.length=m*de.size) (hA:kzi w m olds A) (hs:Src P de.size tx x n news w) (hy:CR ψ K S w news ys) (C:cap<m+n) (D:(m+n)*(de.bytes+1)<=140737488355328):
  ∃ gc cur,(Builtin.append_ #[t,tx] ty #[.slice A m cap,x]).run P w = .ok (.slice (some ⟨w.heap.size,0,none⟩) (m+n) gc) (w.drew.alloc (.cells cur e))/\cur.size=gc*de.size/\m+n<=gc/\gc<=9223372036854775807/\(xs++ys).length=(m+n)*de.size /\
   (∀ x∈xs++ys,x.single=true)/\∀ (i:Nat) (v:Value) (x:AV),cur[i]?=some v->(xs++ys)[i]?=some x->RV ψ K S w v x:=by
 obtain ⟨⟨i,z,hi,c,d,o,p⟩,_⟩:=k;have q:z.cells.size=i.size:=by rw [<- qac,p,l,c]
 rw [<- c] at hs hl ⊢;rw [Nat.mul_add,qbg] at D;have f:(Builtin.firstCells i.size m (.slice A m cap)).run P w.drew = .ok olds.toArray w.drew:=by
  cases A with
  | none=>
   obtain ⟨rfl,rfl⟩:=hA;exact run_firstCells_none w.drew i.size 0 0 cap
  | some ad=>exact run_firstCells_some w.drew i.size m ad m cap olds (by rw [hc.1,hl]) fun j v r=>by simpa using hA j v r
 have s:=nextslicecap_le C;have g:Builtin.nextslicecap (m+n) cap*i.bytes<=281474976710656:=by have:=qan i.bytes s;rw [Nat.mul_assoc,d] at this;rw [d];omega
 have h:=run_append_grow_src (P:=P) w t tx ty e i z ht hi o A m cap olds f x n news hs C (by omega) g;have u:=grownCap_ge w (m+n) cap e;have B:=grownCap_le_maxLen w (m+n) cap e (by unfold maxLen;omega);have a:=hc.append hy;have b:(xs++ys).length=(m+n)*i.size:=by rw [qy,hl,<- hy.1,hs.newsLen,qaw]
 refine ⟨grownCap w (m+n) cap e,_,h,?_,u,by unfold maxLen at B;omega,b,a.2.1,fun j v y hv hy=>?_⟩;simp only [Array.size_append,List.size_toArray,size_zeroCells,q];rw [a.1,b,<- qaw];congr 1;omega
 ·have r:j<(olds++news).length:=by rw [a.1];exact (qd.1 hy).1
  rw [qax (by simpa using r)] at hv;exact a.2.2 j v y (by simpa using hv) hy
theorem kpt {x y:Operand} {ts:Array TypeId} {v:Value} {w1:World} (b:o.op = .call { callee := .builtin .append,args:=#[x,y],argTypes:=ts }) (h:(Builtin.append_ ts o.type #[a.eval x,a.eval y]).run P w = .ok v w1):(execOp a.eval o).run P w = .ok (.value v) w1:=by simp only [execOp,b,resolve,invoke,builtin,Sem.run_bind,Sem.run_pure,Result.andThen_ok,List.map_toArray,qba,List.map_nil,h]
theorem grow_grow {cur:Array Value} {e:TypeId}:Grow w (w.drew.alloc (.cells cur e)):=Below.step (k3l w) (ka7 _ _)
theorem k4k {x y:Operand} {e:TypeId} {de:TD} {m n k:Nat} {xs ys:List AV} (q:o.op = .call { callee := .builtin .append,args:=#[x,y],argTypes:=#[t,tx] }) (r:TOk P T) (hd:kac T t=some d) (hk:d.kind = .slice e) (s:kac T e=some de) (u:0<de.size) (B:de.zero.length=de.size)
  (hx:rdSl de.size st (st.eval x)=some (m,some k,xs)) (hy:srcE T de.size st tx (st.eval y)=some (n,ys)) (H:k<m+n) (C:(m+n)*(de.bytes+1)<=140737488355328) (f:st.ids.contains id=false):
  StepA P o st (.bsl id 0 0 (m+n) none) ((id, .xo (.blk 0 e de.size (xs++ys)))::st.heap) (id::st.ids):=by
 have f:id∉st.ids:=by simpa using f
 intro F S0 N0 ψ S a w g;have c:=g.core;have G:=fun id o q=>(c.obj id o q).2.1;obtain ⟨A,cap,D,_,_,j,cs,I,J,K⟩:=kmv (g.eval x) G hx;obtain rfl:=j k rfl;obtain ⟨news,l,E⟩:=krk r (g.eval y) G hy;obtain ⟨gc,cur,p,g1,g2,g3,g4,g5,g6⟩:=ksm o.type ((r.get hd).slice hk) (r.get s) B _ I J K l E H C;refine kad _ _ (kpt q (by rw [D];exact p)) ⟨ψ.set id 0 (.slice (some ⟨w.heap.size,0,none⟩) (m+n) gc),S,?_,?_,Fr.of_grow c.fr grow_grow,ka3 f _ _,fun _ h=>qf _ h,fun _ h=>h,Same.of_grow grow_grow⟩;have L:(m+n)*de.size<=gc*de.size:=qan _ g2;refine c.add grow_grow f (fun b C=>by simp [kap] at C;omega) ⟨kbf _ _,u,w.heap.size,cur,m+n,gc,kaj _ _,by simpa using heap_alloc_new w.drew (.cells cur e),g1,g3,by omega,g5,fun i v z hv u=>(g6 i v z hv u).keep (ka3 f _ _) (fun _ h=>qf _ h) (fun _ h=>h) (Same.of_grow grow_grow)⟩
 ·exact .bsl (qt ..) (qaq _) rfl fun _=>⟨w.heap.size,gc,by rw [kaj];rfl,rfl,g2,g3,rfl,by rw [kaj];rfl⟩
theorem k3q {x y:Operand} {e:TypeId} {de:TD} {g off m n k:Nat} {cells ys:List AV} (s:o.op = .call { callee := .builtin .append,args:=#[x,y],argTypes:=#[t,tx] }) (u:TOk P T) (hd:kac T t=some d) (hk:d.kind = .slice e) (v:kac T e=some de)
  (hx:st.eval x = .bsl id g off m (some k)) (q:objC st id=some (g,cells)) (hy:srcE T de.size st tx (st.eval y)=some (n,ys)) (hr:m+n<=k) (A:off+m*de.size+ys.length<=cells.length):
  StepA P o st (.bsl id g off (m+n) (some k)) (putC st id (kbw cells (off+m*de.size) ys)) st.ids:=by
 intro F S0 N0 ψ S a w p;have f:=p.core;have E:=fun id o s=>(f.obj id o s).2.1;obtain ⟨H,_⟩:=kfk E q;have hv:=p.eval x;rw [hx] at hv;obtain ⟨hK,b,c,G,B,I,r,j⟩:=kgv hv H;simp only [CapR] at j;subst j;obtain ⟨news,l,C⟩:=krk u (p.eval y) E hy;obtain ⟨b',w1,q1,q2,q3,q4,q5⟩:=kvh (P:=P) f q A C;rw [G] at q1;simp only [qc] at q1;subst q1;obtain ⟨⟨i,z,hi,D,J,K,L⟩,_⟩:=u.get v;rw [<- D] at l q2;refine kad _ _ (kpt s (by rw [B];exact kse ((u.get hd).slice hk) hi _ l hr q2)) ⟨ψ,S,q3,?_,q4,Ext.refl,fun _ h=>h,fun _ h=>h,q5⟩;exact .bsl hK (by omega) rfl fun _=>⟨b,c,G,rfl,hr,r,rfl⟩
theorem k94 {x y:Operand} {e:TypeId} {de:TD} {g m n:Nat} {cells ys:List AV} (ho:o.op = .call { callee := .builtin .append,args:=#[x,y],argTypes:=#[t,tx] }) (M:TOk P T) (hd:kac T t=some d) (hk:d.kind = .slice e) (N:kac T e=some de) (ab:de.zero.length=de.size)
  (hx:st.eval x = .bsl id g 0 m none) (O:kaa st.heap id=some (.xo (.blk g e de.size cells))) (hl:cells.length=m*de.size) (hy:srcE T de.size st tx (st.eval y)=some (n,ys)) (hb:(m+n)*(de.bytes+1)<=140737488355328):
  StepA P o st (.bsl id (g+1) 0 (m+n) none) ((id, .xo (.blk (g+1) e de.size (cells++ys)))::st.heap) st.ids:=by
 intro F S0 N0 ψ S a w I;have l:=I.core;have hO:=fun id o ho=>(l.obj id o ho).2.1;obtain ⟨ac,⟨hg,D,b,cs,n0,cap,h1,h2,h3,h4,h5,h6,h7⟩,ad⟩:=l.obj id _ O;have hv:=I.eval x;rw [hx] at hv;obtain ⟨hK,b',c,J,Q,ae,R,E⟩:=kgv hv hg;rw [h1] at J E;simp only [kap,qc] at J;subst J;have af:c=cap:=E.2;rw [af] at Q ae R;obtain ⟨news,q,r⟩:=krk M (I.eval y) hO hy;have U:CR ψ (·∈st.ids) S w (cs.toList.take cells.length) cells:=⟨by simp;omega,h6,fun i v x hv hx=>by
  rw [qw] at hv;split at hv;exact h7 i v x (by simpa using hv) hx
  ·cases hv⟩
 have fin:∀ (v':Value) (w1:World) (b1 gc:Nat) (new:Array Value),(Builtin.append_ #[t,tx] o.type #[.slice (some ⟨b,0,none⟩) m cap,a.eval y]).run P w = .ok v' w1->v' = .slice (some ⟨b1,0,none⟩) (m+n) gc->w1.heap[b1]?=some (.cells new e (0,0))->new.size=gc*de.size->m+n<=gc->gc<=9223372036854775807 ->
   (cells++ys).length<=new.size->(∀ (i:Nat) (v:Value) (x:AV),new[i]?=some v->(cells++ys)[i]?=some x->RV ψ (·∈st.ids) S w v x)->w.heap.size<=w1.heap.size->(∀ k,k<w.heap.size->k≠b->w1.heap[k]?=w.heap[k]?)->(b1=b\/w.heap.size<=b1)->w1.os=w.os/\w1.tape=w.tape/\w1.output=w.output ->
   kce P o a w fun v w'=>∃ ψ' S',Core F S0 N0 ((id, .xo (.blk (g+1) e de.size (cells++ys)))::st.heap) st.ids ψ' S' w'/\RV ψ' (·∈st.ids) S' w' v (.bsl id (g+1) 0 (m+n) none)/\Fr F w w'/\Ext (·∈st.ids) ψ ψ'/\(∀ id,id∈st.ids->id∈st.ids)/\(∀ b,S b->S' b)/\Same S w w':=by
  intro v' w1 b1 gc new f K hh ag V X Y hr s Z ah hw;have B:∀ k,k<w.heap.size->¬ Blk (ψ.val id) k->w1.heap[k]?=w.heap[k]?:=fun k hk ai=>Z k hk fun e=>ai (.of (by rw [h1,e];rfl));have L:Same S w w1:=fun k hk hl=>B k hl fun e=>(ad k e).1 hk;have G:Ext (·∈st.ids) ψ (ψ.set id (g+1) v'):=kos (.inl (by omega));obtain ⟨c1,c2,c3⟩:=l.upd (n:=g+1) (v:=v') (w':=w1) (ob' := .xo (.blk (g+1) e de.size (cells++ys))) O s B (.inl (by omega)) (fun k hk=>by
    rw [K] at hk;have hk:=hk.sl;simp only [kap,qc] at hk;subst hk;rcases ah with rfl | h;exact .inl (.of (by rw [h1];rfl))
    ·exact .inr h)
   ⟨kbf _ _,D,b1,new,m+n,gc,by rw [kaj,K],hh,ag,X,Y,fun z D=>(qaz.1 D).elim (h6 z) (r.2.1 z),fun i v z hv D=>(hr i v z hv D).keep G (fun _ h=>h) (fun _ h=>h) L⟩
  refine kad _ _ (kpt ho (by rw [Q];exact f)) ⟨_,S,c1,?_,⟨hw.1,hw.2.1,hw.2.2,s,c3,no0⟩,G,fun _ h=>h,fun _ h=>h,c2⟩;subst K;exact .bsl ac (by rw [kbf];exact qv _) rfl fun _=>⟨b1,gc,by rw [kaj];rfl,rfl,V,X,rfl,by rw [kaj];rfl⟩
 by_cases p:m+n<=cap
 ·obtain ⟨⟨i,z,hi,H,aj,ak,al⟩,_⟩:=M.get N;have aa:0+m*de.size+news.length<=cs.size:=by rw [q.newsLen,h3,Nat.zero_add,<- qaw];exact qan _ p
  have hst:=run_storeCells_at (P:=P) b (0+m*de.size) e news 0 cs w h2 (by simpa using aa) r.one;simp only [Nat.add_zero] at hst;have f:=kse (ty:=o.type) ((M.get hd).slice hk) hi cap (by rw [H];exact q) p (by rw [H];exact hst);have C:cells.length=0+m*de.size:=by omega
  refine fin _ _ b cap _ f rfl (ke4 b h2) ?_ p h4 ?_ (fun j v z hv D=>?_) (by simp [World.setRow]) (fun k _ hk=>kgd b _ k hk) (.inl rfl) ⟨rfl,rfl,rfl⟩;simp;omega;simp [<- r.1];omega
  ·have hc2:=U.append r;rw [C] at hc2;refine hc2.2.2 j v z ?_ D;have hj:j<(List.take (0+m*de.size) cs.toList++news).length:=(by rw [hc2.1];exact (qd.1 D).1);simp only [qbr] at hv;rw [qab hj] at hv;exact hv
 ·obtain ⟨gc,cur,f,g1,g2,g3,g4,g5,g6⟩:=ksm (m:=m) (A:=some ⟨b,0,none⟩) o.type ((M.get hd).slice hk) (M.get N) ab cap U hl (fun j u hu=>by
   rw [kbg];rw [qw] at hu;split at hu;exact krp h2 (by simpa using hu)
   ·cases hu) q r (by omega) hb
  have V:(m+n)*de.size<=gc*de.size:=qan _ g2;exact fin _ _ w.heap.size gc cur f rfl (by simpa using heap_alloc_new w.drew (.cells cur e)) g1 g2 g3 (by omega) g6 grow_grow.size (fun k hk _=>grow_grow.block k hk) (.inr (qv _)) ⟨rfl,rfl,rfl⟩
theorem kabn {x y:Operand} {e:TypeId} {de:TD} {m:Nat} {c:Option Nat} {xs ys:List AV} (r:o.op = .call { callee := .builtin .append,args:=#[x,y],argTypes:=#[t,tx] }) (k:TOk P T) (hd:kac T t=some d) (hk:d.kind = .slice e) (l:kac T e=some de)
  (hx:rdSl de.size st (st.eval x)=some (m,c,xs)) (hy:srcE T de.size st tx (st.eval y)=some (0,ys)):NStep P o st (st.eval x):=by
 intro ψ S a w ht q;obtain ⟨A,cap,f,n,_⟩:=kmv (Sim.eval_tmps ht x) q hx;obtain ⟨news,b,s⟩:=krk k (Sim.eval_tmps ht y) q hy;obtain rfl:news=[]:=qav (by rw [b.newsLen,Nat.zero_mul]);obtain ⟨⟨i,z,hi,p,u,v,B⟩,_⟩:=k.get l;rw [<- p] at b;have g:=Sim.eval_tmps ht x;rw [f] at g;have C:=(k.get hd).slice hk;have h:(Builtin.append_ #[t,tx] o.type #[.slice A m cap,a.eval y]).run P w = .ok (.slice A m cap) w:=by rcases b.kind with ⟨e',j⟩ | j <;> cases A <;> simp [Builtin.append_,run_underlying C,run_underlying j,sizeOf,typeInfo,hi,b.len,n,b.cells,storeCells]
 exact kad _ _ (kpt r (by rw [f];exact h)) ⟨kae _,g.here⟩
end
end Go.Proofs.YtjnjipmjkkhdpaaGreatDoor
