import Derived.Test.YtjpkdegjcilndaaGreatDoorOpr
import Derived.Deep.AppendSrc
import Derived.Maps.RangeRun
set_option linter.all false
set_option linter.unusedSectionVars false
namespace Go.Proofs.YtjpkdegjcilndaaGreatDoor
open Go Go.RowKit
variable [Dr]
def anc (l:List Oper) (i j:Nat):Bool:=((kq6 l).getD i 0).testBit j
def dstT (l:List Oper) (j:Nat):Option Nat:=(l[j]?).bind (·.dst)
def phB (l:List Oper) (es:List Nat) (i:Nat):Bool:=es.all fun e=>bif Nat.blt e i then anc l i e else (bif Nat.blt i e then anc l e i else true)
def krx (l:List Oper) (n:Nat) (es:List Nat):Bool:=es.all fun e=>Nat.blt e n && phB l es e
def kph (ch:List Nat):List (Nat×AObj)->List (Nat×AObj)
  | []=>[]
  | (k,v)::l=>bif ch.contains k then kph ch l else (k,v)::kph ch l
def kk9 (l:List Oper) (i:Nat):Nat->List (Nat×AV)
  | 0=>[]
  | j+1=>match dstT l j with
    | some d=>bif Nat.ble j i || anc l j i then kk9 l i j else (d, .any)::kk9 l i j
    | none=>kk9 l i j
def kes (l:List Oper) (n:Nat) (es ch ai:List Nat) (st:St) (i:Nat) (o:Oper) (fs:List (Nat×Option Nat×AV)) (hp:List (Nat×AObj)) (ids:List Nat):St:=
  { st with tmps:=hadd fs (ki8 o) (kk9 l i n++st.tmps),heap:=bif phB l es i then hp else kph ch st.heap,ids:=bif phB l es i then ids else ai }
def pnE (v:Value):PanicEntry:={ v:=v,recovered:=false }
def kxy (P:Program) (os:Array Oper) (v:St) (o:Oper) (c:AV):Prop:=(kbp os v o=some true/\NStep P o v c)\/(kbp os v o=some false/\c = .fz (.tup []))
def k1v (P:Program) (os:Array Oper) (l:List Oper) (n:Nat) (es ch ai:List Nat) (st v:St) (o:Oper) (c:AV) (hp:List (Nat×AObj)) (ids:List Nat) (a:List (Nat×AObj)) (ids':List Nat):Prop:=
  ((kbp os v o=some true/\StepA P o v c a ids')\/(kbp os v o=some false/\c = .fz (.tup [])/\a=hp/\ids'=ids))/\((∀ i,i<n->phB l es i=true)\/((∀ id,id∉ch->∀ ob,kaa hp id=some ob->kaa a id=some ob)/\(∀ id,id∈ids'->id∈ai)/\∀ id,id∈ids->id∈ids'))
def kaie (_:Program) (_:Array Oper) (_:Exit->St->Prop) (_ _:St) (_:Oper):Prop:=False
def kra [Rd] (P:Program) (os:Array Oper) (n:Nat) (es ch ai:List Nat) (Q:Exit->St->Prop) (st:St):Nat->Nat->List Oper->List (Nat×Option Nat×AV)->List (Nat×AObj)->List Nat->Option Nat->Prop
  | 0,_,l,fs,hp,ids,none=>awpL P os l { st with tmps:=hadd fs (fun _=>true) st.tmps,heap:=hp,ids:=ids } Q
  | 0,_,_,_,_,_,some _=>True
  | k+1,i,o::l,fs,hp,ids,pn=>
    (∃ e,pn=some e/\anc os.toList i e=true/\kra P os n es ch ai Q st k (i+1) l ((i,o.dst, .any)::fs) hp ids pn) \/
    (es.contains i=false/\∃ c,kxy P os (kes os.toList n es ch ai st i o fs hp ids) o c/\(phB os.toList es i || okA st.ids c)=true/\kra P os n es ch ai Q st k (i+1) l ((i,o.dst,c)::fs) hp ids pn) \/
    (es.contains i=true/\pn=none/\∃ c a ids',k1v P os os.toList n es ch ai st (kes os.toList n es ch ai st i o fs hp ids) o c hp ids a ids'/\kra P os n es ch ai Q st k (i+1) l ((i,o.dst,c)::fs) a ids' none) \/
    (es.contains i=true/\pn=none/\kaie P os Q st (kes os.toList n es ch ai st i o fs hp ids) o/\kra P os n es ch ai Q st k (i+1) l ((i,o.dst, .any)::fs) hp ids (some i))
  | _+1,_,[],_,_,_,_=>False
variable {P:Program} {F S0:Nat->Prop} {N0:Nat} {w w':World} {S S':Nat->Prop} {ψ ψ':Env} {Q:Exit->St->Prop} {st:St} {os:Array Oper} {n:Nat} {es ch ai:List Nat}
def fsOf (l:List Oper) (c:Nat->AV):Nat->List (Nat×Option Nat×AV)
  | 0=>[]
  | k+1=>(k,dstT l k,c k)::fsOf l c k
theorem klu {l:List Oper} {c c':Nat->AV}:∀ {k:Nat},(∀ j,j<k->c j=c' j)->fsOf l c k=fsOf l c' k
  | 0,_=>rfl
  | k+1,h=>by simp only [fsOf,h k (by omega),klu (k:=k) fun j a=>h j (by omega)]
def FactZ [Rd] (P:Program) (os:Array Oper) (n:Nat) (es ch ai:List Nat) (Q:Exit->St->Prop) (st:St) (c:Nat->AV) (H:Nat->List (Nat×AObj)×List Nat) (pn:Option Nat) (i:Nat) (o:Oper):Prop:=
  (H (i+1)=H i/\∃ e,pn=some e/\e<i/\anc os.toList i e=true) \/
  (i∉es/\H (i+1)=H i/\kxy P os (kes os.toList n es ch ai st i o (fsOf os.toList c i) (H i).1 (H i).2) o (c i)/\(phB os.toList es i || okA st.ids (c i))=true) \/
  (i∈es/\(∀ e,pn=some e->i<e)/\k1v P os os.toList n es ch ai st (kes os.toList n es ch ai st i o (fsOf os.toList c i) (H i).1 (H i).2) o (c i) (H i).1 (H i).2 (H (i+1)).1 (H (i+1)).2) \/
  (i∈es/\pn=some i/\H (i+1)=H i/\kaie P os Q st (kes os.toList n es ch ai st i o (fsOf os.toList c i) (H i).1 (H i).2) o)
theorem knx [Rd] {rest:List Oper}:∀ (k i:Nat) (l:List Oper) (c0:Nat->AV) (H0:Nat->List (Nat×AObj)×List Nat) (pn0:Option Nat),os.toList.drop i=l++rest->i+k=n->(∀ e,pn0=some e->e<i) ->
    kra P os n es ch ai Q st k i l (fsOf os.toList c0 i) (H0 i).1 (H0 i).2 pn0 ->
    ∃ c H pn,(∀ j,j<i->c j=c0 j)/\(∀ j,j<=i->H j=H0 j)/\(∀ e,pn0=some e->pn=some e)/\(∀ e,pn=some e->pn0=some e\/(i<=e/\e<n/\e∈es))/\(∀ j o,i<=j->j<n->os.toList[j]?=some o->FactZ P os n es ch ai Q st c H pn j o) /\
      (pn=none->awpL P os (l.drop k) { st with tmps:=hadd (fsOf os.toList c n) (fun _=>true) st.tmps,heap:=(H n).1,ids:=(H n).2 } Q)
  | 0,i,l,c0,H0,pn0,hl,hn,hp,h=>by obtain rfl:i=n:=(by omega);refine ⟨c0,H0,pn0,fun _ _=>rfl,fun _ _=>rfl,fun _ h=>h,fun e h => .inl h,fun j o h1 p=>by omega,fun d=>?_⟩;subst d;exact h
  | k+1,i,l,c0,H0,pn0,hl,hn,hp,h=>by
    cases l with
    | nil=>exact h.elim
    | cons o l=>
      have f:os.toList[i]?=some o:=(by have:=congrArg (·[0]?) hl;simpa using this);have m:os.toList.drop (i+1)=l++rest:=(by rw [<- List.drop_drop,hl];rfl);have hd:dstT os.toList i=o.dst:=(by unfold dstT;rw [f];rfl);have cons:∀ c,(i,o.dst,c)::fsOf os.toList c0 i=fsOf os.toList (fun j=>if j=i then c else c0 j) (i+1):=fun c=>(by simp only [fsOf,hd,if_true];rw [klu (k:=i) (c':=fun j=>if j=i then c else c0 j) fun j q=>by rw [qi (by omega)]]);have v:∀ x:List (Nat×AObj)×List Nat,(fun j=>if j=i+1 then x else H0 j) (i+1)=x:=fun x=>(by simp);rcases h with ⟨e,t,ha,h⟩ | ⟨g,c,r,u,h⟩ | ⟨g,d,c,s,ids',r,h⟩ | ⟨g,d,r,h⟩
      · rw [cons] at h
        obtain ⟨c1,H1,pn1,k1,k2,k3,k3',k4,k5⟩:=knx k (i+1) l _ (fun j=>if j=i+1 then H0 i else H0 j) pn0 m (by omega) (fun e h=>by have:=hp e h;omega) (by simpa using h);refine ⟨c1,H1,pn1,fun j q=>by rw [k1 j (by omega),qi (by omega)],fun j q=>by rw [k2 j (by omega),qi (by omega)],k3,fun e h=>(k3' e h).imp id (fun h=>⟨by omega,h.2⟩),fun j o' h1 p a=>?_,k5⟩;by_cases b:j=i
        · subst b
          rw [f] at a;obtain rfl:=qw a;exact .inl ⟨by rw [k2 (j+1) (qx _),qo rfl,k2 j (by omega),qi (by omega)],e,k3 e t,hp e t,ha⟩
        · exact k4 j o' (by omega) p a
      · rw [cons] at h
        obtain ⟨c1,H1,pn1,k1,k2,k3,k3',k4,k5⟩:=knx k (i+1) l _ (fun j=>if j=i+1 then H0 i else H0 j) pn0 m (by omega) (fun e h=>by have:=hp e h;omega) (by simpa using h);have e1:∀ j,j<i->c1 j=c0 j:=fun j q=>(by rw [k1 j (by omega),qi (by omega)]);have e2:c1 i=c:=(by rw [k1 i (by omega),qo rfl]);have e3:H1 i=H0 i:=(by rw [k2 i (by omega),qi (by omega)]);have e4:H1 (i+1)=H0 i:=(by rw [k2 (i+1) (qx _),qo rfl]);refine ⟨c1,H1,pn1,e1,fun j q=>by rw [k2 j (by omega),qi (by omega)],k3,fun e h=>(k3' e h).imp id (fun h=>⟨by omega,h.2⟩),fun j o' h1 p a=>?_,k5⟩;by_cases b:j=i
        · subst b
          rw [f] at a;obtain rfl:=qw a;refine .inr (.inl ⟨by simpa using g,by rw [e3,e4],?_⟩);rw [klu e1,e2,e3];exact ⟨r,u⟩
        · exact k4 j o' (by omega) p a
      · subst d
        rw [cons] at h;obtain ⟨c1,H1,pn1,k1,k2,k3,k3',k4,k5⟩:=knx k (i+1) l _ (fun j=>if j=i+1 then (s,ids') else H0 j) none m (by omega) (fun e h=>by cases h) (by simpa using h);have e1:∀ j,j<i->c1 j=c0 j:=fun j q=>(by rw [k1 j (by omega),qi (by omega)]);have e2:c1 i=c:=(by rw [k1 i (by omega),qo rfl]);have e3:H1 i=H0 i:=(by rw [k2 i (by omega),qi (by omega)]);have e4:H1 (i+1)=(s,ids'):=(by rw [k2 (i+1) (qx _),qo rfl]);refine ⟨c1,H1,pn1,e1,fun j q=>by rw [k2 j (by omega),qi (by omega)],k3,fun e h=>(k3' e h).imp id (fun h=>⟨by omega,h.2⟩),fun j o' h1 p a=>?_,k5⟩;by_cases b:j=i
        · subst b
          rw [f] at a;obtain rfl:=qw a;refine .inr (.inr (.inl ⟨by simpa using g,fun e t=>?_,?_⟩))
          · rcases k3' e t with h | h
            · cases h
            · omega
          · rw [klu e1,e2,e3,e4]
            exact r
        · exact k4 j o' (by omega) p a
      · exact r.elim
def kl4 (fs:List (Nat×Option Nat×AV)) (p:Nat->Bool) (base:List (Nat×AV)):List (Nat×AV):=match fs with
  | []=>base
  | (j,some d,c)::l=>bif p j then (d,c)::kl4 l p base else kl4 l p base
  | (_,none,_)::l=>kl4 l p base
theorem khj {l:List Oper} {c:Nat->AV} {p:Nat->Bool} {base:List (Nat×AV)} {t:Nat}:∀ k,(∃ j,j<k/\p j=true/\dstT l j=some t/\look .any (kl4 (fsOf l c k) p base) t=c j) \/
    ((∀ j,j<k->p j=true->dstT l j≠some t)/\look .any (kl4 (fsOf l c k) p base) t=look .any base t)
  | 0 => .inr ⟨fun j h=>by omega,rfl⟩
  | k+1=>by
    have ih:=khj (l:=l) (c:=c) (p:=p) (base:=base) (t:=t) k;simp only [fsOf];cases hd:dstT l k with
    | none=>
      simp only [kl4];rcases ih with ⟨j,h1,a,g,i⟩ | ⟨h1,a⟩
      · exact .inl ⟨j,by omega,a,g,i⟩
      · refine .inr ⟨fun j m hp=>?_,a⟩
        by_cases b:j=k
        · subst b;rw [hd];exact fun h=>by cases h
        · exact h1 j (by omega) hp
    | some d=>
      simp only [kl4];cases hp:p k with
      | false=>
        simp only [qd];rcases ih with ⟨j,h1,a,g,i⟩ | ⟨h1,a⟩
        · exact .inl ⟨j,by omega,a,g,i⟩
        · refine .inr ⟨fun j m e=>?_,a⟩
          by_cases b:j=k
          · subst b;rw [hp] at e;cases e
          · exact h1 j (by omega) e
      | true=>
        simp only [qe,kat];by_cases f:d=t
        · subst f
          exact .inl ⟨k,by omega,hp,hd,by rw [qo rfl]⟩
        · rw [qi f]
          rcases ih with ⟨j,h1,a,g,i⟩ | ⟨h1,a⟩
          · exact .inl ⟨j,by omega,a,g,i⟩
          · refine .inr ⟨fun j m e=>?_,a⟩
            by_cases b:j=k
            · subst b;rw [hd];exact fun h=>f (qw h)
            · exact h1 j (by omega) e
theorem ku9 {l:List Oper} {c:Nat->AV} {p:Nat->Bool} {base:List (Nat×AV)} {t:Nat}:∀ k,(look .any (hadd (fsOf l c k) p base) t = .any)\/(∃ j,j<k/\p j=true/\dstT l j=some t/\look .any (hadd (fsOf l c k) p base) t=c j) \/
    ((∀ j,j<k->dstT l j≠some t)/\look .any (hadd (fsOf l c k) p base) t=look .any base t)
  | 0 => .inr (.inr ⟨fun j h=>by omega,rfl⟩)
  | k+1=>by
    have ih:=ku9 (l:=l) (c:=c) (p:=p) (base:=base) (t:=t) k;simp only [fsOf];cases hd:dstT l k with
    | none=>
      simp only [hadd];rcases ih with h | ⟨j,h1,a,f,g⟩ | ⟨h1,a⟩
      · exact .inl h
      · exact .inr (.inl ⟨j,by omega,a,f,g⟩)
      · refine .inr (.inr ⟨fun j i=>?_,a⟩)
        by_cases b:j=k
        · subst b;rw [hd];exact fun h=>by cases h
        · exact h1 j (by omega)
    | some d=>
      simp only [hadd,kat];by_cases e:d=t
      · subst e
        rw [qo rfl];cases hp:p k with
        | false=>exact .inl rfl
        | true=>exact .inr (.inl ⟨k,by omega,hp,hd,rfl⟩)
      · rw [qi e]
        rcases ih with h | ⟨j,h1,a,f,g⟩ | ⟨h1,a⟩
        · exact .inl h
        · exact .inr (.inl ⟨j,by omega,a,f,g⟩)
        · refine .inr (.inr ⟨fun j i=>?_,a⟩)
          by_cases b:j=k
          · subst b;rw [hd];exact fun h=>e (qw h)
          · exact h1 j (by omega)
theorem kzc {l:List Oper} {i:Nat} {base:List (Nat×AV)} {t:Nat}:∀ k,look .any (kk9 l i k++base) t = .any\/((∀ j,j<k->dstT l j=some t->j<=i\/anc l j i=true)/\look .any (kk9 l i k++base) t=look .any base t)
  | 0 => .inr ⟨fun j h=>by omega,rfl⟩
  | k+1=>by
    have ih:=kzc (l:=l) (i:=i) (base:=base) (t:=t) k;simp only [kk9];cases hd:dstT l k with
    | none=>
      rcases ih with h | ⟨h1,e⟩
      · exact .inl h
      · refine .inr ⟨fun j g a=>?_,e⟩
        by_cases b:j=k
        · subst b;rw [hd] at a;cases a
        · exact h1 j (by omega) a
    | some d=>
      cases f:(Nat.ble k i || anc l k i) with
      | true=>
        simp only [f,qe];rcases ih with h | ⟨h1,e⟩
        · exact .inl h
        · refine .inr ⟨fun j g a=>?_,e⟩
          by_cases b:j=k
          · subst b
            rw [qb1] at f;exact f.imp (fun h=>qs h) id
          · exact h1 j (by omega) a
      | false=>
        simp only [f,qd,List.cons_append,kat];by_cases c:d=t
        · rw [qo c];exact .inl rfl
        · rw [qi c]
          rcases ih with h | ⟨h1,e⟩
          · exact .inl h
          · refine .inr ⟨fun j g a=>?_,e⟩
            by_cases b:j=k
            · subst b;rw [hd] at a;exact absurd (qw a) c
            · exact h1 j (by omega) a
theorem kw6 {ch:List Nat} {id:Nat} {ob:AObj}:∀ {l:List (Nat×AObj)},kaa (kph ch l) id=some ob->id∉ch/\kaa l id=some ob
  | [],h=>by cases h
  | (k,v)::l,h=>by
    simp only [kph] at h;cases hc:ch.contains k with
    | true=>
      rw [hc] at h;obtain ⟨h1,a⟩:=kw6 (l:=l) h;refine ⟨h1,?_⟩;rw [kac,qi]
      · exact a
      · rintro rfl;exact h1 (by simpa using hc)
    | false=>
      rw [hc] at h;simp only [qd,kac] at h;rw [kac];by_cases hk:k=id
      · subst hk
        rw [qo rfl] at h ⊢;exact ⟨by simpa using hc,h⟩
      · rw [qi hk] at h ⊢
        exact kw6 h
theorem kus {ch:List Nat} {id:Nat} {ob:AObj} (a:id∉ch):∀ {l:List (Nat×AObj)},kaa l id=some ob->kaa (kph ch l) id=some ob
  | [],h=>by cases h
  | (k,v)::l,h=>by
    simp only [kph];rw [kac] at h;cases hc:ch.contains k with
    | true=>
      simp only [qe];rw [qi (by rintro rfl;exact a (by simpa using hc))] at h;exact kus a h
    | false=>
      simp only [qd,kac];by_cases hk:k=id
      · rw [qo hk] at h ⊢; exact h
      · rw [qi hk] at h ⊢; exact kus a h
def kv4 (ch:List Nat):List (Nat×AObj)->List Nat
  | []=>[]
  | (k,_)::l=>bif ch.contains k then kv4 ch l else k::kv4 ch l
theorem k4m {ch:List Nat} {id:Nat} {ob:AObj} (a:id∉ch):∀ {l:List (Nat×AObj)},kaa l id=some ob->id∈kv4 ch l
  | [],h=>by cases h
  | (k,v)::l,h=>by
    simp only [kv4];rw [kac] at h;by_cases hk:k=id
    · subst hk
      rw [show ch.contains k=false by simpa using a];exact qu ..
    · rw [qi hk] at h
      have:=k4m a (l:=l) h;cases ch.contains k with
      | true=>exact this
      | false=>exact qh _ this
theorem kam8 {ch:List Nat} {hp a:List (Nat×AObj)} (h:(kv4 ch hp).map (kaa a)=(kv4 ch hp).map (kaa hp)):∀ id,id∉ch->∀ ob,kaa hp id=some ob->kaa a id=some ob:=fun id b ob c=>by rw [List.map_inj_left.1 h id (k4m b c)];exact c
def stZ (l:List Oper) (n:Nat) (st:St) (c:Nat->AV) (H:Nat->List (Nat×AObj)×List Nat) (listed:Array Bool) (kD:Nat):St:=
  { st with tmps:=kl4 (fsOf l c n) (fun j=>listed.getD j false) st.tmps,heap:=(H kD).1,ids:=(H kD).2 }
theorem k60 {es:List Nat} {H:Nat->List (Nat×AObj)×List Nat} {n:Nat} (g:∀ i,i<n->i∉es->H (i+1)=H i):∀ {a b:Nat},a<=b->b<=n->(∀ e,e∈es->¬ (a<=e/\e<b))->H a=H b
  | a,b,h1,j,f=>by
    induction b with
    | zero=>
        obtain rfl:a=0:=(by omega);rfl
    | succ b ih=>
      by_cases c:a=b+1
      · rw [c]
      · rw [g b (by omega) (fun d=>f b d ⟨by omega,by omega⟩)]
        exact ih (by omega) (by omega) fun e d h=>f e d ⟨h.1,by omega⟩
def HistI (ids ids':List Nat) (ψ ψ':Env) (S S':Nat->Prop) (w w':World):Prop:=Ext (·∈ids) ψ ψ'/\(∀ i,i∈ids->i∈ids')/\(∀ b,S b->S' b)/\Same S w w'
theorem HistI.refl {ids:List Nat}:HistI ids ids ψ ψ S S w w:=⟨Ext.refl,fun _ h=>h,fun _ h=>h,fun _ _ _=>rfl⟩
theorem HistI.trans {ids ids' ids2:List Nat} {ψ2:Env} {S2:Nat->Prop} {w2:World} (h:HistI ids ids' ψ ψ' S S' w w') (k:HistI ids' ids2 ψ' ψ2 S' S2 w' w2):HistI ids ids2 ψ ψ2 S S2 w w2:=
  ⟨h.1.trans' k.1 h.2.1,fun i hi=>k.2.1 i (h.2.1 i hi),fun b a=>k.2.2.1 b (h.2.2.1 b a),h.2.2.2.trans' k.2.2.2 h.2.2.1⟩
structure DSx (F S0:Nat->Prop) (N0:Nat) (ψ0:Env) (Sa:Nat->Prop) (w0:World) (l:List Oper) (n:Nat) (es:List Nat) (st:St) (c:Nat->AV) (H:Nat->List (Nat×AObj)×List Nat) (listed:Array Bool) (a:Act) (w:World):Prop where
  inv:∃ kD ψ S,kD<=n/\(∀ e,e∈es->(listed.getD e false=true↔e<kD))/\Sim F S0 N0 (stZ l n st c H listed kD) ψ S a w/\HistI st.ids (H kD).2 ψ0 ψ Sa S w0 w
  fr:Fr F w0 w
  lsize:listed.size=l.length
  closed:∀ k o,listed.getD k false=true->l[k]?=some o->∀ e∈o.after,Region.binds .any e=true->listed.getD e.on false=true
def kaiv (P:Program) (l:List Oper) (n:Nat) (es:List Nat) (chi chs:Nat->List Nat) (ai:List Nat) (st:St) (c:Nat->AV) (H:Nat->List (Nat×AObj)×List Nat) (i:Nat) (o:Oper):Prop:=
  (i∉es/\H (i+1)=H i/\kxy P l.toArray (kes l n es (chi i) ai st i o (fsOf l c i) (H i).1 (H i).2) o (c i)/\(phB l es i || okA st.ids (c i))=true) \/
  (i∈es/\k1v P l.toArray l n es (chs i) ai st (kes l n es (chi i) ai st i o (fsOf l c i) (H i).1 (H i).2) o (c i) (H i).1 (H i).2 (H (i+1)).1 (H (i+1)).2)
theorem k4a [Rd] (hm:P.follows .mixedOrders=true) {id:Nat} {l:List Oper} {c:Nat->AV} {H:Nat->List (Nat×AObj)×List Nat} (chi chs:Nat->List Nat) (ok:k8g l n st.n) (tail0:∀ k j,k<l.length->n<=k->j<n->((kq6 l).getD k 0).testBit j=true) (E:Act->World->Prop) (bd:krx l n es=true) (be:st.ids.all ai.contains=true) (X:H 0=(st.heap,st.ids)) (bf:∀ j i,j∈es->i<n->anc l j i=false->∀ id,id∈chs j->id∈chi i) (M:∀ i o,i<n->l[i]?=some o->kaiv P l n es chi chs ai st c H i o) {F S0:Nat->Prop} {N0:Nat} {ψ0:Env} {Sa:Nat->Prop} {a0:Act} {w0:World} (q:Sim F S0 N0 st ψ0 Sa a0 w0) (R:Exit->Act->World->Prop) (a4:∀ ψ S a w,Sim F S0 N0 { st with tmps:=hadd (fsOf l c n) (fun _=>true) st.tmps,heap:=(H n).1,ids:=(H n).2 } ψ S a w->Fr F w0 w->HistI st.ids (H n).2 ψ0 ψ Sa S w0 w->E a w) (an:∀ (fuel:Nat) (listed:Array Bool) (a:Act) (w:World),listed.size=l.length->(∀ i,i<l.length->(listed.getD i true=true↔i<n))->l.length - n<=fuel->E a w->kqx P .any l.toArray R fuel listed a w):Cwp P (Code.region id l.toArray true) R a0 w0:=by
  -- facts about the chain
  have ag:∀ e,e∈es->e<n/\phB l es e=true:=fun e g=>by have:=qr.1 bd e g;rw [qp] at this;exact ⟨by simpa [Nat.blt_eq] using this.1,this.2⟩
  have a5:∀ i,phB l es i=true->∀ e,e∈es->(e<i->anc l i e=true)/\(i<e->anc l e i=true):=fun i hi e g=>by
    have:=qr.1 hi e g;refine ⟨fun r=>?_,fun r=>?_⟩
    · have u:Nat.blt e i=true:=by simpa [Nat.blt_eq] using r
      simpa [u] using this
    · have u:Nat.blt i e=true:=by simpa [Nat.blt_eq] using r
      have bg:Nat.blt e i=false:=by
        cases hx:Nat.blt e i with
        | false=>rfl
        | true=>
            have:e<i:=(by simpa [Nat.blt_eq] using hx);omega
      simpa [u,bg] using this
  have hs1:Sim F S0 N0 st ψ0 Sa a0 w0.drew:=⟨q.defers,q.size,fun t=>(q.tmps t).keep Ext.refl (fun _ h=>h) (fun _ h=>h) (fun _ _ _=>rfl),⟨fun id ob ho=>by obtain ⟨e1,e2,e3⟩:=q.core.obj id ob ho;exact ⟨e1,e2.keep Ext.refl (fun _ h=>h) (fun _ h=>h) (fun _ _ _=>rfl) ⟨rfl,rfl⟩ (fun _ _=>rfl),e3⟩,q.core.inj,q.core.lt,q.core.s0,q.core.n0,q.core.fr⟩⟩;refine k5i hm ?_;have ah:∀ i,i<n->i∉es->H (i+1)=H i:=fun i hi Q=>by
    have A:i<l.length:=(by have:=ok.len;omega);rcases M i l[i] hi (qb A) with ⟨_,h1,_⟩ | ⟨h1,_⟩
    · exact h1
    · exact absurd h1 Q
  have s:¬ (∀ i,i<n->phB l es i=true)->∀ j,j<n->(∀ id,id∉chs j->∀ ob,kaa (H j).1 id=some ob->kaa (H (j+1)).1 id=some ob)/\((∀ id,id∈(H j).2->id∈ai)->∀ id,id∈(H (j+1)).2->id∈ai)/\∀ id,id∈(H j).2->id∈(H (j+1)).2:=fun T j L=>by
    have G:j<l.length:=(by have:=ok.len;omega);rcases M j l[j] L (qb G) with ⟨_,h1,_⟩ | ⟨_,_,h1⟩
    · rw [h1];exact ⟨fun _ _ _ h=>h,fun h=>h,fun _ h=>h⟩
    · obtain ⟨q1,q2,q3⟩:=h1.resolve_left T;exact ⟨q1,fun _=>q2,q3⟩
  have U:¬ (∀ i,i<n->phB l es i=true)->∀ i,i<n->∀ k,k<=n->(∀ j,j<k->j∈es->anc l j i=false)->∀ id,id∉chi i->∀ ob,kaa st.heap id=some ob->kaa (H k).1 id=some ob:=fun T i bh k=>by
    induction k with
    | zero=>intro _ _ id _ ob h;rw [X];exact h
    | succ k ih=>
      intro B a6 id a7 ob h;have hk:=ih (by omega) (fun j L=>a6 j (by omega)) id a7 ob h;by_cases ar:k∈es
      · exact (s T k (by omega)).1 id (fun hc=>a7 (bf k i ar bh (a6 k (Nat.lt_succ_self _) ar) id hc)) ob hk
      · rw [ah k (by omega) ar];exact hk
  have I:¬ (∀ i,i<n->phB l es i=true)->∀ k,k<=n->(∀ id,id∈(H k).2->id∈ai)/\∀ id,id∈st.ids->id∈(H k).2:=fun T k=>by
    induction k with
    | zero=>intro _;rw [X];exact ⟨fun id h=>by simpa using qr.1 be id h,fun _ h=>h⟩
    | succ k ih=>intro B;obtain ⟨q1,q2⟩:=ih (by omega);exact ⟨(s T k (by omega)).2.1 q1,fun id h=>(s T k (by omega)).2.2 id (q2 id h)⟩
  suffices key:∀ (fuel:Nat) (listed:Array Bool) (a:Act) (w:World),DSx F S0 N0 ψ0 Sa w0 l n es st c H listed a w->(∀ k,listed.getD k false=true->k<n) ->
      ((List.range l.length).countP fun k=>!listed.getD k true)<=fuel->kqx P .any l.toArray R fuel listed a w by
    refine key _ _ _ _ ⟨⟨0,ψ0,Sa,qaj _,fun e _=>by rw [k1e];simp,?_,⟨Ext.refl,fun i h=>by rw [X];exact h,fun _ h=>h,fun _ _ _=>rfl⟩⟩,Fr.drew,by simp,(fun k o hk=>by rw [k1e] at hk;cases hk)⟩ (fun k hk=>by rw [k1e] at hk;cases hk) ?_
    · refine ⟨hs1.defers,hs1.size,fun t=>?_,by show Core F S0 N0 (H 0).1 (H 0).2 _ _ _;rw [X];exact hs1.core⟩
      show RV _ (·∈(H 0).2) _ _ _ (look .any (kl4 (fsOf l c n) _ st.tmps) t);rw [X];rcases khj (l:=l) (c:=c) (p:=fun j=>(Array.replicate l.toArray.size false).getD j false) (base:=st.tmps) (t:=t) n with ⟨j,_,L,_⟩ | ⟨_,N⟩
      · rw [k1e] at L;cases L
      · rw [N];exact hs1.tmps t
    · refine qav (List.countP_le_length ..) ?_
      simp
  intro fuel
  -- the end of the bz
  have fin:∀ (listed:Array Bool) (a:Act) (w:World),DSx F S0 N0 ψ0 Sa w0 l n es st c H listed a w->(∀ i,i<n->listed.getD i false=true)->E a w:=by
    intro listed a w d f;obtain ⟨kD,ψ,S,B,hk,hs,Y⟩:=d.inv;have au:H kD=H n:=k60 (es:=es) (n:=n) ah B (qx _) fun e g h=>(by have:=(hk e g).1 (f e h.2);omega);have bi:Sim F S0 N0 { st with tmps:=hadd (fsOf l c n) (fun _=>true) st.tmps,heap:=(H n).1,ids:=(H n).2 } ψ S a w:=by
      refine ⟨hs.defers,hs.size,fun t=>?_,by rw [<- au];exact hs.core⟩;have ht:=hs.tmps t;rw [<- au];show RV _ _ _ _ _ (look .any (hadd (fsOf l c n) (fun _=>true) st.tmps) t);have ht:RV ψ (·∈(H kD).2) S w (a.tmps.getD t undef) (look .any (kl4 (fsOf l c n) (fun j=>listed.getD j false) st.tmps) t):=ht;rcases ku9 (l:=l) (c:=c) (p:=fun _=>true) (base:=st.tmps) (t:=t) n with h | ⟨j,h1,_,y,Z⟩ | ⟨h1,N⟩
      · rw [h];exact .any
      · rw [Z]
        rcases khj (l:=l) (c:=c) (p:=fun j=>listed.getD j false) (base:=st.tmps) (t:=t) n with ⟨j',e1,e2,e3,e4⟩ | ⟨e1,e2⟩
        · rw [e4] at ht
          have bj:j'=j:=(by unfold dstT at y e3;simp only [ql] at y e3;obtain ⟨o1,p1,p2⟩:=y;obtain ⟨o2,q1,q2⟩:=e3;exact ok.uniq j' j o2 o1 t e1 h1 q1 p1 q2 p2);rw [bj] at ht;exact ht
        · exact absurd y (e1 j h1 (f j h1))
      · rw [N]
        rcases khj (l:=l) (c:=c) (p:=fun j=>listed.getD j false) (base:=st.tmps) (t:=t) n with ⟨j',e1,e2,e3,e4⟩ | ⟨e1,e2⟩
        · exact absurd e3 (h1 j' e1)
        · rw [e2] at ht;exact ht
    exact a4 ψ S a w bi d.fr (by rw [<- au];exact Y)
  induction fuel with
  | zero=>
    intro listed a w d hh hc;have f:∀ i,i<l.length->listed.getD i false=true:=fun i hi=>(by have h0:((List.range l.length).countP fun k=>!listed.getD k true)=0:=(by omega);rw [List.countP_eq_zero] at h0;have:=h0 i (by simpa using hi);simp [d.lsize,hi] at this ⊢;exact this);have hn:n=l.length:=by
      have:=ok.len;rcases qbb n l.length with h' | h'
      · have:=hh n (f _ h');omega
      · omega
    exact an 0 listed a w d.lsize (fun i hi=>⟨fun _=>by omega,fun _=>by have:=f i hi;simp [d.lsize,hi] at this ⊢;exact this⟩) (by omega) (fin listed a w d fun i hi=>f i (by omega))
  | succ fuel ih=>
    intro listed a w d hh hc;by_cases z:∀ i,i<n->listed.getD i false=true
    · refine an (fuel+1) listed a w d.lsize (fun i hi=>⟨fun hl=>hh i (by
        simp [d.lsize,hi] at hl ⊢;exact hl),fun C=>by
        have:=z i C;simp [d.lsize,hi] at this ⊢;exact this⟩) ?_ (fin listed a w d z)
      refine qav ?_ hc;rw [show l.length=n+(l.length - n) by have:=ok.len;omega,List.range_add,List.countP_append];have:((List.range (l.length - n)).map (n+·)).countP (fun k=>!listed.getD k true)=l.length - n:=(by rw [List.countP_eq_length.2,qaa,List.length_range];intro k hk;simp only [qas,qbk] at hk;obtain ⟨m,hm,rfl⟩:=hk;have r:n+m<l.length:=(by omega);have:listed.getD (n+m) false≠true:=fun h=>(by have:=hh _ h;omega);simp [d.lsize,r] at this ⊢;exact this);omega
    · have av:Region.ready .any l.toArray listed≠[]:=by
        have bk:∃ i,i<n/\listed.getD i false=false/\∀ j,j<i->listed.getD j false=true:=by
          have:∃ i,i<n/\listed.getD i false=false:=(by simp only [Classical.not_forall] at z;obtain ⟨i,hi,u⟩:=z;exact ⟨i,hi,by simpa using u⟩);obtain ⟨i,hi,u⟩:=this
          induction i using Nat.strongRecOn with
          | _ i ihi=>
            by_cases f:∀ j,j<i->listed.getD j false=true
            · exact ⟨i,hi,u,f⟩
            · simp only [Classical.not_forall] at f
              obtain ⟨j,L,bl⟩:=f;exact ihi j L (by omega) (by simpa using bl)
        obtain ⟨i,hi,u,f⟩:=bk;have A:i<l.length:=(by have:=ok.len;omega);have:i∈Region.ready .any l.toArray listed:=mem_ready.2 ⟨by simp [d.lsize,A] at u ⊢;exact u,l[i],by simp [A],fun e g aj=>f _ (ok.edges i _ (qb A) e g aj)⟩;intro h0;rw [h0] at this;cases this
      refine ⟨fun h0=>absurd h0 av,fun i hi=>?_⟩;obtain ⟨h0,o,ho,f⟩:=mem_ready.1 hi;have V:l[i]?=some o:=(by simpa using ho);have A:i<l.length:=(qg.1 V).1;have ak:=kajd h0;have O:∀ j,anc l i j=true->listed.getD j false=true:=fun j L=>
        kny (l:=l) (S:=fun j=>listed.getD j false=true) (fun m p hm hp e g u=>d.closed m p hm hp e g u) i o V f j L
      have D:∀ j,listed.getD j false=true->anc l j i=true->False:=fun j L ha=>(by have G:j<l.length:=(by have:=gD_lt L;rw [d.lsize] at this;exact this);have:=kny (l:=l) (S:=fun j=>listed.getD j false=true) (fun m p hm hp e g u=>d.closed m p hm hp e g u) j l[j] (qb G) (fun e g u=>d.closed j _ L (qb G) e g u) i ha;rw [ak] at this;cases this);have C:i<n:=by
        rcases qbb i n with h' | h'
        · exact h'
        · exfalso
          apply z;intro j L;exact O j (tail0 i j A h' L)
      obtain ⟨kD,ψ,S,B,hk,hs,Y⟩:=d.inv;have aw:dstT l i=o.dst:=(by unfold dstT;rw [V];rfl);have aa:∀ k,(listed.setIfInBounds i true).getD k false=true->k=i\/listed.getD k false=true:=fun k hk=>by
        by_cases a8:i=k
        · exact .inl a8.symm
        · rw [getD_set_ne false a8] at hk;exact .inr hk
      have ab:(listed.setIfInBounds i true).getD i false=true:=(by simp [d.lsize,A]);have a9:∀ t,o.dst=some t->t<st.n:=fun t ht=>ok.dst i o t C V ht
      -- the bm agree with the text's,for what the view bn
      have al:(∀ e,e∈es->(e<i↔e<kD))->H i=H kD:=fun ba=>by
        rcases Nat.le_total i kD with ax | ax
        · exact k60 (es:=es) (n:=n) ah ax B fun e g h=>by have:=ba e g;omega
        · exact (k60 (es:=es) (n:=n) ah ax (by omega) fun e g h=>by have:=ba e g;omega).symm
      have x:phB l es i=true->H i=H kD:=fun hp=>al fun e g=>by
        obtain ⟨h1,N⟩:=a5 i hp e g;have y:=hk e g;constructor
        · intro r;exact y.1 (O e (h1 r))
        · intro r
          rcases Nat.lt_trichotomy e i with h | h | h
          · exact h
          · subst h;rw [y.2 r] at ak;cases ak
          · exact (D e (y.2 r) (N h)).elim
      -- the slots of the view
      have ac:∀ (K:Nat->Prop),(∀ id,id∈(H kD).2->K id)->∀ t,RV ψ K S w (a.tmps.getD t undef) (look .any (hadd (fsOf l c i) (ki8 o) (kk9 l i n++st.tmps)) t):=fun K hK t=>by
        have ht:RV ψ (·∈(H kD).2) S w (a.tmps.getD t undef) (look .any (kl4 (fsOf l c n) (fun j=>listed.getD j false) st.tmps) t):=hs.tmps t;have uniq:∀ {j j':Nat},j<n->j'<n->dstT l j=some t->dstT l j'=some t->j=j':=fun {j j'} h1 N y Z=>(by unfold dstT at y Z;simp only [ql] at y Z;obtain ⟨o1,p1,p2⟩:=y;obtain ⟨o2,q1,q2⟩:=Z;exact ok.uniq j j' o1 o2 t h1 N p1 q1 p2 q2);rcases ku9 (l:=l) (c:=c) (p:=ki8 o) (base:=kk9 l i n++st.tmps) (t:=t) i with h | ⟨j,h1,N,y,Z⟩ | ⟨h1,N⟩
        · rw [h];exact .any
        · rw [Z]
          have G:listed.getD j false=true:=(by obtain ⟨e,g,bo,u⟩:=afterB_iff.1 N;rw [<- bo];exact f e g u);rcases khj (l:=l) (c:=c) (p:=fun j=>listed.getD j false) (base:=st.tmps) (t:=t) n with ⟨j',e1,e2,e3,e4⟩ | ⟨e1,e2⟩
          · rw [e4,uniq e1 (by omega) e3 y] at ht
            exact ht.mono hK fun _ h=>h
          · exact absurd y (e1 j (by omega) G)
        · rw [N]
          rcases kzc (l:=l) (i:=i) (base:=st.tmps) (t:=t) n with h | ⟨k1,k2⟩
          · rw [h];exact .any
          · rw [k2]
            rcases khj (l:=l) (c:=c) (p:=fun j=>listed.getD j false) (base:=st.tmps) (t:=t) n with ⟨j',e1,e2,e3,e4⟩ | ⟨e1,e2⟩
            · exfalso
              rcases k1 j' e1 e3 with h | h
              · rcases qbb j' i with h' | h'
                · exact h1 j' h' e3
                · obtain rfl:j'=i:=by omega
                  rw [ak] at e2;cases e2
              · exact D j' e2 h
            · rw [e2] at ht
              exact ht.mono hK fun _ h=>h
      have fact:=M i o C V
      -- what a value in the slot leaves
      have next:∀ (kD':Nat) (ψ':Env) (S':Nat->Prop) (v:Value) (w':World),kD'<=n->(∀ e,e∈es->((listed.setIfInBounds i true).getD e false=true↔e<kD'))->Fr F w w'->HistI (H kD).2 (H kD').2 ψ ψ' S S' w w' ->
          Core F S0 N0 (H kD').1 (H kD').2 ψ' S' w'->RV ψ' (·∈(H kD').2) S' w' v (c i)->(∀ t,RV ψ' (·∈(H kD').2) S' w' (a.tmps.getD t undef) ((stZ l n st c H listed kD).get t)) ->
          kqx P .any l.toArray R fuel (listed.setIfInBounds i true) (a.put o.dst v) w':=fun kD' ψ' S' v w' q1 q2 q4 q8 q5 q6 q7=>by
        refine ih _ _ _ ⟨⟨kD',ψ',S',q1,q2,?_,Y.trans q8⟩,d.fr.trans q4,by simp [d.lsize],?_⟩ (fun k hk=>(aa k hk).elim (fun e=>by omega) (hh k)) ?_
        · refine ⟨by rw [k85];exact hs.defers,by rw [kz4];exact hs.size,fun t=>?_,q5⟩
          rw [kot _ _ _ hs.size a9];have q7:=q7 t;show RV ψ' _ S' w' _ (look .any (kl4 (fsOf l c n) (fun j=>(listed.setIfInBounds i true).getD j false) st.tmps) t);have q7:RV ψ' (·∈(H kD').2) S' w' (a.tmps.getD t undef) (look .any (kl4 (fsOf l c n) (fun j=>listed.getD j false) st.tmps) t):=q7;have uniq:∀ {j j':Nat},j<n->j'<n->dstT l j=some t->dstT l j'=some t->j=j':=fun {j j'} h1 N y Z=>(by unfold dstT at y Z;simp only [ql] at y Z;obtain ⟨o1,p1,p2⟩:=y;obtain ⟨o2,p3,p4⟩:=Z;exact ok.uniq j j' o1 o2 t h1 N p1 p3 p2 p4);rcases khj (l:=l) (c:=c) (p:=fun j=>(listed.setIfInBounds i true).getD j false) (base:=st.tmps) (t:=t) n with ⟨j,e1,e2,e3,e4⟩ | ⟨e1,e2⟩
          · rw [e4]
            by_cases ay:j=i
            · subst ay
              rw [aw] at e3;rw [qo e3];exact q6
            · have G:=(aa j e2).resolve_left ay
              rw [qi (fun h=>ay (uniq e1 C e3 (by rw [aw];exact h)))];rcases khj (l:=l) (c:=c) (p:=fun j=>listed.getD j false) (base:=st.tmps) (t:=t) n with ⟨j',f1,f2,f3,f4⟩ | ⟨f1,f2⟩
              · rw [f4,uniq f1 e1 f3 e3] at q7;exact q7
              · exact absurd e3 (f1 j e1 G)
          · rw [e2,qi (fun h=>e1 i C ab (by rw [aw];exact h))]
            rcases khj (l:=l) (c:=c) (p:=fun j=>listed.getD j false) (base:=st.tmps) (t:=t) n with ⟨j',f1,f2,f3,f4⟩ | ⟨f1,f2⟩
            · exact absurd f3 (e1 j' f1 (getD_set_true f2))
            · rw [f2] at q7;exact q7
        · intro k p hk hp e g aj
          rcases aa k hk with rfl | bp
          · rw [V] at hp
            obtain rfl:=qw hp;exact getD_set_true (f e g aj)
          · exact getD_set_true (d.closed k p bp hp e g aj)
        · have:=k30 l.length A h0 (by rw [d.lsize];exact A)
          omega
      have ad:∀ e,e∈es->i∉es->((listed.setIfInBounds i true).getD e false=true↔e<kD):=fun e g bq=>(by have av:i≠e:=fun h=>bq (h ▸ g);rw [getD_set_ne false av];exact hk e g);unfold wpOp;simp only [ho];rcases fact with ⟨Q,am,hN,ao⟩ | ⟨Q,br,bs⟩
      · -- one that changes nothing
        have aq:∀ id,id∈(H kD).2->id∈(kes l n es (chi i) ai st i o (fsOf l c i) (H i).1 (H i).2).ids:=fun id=>by
          show _->id∈(bif phB l es i then (H i).2 else ai);cases hp:phB l es i with
          | true=>simp only [qe];rw [x hp];exact fun h=>h
          | false=>simp only [qd];exact (I (fun h=>by rw [h i C] at hp;cases hp) kD B).1 id
        have az:∀ {v:Value} {S':Nat->Prop} {w':World},RV ψ (·∈(kes l n es (chi i) ai st i o (fsOf l c i) (H i).1 (H i).2).ids) S' w' v (c i)->RV ψ (·∈(H kD).2) S' w' v (c i):=fun {v S' w'} hv=>by
          cases hp:phB l es i with
          | true=>
            have g:(kes l n es (chi i) ai st i o (fsOf l c i) (H i).1 (H i).2).ids=(H kD).2:=(by show (bif phB l es i then (H i).2 else ai)=_;rw [hp,qe,x hp]);rw [g] at hv;exact hv
          | false=>
            rw [hp,Bool.false_or] at ao;exact (hv.subA ao).mono (I (fun h=>by rw [h i C] at hp;cases hp) kD B).2 fun _ h=>h
        have a1:∀ t,RV ψ (·∈(kes l n es (chi i) ai st i o (fsOf l c i) (H i).1 (H i).2).ids) S w (a.tmps.getD t undef) ((kes l n es (chi i) ai st i o (fsOf l c i) (H i).1 (H i).2).get t):=ac _ aq;have bt:∀ id ob,kaa (kes l n es (chi i) ai st i o (fsOf l c i) (H i).1 (H i).2).heap id=some ob->ObR ψ (·∈(kes l n es (chi i) ai st i o (fsOf l c i) (H i).1 (H i).2).ids) S w id ob:=fun id ob J=>by
          have bb:kaa (H kD).1 id=some ob:=by
            have J:kaa (bif phB l es i then (H i).1 else kph (chi i) st.heap) id=some ob:=J;cases hp:phB l es i with
            | true=>rw [hp] at J;simp only [qe] at J;rw [x hp] at J;exact J
            | false=>
              rw [hp] at J;obtain ⟨g1,g2⟩:=kw6 J;exact U (fun h=>by rw [h i C] at hp;cases hp) i C kD B (fun j L bu=>by
                cases ha:anc l j i with
                | false=>rfl
                | true=>exact (D j ((hk j bu).2 L) ha).elim) id g1 ob g2
          obtain ⟨g1,g2,g3⟩:=hs.core.obj id ob bb;exact g2.keep Ext.refl aq (fun _ h=>h) (fun _ _ _=>rfl) ⟨rfl,rfl⟩ (fun _ _=>rfl)
        rcases hN with ⟨hg,hN⟩ | ⟨hg,hN⟩
        · have hw:=k2s (kes l n es (chi i) ai st i o (fsOf l c i) (H i).1 (H i).2) a1 hg
          rw [qo hw];refine (kjm ?_ (hN ψ S a w a1 bt));rintro v w' ⟨g1,g2⟩;refine next kD ψ (fun b=>(S b\/w.heap.size<=b)/\b<w'.heap.size) v w' B (fun e g=>ad e g Q) (Fr.of_grow hs.core.fr g1) ⟨Ext.refl,fun _ h=>h,fun b u=>⟨.inl u,qa8 (hs.core.lt b u) g1.size⟩,Same.of_grow g1⟩ (hs.core.grow g1) ?_ fun t=>?_
          · exact (az g2).bound.mono (fun _ h=>h) fun _ h=>h
          · exact (hs.tmps t).keep Ext.refl (fun _ h=>h) (fun b u=>⟨.inl u,qa8 (hs.core.lt b u) g1.size⟩) (Same.of_grow g1)
        · have hw:=k2s (kes l n es (chi i) ai st i o (fsOf l c i) (H i).1 (H i).2) a1 hg
          rw [qi (by rw [hw];exact Bool.false_ne_true)];exact next kD ψ S undef w B (fun e g=>ad e g Q) Fr.refl HistI.refl hs.core (by rw [hN];exact .fz RF.undef) fun t=>hs.tmps t
      · -- one of the chain
        have hp:=(ag i Q).2;have ae:=x hp;have a2:Sim F S0 N0 (kes l n es (chi i) ai st i o (fsOf l c i) (H i).1 (H i).2) ψ S a w:=by
          refine ⟨hs.defers,hs.size,fun t=>?_,?_⟩
          · show RV ψ (·∈(bif phB l es i then (H i).2 else ai)) S w _ _
            rw [hp];simp only [qe];rw [ae];have:=ac (·∈(H kD).2) (fun _ h=>h) t;rw [<- ae] at this ⊢;exact this
          · show Core F S0 N0 (bif phB l es i then (H i).1 else kph (chi i) st.heap) (bif phB l es i then (H i).2 else ai) ψ S w
            rw [hp];simp only [qe];rw [ae];exact hs.core
        have bv:(kes l n es (chi i) ai st i o (fsOf l c i) (H i).1 (H i).2).ids=(H kD).2:=(by show (bif phB l es i then (H i).2 else ai)=_;rw [hp,qe,ae]);have af:∀ e,e∈es->((listed.setIfInBounds i true).getD e false=true↔e<i+1):=fun e g=>by
          have y:=hk e g;obtain ⟨h1,N⟩:=a5 i hp e g;by_cases bc:i=e
          · subst bc;rw [ab];simp
          · rw [getD_set_ne false bc,y]
            constructor
            · intro r
              rcases qbb e i with h | h
              · omega
              · exact (D e (y.2 r) (N (by omega))).elim
            · intro r
              exact y.1 (O e (h1 (by omega)))
        rcases br with ⟨hg,a3⟩ | ⟨hg,bw,hh,bx⟩
        · have hw:=kew a2 hg
          rw [qo hw];refine (kjm ?_ (a3 F S0 N0 ψ S a w a2));rintro v w' ⟨ψ',S',g1,g2,g3,g4,g5,g6,g7⟩;rw [bv] at g4 g5;exact next (i+1) ψ' S' v w' (by omega) af g3 ⟨g4,g5,g6,g7⟩ g1 g2 fun t=>(hs.tmps t).keep g4 g5 g6 g7
        · have hw:=kew a2 hg
          rw [qi (by rw [hw];exact Bool.false_ne_true)];have am:H (i+1)=H kD:=(by rw [<- ae];exact Prod.ext hh bx);refine next (i+1) ψ S undef w (by omega) af Fr.refl ⟨Ext.refl,fun j h=>by rw [am];exact h,fun _ h=>h,fun _ _ _=>rfl⟩ ?_ ?_ fun t=>?_
          · rw [am];exact hs.core
          · rw [bw];exact .fz RF.undef
          · rw [am];exact hs.tmps t
theorem k6c [Rd] (hm:P.follows .mixedOrders=true) {id:Nat} {l:List Oper} (c:Nat->AV) (H:Nat->List (Nat×AObj)×List Nat) (chi chs:Nat->List Nat) (r:relB l n st.n=true) (g:krx l n es=true) (h:st.ids.all ai.contains=true) (m:H 0=(st.heap,st.ids)) (p:∀ j i,j∈es->i<n->anc l j i=false->∀ id,id∈chs j->id∈chi i) (b:∀ i o,i<n->l[i]?=some o->kaiv P l n es chi chs ai st c H i o) {F S0:Nat->Prop} {N0:Nat} {ψ0:Env} {Sa:Nat->Prop} {a0:Act} {w0:World} (d:Sim F S0 N0 st ψ0 Sa a0 w0) (R:Exit->Act->World->Prop) (e:∀ ψ S a w,Sim F S0 N0 { st with tmps:=hadd (fsOf l c n) (fun _=>true) st.tmps,heap:=(H n).1,ids:=(H n).2 } ψ S a w->Fr F w0 w->HistI st.ids (H n).2 ψ0 ψ Sa S w0 w->kbg P l.toArray R (l.drop n) a w):Cwp P (Code.region id l.toArray true) R a0 w0:=
  have ok:=kaad r
  k4a hm _ _ ⟨ok.sel,ok.len,ok.edges,ok.dst,ok.uniq,ok.looks⟩ (fun k j h1 f q=>ok.tail k j h1 f (qa8 q f)) (kbg P l.toArray R (l.drop n)) g h m p b d R e fun fuel listed a w h1 f q s=>kabp ok fuel n listed a w (qx _) ok.len h1 f q s
theorem kajq [Rd] (hm:P.follows .mixedOrders=true) {id:Nat} {l:List Oper} (t:relB l n st.n=true) (g:krx l n es=true) (j:st.ids.all ai.contains=true)
    (h:kra P l.toArray n es ch ai Q st n 0 l [] st.heap st.ids none):awp P (.region id l.toArray true) st Q:=by
  obtain ⟨c,H,pn,_,m,_,p,b,f⟩:=knx (os:=l.toArray) (rest:=[]) n 0 l (fun _ => .any) (fun _=>(st.heap,st.ids)) none (by simp) (by omega) (fun e h=>by cases h) h;simp only [List.toList_toArray] at b f;have u:=(kaad t).len;have q:pn=none:=by
    cases pn with
    | none=>rfl
    | some e=>
      exfalso;rcases p e rfl with h | ⟨_,r,v⟩
      · cases h
      · have s:e<l.length:=by omega
        rcases b e l[e] (qaj _) r (qb s) with ⟨_,e',d,y,_⟩ | ⟨d,_⟩ | ⟨_,d,_⟩ | ⟨_,_,_,d⟩
        · injection d with d;omega
        · exact d v
        · have:=d e rfl;omega
        · exact d
  subst q;intro F S0 N0 ψ S a w hs;refine k6c (l:=l) (id:=id) hm c H (fun _=>ch) (fun _=>ch) t g j (m 0 (qx _)) (fun _ _ _ _ _ _ h=>h) (fun i o hi x=>?_) hs _ fun ψ S a w g1 g2 _=>kdn (fun e a' w' k=>k.pre g2) _ _ _ (f rfl F S0 N0 ψ S a w g1);rcases b i o (qaj _) hi x with ⟨_,e',d,_⟩ | d | ⟨h1,_,r⟩ | ⟨_,_,_,d⟩
  · cases d
  · exact .inl d
  · exact .inr ⟨h1,r⟩
  · exact d.elim
end Go.Proofs.YtjpkdegjcilndaaGreatDoor
set_option linter.all false
set_option linter.unusedSectionVars false
namespace Go.Proofs.YtjpkdegjcilndaaGreatDoor
open Go Go.RowKit
variable [Dr]
def kyk (l:List Oper) (n:Nat) (ai:List Nat) (st:St) (i:Nat) (o:Oper) (fs:List (Nat×Option Nat×AV)):St:=
  { st with tmps:=hadd fs (ki8 o) (kk9 l i n++st.tmps),ids:=ai }
def kai3 (P:Program) (v:St) (o:Oper) (c:AV) (id:Nat) (ob:AObj):Prop:=∀ (a:List (Nat×AObj)) (ids':List Nat),ids'.contains id=false->StepA P o { v with heap:=a,ids:=ids' } c ((id,ob)::a) (id::ids')
def kai1 (P:Program) (v:St) (o:Oper) (c:AV) (id:Nat) (ob:AObj):Prop:=∀ (a:List (Nat×AObj)) (ids':List Nat),kaa a id=kaa v.heap id->StepA P o { v with heap:=a,ids:=ids' } c ((id,ob)::a) ids'
def befB (l:List Oper) (i id:Nat) (es:List (Nat×Nat)):Bool:=es.all fun e=>!(e.2 == id) || anc l i e.1
def idsB (l:List Oper) (i:Nat) (nid:List Nat) (es:List (Nat×Nat)) (ids:List Nat):List Nat:=nid.filter (fun id=>befB l i id es)++ids
def k08 [Rd] (P:Program) (os:Array Oper) (n:Nat) (ai:List Nat) (Q:Exit->St->Prop) (st:St):Nat->Nat->List Oper->List (Nat×Option Nat×AV)->List (Nat×AObj)->List Nat->List (Nat×Nat)->Prop
  | 0,_,l,fs,hp,nid,_=>awpL P os l { st with tmps:=hadd fs (fun _=>true) st.tmps,heap:=hp++st.heap,ids:=nid++st.ids } Q
  | k+1,i,o::l,fs,hp,nid,es=>
    (∃ c,kxy P os (kyk os.toList n ai st i o fs) o c/\okA (idsB os.toList i nid es st.ids) c=true/\k08 P os n ai Q st k (i+1) l ((i,o.dst,c)::fs) hp nid es) \/
    (∃ c id ob,kbp os (kyk os.toList n ai st i o fs) o=some true/\kai3 P (kyk os.toList n ai st i o fs) o c id ob/\(st.ids.contains id || (st.heap.any fun q=>q.1 == id) || (es.any fun q=>q.2 == id) || !ai.contains id)=false/\k08 P os n ai Q st k (i+1) l ((i,o.dst,c)::fs) ((id,ob)::hp) (id::nid) ((i,id)::es)) \/
    (∃ c id ob,kbp os (kyk os.toList n ai st i o fs) o=some true/\kai1 P { kyk os.toList n ai st i o fs with heap:=hp++st.heap } o c id ob/\(st.heap.any fun q=>q.1 == id)=false/\befB os.toList i id es=true/\k08 P os n ai Q st k (i+1) l ((i,o.dst,c)::fs) ((id,ob)::hp) nid ((i,id)::es))
  | _+1,_,[],_,_,_,_=>False
variable {P:Program} {F S0:Nat->Prop} {N0:Nat} {w w':World} {S S':Nat->Prop} {ψ ψ':Env} {Q:Exit->St->Prop} {st:St} {os:Array Oper} {n:Nat} {ai:List Nat}
end Go.Proofs.YtjpkdegjcilndaaGreatDoor
set_option linter.all false
namespace Go.Proofs.YtjpkdegjcilndaaGreatDoor
open Go Go.RowKit
def objH (H:Nat->Option AObj) (id:Nat):Option (Nat×List AV):=match H id with
  | some (.box _ cells)=>some (0,cells)
  | some (.xo (.blk g _ _ cells))=>some (g,cells)
  | _=>none
abbrev objC (st:St) (id:Nat):Option (Nat×List AV):=objH (kaa st.heap) id
def putC (st:St) (id:Nat) (cells:List AV):List (Nat×AObj):=match kaa st.heap id with
  | some (.box e _)=>(id, .box e cells)::st.heap
  | some (.xo (.blk g e sz _))=>(id, .xo (.blk g e sz cells))::st.heap
  | _=>st.heap
def k2g (H:Nat->Option AObj):AV->Option (List AV)
  | .fz (.fp cs)=>some (cs.map .fz)
  | .ref id n off=>match objH H id with
    | some (g,cells)=>bif Nat.beq n g then some (cells.drop off) else none
    | none=>none
  | _=>none
abbrev k65 (st:St):AV->Option (List AV):=k2g (kaa st.heap)
def kwt (H:Nat->Option AObj) (off:Nat) (x:AV):Option AV:=match x with
  | .fz (.fp cs)=>match cs.drop off with
    | []=>none
    | y::ys=>some (.fz (.fp (y::ys)))
  | .ref id n o=>match objH H id with
    | some (g,_)=>bif Nat.beq n g then some (.ref id n (o+off)) else none
    | none=>none
  | _=>none
abbrev kxq (st:St) (off:Nat) (x:AV):Option AV:=kwt (kaa st.heap) off x
def kvn:List FV->List AV
  | []=>[]
  | x::l=>x.cells.map .fz++kvn l
def rdH (H:Nat->Option AObj) (sz:Nat):AV->Option (Nat×Option Nat×List AV)
  | .fz (.lst size n xs)=>bif Nat.beq size sz && Nat.beq n xs.length then some (n,none,kvn xs) else none
  | .lim size n xs=>bif Nat.beq size sz && Nat.beq n xs.length then some (n,some n,kvn xs) else none
  | .fz (.atom (.slice none 0 0))=>some (0,some 0,[])
  | .bsl id g off len cap=>match objH H id with
    | some (g',cells)=>bif Nat.beq g g' && Nat.ble (off+len*sz) cells.length then some (len,cap,(cells.drop off).take (len*sz)) else none
    | none=>none
  | _=>none
abbrev rdSl (sz:Nat) (st:St):AV->Option (Nat×Option Nat×List AV):=rdH (kaa st.heap) sz
section
variable {P:Program} {F S0:Nat->Prop} {N0:Nat} {w w':World} {S S':Nat->Prop} {ψ ψ':Env} {K:Nat->Prop} {T:List (TypeId×TD)} {o:Oper} {a:Act} {st:St} {t:TypeId} {d:TD} {id:Nat}
theorem khv {g:Nat} {cells:List AV} (f:∀ id o,kaa st.heap id=some o->ObR ψ (·∈st.ids) S w id o) (h:objC st id=some (g,cells)):
    ψ.len id=g/\∃ b cs e,kak (ψ.val id)=some b/\w.heap[b]?=some (.cells cs e (0,0))/\cells.length<=cs.size/\(∀ x∈cells,x.single=true)/\∀ (i:Nat) (v:Value) (x:AV),cs[i]?=some v->cells[i]?=some x->RV ψ (·∈st.ids) S w v x:=by
  unfold objC objH at h;split at h
  · rename_i e cells' a
    simp only [qc,qv] at h;obtain ⟨rfl,rfl⟩:=h;obtain ⟨h0,b,cs,h1,c,k,j,d⟩:=f id _ a;exact ⟨h0,b,cs,e,by rw [h1];rfl,c,by omega,j,d⟩
  · rename_i g' e sz cells' a
    simp only [qc,qv] at h;obtain ⟨rfl,rfl⟩:=h;obtain ⟨h0,p,b,cs,n,cap,h1,c,k,j,d,l,m⟩:=f id _ a;exact ⟨h0,b,cs,e,by rw [h1];rfl,c,d,l,m⟩
  · cases h
theorem kyd {b k:Nat} {cs:Array Value} {e:TypeId} {u:Value} (h:w.heap[b]?=some (.cells cs e (0,0))) (a:cs[k]?=some u):w.cell? ⟨b,k,none⟩=some u:=by simp only [World.cell?,h];simpa using a
theorem k4e {v:Value} {x:AV} {xs:List AV} (hv:RV ψ (·∈st.ids) S w v x) (f:∀ id o,kaa st.heap id=some o->ObR ψ (·∈st.ids) S w id o) (h:k65 st x=some xs):
    ∃ b o,v = .pointer (some ⟨b,o,none⟩)/\kabs ψ (·∈st.ids) S w b o xs:=by
  unfold k65 k2g at h;split at h
  · rename_i cs
    exact kvf hv f h
  · rename_i id n off
    split at h
    · rename_i g cells k
      cases hn:Nat.beq n g with
      | false=>rw [hn] at h;cases h
      | true=>
        rw [hn] at h;simp only [qe,qc] at h;subst h;obtain rfl:=qk hn;obtain ⟨h0,b,cs,e,h1,l,s,m,p⟩:=khv f k;cases hv with
        | ref hK q r d=>
          obtain ⟨b',a,rfl⟩:=d h0.symm;rw [h1] at a;simp only [qc] at a;subst a;refine ⟨b,off,rfl,(cs.toList.take cells.length).drop off,fun j u c=>?_,by simp;omega,fun x hx=>m x (qbq hx),fun i v x hv hx=>?_⟩
          · rw [qao,qab] at c
            split at c
            · exact kyd l (by simpa using c)
            · cases c
          · rw [qao,qab] at hv
            rw [qao] at hx;split at hv
            · exact p _ v x (by simpa using hv) hx
            · cases hv
    · cases h
  · cases h
theorem k2t {b off:Nat} {xs:List AV} {c:AV} (hd:TdOk P t d) (hx:kabs ψ K S w b off xs) (hc:km9 d xs=some c):∃ u,(loadVar t ⟨b,off,none⟩).run P w = .ok u w/\RV ψ K S w u c:=by
  obtain ⟨cs,g,hl,h1,hr⟩:=hx;unfold km9 at hc;cases hk:d.kind.agg with
  | false=>
    rw [hk] at hc;simp only [qd] at hc;cases xs with
    | nil=>cases hc
    | cons y ys=>
      simp only [List.head?_cons,qc] at hc;subst hc;have h:cs[0]?=some (cs[0]'(by simp at hl;omega)):=qb _;have e:w.cell? ⟨b,off,none⟩=some (cs[0]'(by simp at hl;omega)):=(by simpa using g 0 _ h);exact ⟨cs[0]'(by simp at hl;omega),by simp [loadVar,hd.isAgg,hk,e],hr 0 _ y h rfl⟩
  | true=>
    rw [hk] at hc;simp only [qe] at hc;cases f:Nat.ble d.size xs.length with
    | false=>rw [f] at hc;cases hc
    | true=>
      rw [f] at hc;simp only [qe,qc] at hc;subst hc;have m:=qs f;have k:(cs.take d.size).length=d.size:=(by rw [qaw];omega);have a:=run_loadCells_list (P:=P) w ⟨b,off,none⟩ (cs.take d.size) fun j v l=>by
        rw [qab] at l;split at l
        · rw [kb6];exact g j v l
        · cases l
      rw [k] at a;refine ⟨.agg (cs.take d.size).toArray,by simp [loadVar,hd.isAgg,hk,hd.size,a],RV.aggA (by simp [hl]) (fun x hx=>h1 x (qbr hx)) fun i v x hv hx=>?_⟩;simp only [List.getElem?_toArray] at hv;rw [qab] at hv hx;split at hv
      · rename_i hi;rw [qo hi] at hx;exact hr i v x hv hx
      · cases hv
theorem kajb {x:Operand} {xs:List AV} {c:AV} (e:o.op = .load t x) (hd:TdOk P t d) (hx:k65 st (st.eval x)=some xs) (hc:km9 d xs=some c):NStep P o st c:=by intro ψ S a w ht f;obtain ⟨b,off,hv,hcl⟩:=k4e (Sim.eval_tmps ht x) f hx;obtain ⟨u,h1,g⟩:=k2t (P:=P) hd hcl hc;refine kae w u ?_ ⟨kaf _,g.here⟩;simp [execOp,e,hv,Instr.loadAt,Instr.sureAddr,h1]
theorem kwq {off:Nat} {v:Value} {x c:AV} (hv:RV ψ (·∈st.ids) S w v x) (i:∀ id o,kaa st.heap id=some o->ObR ψ (·∈st.ids) S w id o) (h:kxq st off x=some c):
    ∃ b o,v = .pointer (some ⟨b,o,none⟩)/\RV ψ (·∈st.ids) S w (.pointer (some ⟨b,o+off,none⟩)) c:=by
  unfold kxq kwt at h;split at h
  · exact kss (off:=off) hv i h
  · rename_i id n off'
    split at h
    · rename_i g cells j
      cases hn:Nat.beq n g with
      | false=>rw [hn] at h;cases h
      | true=>
        rw [hn] at h;simp only [qe,qc] at h;subst h;obtain rfl:=qk hn;obtain ⟨h0,b,cs,e,h1,_⟩:=khv i j;cases hv with
        | ref hK a k d=>
          obtain ⟨b',f,rfl⟩:=d h0.symm;exact ⟨b',off',rfl, .ref hK a rfl fun _=>⟨b',f,rfl⟩⟩
    · cases h
  · cases h
theorem kagj {s:TypeId} {x:Operand} {f:Nat} {fs:List (TypeId×Nat)} {ft:TypeId} {off:Nat} {df:TD} {c:AV} (l:o.op = .fieldAddr s x f) (hd:TdOk P s d) (hk:d.kind = .st fs) (k:fs[f]?=some (ft,off)) (h:TdOk P ft df) (m:df.size≠0)
    (hc:kxq st off (st.eval x)=some c):NStep P o st c:=by
  intro ψ S a w ht n;obtain ⟨b,off',hv,hr⟩:=kwq (Sim.eval_tmps ht x) n hc;obtain ⟨gs,p,i⟩:=hd.strct hk;have e:∃ g:Field,gs[f]?=some g/\g.type=ft/\g.offset=off:=by rw [<- i,qq,qt] at k;obtain ⟨g,e,j⟩:=k;simp only [qv] at j;exact ⟨g,by simpa using e,j.1,j.2⟩
  obtain ⟨g,e,rfl,rfl⟩:=e;refine kae w _ ?_ ⟨kaf _,hr.here⟩;simp [execOp,l,hv,Instr.fieldAt,p,e,Instr.sureAddr,fieldPlace,h.size,m,kb6]
theorem kame {x:Operand} {c:AV} (d:o.op = .nilCheck x) (hc:kxq st 0 (st.eval x)=some c):NStep P o st c:=by intro ψ S a w ht e;obtain ⟨b,off',hv,hr⟩:=kwq (Sim.eval_tmps ht x) e hc;refine kae w _ ?_ ⟨kaf _,hr.here⟩;simp [execOp,d,hv]
theorem kamw {x y:Operand} {n e:Nat} {de:TD} {k:IntKind} {i:Int} {c:AV} (j:o.op = .indexAddr t x y) (hd:TdOk P t d) (hk:d.kind = .arr n e) (g:TdOk P e de) (hy:st.eval y = .fz (.atom (.int k i))) (h0:0<=i) (hi:i<n)
    (hc:kxq st (i.toNat*de.size) (st.eval x)=some c):NStep P o st c:=by
  intro ψ S a w ht l;obtain ⟨b,off',hv,hr⟩:=kwq (Sim.eval_tmps ht x) l hc;have f:=Sim.eval_tmps ht y;rw [hy] at f;have h:=f.atom;refine kae w _ ?_ ⟨kaf _,hr.here⟩;simp [execOp,j,hv,h,Instr.indexAt,asIntOf,run_underlying (hd.arr hk),Instr.sureAddr,h0,hi,g.size,kb6]
theorem kj1 {v:Value} {g off len:Nat} {cap:Option Nat} (h:RV ψ K S w v (.bsl id g off len cap)) (a:ψ.len id=g):K id/\∃ b c,kak (ψ.val id)=some b/\v = .slice (some ⟨b,off,none⟩) len c/\len<=c/\c<=9223372036854775807/\CapR (ψ.val id) off c cap:=by
  cases h with
  | bsl hK hn h1 hv=>exact ⟨hK,hv a.symm⟩
theorem kamg {x y:Operand} {e:TypeId} {de:TD} {k:IntKind} {i:Int} {g off len:Nat} {cap:Option Nat} {cells:List AV} (j:o.op = .indexAddr t x y) (hd:TdOk P t d) (hk:d.kind = .slice e) (f:TdOk P e de) (hx:st.eval x = .bsl id g off len cap)
    (h:objC st id=some (g,cells)) (hy:st.eval y = .fz (.atom (.int k i))) (h0:0<=i) (hi:i<len):NStep P o st (.ref id g (off+i.toNat*de.size)):=by
  intro ψ S a w ht l;have h1:=Sim.eval_tmps ht y;rw [hy] at h1;have hv:=Sim.eval_tmps ht x;rw [hx] at hv;obtain ⟨m,_⟩:=khv l h;obtain ⟨hK,b,c,n,p,_⟩:=kj1 hv m;refine kae w (.pointer (some ⟨b,off+i.toNat*de.size,none⟩)) ?_ ⟨kaf _, .ref hK (by omega) rfl fun _=>⟨b,n,rfl⟩⟩;simp [execOp,j,Instr.indexAt,h1.atom,asIntOf,run_underlying (hd.slice hk),p,h0,hi,f.size,kb6]
def k78 (w:World) (n:Nat) (cs:List Value):Option Addr->Prop
  | none=>n=0/\cs=[]
  | some ad=>∀ (j:Nat) (u:Value),cs[j]?=some u->w.cell? (ad.add j)=some u
def CR (ψ:Env) (K S:Nat->Prop) (w:World) (cs:List Value) (xs:List AV):Prop:=
  cs.length=xs.length/\(∀ x∈xs,x.single=true)/\∀ (i:Nat) (v:Value) (x:AV),cs[i]?=some v->xs[i]?=some x->RV ψ K S w v x
theorem CR.nil:CR ψ K S w [] []:=⟨rfl,(fun x h=>by cases h),fun i v x h=>by simp at h⟩
theorem CR.append {cs ds:List Value} {xs ys:List AV} (h:CR ψ K S w cs xs) (k:CR ψ K S w ds ys):CR ψ K S w (cs++ds) (xs++ys):=by
  obtain ⟨h1,a,b⟩:=h;obtain ⟨k1,k2,k3⟩:=k;refine ⟨by simp [h1,k1],fun x hx=>(qau.1 hx).elim (a x) (k2 x),fun i v x hv hx=>?_⟩;by_cases hi:i<cs.length
  · rw [qad hi] at hv
    rw [qad (by omega)] at hx;exact b i v x hv hx
  · rw [qae (by omega)] at hv hx
    rw [h1] at hv;exact k3 _ v x hv hx
theorem CR.one {cs:List Value} {xs:List AV} (h:CR ψ K S w cs xs):∀ v∈cs,v.oneCell'=true:=fun v hv=>by
  obtain ⟨i,hi,rfl⟩:=qai.1 hv;have hx:i<xs.length:=by rw [<- h.1];exact hi
  exact (h.2.2 i _ _ (qb hi) (qb hx)).one (h.2.1 _ (q9 hx))
theorem CR.sub {cs:List Value} {xs:List AV} (h:CR ψ K S w cs xs) (i n:Nat):CR ψ K S w ((cs.drop i).take n) ((xs.drop i).take n):=by
  refine ⟨by simp [h.1],fun x hx=>h.2.1 x (qbq (qbr hx)),fun j v x hv hx=>?_⟩;rw [qab] at hv hx;split at hv
  · rename_i a
    rw [qo a] at hx;rw [qao] at hv hx;exact h.2.2 _ v x hv hx
  · cases hv
theorem CR.cells {v:Value} {x:AV} (h:RV ψ K S w v x) (h1:x.cells.all AV.single=true):CR ψ K S w v.cells.toList x.cells:=by have hs:∀ y∈x.cells,y.single=true:=qr.1 h1;obtain ⟨e1,e2,e3⟩:=RV.cells h hs;exact ⟨by simpa using e1,hs,fun i v x hv hx=>e2 i v x (by simpa using hv) hx⟩
theorem k7j {b size:Nat}:∀ (xs:List FV) (o:Nat),(∀ (i:Nat) (x:FV),xs[i]?=some x->∃ cs,At w b (o+i*size) cs/\cs.length=size/\x.cells.length=size/\(∀ y∈x.cells,y.single=true)/\∀ (j:Nat) (v:Value) (y:FV),cs[j]?=some v->x.cells[j]?=some y->RF S w v y) ->
    ∃ cs,At w b o cs/\CR ψ K S w cs (kvn xs)/\cs.length=xs.length*size
  | [],o,_=>⟨[],fun j u h=>by simp at h,CR.nil,by simp⟩
  | x::xs,o,h=>by
    obtain ⟨cs,h1,c,e,f,g⟩:=h 0 x rfl;obtain ⟨ds,k1,k2,k3⟩:=k7j xs (o+size) fun i y hy=>by
      have:=h (i+1) y (by simpa using hy)
      rwa [show o+(i+1)*size=o+size+i*size by rw [qbc];omega] at this
    refine ⟨cs++ds,fun j u a=>?_,CR.append ⟨by simp [c,e],fun y hy=>?_,fun j v y hv hy=>?_⟩ k2,by simp [c,k3,qbc];omega⟩
    · by_cases k:j<size
      · rw [qad (by omega)] at a
        have:=h1 j u a;simpa using this
      · rw [qae (by omega),c] at a
        have:=k1 _ u a
        rwa [show o+size+(j - size)=o+j by omega] at this
    · obtain ⟨z,d,rfl⟩:=qas.1 hy
      exact f z d
    · rw [qq,qt] at hy
      obtain ⟨z,d,rfl⟩:=hy;exact .fz (g j v z hv d)
theorem kaaw {A:Option Addr} {size n cap:Nat} {xs:List FV} (h:RF S w (.slice A n cap) (.lst size n xs)):n=xs.length/\n<=cap/\cap<=9223372036854775807/\∃ cs,CR ψ K S w cs (kvn xs)/\(kvn xs).length=n*size/\k78 w n cs A:=by
  obtain ⟨A0,cap0,css,hv,hn,hc,hm,hs,ha,hl,hr⟩:=h.lst_inv;injection hv with e1 _ e3;subst e1 e3 hn;refine ⟨rfl,hc,hm,?_⟩;cases xs with
  | nil=>
    refine ⟨[],CR.nil,by simp [kvn],?_⟩;cases A with
    | none=>exact ⟨rfl,rfl⟩
    | some ad=>exact fun j u h=>by simp at h
  | cons x xs=>
    obtain ⟨b,o,rfl,_,_⟩:=ha 0 x rfl;obtain ⟨cs,h1,c,d⟩:=k7j (ψ:=ψ) (K:=K) (S:=S) (w:=w) (b:=b) (size:=size) (x::xs) o fun i y hy=>(by obtain ⟨b',o',hA,_,a⟩:=ha i y hy;injection hA with hA;injection hA with e1 e2;subst e1 e2;obtain ⟨l1,l2,l3⟩:=hl i y hy;exact ⟨css i,a,l1,l2,l3,fun j v z hv e=>hr i y j v z hy hv e⟩);exact ⟨cs,c,by rw [<- c.1,d],fun j u f=>by rw [kb6];exact h1 j u f⟩
theorem krb {sz n:Nat} {c:Option Nat} {v:Value} {x:AV} {ys:List AV} (hv:RV ψ (·∈st.ids) S w v x) (y:∀ id o,kaa st.heap id=some o->ObR ψ (·∈st.ids) S w id o) (h:rdSl sz st x=some (n,c,ys)):
    ∃ A cap,v = .slice A n cap/\n<=cap/\cap<=9223372036854775807/\(∀ k,c=some k->cap=k)/\∃ cs,CR ψ (·∈st.ids) S w cs ys/\ys.length=n*sz/\k78 w n cs A:=by
  unfold rdSl rdH at h;split at h
  · rename_i size m xs
    cases a:(Nat.beq size sz && Nat.beq m xs.length) with
    | false=>rw [a] at h;cases h
    | true=>
      rw [a] at h;simp only [qe,qc,qv] at h;obtain ⟨rfl,rfl,rfl⟩:=h;simp only [qp] at a;obtain rfl:=qk a.1;have hv:=hv.inv;obtain ⟨A,cap,css,rfl,_⟩:=hv.lst_inv;obtain ⟨_,p,q,r⟩:=kaaw (ψ:=ψ) (K:=(·∈st.ids)) hv;exact ⟨A,cap,rfl,p,q,(fun k hk=>by cases hk),r⟩
  · rename_i size m xs
    cases a:(Nat.beq size sz && Nat.beq m xs.length) with
    | false=>rw [a] at h;cases h
    | true=>
      rw [a] at h;simp only [qe,qc,qv] at h;obtain ⟨rfl,rfl,rfl⟩:=h;simp only [qp] at a;obtain rfl:=qk a.1;cases hv with
      | lim hv=>
        obtain ⟨_,p,q,r⟩:=kaaw (ψ:=ψ) (K:=(·∈st.ids)) hv;exact ⟨_,_,rfl,p,q,(fun k hk=>by injection hk),r⟩
  · simp only [qc,qv] at h
    obtain ⟨rfl,rfl,rfl⟩:=h;rw [hv.atom];exact ⟨none,0,rfl,qx _,by omega,(fun k hk=>by injection hk),[],CR.nil,by simp,rfl,rfl⟩
  · rename_i id g off len cap
    split at h
    · rename_i g' cells z
      cases a:(Nat.beq g g' && Nat.ble (off+len*sz) cells.length) with
      | false=>rw [a] at h;cases h
      | true=>
        rw [a] at h;simp only [qe,qc,qv] at h;obtain ⟨rfl,rfl,rfl⟩:=h;simp only [qp] at a;obtain rfl:=qk a.1;have B:=qs a.2;obtain ⟨C,b,cs,e,q1,q2,q3,q4,q5⟩:=khv y z;obtain ⟨hK,b',c',f,rfl,s,hm,d⟩:=kj1 hv C;rw [q1] at f;simp only [qc] at f;subst f;have t:CR ψ (·∈st.ids) S w (cs.toList.take cells.length) cells:=⟨by simp;omega,q4,fun i v x hv hx=>by
          rw [qab] at hv;split at hv
          · exact q5 i v x (by simpa using hv) hx
          · cases hv⟩
        refine ⟨some ⟨b,off,none⟩,c',rfl,s,hm,(fun k hk=>by rw [hk] at d;exact d),_,t.sub off (len*sz),by simp;omega,fun j u l=>?_⟩;rw [kb6];rw [qab] at l;split at l
        · rw [qao,qab] at l
          split at l
          · exact kyd q2 (by simpa using l)
          · cases l
        · cases l
    · cases h
  · cases h
theorem k0g:ψ.set id (ψ.len id) (ψ.val id)=ψ:=by
  unfold Env.set;congr 1
  · funext i;split
    · rename_i h;rw [h]
    · rfl
  · funext i;split
    · rename_i h;rw [h]
    · rfl
theorem setC {g b:Nat} {cells:List AV} (cells':List AV) {cs new:Array Value} {e:TypeId} (a:Core F S0 N0 st.heap st.ids ψ S w) (h:objC st id=some (g,cells)) (d:kak (ψ.val id)=some b) (f:w.heap[b]?=some (.cells cs e (0,0))) (q:new.size=cs.size) (hl:cells'.length=cells.length) (h1:∀ x∈cells',x.single=true) (hr:∀ (i:Nat) (v:Value) (x:AV),new[i]?=some v->cells'[i]?=some x->RV ψ (·∈st.ids) S w v x):
    Core F S0 N0 (putC st id cells') st.ids ψ S (w.setRow b new)/\Fr F w (w.setRow b new)/\Same S w (w.setRow b new):=by
  have p:(w.setRow b new).heap.size=w.heap.size:=by simp [World.setRow]
  have j:∀ k,k<w.heap.size->¬ Blk (ψ.val id) k->(w.setRow b new).heap[k]?=w.heap[k]?:=fun k _ hk=>kjd b new k fun e=>hk (.of (by rw [d,e]));have key:∀ ob ob',kaa st.heap id=some ob->(∀ hk:Same S w (w.setRow b new),ObR ψ (·∈st.ids) S (w.setRow b new) id ob')->Core F S0 N0 ((id,ob')::st.heap) st.ids ψ S (w.setRow b new)/\Fr F w (w.setRow b new)/\Same S w (w.setRow b new):=fun ob ob' c l=>by obtain ⟨r,_,m⟩:=a.obj id _ c;have hk:Same S w (w.setRow b new):=fun k hk hl=>j k hl fun e=>(m k e).1 hk;obtain ⟨c1,c2,c3⟩:=a.upd (n:=ψ.len id) (v:=ψ.val id) (w':=w.setRow b new) (ob':=ob') c (by omega) j (.inr ⟨rfl,rfl⟩) (fun b d => .inl d) (by rw [k0g];exact l hk);rw [k0g] at c1;exact ⟨c1,⟨rfl,rfl,rfl,by omega,c3,fun _=>qx _⟩,c2⟩
  have l:=fun id o c=>(a.obj id o c).2.1;unfold objC objH at h;unfold putC;split at h
  · rename_i e' cells0 c
    simp only [qc,qv] at h;obtain ⟨rfl,rfl⟩:=h;obtain ⟨q0,b',cs',q1,q2,q3,q4,q5⟩:=l id _ c;rw [q1] at d;simp only [kak,qc] at d;subst d;rw [f] at q2;injection q2 with q2;injection q2 with e1 e2;subst e1 e2;exact key _ _ c fun hk=>⟨q0,b',new,q1,kic b' f,by omega,h1,fun i v x hv hx=>(hr i v x hv hx).keep Ext.refl (fun _ h=>h) (fun _ h=>h) hk⟩
  · rename_i g' e' sz cells0 c
    simp only [qc,qv] at h;obtain ⟨rfl,rfl⟩:=h;obtain ⟨q0,qz,b',cs',n,cap,q1,q2,q3,q4,q5,q6,q7⟩:=l id _ c;rw [q1] at d;simp only [kak,qc] at d;subst d;rw [f] at q2;injection q2 with q2;injection q2 with e1 e2;subst e1 e2;exact key _ _ c fun hk=>⟨q0,qz,b',new,n,cap,q1,kic b' f,by omega,q4,by omega,h1,fun i v x hv hx=>(hr i v x hv hx).keep Ext.refl (fun _ h=>h) (fun _ h=>h) hk⟩
  · cases h
theorem k3n {g off:Nat} {cells ys:List AV} {vs:List Value} (c:Core F S0 N0 st.heap st.ids ψ S w) (h:objC st id=some (g,cells)) (j:off+ys.length<=cells.length) (hr:CR ψ (·∈st.ids) S w vs ys):
    ∃ b w1,kak (ψ.val id)=some b/\(storeCells ⟨b,off,none⟩ vs).run P w = .ok () w1/\Core F S0 N0 (putC st id (kc1 cells off ys)) st.ids ψ S w1/\Fr F w w1/\Same S w w1:=by
  obtain ⟨n,b,cs,e,q1,q2,q3,q4,q5⟩:=khv (fun id o m=>(c.obj id o m).2.1) h;have hst:=run_storeCells_at (P:=P) b off e vs 0 cs w q2 (by rw [hr.1];omega) hr.one;simp only [Nat.add_zero] at hst;obtain ⟨new,d⟩:∃ new:Array Value,new=(cs.toList.take off++vs++cs.toList.drop (off+vs.length)).toArray:=⟨_,rfl⟩;rw [<- d] at hst;have k:new.toList=kc1 cs.toList off vs:=by rw [d];simp [kc1,qbh]
  have f:off+vs.length<=cs.toList.length:=by simp [hr.1];omega
  have l:new.size=cs.size:=by rw [<- qal,k,kj9 _ _ _ f];simp
  obtain ⟨c1,c2,c3⟩:=setC (kc1 cells off ys) c h q1 q2 l (kj9 _ _ _ j) (fun z a=>by
      unfold kc1 at a;simp only [qau] at a;rcases a with a | a | a
      · exact q4 z (qbr a)
      · exact hr.2.1 z a
      · exact q4 z (qbq a)) fun i v z hv a=>by
    rw [<- qat,k,kmr _ _ _ f] at hv;rw [kmr _ _ _ j] at a;rw [hr.1] at hv;split at hv
    · rename_i hi
      rw [qo hi] at a;exact hr.2.2 _ v z hv a
    · rename_i hi
      rw [qi hi] at a;exact q5 _ v z (by simpa using hv) a
  exact ⟨b,w.setRow b new,q1,hst,c1,c2,c3⟩
theorem kagm {x y:Operand} {g off:Nat} {cells ys:List AV} (k:o.op = .store t x y) (hd:TdOk P t d) (hx:st.eval x = .ref id g off) (i:objC st id=some (g,cells)) (hy:(st.eval y).cells=ys) (hl:ys.length=d.size) (h1:ys.all AV.single=true)
    (l:off+ys.length<=cells.length):StepA P o st .any (putC st id (kc1 cells off ys)) st.ids:=by
  subst hy;intro F S0 N0 ψ S a w e;have c:=e.core;have j:=CR.cells (e.eval y) h1;obtain ⟨b,w1,q1,q2,q3,q4,q5⟩:=k3n (P:=P) c i l j;obtain ⟨n,_⟩:=khv (fun id o k=>(c.obj id o k).2.1) i;have hv:=e.eval x;rw [hx] at hv;have m:a.eval x = .pointer (some ⟨b,off,none⟩):=by
    generalize a.eval x=u at hv;cases hv with
    | ref hK hn h1 hv=>
      obtain ⟨b',f,rfl⟩:=hv n.symm;rw [q1] at f;simp only [qc] at f;rw [f]
  refine kjh w1 ?_ ⟨ψ,S,q3, .any,q4,Ext.refl,fun _ h=>h,fun _ h=>h,q5⟩;have hcl:(a.eval y).cells.size=d.size:=by have:=j.1;simp at this;omega
  simp only [execOp,k,Instr.storeAt,m,Instr.sureAddr,storeVar,hd.size,Sem.run_bind,Sem.run_pure,Result.andThen_ok];rw [qi (by rw [hcl];simp)];simp only [q2];rfl
end
def srcH (T:List (TypeId×TD)) (H:Nat->Option AObj) (sz:Nat) (tx:TypeId) (y:AV):Option (Nat×List AV):=match kad T tx with
  | some d=>match d.kind,y with
    | .slice _,y=>match rdH H sz y with
      | some (n,_,ys)=>some (n,ys)
      | none=>none
    | .str, .fz (.atom (.string s))=>bif Nat.beq sz 1 then some (s.size,(byteCells s).map fun v => .fz (.atom v)) else none
    | _,_=>none
  | none=>none
abbrev srcE (T:List (TypeId×TD)) (sz:Nat) (st:St) (tx:TypeId) (y:AV):Option (Nat×List AV):=srcH T (kaa st.heap) sz tx y
section
variable {P:Program} {F S0:Nat->Prop} {N0:Nat} {w w':World} {S S':Nat->Prop} {ψ ψ':Env} {K:Nat->Prop} {T:List (TypeId×TD)} {o:Oper} {a:Act} {st:St} {t tx:TypeId} {d:TD} {id:Nat}
theorem kx9 (g:TOk P T) {sz n:Nat} {v:Value} {y:AV} {ys:List AV} (hv:RV ψ (·∈st.ids) S w v y) (k:∀ id o,kaa st.heap id=some o->ObR ψ (·∈st.ids) S w id o) (h:srcE T sz st tx y=some (n,ys)):
    ∃ news,Src P sz tx v n news w/\CR ψ (·∈st.ids) S w news ys:=by
  unfold srcE srcH at h;split at h
  · rename_i d hd
    split at h
    · rename_i e hk
      split at h
      · rename_i m c zs hr
        simp only [qc,qv] at h;obtain ⟨rfl,rfl⟩:=h;obtain ⟨A,cap,rfl,h1,p,_,cs,b,l,j⟩:=krb hv k hr;have a:=(g.get hd).slice hk;cases A with
        | none=>
          obtain ⟨rfl,rfl⟩:=j;exact ⟨[],Src.ofNil w a cap,b⟩
        | some ad=>exact ⟨cs,Src.ofSlice w a ad _ cap cs (by rw [b.1,l]) j b.one,b⟩
      · cases h
    · rename_i s hk
      cases f:Nat.beq sz 1 with
      | false=>rw [f] at h;cases h
      | true=>
        rw [f] at h;simp only [qe,qc,qv] at h;obtain ⟨rfl,rfl⟩:=h;obtain rfl:=qk f;rw [hv.atom];refine ⟨byteCells s,Src.ofString w ((g.get hd).str hk) s,by simp,fun x hx=>?_,fun i v x hv hx=>?_⟩
        · obtain ⟨u,a,rfl⟩:=qas.1 hx
          unfold byteCells at a;obtain ⟨c,_,rfl⟩:=qas.1 a;rfl
        · rw [qq,qt] at hx
          obtain ⟨u,a,rfl⟩:=hx;rw [hv] at a;injection a with a;subst a;have:=qn hv;unfold byteCells at this;obtain ⟨c,_,rfl⟩:=qas.1 this;exact .fz (.atom rfl)
    · cases h
  · cases h
theorem kzh {t ty e:TypeId} {i:TypeInfo} (ht:P.underlying t=some (.slice e)) (hi:P.info? e=some i) {b off sLen:Nat} (sCap:Nat) {x:Value} {n:Nat} {news:List Value} (hs:Src P i.size tx x n news w) (a:sLen+n<=sCap) {w1:World} (hst:(storeCells ⟨b,off+sLen*i.size,none⟩ news).run P w = .ok () w1):
    (Builtin.append_ #[t,tx] ty #[.slice (some ⟨b,off,none⟩) sLen sCap,x]).run P w = .ok (.slice (some ⟨b,off,none⟩) (sLen+n) sCap) w1:=by
  rcases hs.kind with ⟨e',hk⟩ | hk <;> simp [Builtin.append_,run_underlying ht,run_underlying hk,sizeOf,typeInfo,hi,hs.len,a,hs.cells,kb6,hst]
theorem kzq {t:TypeId} (ty:TypeId) {e:TypeId} {de:TD} (ht:P.underlying t=some (.slice e)) (k:TdOk P e de) (l:de.zero.length=de.size) {A:Option Addr} {m:Nat} (cap:Nat) {n:Nat} {olds news:List Value} {xs ys:List AV} {x:Value} (hc:CR ψ K S w olds xs) (hl:xs.length=m*de.size) (hA:k78 w m olds A) (hs:Src P de.size tx x n news w) (hy:CR ψ K S w news ys) (C:cap<m+n) (D:(m+n)*(de.bytes+1)<=140737488355328):
    ∃ gc cur,(Builtin.append_ #[t,tx] ty #[.slice A m cap,x]).run P w = .ok (.slice (some ⟨w.heap.size,0,none⟩) (m+n) gc) (w.drew.alloc (.cells cur e))/\cur.size=gc*de.size/\m+n<=gc/\gc<=9223372036854775807/\(xs++ys).length=(m+n)*de.size /\
      (∀ x∈xs++ys,x.single=true)/\∀ (i:Nat) (v:Value) (x:AV),cur[i]?=some v->(xs++ys)[i]?=some x->RV ψ K S w v x:=by
  obtain ⟨⟨i,z,hi,c,d,o,p⟩,_⟩:=k;have q:z.cells.size=i.size:=by rw [<- qal,p,l,c]
  rw [<- c] at hs hl ⊢;rw [Nat.mul_add,qbi] at D;have f:(Builtin.firstCells i.size m (.slice A m cap)).run P w.drew = .ok olds.toArray w.drew:=by
    cases A with
    | none=>
      obtain ⟨rfl,rfl⟩:=hA;exact run_firstCells_none w.drew i.size 0 0 cap
    | some ad=>exact run_firstCells_some w.drew i.size m ad m cap olds (by rw [hc.1,hl]) fun j v r=>by simpa using hA j v r
  have s:=nextslicecap_le C;have g:Builtin.nextslicecap (m+n) cap*i.bytes<=281474976710656:=by have:=qa4 i.bytes s;rw [Nat.mul_assoc,d] at this;rw [d];omega
  have h:=run_append_grow_src (P:=P) w t tx ty e i z ht hi o A m cap olds f x n news hs C (by omega) g;have u:=grownCap_ge w (m+n) cap e;have B:=grownCap_le_maxLen w (m+n) cap e (by unfold maxLen;omega);have a:=hc.append hy;have b:(xs++ys).length=(m+n)*i.size:=by rw [qah,hl,<- hy.1,hs.newsLen,qbc]
  refine ⟨grownCap w (m+n) cap e,_,h,?_,u,by unfold maxLen at B;omega,b,a.2.1,fun j v y hv hy=>?_⟩
  · simp only [Array.size_append,List.size_toArray,size_zeroCells,q]
    rw [a.1,b,<- qbc];congr 1;omega
  · have r:j<(olds++news).length:=by rw [a.1];exact (qg.1 hy).1
    rw [qa7 (by simpa using r)] at hv;exact a.2.2 j v y (by simpa using hv) hy
theorem kvw {x y:Operand} {ts:Array TypeId} {v:Value} {w1:World} (b:o.op = .call { callee := .builtin .append,args:=#[x,y],argTypes:=ts }) (h:(Builtin.append_ ts o.type #[a.eval x,a.eval y]).run P w = .ok v w1):(execOp a.eval o).run P w = .ok (.value v) w1:=by simp only [execOp,b,resolve,invoke,builtin,Sem.run_bind,Sem.run_pure,Result.andThen_ok,List.map_toArray,qa0,List.map_nil,h]
theorem grow_grow {cur:Array Value} {e:TypeId}:Grow w (w.drew.alloc (.cells cur e)):=Below.step (kadc w) (kbj _ _)
theorem kaej {x y:Operand} {e:TypeId} {de:TD} {m n k:Nat} {xs ys:List AV} (q:o.op = .call { callee := .builtin .append,args:=#[x,y],argTypes:=#[t,tx] }) (r:TOk P T) (hd:kad T t=some d) (hk:d.kind = .slice e) (s:kad T e=some de) (u:0<de.size) (B:de.zero.length=de.size)
    (hx:rdSl de.size st (st.eval x)=some (m,some k,xs)) (hy:srcE T de.size st tx (st.eval y)=some (n,ys)) (H:k<m+n) (C:(m+n)*(de.bytes+1)<=140737488355328) (f:st.ids.contains id=false):
    StepA P o st (.bsl id 0 0 (m+n) none) ((id, .xo (.blk 0 e de.size (xs++ys)))::st.heap) (id::st.ids):=by
  have f:id∉st.ids:=by simpa using f
  intro F S0 N0 ψ S a w g;have c:=g.core;have G:=fun id o q=>(c.obj id o q).2.1;obtain ⟨A,cap,D,_,_,j,cs,I,J,K⟩:=krb (g.eval x) G hx;obtain rfl:=j k rfl;obtain ⟨news,l,E⟩:=kx9 r (g.eval y) G hy;obtain ⟨gc,cur,p,g1,g2,g3,g4,g5,g6⟩:=kzq o.type ((r.get hd).slice hk) (r.get s) B _ I J K l E H C;refine kae _ _ (kvw q (by rw [D];exact p)) ⟨ψ.set id 0 (.slice (some ⟨w.heap.size,0,none⟩) (m+n) gc),S,?_,?_,Fr.of_grow c.fr grow_grow,ka8 f _ _,fun _ h=>qh _ h,fun _ h=>h,Same.of_grow grow_grow⟩
  · have L:(m+n)*de.size<=gc*de.size:=qa4 _ g2
    refine c.add grow_grow f (fun b C=>by simp [kak] at C;omega) ⟨kbf _ _,u,w.heap.size,cur,m+n,gc,kai _ _,by simpa using heap_alloc_new w.drew (.cells cur e),g1,g3,by omega,g5,fun i v z hv u=>(g6 i v z hv u).keep (ka8 f _ _) (fun _ h=>qh _ h) (fun _ h=>h) (Same.of_grow grow_grow)⟩
  · exact .bsl (qu ..) (qaj _) rfl fun _=>⟨w.heap.size,gc,by rw [kai];rfl,rfl,g2,g3,rfl,by rw [kai];rfl⟩
theorem kadj {x y:Operand} {e:TypeId} {de:TD} {g off m n k:Nat} {cells ys:List AV} (s:o.op = .call { callee := .builtin .append,args:=#[x,y],argTypes:=#[t,tx] }) (u:TOk P T) (hd:kad T t=some d) (hk:d.kind = .slice e) (v:kad T e=some de)
    (hx:st.eval x = .bsl id g off m (some k)) (q:objC st id=some (g,cells)) (hy:srcE T de.size st tx (st.eval y)=some (n,ys)) (hr:m+n<=k) (A:off+m*de.size+ys.length<=cells.length):
    StepA P o st (.bsl id g off (m+n) (some k)) (putC st id (kc1 cells (off+m*de.size) ys)) st.ids:=by
  intro F S0 N0 ψ S a w p;have f:=p.core;have E:=fun id o s=>(f.obj id o s).2.1;obtain ⟨H,_⟩:=khv E q;have hv:=p.eval x;rw [hx] at hv;obtain ⟨hK,b,c,G,B,I,r,j⟩:=kj1 hv H;simp only [CapR] at j;subst j;obtain ⟨news,l,C⟩:=kx9 u (p.eval y) E hy;obtain ⟨b',w1,q1,q2,q3,q4,q5⟩:=k3n (P:=P) f q A C;rw [G] at q1;simp only [qc] at q1;subst q1;obtain ⟨⟨i,z,hi,D,J,K,L⟩,_⟩:=u.get v;rw [<- D] at l q2;refine kae _ _ (kvw s (by rw [B];exact kzh ((u.get hd).slice hk) hi _ l hr q2)) ⟨ψ,S,q3,?_,q4,Ext.refl,fun _ h=>h,fun _ h=>h,q5⟩;exact .bsl hK (by omega) rfl fun _=>⟨b,c,G,rfl,hr,r,rfl⟩
theorem kala {x y:Operand} {e:TypeId} {de:TD} {g m n:Nat} {cells ys:List AV} (ho:o.op = .call { callee := .builtin .append,args:=#[x,y],argTypes:=#[t,tx] }) (M:TOk P T) (hd:kad T t=some d) (hk:d.kind = .slice e) (N:kad T e=some de) (ab:de.zero.length=de.size)
    (hx:st.eval x = .bsl id g 0 m none) (O:kaa st.heap id=some (.xo (.blk g e de.size cells))) (hl:cells.length=m*de.size) (hy:srcE T de.size st tx (st.eval y)=some (n,ys)) (hb:(m+n)*(de.bytes+1)<=140737488355328):
    StepA P o st (.bsl id (g+1) 0 (m+n) none) ((id, .xo (.blk (g+1) e de.size (cells++ys)))::st.heap) st.ids:=by
  intro F S0 N0 ψ S a w I;have l:=I.core;have hO:=fun id o ho=>(l.obj id o ho).2.1;obtain ⟨ac,⟨hg,D,b,cs,n0,cap,h1,h2,h3,h4,h5,h6,h7⟩,ad⟩:=l.obj id _ O;have hv:=I.eval x;rw [hx] at hv;obtain ⟨hK,b',c,J,Q,ae,R,E⟩:=kj1 hv hg;rw [h1] at J E;simp only [kak,qc] at J;subst J;have af:c=cap:=E.2;rw [af] at Q ae R;obtain ⟨news,q,r⟩:=kx9 M (I.eval y) hO hy;have U:CR ψ (·∈st.ids) S w (cs.toList.take cells.length) cells:=⟨by simp;omega,h6,fun i v x hv hx=>by
    rw [qab] at hv;split at hv
    · exact h7 i v x (by simpa using hv) hx
    · cases hv⟩
  have fin:∀ (v':Value) (w1:World) (b1 gc:Nat) (new:Array Value),(Builtin.append_ #[t,tx] o.type #[.slice (some ⟨b,0,none⟩) m cap,a.eval y]).run P w = .ok v' w1->v' = .slice (some ⟨b1,0,none⟩) (m+n) gc->w1.heap[b1]?=some (.cells new e (0,0))->new.size=gc*de.size->m+n<=gc->gc<=9223372036854775807 ->
      (cells++ys).length<=new.size->(∀ (i:Nat) (v:Value) (x:AV),new[i]?=some v->(cells++ys)[i]?=some x->RV ψ (·∈st.ids) S w v x)->w.heap.size<=w1.heap.size->(∀ k,k<w.heap.size->k≠b->w1.heap[k]?=w.heap[k]?)->(b1=b\/w.heap.size<=b1)->w1.os=w.os/\w1.tape=w.tape/\w1.output=w.output ->
      ket P o a w fun v w'=>∃ ψ' S',Core F S0 N0 ((id, .xo (.blk (g+1) e de.size (cells++ys)))::st.heap) st.ids ψ' S' w'/\RV ψ' (·∈st.ids) S' w' v (.bsl id (g+1) 0 (m+n) none)/\Fr F w w'/\Ext (·∈st.ids) ψ ψ'/\(∀ id,id∈st.ids->id∈st.ids)/\(∀ b,S b->S' b)/\Same S w w':=by
    intro v' w1 b1 gc new f K hh ag V X Y hr s Z ah hw;have B:∀ k,k<w.heap.size->¬ Blk (ψ.val id) k->w1.heap[k]?=w.heap[k]?:=fun k hk ai=>Z k hk fun e=>ai (.of (by rw [h1,e];rfl));have L:Same S w w1:=fun k hk hl=>B k hl fun e=>(ad k e).1 hk;have G:Ext (·∈st.ids) ψ (ψ.set id (g+1) v'):=kl2 (.inl (by omega));obtain ⟨c1,c2,c3⟩:=l.upd (n:=g+1) (v:=v') (w':=w1) (ob' := .xo (.blk (g+1) e de.size (cells++ys))) O s B (.inl (by omega)) (fun k hk=>by
        rw [K] at hk;have hk:=hk.sl;simp only [kak,qc] at hk;subst hk;rcases ah with rfl | h
        · exact .inl (.of (by rw [h1];rfl))
        · exact .inr h)
      ⟨kbf _ _,D,b1,new,m+n,gc,by rw [kai,K],hh,ag,X,Y,fun z D=>(qau.1 D).elim (h6 z) (r.2.1 z),fun i v z hv D=>(hr i v z hv D).keep G (fun _ h=>h) (fun _ h=>h) L⟩
    refine kae _ _ (kvw ho (by rw [Q];exact f)) ⟨_,S,c1,?_,⟨hw.1,hw.2.1,hw.2.2,s,c3,no0⟩,G,fun _ h=>h,fun _ h=>h,c2⟩;subst K;exact .bsl ac (by rw [kbf];exact qx _) rfl fun _=>⟨b1,gc,by rw [kai];rfl,rfl,V,X,rfl,by rw [kai];rfl⟩
  by_cases p:m+n<=cap
  · obtain ⟨⟨i,z,hi,H,aj,ak,al⟩,_⟩:=M.get N
    have aa:0+m*de.size+news.length<=cs.size:=(by rw [q.newsLen,h3,Nat.zero_add,<- qbc];exact qa4 _ p);have hst:=run_storeCells_at (P:=P) b (0+m*de.size) e news 0 cs w h2 (by simpa using aa) r.one;simp only [Nat.add_zero] at hst;have f:=kzh (ty:=o.type) ((M.get hd).slice hk) hi cap (by rw [H];exact q) p (by rw [H];exact hst);have C:cells.length=0+m*de.size:=(by omega);refine fin _ _ b cap _ f rfl (kic b h2) ?_ p h4 ?_ (fun j v z hv D=>?_) (by simp [World.setRow]) (fun k _ hk=>kjd b _ k hk) (.inl rfl) ⟨rfl,rfl,rfl⟩
    · simp;omega
    · simp [<- r.1];omega
    · have hc2:=U.append r
      rw [C] at hc2;refine hc2.2.2 j v z ?_ D;have hj:j<(List.take (0+m*de.size) cs.toList++news).length:=(by rw [hc2.1];exact (qg.1 D).1);simp only [List.getElem?_toArray] at hv;rw [qad hj] at hv;exact hv
  · obtain ⟨gc,cur,f,g1,g2,g3,g4,g5,g6⟩:=kzq (m:=m) (A:=some ⟨b,0,none⟩) o.type ((M.get hd).slice hk) (M.get N) ab cap U hl (fun j u hu=>by
      rw [kb6];rw [qab] at hu;split at hu
      · exact kyd h2 (by simpa using hu)
      · cases hu) q r (by omega) hb
    have V:(m+n)*de.size<=gc*de.size:=qa4 _ g2;exact fin _ _ w.heap.size gc cur f rfl (by simpa using heap_alloc_new w.drew (.cells cur e)) g1 g2 g3 (by omega) g6 grow_grow.size (fun k hk _=>grow_grow.block k hk) (.inr (qx _)) ⟨rfl,rfl,rfl⟩
theorem kam6 {x y:Operand} {e:TypeId} {de:TD} {m:Nat} {c:Option Nat} {xs ys:List AV} (r:o.op = .call { callee := .builtin .append,args:=#[x,y],argTypes:=#[t,tx] }) (k:TOk P T) (hd:kad T t=some d) (hk:d.kind = .slice e) (l:kad T e=some de)
    (hx:rdSl de.size st (st.eval x)=some (m,c,xs)) (hy:srcE T de.size st tx (st.eval y)=some (0,ys)):NStep P o st (st.eval x):=by
  intro ψ S a w ht q;obtain ⟨A,cap,f,n,_⟩:=krb (Sim.eval_tmps ht x) q hx;obtain ⟨news,b,s⟩:=kx9 k (Sim.eval_tmps ht y) q hy;obtain rfl:news=[]:=qa5 (by rw [b.newsLen,Nat.zero_mul]);obtain ⟨⟨i,z,hi,p,u,v,B⟩,_⟩:=k.get l;rw [<- p] at b;have g:=Sim.eval_tmps ht x;rw [f] at g;have C:=(k.get hd).slice hk;have h:(Builtin.append_ #[t,tx] o.type #[.slice A m cap,a.eval y]).run P w = .ok (.slice A m cap) w:=by rcases b.kind with ⟨e',j⟩ | j <;> cases A <;> simp [Builtin.append_,run_underlying C,run_underlying j,sizeOf,typeInfo,hi,b.len,n,b.cells,storeCells]
  exact kae _ _ (kvw r (by rw [f];exact h)) ⟨kaf _,g.here⟩
end
def ktw (size:Nat):Nat->List (Nat×AV)->Option (List AV)
  | _,[]=>some []
  | i,(j,x)::l=>bif Nat.beq j i && (Nat.beq x.cells.length size && x.cells.all AV.single) then (match ktw size (i+1) l with
    | some ys=>some (x.cells++ys)
    | none=>none) else none
def kgd (E:Operand->AV) (d:Nat):Option Operand->Option Nat
  | none=>some d
  | some y=>match E y with
    | .fz (.atom (.int _ n))=>bif decide (0<=n) then some n.toNat else none
    | _=>none
abbrev ke0 (st:St) (d:Nat):Option Operand->Option Nat:=kgd st.eval d
def kua:List AV->Option (List Int)
  | []=>some []
  | .fz (.atom (.int .u8 n))::l=>match kua l with
    | some r=>some (n::r)
    | none=>none
  | _=>none
def lstX:AV->Option (Nat×Nat×List FV)
  | .fz (.lst s n xs)=>some (s,n,xs)
  | .lim s n xs=>some (s,n,xs)
  | _=>none
section
variable {P:Program} {F S0:Nat->Prop} {N0:Nat} {w w':World} {S S':Nat->Prop} {ψ ψ':Env} {K:Nat->Prop} {T:List (TypeId×TD)} {o:Oper} {a:Act} {st:St} {t tx:TypeId} {d:TD} {id:Nat}
def repC (c:Nat) (zs:List Value):List AV:=(List.replicate c (zs.map fun v=>AV.fz (.atom v))).flatten
theorem kaaz {α:Type} (zs:List α) (a:0<zs.length):∀ (c k:Nat),k<c*zs.length->(List.replicate c zs).flatten[k]?=zs[k % zs.length]?
  | 0,k,h=>by simp at h
  | c+1,k,h=>by
    rw [List.replicate_succ,List.flatten_cons];by_cases hk:k<zs.length
    · rw [qad hk,Nat.mod_eq_of_lt hk]
    · rw [qae (by omega),kaaz zs a c _ (by rw [qbc,Nat.one_mul] at h;omega)]
      rw [Nat.mod_eq_sub_mod (by omega:zs.length<=k)]
theorem e_mkE {X Y:Operand} {e:TypeId} {de:TD} {k k':IntKind} {zs:List Value} {n c:Int} (O:o.op = .makeSlice t X Y) (N:TOk P T) (hd:kad T t=some d) (hk:d.kind = .slice e) (q:kad T e=some de)
    (r:0<de.size) (g:zs.length=de.size) (D:de.zero=zs) (y:∀ v∈zs,v.oneCell'=true) (hx:st.eval X = .fz (.atom (.int k n))) (hy:st.eval Y = .fz (.atom (.int k' c))) (h0:0<=n) (E:n<=c) (G:(de.bytes:Int)*c<=281474976710656) (H:c<=9223372036854775807) (j:st.ids.contains id=false):
    StepA P o st (.bsl id 0 0 n.toNat (some c.toNat)) ((id, .xo (.blk 0 e de.size (repC c.toNat zs)))::st.heap) (id::st.ids):=by
  have j:id∉st.ids:=by simpa using j
  have hd:=N.get hd;have q:=N.get q;intro F S0 N0 ψ S a w s;have m:=s.eval X;rw [hx] at m;have m:=m.atom;have p:=s.eval Y;rw [hy] at p;have p:=p.atom;obtain ⟨⟨i,z',hi,I,J,Q,K⟩,_⟩:=q;have f:=s.core;have hcl:z'.cells.toList=zs:=by rw [K,D]
  have u:z'.cells.size=de.size:=by rw [<- qal,hcl,g]
  have hr:=run_make (P:=P) w t e i z' (hd.slice hk) hi Q k k' n c h0 E (by rw [J];exact G) H;rw [I] at hr;have z:Grow w (w.alloc (.cells (madeCells z'.cells (c.toNat*de.size)) e)):=kbj _ _;have A:∀ x∈repC c.toNat zs,x.single=true:=fun x hx=>by obtain ⟨l,hl,hx⟩:=List.mem_flatten.1 hx;rw [qbu] at hl;rw [hl.2] at hx;obtain ⟨v,hv,rfl⟩:=qas.1 hx;exact y v hv
  have B:(repC c.toNat zs).length=c.toNat*de.size:=by unfold repC;simp [g]
  refine kae (w.alloc (.cells (madeCells z'.cells (c.toNat*de.size)) e)) (.slice (some ⟨w.heap.size,0,none⟩) n.toNat c.toNat) ?_ ⟨ψ.set id 0 (.slice (some ⟨w.heap.size,0,none⟩) n.toNat c.toNat),S,?_,?_,kjo _ f.fr,ka8 j _ _,fun _ h=>qh _ h,fun _ h=>h,Same.of_grow z⟩
  · simp [execOp,O,m,p,hr]
  · refine f.add z j (fun b G=>by simp [kak] at G;omega) ⟨kbf _ _,r,w.heap.size,madeCells z'.cells (c.toNat*de.size),n.toNat,c.toNat,kai _ _,heap_alloc_new w _,by rw [size_madeCells],by omega,by rw [size_madeCells,B];omega,A,fun i v x hv hx=>?_⟩
    have C:i<c.toNat*de.size:=(by rw [<- B];exact (qg.1 hx).1);have hm:i % de.size<z'.cells.size:=(by rw [u];exact Nat.mod_lt _ r);have L:(madeCells z'.cells (c.toNat*de.size))[i]?=z'.cells[i % z'.cells.size]?:=(by have M:i % z'.cells.size<z'.cells.size:=(by rw [u];exact Nat.mod_lt _ r);simp [madeCells,C,M]);rw [L,u,<- qat,hcl] at hv;unfold repC at hx;rw [kaaz _ (by rw [qaa];omega) _ _ (by rw [qaa,g];exact C),qaa,g,qq,hv] at hx;injection hx with hx;subst hx;exact .fz (.atom (y v (qn hv)))
  · exact .bsl (qu ..) (qaj _) rfl fun _=>⟨w.heap.size,c.toNat,by rw [kai];rfl,rfl,by omega,by omega,rfl⟩
theorem k34 {ids:List Nat} (ht:∀ t,RV ψ (·∈ids) S w (a.tmps.getD t undef) (st.get t)) {size:Nat}:∀ {i:Nat} {l:List (Nat×Operand)} {ys:List AV},ktw size i (l.map fun p=>(p.1,st.eval p.2))=some ys ->
    (l.map fun p=>(p.1,a.eval p.2))=((l.map fun p=>a.eval p.2).zipIdx i).map (fun x=>(x.2,x.1))/\(∀ v∈l.map (fun p=>a.eval p.2),v.cells.size=size)/\CR ψ (·∈ids) S w ((l.map fun p=>a.eval p.2).flatMap fun v=>v.cells.toList) ys/\ys.length=l.length*size
  | i,[],ys,h=>by simp only [List.map_nil,ktw,qc] at h;subst h;exact ⟨rfl,(fun v hv=>by cases hv),CR.nil,by simp⟩
  | i,(j,x)::l,ys,h=>by
    simp only [qa0,ktw] at h;cases c:(Nat.beq j i && (Nat.beq (st.eval x).cells.length size && (st.eval x).cells.all AV.single)) with
    | false=>rw [c] at h;cases h
    | true=>
      rw [c] at h;simp only [qe] at h;split at h
      · rename_i zs f
        injection h with h;subst h;simp only [qp] at c;obtain ⟨d,b,e⟩:=c;obtain rfl:=qk d;have b:=qk b;obtain ⟨e1,e2,e3,e4⟩:=k34 ht f;have hc:=CR.cells (Sim.eval_tmps ht x) e;refine ⟨by simp only [qa0,List.zipIdx_cons,e1],fun v hv=>?_,?_,by simp [b,e4,qbc];omega⟩
        · simp only [qa0] at hv
          rcases qac.1 hv with rfl | hv
          · have:=hc.1;simp at this;omega
          · exact e2 v hv
        · simp only [qa0,List.flatMap_cons]
          exact hc.append e3
      · cases h
theorem kaer {n:Nat} (parts:Array (Nat×Operand)) {e:TypeId} {de:TD} {ys:List AV} (H:o.op = .buildSlice t n parts) (hd:TdOk P t d) (hk:d.kind = .slice e) (q:TdOk P e de) (l:0<de.size) (hn:parts.toList.length=n) (E:n*de.size<=16777216) (hp:ktw de.size 0 (kdf st parts)=some ys) (c:st.ids.contains id=false):StepA P o st (.bsl id 0 0 n (some n)) ((id, .xo (.blk 0 e de.size ys))::st.heap) (id::st.ids):=by
  have c:id∉st.ids:=by simpa using c
  subst hn;intro F S0 N0 ψ S a w r;have f:=r.core;obtain ⟨e1,e2,e3,e4⟩:=k34 r.tmps hp;obtain ⟨vs,s⟩:∃ vs:List Value,vs=parts.toList.map (fun p=>a.eval p.2):=⟨_,rfl⟩;rw [<- s] at e1 e2 e3;have y:vs.length=parts.toList.length:=by rw [s];simp
  obtain ⟨z,A,I⟩:=q.zero (P:=P) (w:=w);obtain ⟨cells,hcl⟩:∃ cells:Array Value,cells=(vs.flatMap fun v=>v.cells.toList).toArray:=⟨_,rfl⟩;have B:(parts.map fun (i,x)=>(i,a.eval x)).toList=(vs.zipIdx 0).map (fun x=>(x.2,x.1)):=by rw [<- e1];simp
  have u:(Instr.buildSlice t parts.toList.length (parts.map fun (i,x)=>(i,a.eval x))).run P w = .ok (.slice (some ⟨w.heap.size,0,none⟩) parts.toList.length parts.toList.length) (w.alloc (.cells cells e)):=by
    have C:¬ parts.toList.length*de.size > 2 ^ 24:=(by omega);have g:∀ c0:Array Value,parts.toList.length*de.size=c0.size->Instr.fill (fun i=>some (i*de.size,de.size)) c0 (parts.map fun (i,x)=>(i,a.eval x)).toList=some cells:=fun c0 D=>(by rw [B,Great.fill_whole l vs c0 e2 (by rw [y];exact D),hcl]);unfold Instr.buildSlice;rw [Sem.run_bind,run_underlying (hd.slice hk),Result.andThen_ok];simp only [Sem.run_bind,q.size,Result.andThen_ok,qi C];by_cases h0:parts.toList.length*de.size=0
    · simp only [qo h0,Sem.run_bind,Sem.run_pure,Result.andThen_ok]
      rw [g]
      · rfl
      · simp
    · simp only [qi h0,Sem.run_bind,A,Result.andThen_ok,Sem.run_pure]
      rw [g]
      · rfl
      · simp
  have m:Grow w (w.alloc (.cells cells e)):=kbj _ _;have k:cells.size=parts.toList.length*de.size:=by rw [hcl,List.size_toArray,e3.1,e4]
  have G:parts.toList.length*1<=parts.toList.length*de.size:=Nat.mul_le_mul_left _ l;refine kae (w.alloc (.cells cells e)) (.slice (some ⟨w.heap.size,0,none⟩) parts.toList.length parts.toList.length) ?_ ⟨ψ.set id 0 (.slice (some ⟨w.heap.size,0,none⟩) parts.toList.length parts.toList.length),S,?_,?_,kjo _ f.fr,ka8 c _ _,fun _ h=>qh _ h,fun _ h=>h,Same.of_grow m⟩
  · have j:=u
    simp only [execOp,H,Sem.run_bind];rw [show (parts.map fun (i,x)=>(i,a.eval x))=parts.map (fun x=>(x.1,a.eval x.2)) from rfl] at j;simp only [j];rfl
  · refine f.add m c (fun b E=>by simp [kak] at E;omega) ⟨kbf _ _,l,w.heap.size,cells,_,_,kai _ _,heap_alloc_new w _,k,by omega,by rw [k,e4];exact qx _,e3.2.1,fun i v x hv hx=>?_⟩
    exact (e3.2.2 i v x (by rw [hcl] at hv;simpa using hv) hx).keep (ka8 c _ _) (fun _ h=>qh _ h) (fun _ h=>h) (Same.of_grow m)
  · exact .bsl (qu ..) (qaj _) rfl fun _=>⟨w.heap.size,_,by rw [kai];rfl,rfl,qx _,by omega,rfl⟩
theorem kcj {ids:List Nat} (ht:∀ t,RV ψ (·∈ids) S w (a.tmps.getD t undef) (st.get t)) {x:Option Operand} {D r:Nat} (h:ke0 st D x=some r):(x=none/\r=D)\/∃ y k,x=some y/\a.eval y = .int k (r:Int):=by
  unfold ke0 kgd at h;split at h
  · injection h with h;exact .inl ⟨rfl,h.symm⟩
  · rename_i y
    split at h
    · rename_i k n hk
      cases h0:decide (0<=n) with
      | false=>rw [h0] at h;cases h
      | true=>
        rw [h0] at h;simp only [qe,qc] at h;have h1:=Sim.eval_tmps ht y;rw [hk] at h1;have hn:(r:Int)=n:=(by rw [<- h];exact Int.toNat_of_nonneg (by simpa using h0));exact .inr ⟨y,k,rfl,by rw [hn];exact h1.atom⟩
    · cases h
theorem klg (P:Program) (w:World) {lo hi:Option Operand} (mx:Option Operand) (isS:Bool) {len:Nat} (cap:Nat) {L H:Nat} (M:Nat) (d:(lo=none/\L=0)\/∃ y k,lo=some y/\a.eval y = .int k (L:Int)) (e:(hi=none/\H=len)\/∃ y k,hi=some y/\a.eval y = .int k (H:Int)) (g:(mx=none/\M=cap)\/∃ y k,mx=some y/\a.eval y = .int k (M:Int)) (h1:L<=H) (c:H<=M) (f:M<=cap) (h:mx.isSome=true->hi.isSome=true):(Instr.sliceBounds isS len cap (lo.map a.eval) (hi.map a.eval) (mx.map a.eval)).run P w = .ok (L,H,M) w:=by
  have q1:(L:Int)<=(H:Int):=by omega
  have q2:(H:Int)<=(M:Int):=by omega
  have q3:(M:Int)<=(cap:Int):=by omega
  have q4:(H:Int)<=(cap:Int):=by omega
  have p1:(0:Int)<=(L:Int):=by omega
  have p2:(0:Int)<=(H:Int):=by omega
  have p3:(0:Int)<=(M:Int):=by omega
  have sb:∀ {u:Value} {k:IntKind} {n y:Nat} {code:BoundsCode},u = .int k (n:Int)->n<=y->(Instr.sliceBound u y code).run P w = .ok n w:=fun {u k n y code} i j=>by subst i;have e1:(0:Int)<=(n:Int):=(by omega);have e2:(n:Int)<=(y:Int):=(by omega);simp only [Instr.sliceBound,asIntOf,Sem.run_bind,Sem.run_pure,Result.andThen_ok];rw [qo ⟨e1,e2⟩];simp
  unfold Instr.sliceBounds;rcases g with ⟨rfl,rfl⟩ | ⟨ym,km,rfl,hm⟩
  · rcases e with ⟨rfl,rfl⟩ | ⟨yh,kh,rfl,b⟩
    · rcases d with ⟨rfl,rfl⟩ | ⟨yl,kl,rfl,hl⟩
      · simp
      · simp [sb hl h1]
    · rcases d with ⟨rfl,rfl⟩ | ⟨yl,kl,rfl,hl⟩
      · simp [sb b c]
      · simp [sb b c,sb hl h1]
  · rcases e with ⟨rfl,rfl⟩ | ⟨yh,kh,rfl,b⟩
    · exact absurd (h rfl) (by simp)
    · rcases d with ⟨rfl,rfl⟩ | ⟨yl,kl,rfl,hl⟩
      · simp [sb hm f,sb b c]
      · simp [sb hm f,sb b c,sb hl h1]
def offE (off L M size:Nat):Nat:=bif Nat.beq M L then off else off+L*size
theorem kxd {b off L M size:Nat}:(if M=L then (⟨b,off,none⟩:Addr) else (⟨b,off,none⟩:Addr).add (L*size))=⟨b,offE off L M size,none⟩:=by
  unfold offE;by_cases h:M=L
  · subst h;simp
  · rw [qi h,Nat.beq_eq_false h,kb6];rfl
theorem n_slB {x:Operand} {lo hi mx:Option Operand} {e:TypeId} {de:TD} {g off len k L H M:Nat} {cells:List AV} (p:o.op = .slice t x lo hi mx) (m:TOk P T) (hd:kad T t=some d) (hk:d.kind = .slice e) (h:kad T e=some de) (hx:st.eval x = .bsl id g off len (some k)) (i:objC st id=some (g,cells))
    (hl:ke0 st 0 lo=some L) (q:ke0 st len hi=some H) (hm:ke0 st k mx=some M) (h1:L<=H) (r:H<=M) (s:M<=k) (u:mx.isSome=true->hi.isSome=true):NStep P o st (.bsl id g (offE off L M de.size) (H - L) (some (M - L))):=by
  intro ψ S a w ht y;obtain ⟨z,_⟩:=khv y i;have hv:=Sim.eval_tmps ht x;rw [hx] at hv;obtain ⟨hK,b,c,A,j,B,n,f⟩:=kj1 hv z;have f:c=k:=f;subst f;have e1:=klg P w _ true _ _ (kcj ht hl) (kcj ht q) (kcj ht hm) h1 r s u;refine kae w (.slice (some ⟨b,offE off L M de.size,none⟩) (H - L) (M - L)) ?_ ⟨kaf _, .bsl hK (by omega) rfl fun _=>⟨b,M - L,A,rfl,by omega,by omega,rfl⟩⟩;have l:=(m.get h).size (P:=P) (w:=w);rw [<- kxd];simp [execOp,p,Instr.sliceAt,Instr.slice,run_underlying ((m.get hd).slice hk),j,e1,l];split <;> rfl
theorem n_slU {x:Operand} {lo hi:Option Operand} {e:TypeId} {de:TD} {g len H:Nat} {cells:List AV} (p:o.op = .slice t x lo hi none) (n:TOk P T) (hd:kad T t=some d) (hk:d.kind = .slice e) (j:kad T e=some de) (hx:st.eval x = .bsl id g 0 len none) (k:objC st id=some (g,cells))
    (hl:ke0 st 0 lo=some 0) (q:ke0 st len hi=some H) (z:H<=len):NStep P o st (.bsl id g 0 H none):=by
  intro ψ S a w ht r;obtain ⟨s,_⟩:=khv r k;have hv:=Sim.eval_tmps ht x;rw [hx] at hv;obtain ⟨hK,b,c,u,l,y,f,i⟩:=kj1 hv s;have e1:=klg P w none true c c (kcj ht hl) (kcj ht q) (.inl ⟨rfl,rfl⟩) (qaj _) (by omega) (qx _) (fun h=>by cases h);refine kae w (.slice (some ⟨b,0,none⟩) H c) ?_ ⟨kaf _, .bsl hK (by omega) rfl fun _=>⟨b,c,u,rfl,by omega,f,i⟩⟩;have m:=(n.get j).size (P:=P) (w:=w);simp only [Option.map_none] at e1;simp [execOp,p,Instr.sliceAt,Instr.slice,run_underlying ((n.get hd).slice hk),l,e1,m,kb6]
theorem n_slM {x:Operand} {lo hi:Option Operand} {y:Operand} {e:TypeId} {de:TD} {g len L H M:Nat} {cells:List AV} (p:o.op = .slice t x lo hi (some y)) (l:TOk P T) (hd:kad T t=some d) (hk:d.kind = .slice e) (f:kad T e=some de) (hx:st.eval x = .bsl id g 0 len none) (i:objC st id=some (g,cells))
    (hl:ke0 st 0 lo=some L) (q:ke0 st len hi=some H) (hm:ke0 st 0 (some y)=some M) (h1:L<=H) (r:H<=M) (D:M<=len) (s:hi.isSome=true):NStep P o st (.bsl id g (offE 0 L M de.size) (H - L) (some (M - L))):=by
  intro ψ S a w ht u;obtain ⟨z,_⟩:=khv u i;have hv:=Sim.eval_tmps ht x;rw [hx] at hv;obtain ⟨hK,b,c,A,j,B,m,n⟩:=kj1 hv z;have C:=(kcj ht hm).resolve_left (fun h=>by cases h.1);have e1:=klg P w (some y) true c M (kcj ht hl) (kcj ht q) (.inr C) h1 r (by omega) (fun _=>s);refine kae w (.slice (some ⟨b,offE 0 L M de.size,none⟩) (H - L) (M - L)) ?_ ⟨kaf _, .bsl hK (by omega) rfl fun _=>⟨b,M - L,A,rfl,by omega,by omega,rfl⟩⟩;have k:=(l.get f).size (P:=P) (w:=w);rw [<- kxd];simp only [qa6] at e1;simp [execOp,p,Instr.sliceAt,Instr.slice,run_underlying ((l.get hd).slice hk),j,e1,k];split <;> rfl
theorem kaj0 {x:Operand} {lo hi mx:Option Operand} {n e:Nat} {de:TD} {g off L H M:Nat} {cells:List AV} (m:o.op = .slice t x lo hi mx) (l:TOk P T) (hd:kad T t=some d) (hk:d.kind = .arr n e) (h:kad T e=some de) (hx:st.eval x = .ref id g off) (i:objC st id=some (g,cells))
    (hl:ke0 st 0 lo=some L) (p:ke0 st n hi=some H) (hm:ke0 st n mx=some M) (h1:L<=H) (q:H<=M) (r:M<=n) (s:mx.isSome=true->hi.isSome=true) (hn:n<=9223372036854775807):NStep P o st (.bsl id g (offE off L M de.size) (H - L) (some (M - L))):=by
  intro ψ S a w ht y;obtain ⟨z,b0,_,_,f,_⟩:=khv y i;have hv:=Sim.eval_tmps ht x;rw [hx] at hv;have b:g<=ψ.len id/\id∈st.ids/\a.eval x = .pointer (some ⟨b0,off,none⟩):=by
    generalize a.eval x=u at hv;cases hv with
    | ref hK hn h1 hv=>
      obtain ⟨b',c,rfl⟩:=hv z.symm;rw [f] at c;simp only [qc] at c;rw [c];exact ⟨hn,hK,rfl⟩
  obtain ⟨j,hK,b⟩:=b;have e1:=klg P w _ false _ _ (kcj ht hl) (kcj ht p) (kcj ht hm) h1 q r s;refine kae w (.slice (some ⟨b0,offE off L M de.size,none⟩) (H - L) (M - L)) ?_ ⟨kaf _, .bsl hK j rfl fun _=>⟨b0,M - L,f,rfl,by omega,by omega,rfl⟩⟩;have k:=(l.get h).size (P:=P) (w:=w);rw [<- kxd];simp [execOp,m,Instr.sliceAt,run_underlying ((l.get hd).arr hk),Instr.sureAddr,b,e1,k]
theorem k27 {v:Value} {x:AV} {s n:Nat} {xs:List FV} (h:RV ψ K S w v x) (hx:lstX x=some (s,n,xs)):∃ A cap,v = .slice A n cap/\RF S w (.slice A n cap) (.lst s n xs):=by
  unfold lstX at hx;split at hx
  · simp only [qc,qv] at hx
    obtain ⟨rfl,rfl,rfl⟩:=hx;have h:=h.inv;obtain ⟨A,cap,css,rfl,_⟩:=h.lst_inv;exact ⟨A,cap,rfl,h⟩
  · simp only [qc,qv] at hx
    obtain ⟨rfl,rfl,rfl⟩:=hx;cases h with
    | lim h=>exact ⟨_,_,rfl,h⟩
  · cases hx
theorem n_slF {x:Operand} {lo hi:Option Operand} {e:TypeId} {de:TD} {n L H:Nat} {xs:List FV} (p:o.op = .slice t x lo hi none) (l:TOk P T) (hd:kad T t=some d) (hk:d.kind = .slice e) (b:kad T e=some de) (hx:lstX (st.eval x)=some (de.size,n,xs))
    (hl:ke0 st 0 lo=some L) (q:ke0 st n hi=some H) (h1:L<=H) (r:H<=n):NStep P o st (.fz (.lst de.size (H - L) ((xs.take H).drop L))):=by
  intro ψ S a w ht u;obtain ⟨A,cap,c,m⟩:=k27 (Sim.eval_tmps ht x) hx;obtain ⟨_,_,css,f,hn,s,hm,_⟩:=m.lst_inv;injection f with q1 q2 q3;subst q1 q3;have e1:=klg P w none true cap cap (kcj ht hl) (kcj ht q) (.inl ⟨rfl,rfl⟩) h1 (by omega) (qx _) (fun h=>by cases h);obtain ⟨A',g,i⟩:=m.take (v := .nilFunc) (k:=0) L H h1 r;refine kae w (.slice A' (H - L) (cap - L)) ?_ ⟨kaf _,(RV.fz i).here⟩;have j:=(l.get b).size (P:=P) (w:=w);simp only [Option.map_none] at e1;simp [execOp,p,Instr.sliceAt,Instr.slice,run_underlying ((l.get hd).slice hk),c,e1,j,g]
theorem RF.takeE {A:Option Addr} {cap n size:Nat} {xs:List FV} (h:RF S w (.slice A n cap) (.lst size n xs)) (lo hi:Nat) (h1:lo<=hi) (e:hi<=n):RF S w (.slice (if hi=lo then A else A.map (·.add (lo*size))) (hi - lo) (hi - lo)) (.lst size (hi - lo) ((xs.take hi).drop lo)):=by
  obtain ⟨A0,cap0,css,hv,hn,hc,hm,hs,ha,hl,hr⟩:=h.lst_inv;injection hv with e1 _ e3;subst e1 e3;have a:(xs.take hi).length=hi:=by rw [qaw];omega
  have get:∀ (i:Nat) (x:FV),((xs.take hi).drop lo)[i]?=some x->xs[lo+i]?=some x:=fun i x hx=>by
    rw [qao,qab] at hx;split at hx
    · exact hx
    · cases hx
  refine .lst (fun i=>css (lo+i)) (by rw [qa9,a]) (by omega) (by omega) hs (fun i x hx=>?_) (fun i x hx=>hl _ x (get i x hx)) fun i x j v y hx hv hy=>hr _ x j v y (get i x hx) hv hy;obtain ⟨b,o,hA,hS,c⟩:=ha _ x (get i x hx);have d:=(qg.1 hx).1;rw [qa9,a] at d;refine ⟨b,o+lo*size,?_,hS,by rw [Nat.add_assoc,<- qbc];exact c⟩;rw [qi (by omega),hA];simp only [qa6,kb6]
theorem kal7 {x y:Operand} {lo hi:Option Operand} {e:TypeId} {de:TD} {n L H:Nat} {xs:List FV} (l:o.op = .slice t x lo hi (some y)) (j:TOk P T) (hd:kad T t=some d) (hk:d.kind = .slice e) (b:kad T e=some de) (hx:lstX (st.eval x)=some (de.size,n,xs))
    (hl:ke0 st 0 lo=some L) (m:ke0 st n hi=some H) (hm:ke0 st 0 (some y)=some H) (h1:L<=H) (p:H<=n) (q:hi.isSome=true):NStep P o st (.lim de.size (H - L) ((xs.take H).drop L)):=by
  intro ψ S a w ht z;obtain ⟨A,cap,c,k⟩:=k27 (Sim.eval_tmps ht x) hx;obtain ⟨_,_,css,f,hn,r,s,_⟩:=k.lst_inv;injection f with q1 q2 q3;subst q1 q3;have u:=(kcj ht hm).resolve_left (fun h=>by cases h.1);have e1:=klg P w (some y) true cap H (kcj ht hl) (kcj ht m) (.inr u) h1 (qx _) (by omega) (fun _=>q);have g:=k.takeE L H h1 p;refine kae w (.slice (if H=L then A else A.map (·.add (L*de.size))) (H - L) (H - L)) ?_ ⟨kaf _,(RV.lim g).here⟩;have i:=(j.get b).size (P:=P) (w:=w);simp only [qa6] at e1;simp [execOp,l,Instr.sliceAt,Instr.slice,run_underlying ((j.get hd).slice hk),c,e1,i]
theorem n_sl0 {x:Operand} {lo hi mx:Option Operand} {e:TypeId} {de:TD} (g:o.op = .slice t x lo hi mx) (f:TOk P T) (hd:kad T t=some d) (hk:d.kind = .slice e) (b:kad T e=some de) (hx:st.eval x = .fz (.atom nilV))
    (hl:ke0 st 0 lo=some 0) (h:ke0 st 0 hi=some 0) (hm:ke0 st 0 mx=some 0) (i:mx.isSome=true->hi.isSome=true):NStep P o st (.fz (.atom nilV)):=by
  intro ψ S a w ht j;have hv:=Sim.eval_tmps ht x;rw [hx] at hv;have hv:=hv.atom;have e1:=klg P w _ true _ _ (kcj ht hl) (kcj ht h) (kcj ht hm) (qx _) (qx _) (qx _) i;refine kae w nilV ?_ ⟨kaf _, .fz (.atom rfl)⟩;have c:=(f.get b).size (P:=P) (w:=w);simp [execOp,g,Instr.sliceAt,Instr.slice,run_underlying ((f.get hd).slice hk),hv,nilV,e1,c]
theorem kamo {x:Operand} {e:TypeId} {g off len:Nat} {cap:Option Nat} {cells:List AV} (i:o.op = .call { callee := .builtin .len,args:=#[x],argTypes:=#[t] }) (hd:TdOk P t d) (hk:d.kind = .slice e) (hx:st.eval x = .bsl id g off len cap) (f:objC st id=some (g,cells)):NStep P o st (.fz (.atom (.int .i64 len))):=by intro ψ S a w ht j;obtain ⟨k,_⟩:=khv j f;have hv:=Sim.eval_tmps ht x;rw [hx] at hv;obtain ⟨hK,b,c,l,h,_⟩:=kj1 hv k;refine kae w (.int .i64 len) ?_ ⟨kaf _, .fz (.atom rfl)⟩;simp [execOp,i,resolve,invoke,builtin,Builtin.len_,run_underlying (hd.slice hk),h,goInt]
theorem kam7 {x:Operand} {e:TypeId} {sz m k:Nat} {ys:List AV} (f:o.op = .call { callee := .builtin .cap,args:=#[x],argTypes:=#[t] }) (hd:TdOk P t d) (hk:d.kind = .slice e) (hx:rdSl sz st (st.eval x)=some (m,some k,ys)):NStep P o st (.fz (.atom (.int .i64 k))):=by intro ψ S a w ht g;obtain ⟨A,cap,c,_,_,b,_⟩:=krb (Sim.eval_tmps ht x) g hx;obtain rfl:=b k rfl;refine kae w (.int .i64 cap) ?_ ⟨kaf _, .fz (.atom rfl)⟩;simp [execOp,f,resolve,invoke,builtin,Builtin.cap_,run_underlying (hd.slice hk),c,goInt]
theorem kzp {op:BinOp} {x y:Operand} {u v:Option Addr} {n m c d:Nat}:(eqGuard op t x y (.slice u n c) (.slice v m d)).run P w = .ok () w:=by unfold eqGuard;cases op <;> simp
theorem kacv (u v:Option Addr) (n m c e:Nat) (r:Bool) (h:∀ d:Nat,(Op.equalIn (d+1) t (.slice u n c) (.slice v m e)).run P w = .ok r w):(binOp .eql t (.slice u n c) (.slice v m e)).run P w = .ok (.bool r) w/\(binOp .neq t (.slice u n c) (.slice v m e)).run P w = .ok (.bool !r) w:=by constructor <;> (simp only [binOp];simp [Op.equal,Op.maxDepth,h 9999])
theorem kadu {x y:Operand} {yt te:TypeId} (neg r:Bool) (l:o.op = .binOp (if neg then .neq else .eql) t x y yt) (ht:P.underlying t=some (.slice te)) (hx:(r=true/\st.eval x = .fz (.atom nilV))\/(r=false/\((∃ id g off len cap cells,st.eval x = .bsl id g off len cap/\objC st id=some (g,cells))\/∃ s n z zs,lstX (st.eval x)=some (s,n,z::zs)))) (hy:st.eval y = .fz (.atom nilV)):
    NStep P o st (.fz (.atom (.bool (bif neg then !r else r)))):=by
  intro ψ S a w h p;have h1:=Sim.eval_tmps h x;have i:=Sim.eval_tmps h y;rw [hy] at i;have i:=i.atom;have key:∃ A n c,a.eval x = .slice A n c/\A.isNone=r:=by
    rcases hx with ⟨rfl,hx⟩ | ⟨rfl,⟨id,g,off,len,cap,cells,hx,j⟩ | ⟨s,n,z,zs,hx⟩⟩
    · rw [hx] at h1;exact ⟨none,0,0,h1.atom,rfl⟩
    · rw [hx] at h1
      obtain ⟨q,_⟩:=khv p j;obtain ⟨hK,b,c,D,f,_⟩:=kj1 h1 q;exact ⟨_,_,_,f,rfl⟩
    · obtain ⟨A,cap,f,B⟩:=k27 h1 hx
      obtain ⟨_,_,css,k,hn,C,hm,hs,ha,_⟩:=B.lst_inv;injection k with q1 q2 q3;subst q1 q3;obtain ⟨b,o,rfl,_⟩:=ha 0 z rfl;exact ⟨_,_,_,f,rfl⟩
  obtain ⟨A,n,c,f,hA⟩:=key;refine kae w (.bool (bif neg then !r else r)) ?_ ⟨kaf _, .fz (.atom rfl)⟩;obtain ⟨q1,q2⟩:=kacv (t:=t) (w:=w) (P:=P) A none n 0 c 0 r fun d=>by cases A <;> simp at hA <;> subst hA <;> simp [Op.equalIn,run_underlying ht]
  cases neg
  · simp [execOp,l,f,i,nilV,kzp] at q1 ⊢
    simp [q1]
  · simp [execOp,l,f,i,nilV,kzp] at q2 ⊢
    simp [q2]
theorem kajz {x y:Operand} {t1 t2 e:TypeId} {d1 de:TD} {g off len n:Nat} {cap c2:Option Nat} {cells ys:List AV} (m:o.op = .call { callee := .builtin .copy,args:=#[x,y],argTypes:=#[t1,t2] }) (B:TOk P T) (hd:kad T t1=some d1) (hk:d1.kind = .slice e) (p:kad T e=some de)
    (hx:st.eval x = .bsl id g off len cap) (i:objC st id=some (g,cells)) (hy:rdSl de.size st (st.eval y)=some (n,c2,ys)) (q:off+(ys.take (min n len*de.size)).length<=cells.length):
    StepA P o st (.fz (.atom (.int .i64 ((min n len:Nat):Int)))) (putC st id (kc1 cells off (ys.take (min n len*de.size)))) st.ids:=by
  intro F S0 N0 ψ S a w f;have d:=f.core;have C:=fun id o m=>(d.obj id o m).2.1;obtain ⟨G,_⟩:=khv C i;have hv:=f.eval x;rw [hx] at hv;obtain ⟨hK,b,c,H,r,_⟩:=kj1 hv G;obtain ⟨A,cap',s,_,_,_,cs,D,I,E⟩:=krb (f.eval y) C hy;have t:CR ψ (·∈st.ids) S w (cs.take (min n len*de.size)) (ys.take (min n len*de.size)):=by simpa using D.sub 0 (min n len*de.size)
  obtain ⟨b',w1,q1,q2,q3,q4,q5⟩:=k3n (P:=P) d i q t;rw [H] at q1;simp only [qc] at q1;subst q1;have J:(min n len)*de.size<=n*de.size:=qa4 _ (Nat.min_le_left n len);have u:(Builtin.firstCells de.size (min n len) (.slice A n cap')).run P w = .ok (cs.take (min n len*de.size)).toArray w:=by
    cases A with
    | none=>
      obtain ⟨rfl,rfl⟩:=E;simpa using run_firstCells_none (P:=P) w de.size (min 0 len) 0 cap'
    | some ad=>
      refine run_firstCells_some w de.size (min n len) ad n cap' _ (by rw [qaw,D.1,I];omega) fun j v l=>?_;rw [qab] at l;split at l
      · exact E j v l
      · cases l
  refine kae w1 (.int .i64 ((min n len:Nat):Int)) ?_ ⟨ψ,S,q3, .fz (.atom rfl),q4,Ext.refl,fun _ h=>h,fun _ h=>h,q5⟩;have z:=(B.get p).size (P:=P) (w:=w);have k:Nat.min n len=min n len:=rfl;simp [execOp,m,resolve,invoke,builtin,Builtin.copy_,run_underlying ((B.get hd).slice hk),r,s,Builtin.lenOf,z,k,u,q2,goInt]
theorem k5e:∀ {l:List AV} {r:List Int},kua l=some r->l=r.map fun n => .fz (.atom (.int .u8 n))
  | [],r,h=>by simp only [kua,qc] at h;subst h;rfl
  | x::l,r,h=>by
    unfold kua at h;split at h
    · rename_i h0;cases h0
    · rename_i n l' h0
      injection h0 with h1 a;subst h1 a;split at h
      · rename_i r' hr
        injection h with h;subst h;rw [k5e hr];rfl
      · cases h
    · cases h
theorem kal2 {sr e:TypeId} {x:Operand} {n:Nat} {c:Option Nat} {ys:List AV} {xs:List Int} {ds de:TD} (g:TOk P T) (s:o.op = .convert sr t x) (hs:kad T sr=some ds) (h:ds.kind = .slice e) (u:kad T e=some de) (i:de.kind = .int .u8) (hd:kad T t=some d) (hk:d.kind = .str)
    (hx:rdSl 1 st (st.eval x)=some (n,c,ys)) (hi:kua ys=some xs):NStep P o st (.fz (.atom (.string (toBA xs)))):=by
  intro ψ S a w ht y;obtain ⟨A,cap,k,_,_,_,cs,l,z,q⟩:=krb (Sim.eval_tmps ht x) y hx;obtain rfl:=k5e hi;obtain ⟨_,e',h1,m⟩:=g.get u;rw [i] at m;cases e' <;> simp only [kg3] at m;subst m;have p:cs=xs.map (Value.int .u8):=by
    apply qbg;intro j;by_cases r:j<cs.length
    · have b:j<xs.length:=by have:=l.1;simp at this;omega
      have:=l.2.2 j cs[j] _ (qb r) (by rw [qq,qb b];rfl);rw [qb r,this.atom];simp [b]
    · have:=l.1
      simp at this;rw [qaq (by omega),qaq (by simp;omega)]
  refine kae w (.string (toBA xs)) ?_ ⟨kaf _, .fz (.atom rfl)⟩;have hn:xs.length=n:=by simpa using z
  have f:(Conv.bytesToString (.slice A n cap)).run P w = .ok (.string (toBA xs)) w:=by
    cases A with
    | none=>
      obtain ⟨rfl,h0⟩:=q;have:xs=[]:=qa5 hn;subst this;rfl
    | some ad=>
      refine run_bytesToString w ad n cap xs ?_;have:=run_loadCells_list (P:=P) w ad cs q;rw [p] at this
      rwa [qaa,hn] at this
  simp only [execOp,s,k,Sem.run_bind];rw [run_convert_bytes_string w sr t e A n cap ((g.get hs).slice h) h1 ((g.get hd).str hk),f];rfl
end
open Go.ChangeMaps (setBlock)
def k5z:Value->Value->Option Bool
  | .int a m, .int b n=>if a=b then some (m == n) else none
  | .string s, .string u=>some (s.toList == u.toList)
  | _,_=>none
def ku5 (k:Value):List (Value×AV)->Nat->Option (Option (Nat×AV))
  | [],_=>some none
  | (k',x)::l,i=>match k5z k k' with
    | some true=>some (some (i,x))
    | some false=>ku5 k l (i+1)
    | none=>none
def keyK:TK->Value->Bool
  | .int k, .int n _=>decide (k=n)
  | .str, .string _=>true
  | _,_=>false
def vput (k:Value) (kv:List (Value×AV)) (z:AV):Option (List (Value×AV)):=match ku5 k kv 0 with
  | some (some (j,_))=>some (kv.set j (k,z))
  | some none=>some (kv++[(k,z)])
  | none=>none
def ksw (seen:List Nat):Nat->List Nat
  | 0=>[]
  | n+1=>bif seen.contains n then ksw seen n else n::ksw seen n
def ZOk (P:Program) (Z:List (TypeId×Value)):Prop:=∀ p∈Z,∃ i,P.info? p.1=some i/\i.zero=some p.2
def k07:List (TypeId×Value)->TypeId->Option Value
  | [],_=>none
  | (k,v)::l,t=>bif Nat.beq k t then some v else k07 l t
section
variable {P:Program} {F S0:Nat->Prop} {N0:Nat} {w w':World} {S S':Nat->Prop} {ψ ψ':Env} {K:Nat->Prop} {T:List (TypeId×TD)} {o:Oper} {a:Act} {st:St} {t tx:TypeId} {d:TD} {id:Nat} {kv:List (Value×AV)} {Z:List (TypeId×Value)}
theorem ZOk.get (h:ZOk P Z) {v:Value} (ht:k07 Z t=some v) (w:World):(zeroValue t).run P w = .ok v w:=by
  induction Z with
  | nil=>cases ht
  | cons p l ih=>
    obtain ⟨k,u⟩:=p;simp only [k07] at ht;by_cases hk:k=t
    · subst hk
      simp only [Nat.beq_refl,qe,qc] at ht;subst ht;obtain ⟨i,h1,a⟩:=h _ (qu ..);simp [zeroValue,typeInfo,h1,a]
    · rw [Nat.beq_eq_false hk] at ht
      exact ih (fun p hp=>h p (qh _ hp)) ht
theorem TdOk.mpX {k e:Nat} (h:TdOk P t d) (hk:d.kind = .map k e):P.underlying t=some (.map k e):=by obtain ⟨_,e',h1,a⟩:=h;rw [hk] at a;cases e' <;> simp [kg3] at a;rw [h1,a.1,a.2]
theorem k9k {k:Value} (h:TdOk P t d) (hk:keyK d.kind k=true):∃ td,P.underlying t=some td/\MapKept.IsKey td k/\((∃ ik n m,td = .int ik/\k = .int n m)\/(td = .string/\∃ s,k = .string s))/\k.oneCell'=true:=by
  obtain ⟨_,e',h1,b⟩:=h;unfold keyK at hk;split at hk
  · rename_i ik n m a
    rw [a] at b;cases e' <;> simp [kg3] at b;exact ⟨_,h1,by simp only [qbx] at hk;rw [b];exact hk.symm, .inl ⟨_,_,_,rfl,rfl⟩,rfl⟩
  · rename_i s a
    rw [a] at b;cases e' <;> simp [kg3] at b;exact ⟨_,h1,trivial, .inr ⟨rfl,s,rfl⟩,rfl⟩
  · cases hk
theorem k76 {k k':Value} {td:TypeDesc} {b:Bool} (hd:(∃ ik n m,td = .int ik/\k = .int n m)\/(td = .string/\∃ s,k = .string s)) (h:k5z k k'=some b):Instr.sameNow td k k'=some b/\(b=true->k'=k):=by
  rcases hd with ⟨ik,n,m,rfl,rfl⟩ | ⟨rfl,s,rfl⟩
  · cases k' <;> simp only [k5z] at h <;> try cases h
    rename_i n' m';split at h
    · rename_i hn
      subst hn;injection h with h;refine ⟨by simp [Instr.sameNow,h],fun a=>?_⟩;rw [a] at h;simp at h;rw [h]
    · cases h
  · cases k' <;> simp only [k5z] at h <;> try cases h
    rename_i s';rw [kja];exact ⟨rfl,fun a=>by rw [MapKept.bytes_beq] at a;rw [a]⟩
theorem ksf {k:Value} {td:TypeDesc} (hd:(∃ ik n m,td = .int ik/\k = .int n m)\/(td = .string/\∃ s,k = .string s)):∀ (es:List MapEntry) (kv:List (Value×AV)) (i:Nat) (r:Option (Nat×AV)),es.length=kv.length->(∀ (j:Nat) (e:MapEntry) (p:Value×AV),es[j]?=some e->kv[j]?=some p->e.key=p.1)->ku5 k kv i=some r ->
    (r=none/\Instr.findNow td k es i=some none)\/∃ j x e,r=some (i+j,x)/\kv[j]?=some (k,x)/\es[j]?=some e/\Instr.findNow td k es i=some (some (i+j,e.val))
  | [],[],i,r,_,_,h=>by simp only [ku5,qc] at h;exact .inl ⟨h.symm,rfl⟩
  | [],p::kv,i,r,h,_,_=>by cases h
  | e::es,[],i,r,h,_,_=>by cases h
  | e::es,(k',x)::kv,i,r,hl,hr,h=>by
    have hk:e.key=k':=hr 0 e (k',x) rfl rfl;simp only [ku5] at h;split at h
    · rename_i a
      injection h with h;obtain ⟨q1,q2⟩:=k76 hd a;obtain rfl:=q2 rfl;exact .inr ⟨0,x,e,h.symm,rfl,rfl,by simp only [Instr.findNow,hk,q1];rfl⟩
    · rename_i a
      obtain ⟨q1,_⟩:=k76 hd a;rcases ksf hd es kv (i+1) r (by simpa using hl) (fun j e p c hp=>hr (j+1) e p (by simpa using c) (by simpa using hp)) h with ⟨h1,b⟩ | ⟨j,y,e',h1,b,d,f⟩
      · exact .inl ⟨h1,by simp only [Instr.findNow,hk,q1];exact b⟩
      · exact .inr ⟨j+1,y,e',by rw [h1];congr 2;omega,by simpa using b,by simpa using d,by simp only [Instr.findNow,hk,q1];rw [f];congr 3;omega⟩
    · cases h
theorem kyz {v:Value} (hs:XobR ψ K S w id (.amap kv)) (hv:RV ψ K S w v (.mp id)):v=ψ.val id:=by
  cases hv with
  | mp hK h1 hv=>exact hv hs.1.symm
theorem kab5 (g:o.op = .makeMap t none) (d:st.ids.contains id=false):StepA P o st (.mp id) ((id, .xo (.amap []))::st.heap) (id::st.ids):=by
  have d:id∉st.ids:=by simpa using d
  intro F S0 N0 ψ S a w f;have c:=f.core;refine kae (w.alloc (.map #[] 0)) (.map (some w.heap.size)) ?_ ⟨ψ.set id 0 (.map (some w.heap.size)),S,?_,?_,kjo _ c.fr,ka8 d _ _,fun _ h=>qh _ h,fun _ h=>h,Same.of_grow (kbj _ _)⟩
  · simp [execOp,g,Instr.makeMap]
  · exact c.add (kbj _ _) d (fun b j=>by simp [kak] at j;omega) ⟨kbf _ _,w.heap.size,_,kai _ _,heap_alloc_new w _,rfl,fun i e p k hp=>by simp at k⟩
  · exact .mp (qu ..) rfl fun _=>by rw [kai]
theorem kacw {x y:Operand} {ok:Bool} {kt et:TypeId} {kd:TD} {k:Value} {r:Option (Nat×AV)} {c:AV} (F:o.op = .lookup t x y ok) (G:TOk P T) (J:ZOk P Z) (hd:kad T t=some d) (hk:d.kind = .map kt et) (h:kad T kt=some kd) (hx:st.eval x = .mp id) (C:kaa st.heap id=some (.xo (.amap kv)))
    (hy:st.eval y = .fz (.atom k)) (D:keyK kd.kind k=true) (n:ku5 k kv 0=some r) (hc:(match r with | some (_,z)=>some z | none=>(match k07 Z et with | some zv=>bif zv.oneCell' then some (AV.fz (.atom zv)) else none | none=>none))=some c):
    NStep P o st (bif ok then .tup [c, .fz (.atom (.bool r.isSome))] else c):=by
  intro ψ S a w ht K;have hd:=G.get hd;have h:=G.get h;have hv:=Sim.eval_tmps ht x;rw [hx] at hv;have q:XobR ψ (·∈st.ids) S w id (.amap kv):=K id _ C;have s:=kyz q hv;obtain ⟨h0,b,es,g,H,E,hr⟩:=q;have f:=Sim.eval_tmps ht y;rw [hy] at f;have f:=f.atom;obtain ⟨td,g1,g2,g3,_⟩:=k9k h D;have A:=MapKept.run_checkKey (w:=w) g1 g2 es.isEmpty 9999;have fin:∀ u:Value,RV ψ (·∈st.ids) S w u c->(execOp a.eval o).run P w = .ok (.value (if ok then .tuple #[u, .bool r.isSome] else u)) w->ket P o a w fun v w'=>Grow w w'/\RV ψ (·∈st.ids) (fun b=>S b\/w.heap.size<=b) w' v (bif ok then .tup [c, .fz (.atom (.bool r.isSome))] else c):=fun u I B=>by
    refine kae _ _ B ⟨kaf _,?_⟩;cases ok with
    | false=>exact I.here
    | true=>
      refine (RV.tup rfl fun i v z hv l=>?_).here
      match i with
      | 0=>simp at hv l;subst hv l;exact I
      | 1=>simp at hv l;subst hv l;exact .fz (.atom rfl)
      | i+2=>simp at l
  rcases ksf g3 es.toList kv 0 r (by simpa using E) (fun j e p L hp=>(hr j e p (by simpa using L) hp).1) n with ⟨rfl,f1⟩ | ⟨j,z,e,rfl,f2,f3,f4⟩
  · have n:=MapKept.run_findKey (w:=w) g1 f1
    simp only at hc;split at hc
    · rename_i zv l
      cases m:zv.oneCell' with
      | false=>rw [m] at hc;cases hc
      | true=>
        rw [m] at hc;simp only [qe,qc] at hc;subst hc;refine fin zv (.fz (.atom m)) ?_;cases ok <;> simp [execOp,F,f,s,g,Instr.lookup,run_underlying (hd.mpX hk),MapKept.run_getObj_map H,A,n,J.get l w]
    · cases hc
  · have n:=MapKept.run_findKey (w:=w) g1 f4
    simp only [qc] at hc;subst hc;refine fin e.val (hr j e _ (by simpa using f3) f2).2.2 ?_;cases ok <;> simp [execOp,F,f,s,g,Instr.lookup,run_underlying (hd.mpX hk),MapKept.run_getObj_map H,A,n]
theorem k4z (h0:ψ.len id=0):ψ.set id 0 (ψ.val id)=ψ:=by
  have:=k0g (ψ:=ψ) (id:=id)
  rwa [h0] at this
theorem k70 {x y v:Operand} {kt et:TypeId} {kd:TD} {k:Value} {kv':List (Value×AV)} (U:o.op = .mapUpdate t x y v) (V:TOk P T) (hd:kad T t=some d) (hk:d.kind = .map kt et) (D:kad T kt=some kd) (hx:st.eval x = .mp id) (E:kaa st.heap id=some (.xo (.amap kv)))
    (hy:st.eval y = .fz (.atom k)) (O:keyK kd.kind k=true) (hp:vput k kv (st.eval v)=some kv'):StepA P o st .any ((id, .xo (.amap kv'))::st.heap) st.ids:=by
  intro F S0 N0 ψ S a w q;have hd:=V.get hd;have D:=V.get D;have g:=q.core;obtain ⟨Y,r,Q⟩:=g.obj id _ E;have r:XobR ψ (·∈st.ids) S w id (.amap kv):=r;have G:=q.eval x;rw [hx] at G;have H:=kyz r G;obtain ⟨h0,b,es,f,u,l,hr⟩:=r;have m:=q.eval y;rw [hy] at m;have m:=m.atom;have I:=q.eval v;obtain ⟨td,g1,g2,g3,g4⟩:=k9k D O;have J:=MapKept.run_checkKey (w:=w) g1 g2 false 9999;have A:=k4z h0;have main:∀ es':Array MapEntry,es'.size=kv'.length ->
      (∀ (i:Nat) (e:MapEntry) (p:Value×AV),es'[i]?=some e->kv'[i]?=some p->e.key=p.1/\e.born=i/\RV ψ (·∈st.ids) S w e.val p.2) ->
      (execOp a.eval o).run P w = .ok .skip { w with heap:=w.heap.setIfInBounds b (.map es' kv'.length) } ->
      ket P o a w fun v w'=>∃ ψ' S',Core F S0 N0 ((id, .xo (.amap kv'))::st.heap) st.ids ψ' S' w'/\RV ψ' (·∈st.ids) S' w' v .any/\Fr F w w'/\Ext (·∈st.ids) ψ ψ'/\(∀ id,id∈st.ids->id∈st.ids)/\(∀ b,S b->S' b)/\Same S w w':=by
    intro es' K R L;obtain ⟨q1,q2⟩:=MapKept.heap_set (o' := .map es' kv'.length) u;have X:({ w with heap:=w.heap.setIfInBounds b (.map es' kv'.length) }:World).heap.size=w.heap.size:=(by simp);have B:∀ k,k<w.heap.size->¬ Blk (ψ.val id) k->({ w with heap:=w.heap.setIfInBounds b (.map es' kv'.length) }:World).heap[k]?=w.heap[k]?:=fun k _ hk=>q2 k fun e=>hk (.of (by rw [f,e];rfl));have hk:Same S w { w with heap:=w.heap.setIfInBounds b (.map es' kv'.length) }:=fun k hk hl=>B k hl fun e=>(Q k e).1 hk;obtain ⟨c1,c2,c3⟩:=g.upd (n:=0) (v:=ψ.val id) (w':={ w with heap:=w.heap.setIfInBounds b (.map es' kv'.length) }) (ob' := .xo (.amap kv')) E (by omega) B (.inr ⟨h0,rfl⟩) (fun b u => .inl u) (by rw [A];refine ⟨h0,b,es',f,q1,K,fun i e p c hp=>?_⟩;obtain ⟨r1,r2,r3⟩:=R i e p c hp;exact ⟨r1,r2,r3.keep Ext.refl (fun _ h=>h) (fun _ h=>h) hk⟩);rw [A] at c1;exact kjh _ L ⟨ψ,S,c1, .any,⟨rfl,rfl,rfl,by omega,c3,no0⟩,Ext.refl,fun _ h=>h,fun _ h=>h,c2⟩
  unfold vput at hp;split at hp
  · rename_i j z0 C
    injection hp with hp;subst hp;rcases ksf g3 es.toList kv 0 _ (by simpa using l) (fun j e p c hp=>(hr j e p (by simpa using c) hp).1) C with ⟨h,_⟩ | ⟨j',z,e,f1,f2,f3,f4⟩
    · cases h
    · simp only [Nat.zero_add,qc,qv] at f1
      obtain ⟨rfl,rfl⟩:=f1;have C:=MapKept.run_findKey (w:=w) g1 f4;simp only [Nat.zero_add] at C;have Z:j<kv.length:=(qg.1 f2).1;have s:es[j]?=some e:=(by simpa using f3);have M:e.key=k:=(hr j e _ s f2).1;refine main (es.modify j fun e=>{ e with key:=k,val:=a.eval v }) (by simpa using l) (fun i e' p c hp=>?_) ?_
      · rw [Array.getElem?_modify] at c
        by_cases hi:j=i
        · subst hi
          rw [qo rfl,s] at c;simp only [qa6,qc] at c;subst c;rw [qbv Z] at hp;injection hp with hp;subst hp;exact ⟨rfl,(hr j e _ s f2).2.1,I⟩
        · rw [qi hi] at c
          rw [List.getElem?_set_ne hi] at hp;exact hr i e' p c hp
      · have N:(Instr.keyThatStays (((es[j]?).map (·.key)).getD k) k).run P w = .ok k w:=by rw [s];simp only [qa6,qbj,M];exact MapKept.run_keyThatStays (d:=td) g2
        simp [execOp,U,m,H,f,Instr.mapUpdate,run_underlying (hd.mpX hk),MapKept.run_getObj_map u,J,C,MapKept.run_setObj_map _ u];simp [N,MapKept.run_setObj_map _ u]
  · rename_i C
    injection hp with hp;subst hp;rcases ksf g3 es.toList kv 0 _ (by simpa using l) (fun j e p c hp=>(hr j e p (by simpa using c) hp).1) C with ⟨_,f1⟩ | ⟨j',z,e,f1,_⟩
    · have C:=MapKept.run_findKey (w:=w) g1 f1
      refine main (es.push { key:=k,val:=a.eval v,born:=kv.length }) (by simpa using l) (fun i e p c hp=>?_) ?_
      · rw [Array.getElem?_push] at c
        by_cases hi:i=es.size
        · rw [qo hi] at c
          injection c with c;subst c;rw [qae (by omega),hi,l,qbs] at hp;simp only [List.getElem?_cons_zero,qc] at hp;subst hp;exact ⟨rfl,by show kv.length=i;omega,I⟩
        · rw [qi hi] at c
          have aa:i<es.size:=(qak.1 c).1;rw [qad (by omega)] at hp;exact hr i e p c hp
      · simp [execOp,U,m,H,f,Instr.mapUpdate,run_underlying (hd.mpX hk),MapKept.run_getObj_map u,J,C,MapKept.run_setObj_map _ u]
    · cases f1
  · cases hp
theorem kamc {x:Operand} {kt et:TypeId} (i:o.op = .call { callee := .builtin .len,args:=#[x],argTypes:=#[t] }) (hd:TdOk P t d) (hk:d.kind = .map kt et) (hx:st.eval x = .mp id) (f:kaa st.heap id=some (.xo (.amap kv))):NStep P o st (.fz (.atom (.int .i64 kv.length))):=by intro ψ S a w ht j;have hv:=Sim.eval_tmps ht x;rw [hx] at hv;have c:XobR ψ (·∈st.ids) S w id (.amap kv):=j id _ f;have g:=kyz c hv;obtain ⟨h0,b,es,e,k,h,hr⟩:=c;refine kae w (.int .i64 kv.length) ?_ ⟨kaf _, .fz (.atom rfl)⟩;simp [execOp,i,resolve,invoke,builtin,Builtin.len_,run_underlying (hd.mpX hk),g,e,MapKept.run_getObj_map k,h,goInt]
theorem kaf1 {x:Operand} {m:Nat} {kt et:TypeId} (r:o.op = .range t x) (hd:TdOk P t d) (hk:d.kind = .map kt et) (hx:st.eval x = .mp m) (l:kaa st.heap m=some (.xo (.amap kv))) (f:st.ids.contains id=false):
    StepA P o st (.ref id 0 0) ((id, .xo (.mit m kv.length [] kv.length))::st.heap) (id::st.ids):=by
  have f:id∉st.ids:=by simpa using f
  intro F S0 N0 ψ S a w j;have c:=j.core;obtain ⟨k,g,_⟩:=c.obj m _ l;have g:XobR ψ (·∈st.ids) S w m (.amap kv):=g;have hv:=j.eval x;rw [hx] at hv;have n:=kyz g hv;obtain ⟨h0,b,es,i,p,s,hr⟩:=g;have q:m≠id:=fun e=>f (e ▸ k);refine kae (w.alloc (.mapIter (some b) kv.length #[] kv.length)) (.pointer (some ⟨w.heap.size,0,none⟩)) ?_ ⟨ψ.set id 0 (.pointer (some ⟨w.heap.size,0,none⟩)),S,?_,?_,kjo _ c.fr,ka8 f _ _,fun _ h=>qh _ h,fun _ h=>h,Same.of_grow (kbj _ _)⟩
  · simp [execOp,r,Instr.range,run_underlying (hd.mpX hk),n,i,MapKept.run_getObj_map p]
  · refine c.add (kbj _ _) f (fun b p=>by simp [kak] at p;omega) ⟨kbf _ _,qh _ k,w.heap.size,b,kai _ _,heap_alloc_new w _,fun _=>?_⟩
    rw [(ka6 ψ q _ _).2];exact i
  · exact .ref (qu ..) (qaj _) rfl fun _=>⟨w.heap.size,by rw [kai];rfl,rfl⟩
theorem kqd (seen:List Nat):∀ {n i:Nat},i∈ksw seen n↔i<n/\i∉seen
  | 0,i=>by simp [ksw]
  | n+1,i=>by
    simp only [ksw];cases h:seen.contains n with
    | true=>
      have h:n∈seen:=(by simpa using h);simp only [qe,kqd _];constructor
      · rintro ⟨h1,a⟩;exact ⟨by omega,a⟩
      · rintro ⟨h1,a⟩
        refine ⟨?_,a⟩;rcases qbb i n with b | b
        · exact b
        · have:i=n:=by omega
          exact absurd (this ▸ h) a
    | false=>
      have h:n∉seen:=(by simpa using h);simp only [qd,qac,kqd _];constructor
      · rintro (rfl | ⟨h1,a⟩)
        · exact ⟨by omega,h⟩
        · exact ⟨by omega,a⟩
      · rintro ⟨h1,a⟩
        rcases qbb i n with b | b
        · exact .inr ⟨b,a⟩
        · exact .inl (by omega)
theorem k25 {m since stepped:Nat} {seen:List Nat} {v:Value} (c:XobR ψ K S w m (.amap kv)) (d:XobR ψ K S w id (.mit m since seen stepped)) (hv:RV ψ K S w v (.ref id 0 0)):
    ∃ r bm es,ψ.val id = .pointer (some ⟨r,0,none⟩)/\v = .pointer (some ⟨r,0,none⟩)/\w.heap[r]?=some (.mapIter (some bm) since seen.toArray stepped)/\w.heap[bm]?=some (.map es kv.length)/\es.size=kv.length /\
      ∀ (i:Nat) (e:MapEntry) (p:Value×AV),es[i]?=some e->kv[i]?=some p->e.key=p.1/\e.born=i/\RV ψ K S w e.val p.2:=by
  obtain ⟨h0,b,es,h1,g,h,j⟩:=c;obtain ⟨k0,km,r,bm,k1,k2,k3⟩:=d;have:=k3 h0.symm;rw [h1] at this;simp only [Value.map.injEq,qc] at this;subst this;refine ⟨r,b,es,k1,?_,k2,g,h,j⟩;cases hv with
  | ref hK hn k f=>
    obtain ⟨b',a,rfl⟩:=f k0.symm;rw [k1] at a;simp only [kak,qc] at a;rw [a]
theorem kako {x:Operand} {m stepped j:Nat} {seen:List Nat} {p:Value×AV} (ho:o.op = .next x false) (hx:st.eval x = .ref id 0 0) (B:kaa st.heap id=some (.xo (.mit m kv.length seen stepped))) (J:kaa st.heap m=some (.xo (.amap kv))) (K:kv.length<=stepped)
    (hl:ksw seen kv.length=[j]) (hp:kv[j]?=some p) (L:p.1.oneCell'=true):
    StepA P o st (.tup [.fz (.atom (.bool true)), .fz (.atom p.1),p.2]) ((id, .xo (.mit m kv.length (seen++[j]) kv.length))::st.heap) st.ids:=by
  intro F S0 N0 ψ S a w C;have d:=C.core;obtain ⟨ac,g,M⟩:=d.obj id _ B;have g:XobR ψ (·∈st.ids) S w id (.mit m kv.length seen stepped):=g;obtain ⟨N,y,_⟩:=d.obj m _ J;have y:XobR ψ (·∈st.ids) S w m (.amap kv):=y;have hv:=C.eval x;rw [hx] at hv;obtain ⟨r,bm,es,l,O,hr,Q,ad,R⟩:=k25 y g hv;have born:∀ e,e∈es.toList->∃ i,i<kv.length/\es[i]?=some e/\e.born=i:=fun e hm=>by obtain ⟨i,hi,rfl⟩:=qai.1 hm;have D:i<es.size:=(by simpa using hi);have E:i<kv.length:=(by omega);exact ⟨i,E,by simp [D],(R i _ _ (by simp [D]) (qb E)).2.1⟩
  have hj:=(kqd (i:=j) (n:=kv.length) seen).1 (by rw [hl];exact qa2.2 rfl);rcases run_next_at (P:=P) w o.type r bm kv.length stepped seen.toArray es kv.length hr Q (fun e hm=>by obtain ⟨i,h1,_,h3⟩:=born e hm;omega) K with ⟨h0,_⟩ | ⟨e,f,w1,T,s⟩
  · exfalso
    have U:j<es.size:=(by omega);have V:es[j]∈(leftOf es seen.toArray).toList:=(by unfold leftOf;simp only [Array.toList_filter,List.mem_filter];refine ⟨by simp,?_⟩;have:=(R j es[j] kv[j] (by simp [U]) (qb hj.1)).2.1;rw [this];simpa using hj.2);have:=List.length_pos_of_mem V;simp at this;omega
  · unfold leftOf at f
    simp only [Array.toList_filter,List.mem_filter] at f;obtain ⟨i,X,Y,G⟩:=born e f.1;have Z:i=j:=(by have aa:i∉seen:=(by have:=f.2;rw [G] at this;simpa using this);have:=(kqd (i:=i) (n:=kv.length) seen).2 ⟨X,aa⟩;rw [hl] at this;exact qa2.1 this);subst Z;obtain ⟨q1,q2,q3⟩:=R i e p Y hp;obtain ⟨w',H⟩:∃ w',w'=setBlock w1 r (.mapIter (some bm) kv.length (seen.toArray.push e.born) kv.length):=⟨_,rfl⟩;rw [<- H] at s;have c:w'.heap=w.heap.setIfInBounds r (.mapIter (some bm) kv.length (seen.toArray.push e.born) kv.length)/\w'.os=w.os/\w'.tape=w.tape/\w'.output=w.output:=(by rw [H];rcases T with rfl | rfl <;> exact ⟨rfl,rfl,rfl,rfl⟩);have I:r<w.heap.size:=(qak.1 hr).1;have q:w'.heap[r]?=some (.mapIter (some bm) kv.length (seen++[i]).toArray kv.length):=(by rw [c.1,Array.getElem?_setIfInBounds_self_of_lt I,G];simp);have ab:w'.heap.size=w.heap.size:=(by rw [c.1];simp);have t:∀ k,k<w.heap.size->¬ Blk (ψ.val id) k->w'.heap[k]?=w.heap[k]?:=fun k _ hk=>(by rw [c.1,Array.getElem?_setIfInBounds_ne];intro e;subst e;exact hk (.of (by rw [l];rfl)));have hk:Same S w w':=fun k hk hl=>t k hl fun e=>(M k e).1 hk;have h0:=g.1;have u:=k4z h0;obtain ⟨c1,c2,c3⟩:=d.upd (n:=0) (v:=ψ.val id) (w':=w') (ob' := .xo (.mit m kv.length (seen++[i]) kv.length)) B (by omega) t (.inr ⟨h0,rfl⟩) (fun b Q => .inl Q) (by rw [u];obtain ⟨_,_,r',bm',z1,z2,z3⟩:=g;refine ⟨h0,N,r,bm,l,q,fun h=>?_⟩;have e1:=z3 h;rw [l] at z1;simp only [Value.pointer.injEq,qc,Addr.mk.injEq,and_true] at z1;subst z1;rw [hr] at z2;injection z2 with z2;injection z2 with z2;injection z2 with z2;rw [z2];exact e1);rw [u] at c1;refine kae w' (.tuple #[.bool true,e.key,e.val]) ?_ ⟨ψ,S,c1,?_,⟨c.2.1,c.2.2.1,c.2.2.2,by omega,c3,no0⟩,Ext.refl,fun _ h=>h,fun _ h=>h,c2⟩
    · simp [execOp,ho,O,s]
    · refine .tup rfl fun i v z hv A=>?_
      match i with
      | 0=>simp at hv A;subst hv A;exact .fz (.atom rfl)
      | 1=>simp at hv A;subst hv A;rw [q1];exact .fz (.atom L)
      | 2=>simp at hv A;subst hv A;exact q3.keep Ext.refl (fun _ h=>h) (fun _ h=>h) hk
      | i+3=>simp at A
theorem kafc {x:Operand} {m stepped:Nat} {seen:List Nat} (B:o.op = .next x false) (hx:st.eval x = .ref id 0 0) (g:kaa st.heap id=some (.xo (.mit m kv.length seen stepped))) (h:kaa st.heap m=some (.xo (.amap kv))) (j:kv.length<=stepped)
    (hl:ksw seen kv.length=[]):NStep P o st (.fz (.tup [.atom (.bool false)])):=by
  intro ψ S a w ht y;have k:XobR ψ (·∈st.ids) S w id (.mit m kv.length seen stepped):=y id _ g;have l:XobR ψ (·∈st.ids) S w m (.amap kv):=y m _ h;have hv:=Sim.eval_tmps ht x;rw [hx] at hv;obtain ⟨r,bm,es,A,p,hr,C,D,E⟩:=k25 l k hv;have born:∀ e,e∈es.toList->∃ i,i<kv.length/\es[i]?=some e/\e.born=i:=fun e hm=>by obtain ⟨i,hi,rfl⟩:=qai.1 hm;have c:i<es.size:=(by simpa using hi);have d:i<kv.length:=(by omega);exact ⟨i,d,by simp [c],(E i _ _ (by simp [c]) (qb d)).2.1⟩
  rcases run_next_at (P:=P) w o.type r bm kv.length stepped seen.toArray es kv.length hr C (fun e hm=>by obtain ⟨i,h1,_,G⟩:=born e hm;omega) j with ⟨_,f⟩ | ⟨e,b,_⟩
  · refine kae w (.tuple #[.bool false]) ?_ ⟨kaf _, .fz (.tup rfl fun i v z hv q=>?_)⟩
    · simp [execOp,B,p,f]
    · match i with
      | 0=>simp at hv q;subst hv q;exact .atom rfl
      | i+1=>simp at q
  · exfalso
    unfold leftOf at b;simp only [Array.toList_filter,List.mem_filter] at b;obtain ⟨i,s,F,t⟩:=born e b.1;have u:i∉seen:=(by have:=b.2;rw [t] at this;simpa using this);have:=(kqd (i:=i) (n:=kv.length) seen).2 ⟨s,u⟩;rw [hl] at this;cases this
theorem kahx {x:Operand} {m since j:Nat} {seen:List Nat} {p:Value×AV} (y:o.op = .entry x) (hx:st.eval x = .ref id 0 0) (e:kaa st.heap id=some (.xo (.mit m since (seen++[j]) kv.length))) (f:kaa st.heap m=some (.xo (.amap kv)))
    (hp:kv[j]?=some p) (g:p.1.oneCell'=true):NStep P o st (.tup [.fz (.atom p.1),p.2]):=by
  intro ψ S a w ht s;have h:XobR ψ (·∈st.ids) S w id (.mit m since (seen++[j]) kv.length):=s id _ e;have k:XobR ψ (·∈st.ids) S w m (.amap kv):=s m _ f;have hv:=Sim.eval_tmps ht x;rw [hx] at hv;obtain ⟨r,bm,es,t,l,hr,A,B,u⟩:=k25 k h hv;have C:j<kv.length:=(qg.1 hp).1;have n:j<es.size:=by omega
  obtain ⟨q1,q2,q3⟩:=u j es[j] p (by simp [n]) hp;have q:(es.toList.map (·.born)).Nodup:=by
    have:es.toList.map (·.born)=List.range kv.length:=by
      apply qbg;intro i;by_cases hi:i<kv.length
      · have b:i<es.size:=by omega
        have:=(u i es[i] kv[i] (by simp [b]) (qb hi)).2.1;simp [b,hi,this]
      · rw [qaq (by simp;omega),qaq (by simp;omega)]
    rw [this];exact List.nodup_range
  have c:=run_entry_at (P:=P) w r bm since seen.toArray es kv.length es[j] (by rw [q2];simpa using hr) A (by simp) q;refine kae w (.tuple #[es[j].key,es[j].val]) ?_ ⟨kaf _,(RV.tup rfl fun i v z hv d=>?_).here⟩
  · simp [execOp,y,l,c]
  · match i with
    | 0=>simp at hv d;subst hv d;rw [q1];exact .fz (.atom g)
    | 1=>simp at hv d;subst hv d;exact q3
    | i+2=>simp at d
end
inductive Dl where
  | no
  | new (ob:AObj)
  | upd (id:Nat) (ob:AObj)
def klv (st:St) (id:Nat):Dl->List (Nat×AObj)
  | .no=>st.heap
  | .new ob=>(id,ob)::st.heap
  | .upd i ob=>(i,ob)::st.heap
def dIds (st:St) (id:Nat):Dl->List Nat
  | .new _=>id::st.ids
  | _=>st.ids
def kqv (E:Operand->AV) (ps:Array (Nat×Operand)):List (Nat×AV):=ps.toList.map fun p=>(p.1,E p.2)
def kaeu (T:List (TypeId×TD)) (E:Operand->AV) (t:TypeId) (parts:Array (Nat×Operand)):Option AV:=match kad T t with
  | some d=>match d.kind,ksj d with
    | .st fs,some zs=>match krf T fs with
      | some ps=>(ks1 (fun i:Nat=>ps[i]?) zs (kqv E parts)).map aggA
      | none=>none
    | .arr _ e,some zs=>match kad T e with
      | some de=>(ks1 (fun i:Nat=>some (i*de.size,de.size)) zs (kqv E parts)).map aggA
      | none=>none
    | _,_=>none
  | none=>none
def litH (T:List (TypeId×TD)) (E:Operand->AV) (t:TypeId) (n:Nat) (parts:Array (Nat×Operand)):Option AV:=match kad T t with
  | some d=>match d.kind with
    | .slice e=>match kad T e with
      | some de=>match koa de.size 0 (kqv E parts) with
        | some xs=>bif Nat.beq xs.length n && (Nat.ble 1 de.size && Nat.ble (n*de.size) 16777216) then some (.lim de.size n xs) else none
        | none=>none
      | none=>none
    | _=>none
  | none=>none
def fldE (T:List (TypeId×TD)) (E:Operand->AV) (H:Nat->Option AObj) (s:TypeId) (x:Operand) (f:Nat):Option AV:=match kad T s with
  | some d=>match d.kind with
    | .st fs=>match fs[f]? with
      | some (ft,off)=>match kad T ft with
        | some df=>bif Nat.beq df.size 0 then none else kwt H off (E x)
        | none=>none
      | none=>none
    | _=>none
  | none=>none
def idxE (T:List (TypeId×TD)) (E:Operand->AV) (H:Nat->Option AObj) (t:TypeId) (x y:Operand):Option AV:=match kad T t,E y with
  | some d, .fz (.atom (.int _ i))=>bif decide (0<=i) then (match d.kind with
    | .slice e=>match kad T e with
      | some de=>match E x with
        | .bsl id g off len _=>match objH H id with
          | some (g',_)=>bif Nat.beq g g' && decide (i<len) then some (.ref id g (off+i.toNat*de.size)) else none
          | none=>none
        | z=>match kn6 z with
          | some xs=>match xs[i.toNat]? with
            | some z=>bif xs.all (fun z=>Nat.beq z.cells.length de.size) then some (.fz (.fp z.cells)) else none
            | none=>none
          | none=>none
      | none=>none
    | .arr n e=>match kad T e with
      | some de=>bif decide (i<n) then kwt H (i.toNat*de.size) (E x) else none
      | none=>none
    | _=>none) else none
  | _,_=>none
def bytE (T:List (TypeId×TD)) (E:Operand->AV) (H:Nat->Option AObj) (t:TypeId) (x y:Operand):Option AV:=match kad T t,E x,E y with
  | some d, .fz (.atom (.string s)), .fz (.atom (.int _ i))=>match d.kind with
    | .str=>bif decide (0<=i) then (match s.data.toList[i.toNat]? with
      | some c=>some (.fz (.atom (.int .u8 c.toNat)))
      | none=>none) else none
    | _=>none
  | _,_,_=>none
def cutB (s:BA) (l h:Nat):BA:=⟨⟨(s.data.toList.take h).drop l⟩⟩
def kry (s:BA):Nat:=s.data.toList.length
def slcE (T:List (TypeId×TD)) (E:Operand->AV) (H:Nat->Option AObj) (t:TypeId) (x:Operand) (lo hi mx:Option Operand):Option AV:=match kad T t with
  | some d=>match d.kind with
    | .str=>match E x,mx with
      | .fz (.atom (.string s)),none=>match kgd E 0 lo,kgd E (kry s) hi with
        | some L,some H=>bif Nat.ble L H && Nat.ble H (kry s) then some (.fz (.atom (.string (cutB s L H)))) else none
        | _,_=>none
      | _,_=>none
    | .slice e=>match kad T e with
      | some de=>match E x with
        | .bsl id g off len (some k)=>match objH H id,kgd E 0 lo,kgd E len hi,kgd E k mx with
          | some (g',_),some L,some H,some M=>bif Nat.beq g g' && (Nat.ble L H && (Nat.ble H M && (Nat.ble M k && (!mx.isSome || hi.isSome)))) then some (.bsl id g (offE off L M de.size) (H - L) (some (M - L))) else none
          | _,_,_,_=>none
        | .bsl id g 0 len none=>match objH H id,kgd E 0 lo,kgd E len hi with
          | some (g',_),some L,some H=>match mx with
            | none=>bif Nat.beq g g' && (Nat.beq L 0 && Nat.ble H len) then some (.bsl id g 0 H none) else none
            | some y=>match kgd E 0 (some y) with
              | some M=>bif Nat.beq g g' && (Nat.ble L H && (Nat.ble H M && (Nat.ble M len && hi.isSome))) then some (.bsl id g (offE 0 L M de.size) (H - L) (some (M - L))) else none
              | none=>none
          | _,_,_=>none
        | .fz (.atom (.slice none 0 0))=>match kgd E 0 lo,kgd E 0 hi,kgd E 0 mx with
          | some 0,some 0,some 0=>bif !mx.isSome || hi.isSome then some (.fz (.atom nilV)) else none
          | _,_,_=>none
        | z=>match lstX z with
          | some (s,n,xs)=>match kgd E 0 lo,kgd E n hi with
            | some L,some H=>bif Nat.beq s de.size && (Nat.ble L H && Nat.ble H n) then (match mx with
              | none=>some (.fz (.lst de.size (H - L) ((xs.take H).drop L)))
              | some y=>match kgd E 0 (some y) with
                | some M=>bif Nat.beq M H && hi.isSome then some (.lim de.size (H - L) ((xs.take H).drop L)) else none
                | none=>none) else none
            | _,_=>none
          | none=>none
      | none=>none
    | .arr n e=>match kad T e,E x with
      | some de, .ref id g off=>match objH H id,kgd E 0 lo,kgd E n hi,kgd E n mx with
        | some (g',_),some L,some H,some M=>bif Nat.beq g g' && (Nat.ble L H && (Nat.ble H M && (Nat.ble M n && ((!mx.isSome || hi.isSome) && Nat.ble n 9223372036854775807)))) then some (.bsl id g (offE off L M de.size) (H - L) (some (M - L))) else none
        | _,_,_,_=>none
      | _,_=>none
    | _=>none
  | none=>none
def lenE (T:List (TypeId×TD)) (E:Operand->AV) (H:Nat->Option AObj) (x:Operand) (t:TypeId):Option AV:=match kad T t with
  | some d=>match d.kind,E x with
    | .slice _, .bsl id g _ len _=>match objH H id with
      | some (g',_)=>bif Nat.beq g g' then some (.fz (.atom (.int .i64 len))) else none
      | none=>none
    | .slice _,z=>match lenOf z with
      | some n=>some (.fz (.atom (.int .i64 n)))
      | none=>none
    | .str, .fz (.atom (.string s))=>some (.fz (.atom (.int .i64 (kry s))))
    | .map _ _, .mp id=>match H id with
      | some (.xo (.amap kv))=>some (.fz (.atom (.int .i64 kv.length)))
      | _=>none
    | _,_=>none
  | none=>none
def capE (T:List (TypeId×TD)) (E:Operand->AV) (H:Nat->Option AObj) (x:Operand) (t:TypeId):Option AV:=match kad T t with
  | some d=>match d.kind with
    | .slice e=>match kad T e with
      | some de=>match rdH H de.size (E x) with
        | some (_,some k,_)=>some (.fz (.atom (.int .i64 k)))
        | _=>none
      | none=>none
    | _=>none
  | none=>none
def cnvE (T:List (TypeId×TD)) (E:Operand->AV) (H:Nat->Option AObj) (s t:TypeId) (x:Operand):Option AV:=match kad T s,kad T t with
  | some ds,some d=>match d.kind,ds.kind,E x with
    | .int k,_, .fz (.atom (.int _ n))=>some (.fz (.atom (.int k (k.wrap n))))
    | .str, .str, .fz (.atom (.string u))=>some (.fz (.atom (.string u)))
    | .str, .slice e,z=>match kad T e with
      | some de=>match de.kind with
        | .int .u8=>match rdH H 1 z with
          | some (_,_,ys)=>match kua ys with
            | some xs=>some (.fz (.atom (.string (toBA xs))))
            | none=>none
          | none=>none
        | _=>none
      | none=>none
    | _,_,_=>none
  | _,_=>none
def lkE (T:List (TypeId×TD)) (Z:List (TypeId×Value)) (E:Operand->AV) (H:Nat->Option AObj) (t:TypeId) (x y:Operand) (ok:Bool):Option AV:=match kad T t,E x,E y with
  | some d, .mp id, .fz (.atom k)=>match d.kind with
    | .map kt et=>match kad T kt,H id with
      | some kd,some (.xo (.amap kv))=>bif keyK kd.kind k then (match ku5 k kv 0 with
        | some r=>match (match r with | some (_,z)=>some z | none=>(match k07 Z et with | some zv=>bif zv.oneCell' then some (AV.fz (.atom zv)) else none | none=>none)) with
          | some c=>some (bif ok then .tup [c, .fz (.atom (.bool r.isSome))] else c)
          | none=>none
        | none=>none) else none
      | _,_=>none
    | _=>none
  | _,_,_=>none
def nilX (H:Nat->Option AObj):AV->Option Bool
  | .fz (.atom (.slice none 0 0))=>some true
  | .bsl id g _ _ _=>match objH H id with
    | some (g',_)=>bif Nat.beq g g' then some false else none
    | none=>none
  | z=>match lstX z with
    | some (_,_,_::_)=>some false
    | _=>none
def binE (T:List (TypeId×TD)) (E:Operand->AV) (H:Nat->Option AObj) (op:BinOp) (t:TypeId) (x y:Operand):Option AV:=match op,y with
  | .neq, .const .nilIface=>match kad T t,E x with
    | some d, .fz (.atom .nilIface)=>match d.kind with
      | .ifc=>some (.fz (.atom (.bool false)))
      | _=>none
    | _,_=>none
  | _,_=>match E x,E y with
    | .fz (.atom (.slice none 0 0)), .fz (.atom (.slice none 0 0))=>nilE true
    | .fz (.atom u), .fz (.atom v)=>match binV (ko3 T t) op u v with
      | some r=>some (.fz (.atom r))
      | none=>none
    | z, .fz (.atom (.slice none 0 0))=>match nilX H z with
      | some r=>nilE r
      | none=>none
    | _,_=>none
where nilE (r:Bool):Option AV:=match kad T t with
  | some d=>match d.kind,op with
    | .slice _, .eql=>some (.fz (.atom (.bool r)))
    | .slice _, .neq=>some (.fz (.atom (.bool !r)))
    | _,_=>none
  | none=>none
def mmE (E:Operand->AV) (H:Nat->Option AObj) (mx:Bool) (x y:Operand):Option AV:=match E x,E y with
  | .fz (.atom (.int k m)), .fz (.atom (.int k' n))=>bif decide (k=k') then some (.fz (.atom (.int k (bif mx then imax m n else imin m n)))) else none
  | _,_=>none
def entE (E:Operand->AV) (H:Nat->Option AObj) (x:Operand):Option AV:=match E x with
  | .ref id 0 0=>match H id with
    | some (.xo (.mit m since seen stepped))=>match H m,seen.getLast? with
      | some (.xo (.amap kv)),some j=>match kv[j]? with
        | some p=>bif Nat.beq stepped kv.length && p.1.oneCell' then some (.tup [.fz (.atom p.1),p.2]) else none
        | none=>none
      | _,_=>none
    | _=>none
  | _=>none
def nxtE (E:Operand->AV) (H:Nat->Option AObj) (x:Operand):Option (AV×Dl):=match E x with
  | .ref id 0 0=>match H id with
    | some (.xo (.mit m since seen stepped))=>match H m with
      | some (.xo (.amap kv))=>bif Nat.beq since kv.length && Nat.ble kv.length stepped then (match ksw seen kv.length with
        | []=>some (.fz (.tup [.atom (.bool false)]), .no)
        | [j]=>match kv[j]? with
          | some p=>bif p.1.oneCell' then some (.tup [.fz (.atom (.bool true)), .fz (.atom p.1),p.2], .upd id (.xo (.mit m kv.length (seen++[j]) kv.length))) else none
          | none=>none
        | _=>none) else none
      | _=>none
    | _=>none
  | _=>none
def nE (T:List (TypeId×TD)) (Z:List (TypeId×Value)) (E:Operand->AV) (H:Nat->Option AObj) (o:Oper):Option AV:=match o.op with
  | .binOp op t x y _=>binE T E H op t x y
  | .load t x=>match kad T t,k2g H (E x) with
    | some d,some xs=>km9 d xs
    | _,_=>none
  | .fieldAddr s x f=>fldE T E H s x f
  | .nilCheck x=>kwt H 0 (E x)
  | .indexAddr t x y=>idxE T E H t x y
  | .index t x y=>bytE T E H t x y
  | .slice t x lo hi mx=>slcE T E H t x lo hi mx
  | .convert s t x=>cnvE T E H s t x
  | .lookup t x y ok=>lkE T Z E H t x y ok
  | .entry x=>entE E H x
  | .call c=>match c.callee,c.args.toList,c.argTypes.toList with
    | .builtin .len,[x],[t]=>lenE T E H x t
    | .builtin .cap,[x],[t]=>capE T E H x t
    | .builtin .min,[x,y],_=>mmE E H false x y
    | .builtin .max,[x,y],_=>mmE E H true x y
    | _,_,_=>none
  | .move x=>some (E x)
  | .assign x=>some (E x)
  | .pick c x y=>match E c with
    | .fz (.atom (.bool b))=>some (bif b then E x else E y)
    | _=>none
  | .unOp op _ x=>match E x with
    | .fz (.atom u)=>match unV op u with
      | some r=>some (.fz (.atom r))
      | none=>none
    | _=>none
  | .extract x i=>match E x with | .fz (.tup xs)=>(xs[i]?).map .fz | .tup xs=>xs[i]? | _=>none
  | .build t parts=>kaeu T E t parts
  | .buildSlice t n parts=>litH T E t n parts
  | .makeFunc (.func f) first cap=>bif first.isEmpty then some (.fn f (cap.toList.map E)) else (bif cap.isEmpty then some (.mth f (first.toList.map E)) else none)
  | _=>none
def reC:AObj->List AV->AObj
  | .box e _,c => .box e c
  | .xo (.blk g e sz _),c => .xo (.blk g e sz c)
  | ob,_=>ob
def setE (H:Nat->Option AObj) (id:Nat) (c:AV) (cells:List AV):Option (AV×Dl):=match H id with
  | some ob=>some (c, .upd id (reC ob cells))
  | none=>none
def stoE (T:List (TypeId×TD)) (E:Operand->AV) (H:Nat->Option AObj) (t:TypeId) (x y:Operand):Option (AV×Dl):=match kad T t,E x with
  | some d, .ref id n off=>match objH H id with
    | some (g,cells)=>bif Nat.beq n g && (Nat.beq (E y).cells.length d.size && ((E y).cells.all AV.single && Nat.ble (off+(E y).cells.length) cells.length)) then setE H id .any (kc1 cells off (E y).cells) else none
    | none=>none
  | _,_=>none
def mksE (T:List (TypeId×TD)) (E:Operand->AV) (H:Nat->Option AObj) (t:TypeId) (id:Nat) (x y:Operand):Option (AV×Dl):=match kad T t with
  | some d=>match d.kind with
    | .slice e=>match kad T e with
      | some de=>match de.zero,E x,E y with
        | zs, .fz (.atom (.int _ n)), .fz (.atom (.int _ c))=>bif Nat.ble 1 de.size && (Nat.beq zs.length de.size && (zs.all Value.oneCell' && (decide (0<=n) && (decide (n<=c) && (decide ((de.bytes:Int)*c<=281474976710656) && decide (c<=9223372036854775807)))))) then
            some (.bsl id 0 0 n.toNat (some c.toNat), .new (.xo (.blk 0 e de.size (repC c.toNat zs)))) else none
        | _,_,_=>none
      | none=>none
    | _=>none
  | none=>none
def litE (T:List (TypeId×TD)) (E:Operand->AV) (H:Nat->Option AObj) (mu:Bool) (t:TypeId) (n id:Nat) (parts:Array (Nat×Operand)):Option (AV×Dl):=match (bif mu then none else litH T E t n parts) with
  | some c=>some (c, .no)
  | none=>match kad T t with
    | some d=>match d.kind with
      | .slice e=>match kad T e with
        | some de=>match ktw de.size 0 (kqv E parts) with
          | some ys=>bif Nat.beq parts.toList.length n && (Nat.ble 1 de.size && Nat.ble (n*de.size) 16777216) then some (.bsl id 0 0 n (some n), .new (.xo (.blk 0 e de.size ys))) else none
          | none=>none
        | none=>none
      | _=>none
    | none=>none
def mpuE (T:List (TypeId×TD)) (E:Operand->AV) (H:Nat->Option AObj) (t:TypeId) (x y v:Operand):Option (AV×Dl):=match kad T t,E x,E y with
  | some d, .mp id, .fz (.atom k)=>match d.kind with
    | .map kt _=>match kad T kt,H id with
      | some kd,some (.xo (.amap kv))=>bif keyK kd.kind k then (match vput k kv (E v) with
        | some kv'=>some (.any, .upd id (.xo (.amap kv')))
        | none=>none) else none
      | _,_=>none
    | _=>none
  | _,_,_=>none
def rngE (T:List (TypeId×TD)) (E:Operand->AV) (H:Nat->Option AObj) (t:TypeId) (id:Nat) (x:Operand):Option (AV×Dl):=match kad T t,E x with
  | some d, .mp m=>match d.kind,H m with
    | .map _ _,some (.xo (.amap kv))=>some (.ref id 0 0, .new (.xo (.mit m kv.length [] kv.length)))
    | _,_=>none
  | _,_=>none
def appE (T:List (TypeId×TD)) (E:Operand->AV) (H:Nat->Option AObj) (t tx:TypeId) (id:Nat) (x y:Operand):Option (AV×Dl):=match kad T t with
  | some d=>match d.kind with
    | .slice e=>match kad T e with
      | some de=>match srcH T H de.size tx (E y) with
        | some (0,_)=>match rdH H de.size (E x) with
          | some _=>some (E x, .no)
          | none=>none
        | some (n,ys)=>bif Nat.ble 1 de.size && Nat.beq de.zero.length de.size then (match E x with
          | .bsl i g off m none=>match H i with
            | some (.xo (.blk g' e' sz cells))=>bif Nat.beq off 0 && (Nat.beq g g' && (Nat.beq e e' && (Nat.beq sz de.size && (Nat.beq cells.length (m*de.size) && Nat.ble ((m+n)*(de.bytes+1)) 140737488355328)))) then
                some (.bsl i (g+1) 0 (m+n) none, .upd i (.xo (.blk (g+1) e de.size (cells++ys)))) else none
            | _=>none
          | .bsl i g off m (some k)=>bif Nat.ble (m+n) k then (match objH H i with
            | some (g',cells)=>bif Nat.beq g g' && Nat.ble (off+m*de.size+ys.length) cells.length then setE H i (.bsl i g off (m+n) (some k)) (kc1 cells (off+m*de.size) ys) else none
            | none=>none) else grow e de n ys
          | _=>grow e de n ys) else none
        | none=>none
      | none=>none
    | _=>none
  | none=>none
where grow (e:TypeId) (de:TD) (n:Nat) (ys:List AV):Option (AV×Dl):=match rdH H de.size (E x) with
  | some (m,some k,xs)=>bif Nat.blt k (m+n) && Nat.ble ((m+n)*(de.bytes+1)) 140737488355328 then some (.bsl id 0 0 (m+n) none, .new (.xo (.blk 0 e de.size (xs++ys)))) else none
  | _=>none
def cpyE (T:List (TypeId×TD)) (E:Operand->AV) (H:Nat->Option AObj) (t:TypeId) (x y:Operand):Option (AV×Dl):=match kad T t with
  | some d=>match d.kind with
    | .slice e=>match kad T e with
      | some de=>match E x,rdH H de.size (E y) with
        | .bsl i g off len _,some (n,_,ys)=>match objH H i with
          | some (g',cells)=>bif Nat.beq g g' && Nat.ble (off+(ys.take (min n len*de.size)).length) cells.length then setE H i (.fz (.atom (.int .i64 ((min n len:Nat):Int)))) (kc1 cells off (ys.take (min n len*de.size))) else none
          | none=>none
        | _,_=>none
      | none=>none
    | _=>none
  | none=>none
def sE (T:List (TypeId×TD)) (Z:List (TypeId×Value)) (E:Operand->AV) (H:Nat->Option AObj) (mu:Bool) (id:Nat) (o:Oper):Option (AV×Dl):=match o.op with
  | .box e x=>bif (E x).cells.all AV.single then some (.ref id 0 0, .new (.box e (E x).cells)) else none
  | .alloc e=>match kad T e with
    | some d=>match ksj d with
      | some cells=>some (.ref id 0 0, .new (.box e cells))
      | none=>none
    | none=>none
  | .store t x y=>stoE T E H t x y
  | .makeSlice t x y=>mksE T E H t id x y
  | .buildSlice t n parts=>litE T E H mu t n id parts
  | .makeMap _ none=>some (.mp id, .new (.xo (.amap [])))
  | .mapUpdate t x y v=>mpuE T E H t x y v
  | .range t x=>rngE T E H t id x
  | .next x false=>nxtE E H x
  | .call c=>match c.callee,c.args.toList,c.argTypes.toList with
    | .builtin .append,[x,y],[t,tx]=>appE T E H t tx id x y
    | .builtin .copy,[x,y],[t,_]=>cpyE T E H t x y
    | _,_,_=>match nE T Z E H o with
      | some c=>some (c, .no)
      | none=>none
  | _=>match nE T Z E H o with
    | some c=>some (c, .no)
    | none=>none
def idsN:Nat->List Nat
  | 0=>[]
  | k+1=>k::idsN k
structure XS where
  n:Nat
  tmps:List (Nat×AV)
  heap:List (Nat×AObj)
  k:Nat
  lg:List Nat
def XS.st (s:XS) (D:List Deferred):St:=⟨s.n,s.tmps,s.heap,idsN s.k,D⟩
noncomputable def getQ (l:List (Nat×AV)) (t:Nat):AV:=List.rec (motive:=fun _=>AV) .any (fun p _ ih=>Bool.rec ih p.2 (Nat.beq p.1 t)) l
noncomputable def getO (l:List (Nat×AObj)) (t:Nat):Option AObj:=List.rec (motive:=fun _=>Option AObj) none (fun p _ ih=>Bool.rec ih (some p.2) (Nat.beq p.1 t)) l
noncomputable def km7 (l:List (Nat×AV)) (t:Nat) (v:AV):List (Nat×AV):=List.rec (motive:=fun _=>List (Nat×AV)) [(t,v)] (fun p l ih=>Bool.rec (p::ih) ((t,v)::l) (Nat.beq p.1 t)) l
noncomputable def kys (l:List (Nat×AObj)) (t:Nat) (v:AObj):List (Nat×AObj):=List.rec (motive:=fun _=>List (Nat×AObj)) [(t,v)] (fun p l ih=>Bool.rec (p::ih) ((t,v)::l) (Nat.beq p.1 t)) l
noncomputable def XS.E (s:XS) (x:Operand):AV:=match x with
  | .tmp t=>getQ s.tmps t
  | .const v=>k7c v
  | .global _ => .any
  | .func f => .fn f []
noncomputable def XS.H (s:XS):Nat->Option AObj:=getO s.heap
noncomputable def XS.put (s:XS) (d:Option Nat) (v:AV):XS:=match d with
  | some t=>{ s with tmps:=km7 s.tmps t v }
  | none=>s
noncomputable def XS.app (s:XS):Dl->XS
  | .no=>s
  | .new ob=>{ s with heap:=(s.k,ob)::s.heap,k:=s.k+1,lg:=s.k::s.lg }
  | .upd i ob=>{ s with heap:=kys s.heap i ob,lg:=i::s.lg }
def k50:Value->Value->Bool
  | .int k m, .int k' n=>decide (k=k') && m == n
  | .string s, .string u=>s.toList == u.toList
  | .bool a, .bool b=>a == b
  | .slice none 0 0, .slice none 0 0=>true
  | .pointer none, .pointer none=>true
  | .map none, .map none=>true
  | .nilFunc, .nilFunc=>true
  | .nilIface, .nilIface=>true
  | _,_=>false
mutual
def eqFV:FV->FV->Bool
  | .atom v, .atom u=>k50 v u
  | .agg a, .agg b=>km5 a b
  | .tup a, .tup b=>km5 a b
  | .lst s n a, .lst s' n' b=>Nat.beq s s' && (Nat.beq n n' && km5 a b)
  | .fp a, .fp b=>km5 a b
  | .bx a, .bx b=>km5 a b
  | _,_=>false
def km5:List FV->List FV->Bool
  | [],[]=>true
  | a::l,b::m=>eqFV a b && km5 l m
  | _,_=>false
end
def mkEl (sz:Nat) (xs:List FV):Option FV:=bif Nat.beq xs.length sz then (match xs with
  | [x]=>some x
  | xs=>some (.agg xs)) else none
def krm (sz:Nat):Nat->List FV->Option (List FV)
  | 0,l=>match l with
    | []=>some []
    | _=>none
  | n+1,l=>match mkEl sz (l.take sz),krm sz n (l.drop sz) with
    | some y,some r=>some (y::r)
    | _,_=>none
def atF:FV->Bool
  | .atom _=>true
  | .agg xs=>xs.all fun | .atom _=>true | _=>false
  | .tup xs=>xs.all fun | .atom _=>true | _=>false
  | _=>false
mutual
def frz (H:Nat->Option AObj) (fr:Bool):Nat->AV->Option FV
  | 0,_=>none
  | _+1, .fz x=>bif !fr || atF x then some x else none
  | _+1, .lim s n xs=>bif fr then none else some (.lst s n xs)
  | f+1, .agg cs=>match frzs H fr f cs with
    | some xs=>some (.agg xs)
    | none=>none
  | f+1, .tup cs=>match frzs H fr f cs with
    | some xs=>some (.tup xs)
    | none=>none
  | f+1, .bsl id g off len _=>match H id with
    | some (.xo (.blk g' _ sz cells))=>bif Nat.beq g g' then (match frzs H fr f ((cells.drop off).take (len*sz)) with
      | some xs=>match krm sz len xs with
        | some ys=>some (.lst sz len ys)
        | none=>none
      | none=>none) else none
    | _=>none
  | _+1,_=>none
def frzs (H:Nat->Option AObj) (fr:Bool):Nat->List AV->Option (List FV)
  | 0,_=>none
  | _+1,[]=>some []
  | f+1,x::l=>match frz H fr f x,frzs H fr f l with
    | some y,some r=>some (y::r)
    | _,_=>none
end
def resE (T:List (TypeId×TD)) (E:Operand->AV) (H:Nat->Option AObj):ResultVar->Option AV
  | .tmp t=>some (E (.tmp t))
  | .cell x t=>match kad T t,k2g H (E (.tmp x)) with
    | some d,some xs=>km9 d xs
    | _,_=>none
def kyv (T:List (TypeId×TD)) (E:Operand->AV) (H:Nat->Option AObj):List ResultVar->Option (List AV)
  | []=>some []
  | r::rs=>match resE T E H r,kyv T E H rs with
    | some y,some ys=>some (y::ys)
    | _,_=>none
def retE (T:List (TypeId×TD)) (E:Operand->AV) (H:Nat->Option AObj) (rs:List ResultVar):Option AV:=match kyv T E H rs with
  | some [y]=>some y
  | some ys=>some (tupA ys)
  | none=>none
inductive FT where
  | lf
  | nd (k:Nat) (v:Func) (l r:FT)
noncomputable def FT.get (t:FT) (f:Nat):Option Func:=FT.rec (motive:=fun _=>Option Func) none (fun k v _ _ il ir=>Bool.rec (Bool.rec ir il (Nat.blt f k)) (some v) (Nat.beq k f)) t
structure Cx where
  T:List (TypeId×TD)
  Z:List (TypeId×Value)
  fn:FT
  mu:List Nat
  pu:List Nat
  fx:List (Nat×List FV×FV)
  ib:List Nat
  nf:List Nat
def k1f:List (Nat×List FV×FV)->Nat->List FV->Option FV
  | [],_,_=>none
  | (f,as_,r)::l,g,xs=>bif Nat.beq f g && km5 as_ xs then some r else k1f l g xs
def knh (E:Operand->AV) (f:Operand):Option (Nat×List AV×List AV):=match E f with
  | .fn f caps=>some (f,[],caps)
  | .mth f fst=>some (f,fst,[])
  | _=>none
abbrev EvT:=Bool->Code->XS->Option (Exit×XS)
def ksn (c:UInt8):List UInt8->Nat->Int
  | [],_ => -1
  | x::l,i=>bif Nat.beq x.toNat c.toNat then (i:Int) else ksn c l (i+1)
def k5w:Code->Option (Code×Nat×Oper×Oper×Nat×Code)
  | .seq x (.seq (.region rid os false) c)=>match os.toList with
    | [o1,o2]=>match o1.dst,o1.guard,o2.op,o2.dst,o2.guard with
      | some t,none, .defer cl,none,none=>match cl.callee,cl.args.toList with
        | .value (.tmp t'),[]=>bif Nat.beq t t' then some (x,rid,o1,o2,t,c) else none
        | _,_=>none
      | _,_,_,_,_=>none
    | _=>none
  | _=>none
def k53:Exit->Bool
  | .ret=>true
  | .normal=>true
  | _=>false
def nilA:AV := .fz (.atom .nilIface)
noncomputable def kabi (C:Cx) (ih:EvT) (f:Nat) (fn:Func) (x:Code) (o1:Oper) (t:Nat) (c1:Code) (s0:XS):Option (AV×XS):=match ih (C.mu.contains f) x s0 with
  | some (.normal,s1)=>match nE C.T C.Z s1.E s1.H o1 with
    | some (.fn f2 caps)=>match C.fn.get f2 with
      | some fn2=>match kni fn2 with
        | some (ta,tb,c2)=>match ih (C.mu.contains f) c1 (s1.put (some t) (.fn f2 caps)) with
          | some (e,s2)=>match (bif k53 e && Nat.ble caps.length fn2.ntmps then ih (C.mu.contains f2) c2 ⟨fn2.ntmps,km7 (km7 (argT 0 caps) ta nilA) tb nilA,s2.heap,s2.k,s2.lg⟩ else none) with
            | some (e2,s3)=>match (bif k53 e2 then retE C.T s2.E s3.H fn.results.toList else none) with
              | some y=>some (y,⟨s2.n,s2.tmps,s3.heap,s3.k,s3.lg⟩)
              | none=>none
            | none=>none
          | none=>none
        | none=>none
      | none=>none
    | _=>none
  | _=>none
noncomputable def kyr (C:Cx) (ih:EvT) (f:Nat) (args:List AV) (heap:List (Nat×AObj)) (k:Nat) (lg:List Nat):Option (AV×XS):=match C.fn.get f with
  | some fn=>match fn.body with
    | some c=>match k5w c with
      | some (x,_,o1,_,t,c1)=>bif Nat.ble args.length fn.ntmps && Nat.blt t fn.ntmps then kabi C ih f fn x o1 t c1 ⟨fn.ntmps,argT 0 args,heap,k,lg⟩ else none
      | none=>match (bif Nat.ble args.length fn.ntmps then ih (C.mu.contains f) c ⟨fn.ntmps,argT 0 args,heap,k,lg⟩ else none) with
      | some (e,s1)=>match e,retE C.T s1.E s1.H fn.results.toList with
        | .ret,some y=>some (y,s1)
        | .normal,some y=>some (y,s1)
        | _,_=>none
      | none=>none
    | none=>none
  | none=>none
noncomputable def k5t (C:Cx) (ih:EvT) (f:Nat) (xs:List FV):Option FV:=match k1f C.fx f xs with
  | some r=>some r
  | none=>bif C.pu.contains f then (match kyr C ih f (xs.map .fz) [] 0 [] with
    | some (y,s1)=>frz s1.H false 1000 y
    | none=>none) else none
noncomputable def k5p (C:Cx) (ih:EvT) (H:Nat->Option AObj) (f:Nat) (args:List AV):Option FV:=match kn5 args with
  | some xs=>(match C.ib.contains f,xs with
    | true,[.atom (.string u), .atom (.int .u8 c)]=>some (FV.atom (.int .i64 (ksn c.toNat.toUInt8 u.data.toList 0)))
    | _,_=>k5t C ih f xs)
  | none=>match frzs (fun _=>none) false 1000 args with
   | some xs=>k5t C ih f xs
   | none=>bif C.pu.contains f then (match frzs H false 1000 args with
    | some xs=>(match k1f C.fx f xs with
      | some r=>bif atF r then some r else none
      | none=>(match kyr C ih f (xs.map .fz) [] 0 [] with
        | some (y,s1)=>frz s1.H true 1000 y
        | none=>none))
    | none=>none) else none
noncomputable def kai4 (C:Cx) (ih:EvT) (s:XS) (f:Nat) (args:List AV):Option (AV×XS):=match k5p C ih s.H f args with
  | some r=>some (.fz r,s)
  | none=>match kyr C ih f args s.heap s.k s.lg with
    | some (y,s1)=>some (y,{ s with heap:=s1.heap,k:=s1.k,lg:=s1.lg })
    | none=>none
def dstE (n:Nat) (o:Oper):Bool:=match o.dst with
  | some t=>Nat.blt t n
  | none=>true
noncomputable def kxs (ops:Array Oper) (E:Operand->AV) (o:Oper):Option Bool:=match o.guard with
  | none=>some true
  | some (j,want)=>match (ops[j]?).bind (·.dst) with
    | some t=>match E (.tmp t) with
      | .fz (.atom (.bool b))=>some (b == want)
      | .fz (.tup _)=>some false
      | _=>none
    | none=>none
def k51 (o:Oper):Option (Operand×List Operand):=match o.op with
  | .call c=>(match c.callee with
    | .value f=>some (f,c.args.toList)
    | _=>none)
  | _=>none
noncomputable def opE (C:Cx) (ih:EvT) (mu:Bool) (o:Oper) (s:XS):Option (AV×XS):=match k51 o with
  | some (f,as_)=>match knh s.E f with
    | some (f,fst,caps)=>kai4 C ih s f (fst++(as_.map s.E++caps))
    | none=>none
  | none=>match sE C.T C.Z s.E s.H mu s.k o with
    | some (c,dl)=>some (c,s.app dl)
    | none=>none
noncomputable def opsE (C:Cx) (ih:EvT) (mu:Bool) (ops:Array Oper) (l:List Oper):XS->Option XS:=List.rec (motive:=fun _=>XS->Option XS) (fun s=>some s) (fun o _ k s=>bif dstE s.n o then (match kxs ops s.E o with
    | some true=>match opE C ih mu o s with
      | some (c,s1)=>k (s1.put o.dst c)
      | none=>none
    | some false=>k (s.put o.dst (.fz (.tup [])))
    | none=>none) else none) l
def isEs (nf:List Nat) (li:Bool) (o:Oper):Bool:=match o.op with
  | .alloc _=>true
  | .box _ _=>true
  | .store _ _ _=>true
  | .makeSlice _ _ _=>true
  | .makeMap _ _=>true
  | .mapUpdate _ _ _ _=>true
  | .range _ _=>true
  | .next _ _=>true
  | .buildSlice _ _ _=>li
  | .call c=>match c.callee with
    | .value (.func f)=>!nf.contains f
    | .value _=>true
    | .builtin .append=>true
    | .builtin .copy=>true
    | _=>false
  | _=>false
def esOf (nf:List Nat) (li:Bool):List Oper->Nat->List Nat
  | [],_=>[]
  | o::l,i=>bif isEs nf li o then i::esOf nf li l (i+1) else esOf nf li l (i+1)
def okN0 (k:Nat):AV->Bool
  | .fz _=>true
  | .lim _ _ _=>true
  | .any=>true
  | .ref id _ _=>Nat.blt id k
  | .mp id=>Nat.blt id k
  | .bsl id _ _ _ _=>Nat.blt id k
  | _=>false
def okN (k:Nat):AV->Bool
  | .agg cs=>cs.all (okN0 k)
  | .tup cs=>cs.all (okN0 k)
  | .fn _ cs=>cs.all (okN0 k)
  | .mth _ cs=>cs.all (okN0 k)
  | x=>okN0 k x
def idAV:AV->List Nat
  | .ref id _ _=>[id]
  | .mp id=>[id]
  | .bsl id _ _ _ _=>[id]
  | _=>[]
def kx8 (E:Operand->AV) (o:Oper):List Nat:=match o.op with
  | .move _=>[]
  | .assign _=>[]
  | .pick _ _ _=>[]
  | .build _ _=>[]
  | .buildSlice _ _ _=>[]
  | .makeFunc _ _ _=>[]
  | .extract _ _=>[]
  | _=>o.op.operands.toList.flatMap fun x=>idAV (E x)
def kqq (rf:List Nat):List (Nat×AObj)->List (Nat×AObj)
  | []=>[]
  | (k,v)::l=>bif rf.contains k then (k,v)::kqq rf l else kqq rf l
noncomputable def dz1 (C:Cx) (ih:EvT) (mu:Bool) (os:Array Oper) (L:List Oper) (n:Nat) (es:List Nat) (s0:XS) (i:Nat) (o:Oper) (fs:List (Nat×Option Nat×AV)) (hs:XS):Option (AV×XS×List Nat):=
  match (⟨s0.n,hadd fs (ki8 o) (kk9 L i n++s0.tmps),hs.heap,hs.k,hs.lg⟩:XS) with
  | v=>match kxs os v.E o with
    | some false=>some (.fz (.tup []),hs,[])
    | some true=>bif es.contains i then (match opE C ih mu o v with
        | some (c,v1)=>some (c,v1,[])
        | none=>none)
      else (match k51 o with
        | some (f,as_)=>(match knh v.E f with
          | some (f,fst,caps)=>(match k5p C ih (bif phB L es i then v.H else fun _=>none) f (fst++(as_.map v.E++caps)) with
            | some r=>some (.fz r,hs,[])
            | none=>none)
          | none=>none)
        | none=>bif phB L es i then (match nE C.T C.Z v.E v.H o with
            | some c=>some (c,hs,[])
            | none=>none)
          else (match nE C.T C.Z v.E (getO (kqq (kx8 v.E o) s0.heap)) o with
            | some c=>bif okN s0.k c then some (c,hs,kx8 v.E o) else none
            | none=>none))
    | none=>none
noncomputable def dzE (C:Cx) (ih:EvT) (mu:Bool) (os:Array Oper) (L:List Oper) (n:Nat) (es:List Nat) (s0:XS):List Oper->Nat->List (Nat×Option Nat×AV)->XS->List (Nat×List Nat)->List (Nat×List Nat)->Option (List (Nat×Option Nat×AV)×XS×List (Nat×List Nat)×List (Nat×List Nat))
  | [],_,fs,hs,rf,sl=>some (fs,hs,rf,sl)
  | o::l,i,fs,hs,rf,sl=>match dz1 C ih mu os L n es s0 i o fs hs with
    | some (c,hs1,r1)=>dzE C ih mu os L n es s0 l (i+1) ((i,o.dst,c)::fs) hs1 ((i,r1)::rf) ((i,hs1.lg.take (hs1.lg.length - hs.lg.length))::sl)
    | none=>none
noncomputable def krl (fs:List (Nat×Option Nat×AV)) (base:List (Nat×AV)):List (Nat×AV):=match fs with
  | []=>base
  | (_,some d,c)::l=>km7 (krl l base) d c
  | (_,none,_)::l=>krl l base
noncomputable def drzA (C:Cx) (ih:EvT) (mu:Bool) (ops:Array Oper) (s:XS) (es:List Nat):Option XS:=
  bif relB ops.toList ops.toList.length s.n && krx ops.toList ops.toList.length es then
    (match dzE C ih mu ops ops.toList ops.toList.length es s ops.toList 0 [] s [] [] with
      | some (fs,hs,rf,sl)=>bif rf.all (fun p=>sl.all fun q=>anc ops.toList q.1 p.1 || p.2.all (fun r=>!q.2.contains r)) then some ⟨s.n,krl fs s.tmps,hs.heap,hs.k,hs.lg⟩ else none
      | none=>none)
  else none
noncomputable def drzE (C:Cx) (ih:EvT) (mu:Bool) (ops:Array Oper) (s:XS):Option XS:=match drzA C ih mu ops s (esOf C.nf mu ops.toList 0) with
  | some r=>some r
  | none=>match drzA C ih mu ops s (esOf C.nf true ops.toList 0) with
    | some r=>some r
    | none=>match drzA C ih mu ops s (esOf [] mu ops.toList 0) with
      | some r=>some r
      | none=>drzA C ih mu ops s (esOf [] true ops.toList 0)
noncomputable def evB (C:Cx) (ih:EvT):EvT:=fun mu c s=>match c with
  | .skip=>some (.normal,s)
  | .region _ ops false=>match opsE C ih mu ops ops.toList s with
    | some s1=>some (.normal,s1)
    | none=>none
  | .region _ ops true=>match drzE C ih mu ops s with
    | some s1=>some (.normal,s1)
    | none=>none
  | .seq x y=>match ih mu x s with
    | some (.normal,s1)=>ih mu y s1
    | r=>r
  | .cond c x y=>match s.E c with
    | .fz (.atom (.bool b))=>ih mu (bif b then x else y) s
    | _=>none
  | .block id x=>match ih mu x s with
    | some (.exit i,s1)=>bif Nat.beq i id then some (.normal,s1) else some (.exit i,s1)
    | r=>r
  | .loop x=>match ih mu x s with
    | some (.normal,s1)=>ih mu (.loop x) s1
    | r=>r
  | .exit i=>some (.exit i,s)
  | .ret=>some (.ret,s)
  | .scope x=>ih mu x s
  | _=>none
noncomputable def ev (C:Cx) (n:Nat):EvT:=Nat.rec (motive:=fun _=>EvT) (fun _ _ _=>none) (fun _ ih=>evB C ih) n
noncomputable def runE (C:Cx) (n f:Nat) (args:List FV):Option FV:=match kyr C (ev C n) f (args.map .fz) [] 0 [] with
  | some (y,s1)=>frz s1.H false 1000 y
  | none=>none
variable {P:Program} {w w':World} {a:Act}
theorem kaka (fn: Func) {fn2: Func} (f: FuncId) (cvals: List Value) {t1 t2: Nat} {c2: Code} (R: Ending -> World -> Prop) (hd: a.defers = [dfn f cvals]) (u: P.funcs[f]? = some fn2) (x: kni fn2 = some (t1, t2, c2)) (hn: (fn2.name == "runtime.NumGoroutine") = false) (z: cvals.length <= fn2.ntmps) (h:Cwp P c2 (fun e2 a2 w2=>(e2 = .normal\/e2 = .ret)/\a2.defers=[]/\∃ v,(results fn a.tmps).run P w2 = .ok v w2/\R (.returned v) w2)
      (((⟨cvals.toArray++Array.replicate (fn2.ntmps - cvals.toArray.size) undef,[]⟩:Act).put (some t1) .nilIface).put (some t2) .nilIface) w'):
    Leaves P fn a.tmps R a.defers .returning w':=by
  obtain ⟨id,os,o1,c1,b,p1,p2,p3,p4,p5,n1,n2,nres,c⟩:=kvz x;rw [hd];have k:fn2.body≠none:=by rw [b];simp
  simp only [qar,ne_eq] at hn;refine leaves_cons (f:=f) (args:=cvals.toArray) (fun A=>by cases A) (by simp [invoke,callFunc,u,k,hn]) ?_;refine callsD_of_wpS u b fun c₀ cs hm=>?_;have m:(cvals.toArray++Array.replicate (fn2.ntmps - cvals.toArray.size) undef).size=fn2.ntmps:=by simp;omega
  let a0:Act:={ tmps:=cvals.toArray++Array.replicate (fn2.ntmps - cvals.toArray.size) undef,defers:=[] }
  let a2:Act:=(a0.put (some t1) .nilIface).put (some t2) .nilIface
  have g:∀ (R2:Ending->FrameMode->World->Prop),(∀ v w'',Leaves P fn a.tmps R [] .returning w''->R2 (.returned v) .returning w'') ->
      c2.wp P (fun e a' w''=>bodyPostS P fn2 c₀ cs R2 e a' ({ c₀ with mode := .returning }::cs) w'') a2 w':=by
    intro R2 B;refine wp_wide.1 (kco h ?_);rintro e2 a'' w'' ⟨o,p,v,hv,hr⟩;have i:a''.defers=[]/\∃ u'',({ c₀ with mode := .returning }::cs:List Frame)={ c₀ with mode:=u'' }::cs/\∃ v,(results fn2 a''.tmps).run P w'' = .ok v w''/\R2 (.returned v) u'' w'':=
      ⟨p, .returning,rfl, .tuple #[],by simp [results,nres],B _ _ ⟨v,hv,hr⟩⟩
    rcases o with rfl | rfl <;> exact i
  refine wpS_seq (wpS_region ?_);have q:∀ (a:Act) (w:World),(execOp a.eval o1).run P w = .ok .recover w:=fun a w=>by obtain ⟨cc,as_,ts⟩:=c1;simp only at p2 p3;subst p2 p3;simp [execOp,p1,resolve,invoke,builtin]
  have r:∀ y,Region.wanted o1 y=true:=fun y=>by simp [Region.wanted,p5]
  have key:∀ (cs':List Frame) (Q:Exit->Act->List Frame->World->Prop),(Q .normal a2 cs' w'->os[0]?=some o1/\∃ l,List.range os.size=0::l/\wpOpsS P os Q l (a0.put (some t1) .nilIface) cs' w'):=fun cs' Q hQ=>by
    rcases c with ⟨o2,rfl,q1,q2,q3⟩ | ⟨rfl,rfl⟩
    · refine ⟨rfl,[1],rfl,?_⟩
      have s:∀ y,Region.wanted o2 y=true:=fun y=>(by simp [Region.wanted,q3]);unfold wpOpsS;simp only [List.getElem?_toArray,qag,List.getElem?_cons_zero,s,if_true];have hv:(execOp (a0.put (some t1) .nilIface).eval o2).run P w' = .ok (.value .nilIface) w':=(by have:(a0.put (some t1) .nilIface).eval (.tmp t1) = .nilIface:=(by show (a0.put (some t1) .nilIface).tmps.getD t1 undef = .nilIface;rw [kot (some t1) fn2.ntmps t1 m (by intro t ht;injection ht with ht;omega),qo rfl]);simp [execOp,q1,this]);rw [hv];simp only [Oper.upon,q2];unfold wpOpsS;exact hQ
    · refine ⟨rfl,[],rfl,?_⟩
      unfold wpOpsS;have C:a2=a0.put (some t2) .nilIface:=(by show (a0.put (some t2) .nilIface).put (some t2) .nilIface=a0.put (some t2) .nilIface;simp [Act.put]);rw [<- C];exact hQ
  have j:recoverD (c₀::cs)=none:=by simp [recoverD,hm]
  have go:∀ (Q:Exit->Act->List Frame->World->Prop),Q .normal a2 (c₀::cs) w'->wpOpsS P os Q (List.range os.size) a0 (c₀::cs) w':=fun Q hQ=>by obtain ⟨k1,l,k2,k3⟩:=key (c₀::cs) Q hQ;rw [k2];unfold wpOpsS;simp only [k1,r,if_true];rw [q];simp only [j,p4];exact k3
  refine go _ ?_;show c2.wpS P _ a2 (c₀::cs) w';refine wpS_of_wp ?_;have hc:(c₀::cs)=({ c₀ with mode := .returning }::cs:List Frame):=by rw [<- hm]
  rw [hc];exact g _ fun v w'' hl=>hl
section
variable {P:Program} {F S0:Nat->Prop} {N0:Nat} {w w':World} {S S':Nat->Prop} {ψ ψ':Env} {K:Nat->Prop} {T:List (TypeId×TD)} {Z:List (TypeId×Value)} {o:Oper} {a:Act} {st:St} {t tx:TypeId} {d:TD} {id:Nat} {c:AV}
theorem kam {α:Type} {b:Bool} {x:Option α} {y:α} (h:(bif b then x else none)=some y):b=true/\x=some y:=by
  cases b with
  | false=>cases h
  | true=>exact ⟨rfl,h⟩
theorem kaj6 (g:TOk P T) {s:TypeId} {x:Operand} {f:Nat} (i:o.op = .fieldAddr s x f) (h:fldE T st.eval (kaa st.heap) s x f=some c):NStep P o st c:=by
  unfold fldE at h;split at h
  · rename_i d hd
    split at h
    · rename_i fs hk
      split at h
      · rename_i ft off j
        split at h
        · rename_i df b
          cases a:Nat.beq df.size 0 with
          | true=>rw [a] at h;cases h
          | false=>
            rw [a] at h;exact kagj i (g.get hd) hk j (g.get b) (fun e=>by rw [e] at a;cases a) h
        · cases h
      · cases h
    · cases h
  · cases h
theorem kall (f:TOk P T) {x y:Operand} (j:o.op = .indexAddr t x y) (h:idxE T st.eval (kaa st.heap) t x y=some c):NStep P o st c:=by
  unfold idxE at h;split at h
  · rename_i d k i hd hy
    replace h:=kam h;obtain ⟨h0,h⟩:=h;have h0:0<=i:=(by simpa using h0);split at h
    · rename_i e hk
      split at h
      · rename_i de a
        split at h
        · rename_i id g off len cap hx
          split at h
          · rename_i g' cells l
            replace h:=kam h;obtain ⟨b,h⟩:=h;simp only [qp,qbx] at b;obtain rfl:=qk b.1;injection h with h;subst h;exact kamg j (f.get hd) hk (f.get a) hx l hy h0 b.2
          · cases h
        · split at h
          · rename_i xs hl
            split at h
            · rename_i z m
              replace h:=kam h;obtain ⟨b,h⟩:=h;injection h with h;subst h;exact k98 j (f.get hd) hk (f.get a) hl (fun z m=>qk (qr.1 b z m)) hy h0 m rfl
            · cases h
          · cases h
      · cases h
    · rename_i n e hk
      split at h
      · rename_i de a
        replace h:=kam h;obtain ⟨b,h⟩:=h;exact kamw j (f.get hd) hk (f.get a) hy h0 (by simpa using b) h
      · cases h
    · cases h
  · cases h
theorem kak4 (e:TOk P T) {x y:Operand} (f:o.op = .index t x y) (h:bytE T st.eval (kaa st.heap) t x y=some c):NStep P o st c:=by
  unfold bytE at h;split at h
  · rename_i d s k i hd hx hy
    split at h
    · rename_i hk
      replace h:=kam h;obtain ⟨h0,h⟩:=h;split at h
      · rename_i b g
        injection h with h;subst h;have a:s.data[i.toNat]?=some b:=(by simpa using g);exact kaew f (e.get hd) hk hx hy (by simpa using h0) (c:=b) (by obtain ⟨hl,a⟩:=qak.1 a;rw [<- a];exact getElem?_pos s i.toNat hl)
      · cases h
    · cases h
  · cases h
theorem kajn {s:BA} {l h:Nat} (h1:l<=h) (a:h<=s.size):cutB s l h=s.extract l h:=by apply ByteArray.ext;rw [ByteArray.data_extract];apply qbm;simp [cutB,Array.toList_extract,List.extract_eq_take_drop,List.drop_take]
theorem k5g (s:BA):kry s=s.size:=by unfold kry;rw [qal];rfl
theorem kaly {x:Operand} {lo hi:Option Operand} {s:BA} {L H:Nat} (e:o.op = .slice t x lo hi none) (hd:TdOk P t d) (hk:d.kind = .str) (hx:st.eval x = .fz (.atom (.string s))) (hl:ke0 st 0 lo=some L) (c:ke0 st (kry s) hi=some H) (h1:L<=H) (b:H<=kry s):
    NStep P o st (.fz (.atom (.string (cutB s L H)))):=by
  intro ψ S a w ht f;have hv:=Sim.eval_tmps ht x;rw [hx] at hv;rw [k5g] at c b;have e1:=klg P w none false s.size s.size (kcj ht hl) (kcj ht c) (.inl ⟨rfl,rfl⟩) h1 b (qx _) (fun h=>by cases h);refine kae w (.string (s.extract L H)) ?_ ⟨kaf _,by rw [kajn h1 b];exact .fz (.atom rfl)⟩;simp only [Option.map_none] at e1;simp [execOp,e,Instr.sliceAt,Instr.slice,run_underlying (hd.str hk),hv.atom,e1]
theorem kalg (m:TOk P T) {x:Operand} {lo hi mx:Option Operand} (p:o.op = .slice t x lo hi mx) (h:slcE T st.eval (kaa st.heap) t x lo hi mx=some c):NStep P o st c:=by
  unfold slcE at h;split at h
  · rename_i d hd
    split at h
    · rename_i hk
      split at h
      · rename_i s hx
        split at h
        · rename_i L H f i
          replace h:=kam h;obtain ⟨a,h⟩:=h;simp only [qp] at a;injection h with h;subst h;exact kaly p (m.get hd) hk hx f i (qs a.1) (qs a.2)
        · cases h
      · cases h
    · rename_i e hk
      split at h
      · rename_i de b
        split at h
        · rename_i id g off len k hx
          split at h
          · rename_i g' cells L H M j f i l
            replace h:=kam h;obtain ⟨a,h⟩:=h;simp only [qp,qb1,qbp] at a;obtain ⟨b1,b2,b3,b4,b5⟩:=a;obtain rfl:=qk b1;injection h with h;subst h;exact n_slB p m hd hk b hx j f i l (qs b2) (qs b3) (qs b4) (fun hm=>b5.elim (fun h=>by rw [hm] at h;cases h) fun h=>h)
          · cases h
        · rename_i id g len hx
          split at h
          · rename_i g' cells L H j f i
            split at h
            · replace h:=kam h
              obtain ⟨a,h⟩:=h;simp only [qp] at a;obtain ⟨b1,b2,b3⟩:=a;obtain rfl:=qk b1;obtain rfl:=qk b2;injection h with h;subst h;exact n_slU p m hd hk b hx j f i (qs b3)
            · rename_i y
              split at h
              · rename_i M l
                replace h:=kam h;obtain ⟨a,h⟩:=h;simp only [qp] at a;obtain ⟨b1,b2,b3,b4,b5⟩:=a;obtain rfl:=qk b1;injection h with h;subst h;exact n_slM p m hd hk b hx j f i l (qs b2) (qs b3) (qs b4) b5
              · cases h
          · cases h
        · rename_i hx
          split at h
          · rename_i f i l
            replace h:=kam h;obtain ⟨a,h⟩:=h;simp only [qb1,qbp] at a;injection h with h;subst h;exact n_sl0 p m hd hk b hx f i l (fun hm=>a.elim (fun h=>by rw [hm] at h;cases h) fun h=>h)
          · cases h
        · split at h
          · rename_i s n xs hl
            split at h
            · rename_i L H f i
              replace h:=kam h;obtain ⟨a,h⟩:=h;simp only [qp] at a;obtain ⟨b1,b2,b3⟩:=a;obtain rfl:=qk b1;split at h
              · injection h with h
                subst h;exact n_slF p m hd hk b hl f i (qs b2) (qs b3)
              · rename_i y
                split at h
                · rename_i M l
                  replace h:=kam h;obtain ⟨a,h⟩:=h;simp only [qp] at a;obtain rfl:=qk a.1;injection h with h;subst h;exact kal7 p m hd hk b hl f i l (qs b2) (qs b3) a.2
                · cases h
            · cases h
          · cases h
      · cases h
    · rename_i n e hk
      split at h
      · rename_i de id g off b hx
        split at h
        · rename_i g' cells L H M j f i l
          replace h:=kam h;obtain ⟨a,h⟩:=h;simp only [qp,qb1,qbp] at a;obtain ⟨b1,b2,b3,b4,b5,b6⟩:=a;obtain rfl:=qk b1;injection h with h;subst h;exact kaj0 p m hd hk b hx j f i l (qs b2) (qs b3) (qs b4) (fun hm=>b5.elim (fun h=>by rw [hm] at h;cases h) fun h=>h) (qs b6)
        · cases h
      · cases h
    · cases h
  · cases h
theorem kaj4 (b:TOk P T) {x:Operand} (f:o.op = .call { callee := .builtin .len,args:=#[x],argTypes:=#[t] }) (h:lenE T st.eval (kaa st.heap) x t=some c):NStep P o st c:=by
  unfold lenE at h;split at h
  · rename_i d hd
    split at h
    · rename_i e id g off len cap hk hx
      split at h
      · rename_i g' cells a
        replace h:=kam h;obtain ⟨i,h⟩:=h;obtain rfl:=qk i;injection h with h;subst h;exact kamo f (b.get hd) hk hx a
      · cases h
    · rename_i hk _
      split at h
      · rename_i n hn
        injection h with h;subst h;exact k19 f (b.get hd) hk hn
      · cases h
    · rename_i s hk hx
      injection h with h;subst h;rw [k5g];exact k4q f (b.get hd) hk hx
    · rename_i kt et id hk hx
      split at h
      · rename_i kv a
        injection h with h;subst h;exact kamc f (b.get hd) hk hx a
      · cases h
    · cases h
  · cases h
theorem kak7 (a:TOk P T) {x:Operand} (b:o.op = .call { callee := .builtin .cap,args:=#[x],argTypes:=#[t] }) (h:capE T st.eval (kaa st.heap) x t=some c):NStep P o st c:=by
  unfold capE at h;split at h
  · rename_i d hd
    split at h
    · rename_i e hk
      split at h
      · rename_i de f
        split at h
        · rename_i m k ys hr
          injection h with h;subst h;exact kam7 b (a.get hd) hk hr
        · cases h
      · cases h
    · cases h
  · cases h
theorem kai6 (b:TOk P T) {s:TypeId} {x:Operand} (f:o.op = .convert s t x) (h:cnvE T st.eval (kaa st.heap) s t x=some c):NStep P o st c:=by
  unfold cnvE at h;split at h
  · rename_i ds d hs hd
    split at h
    · rename_i k _ k' n hk hx
      injection h with h;subst h;exact kad3 b f hs hd hk hx
    · rename_i u hk a hx
      injection h with h;subst h;exact kaae b f hs a hd hk hx
    · rename_i e hk a
      split at h
      · rename_i de g
        split at h
        · rename_i i
          split at h
          · rename_i n c' ys hr
            split at h
            · rename_i xs hi
              injection h with h;subst h;exact kal2 b f hs a g i hd hk hr hi
            · cases h
          · cases h
        · cases h
      · cases h
    · cases h
  · cases h
theorem kanc (e:TOk P T) (f:ZOk P Z) {x y:Operand} {ok:Bool} (g:o.op = .lookup t x y ok) (h:lkE T Z st.eval (kaa st.heap) t x y ok=some c):NStep P o st c:=by
  unfold lkE at h;split at h
  · rename_i d id k hd hx hy
    split at h
    · rename_i kt et hk
      split at h
      · rename_i kd kv a b
        replace h:=kam h;obtain ⟨i,h⟩:=h;split at h
        · rename_i r hr
          split at h
          · rename_i c' hc
            injection h with h;subst h;exact kacw g e f hd hk a hx b hy i hr (by cases r <;> exact hc)
          · cases h
        · cases h
      · cases h
    · cases h
  · cases h
theorem kadx (mx:Bool) {x y:Operand} {ts:Array TypeId} (b:o.op = .call { callee := .builtin (bif mx then .max else .min),args:=#[x,y],argTypes:=ts }) (h:mmE st.eval (kaa st.heap) mx x y=some c):NStep P o st c:=by
  unfold mmE at h;split at h
  · rename_i k m k' n hx hy
    replace h:=kam h;obtain ⟨a,h⟩:=h;have a:k=k':=(by simpa using a);subst a;injection h with h;subst h;cases mx with
    | false=>exact kain b hx hy
    | true=>exact kaiu b hx hy
  · cases h
theorem kahd {x:Operand} {yt:TypeId} (a:o.op = .binOp .neq t x (.const .nilIface) yt) (hd:TdOk P t d) (hk:d.kind = .ifc) (hx:st.eval x = .fz (.atom .nilIface)):NStep P o st (.fz (.atom (.bool false))):=
  krk true true a hd hk hx (.inr ⟨rfl,rfl⟩)
theorem kab1 (c:TOk P T) (a:ko3 T t=true):P.underlying t=some .bool:=by
  unfold ko3 at a;split at a
  · rename_i d hd
    split at a
    · rename_i hk
      obtain ⟨_,e,h1,b⟩:=c.get hd;rw [hk] at b;cases e <;> simp [kg3] at b;exact h1
    · cases a
  · cases a
theorem kaam (a:TOk P T) {op:BinOp} {x y:Operand} {yt:TypeId} {r:Bool} (b:o.op = .binOp op t x y yt) (hx:(r=true/\st.eval x = .fz (.atom nilV))\/(r=false/\((∃ id g off len cap cells,st.eval x = .bsl id g off len cap/\objC st id=some (g,cells))\/∃ s n z zs,lstX (st.eval x)=some (s,n,z::zs)))) (hy:st.eval y = .fz (.atom nilV))
    (h:binE.nilE T op t r=some c):NStep P o st c:=by
  unfold binE.nilE at h;split at h
  · rename_i d hd
    split at h
    · rename_i e hk
      injection h with h;subst h;exact kadu false r b ((a.get hd).slice hk) hx hy
    · rename_i e hk
      injection h with h;subst h;exact kadu true r b ((a.get hd).slice hk) hx hy
    · cases h
  · cases h
theorem kalr {z:AV} {r:Bool} (h:nilX (kaa st.heap) z=some r):(r=true/\z = .fz (.atom nilV))\/(r=false/\((∃ id g off len cap cells,z = .bsl id g off len cap/\objC st id=some (g,cells))\/∃ s n x xs,lstX z=some (s,n,x::xs))):=by
  unfold nilX at h;split at h
  · injection h with h;exact .inl ⟨h.symm,rfl⟩
  · rename_i id g off len cap
    split at h
    · rename_i g' cells a
      replace h:=kam h;obtain ⟨b,h⟩:=h;obtain rfl:=qk b;injection h with h;exact .inr ⟨h.symm, .inl ⟨id,g,off,len,cap,cells,rfl,a⟩⟩
    · cases h
  · split at h
    · rename_i s n x xs hl
      injection h with h;exact .inr ⟨h.symm, .inr ⟨s,n,x,xs,hl⟩⟩
    · cases h
theorem kale (a:TOk P T) {op:BinOp} {x y:Operand} {yt:TypeId} (b:o.op = .binOp op t x y yt) (h:binE T st.eval (kaa st.heap) op t x y=some c):NStep P o st c:=by
  unfold binE at h;split at h
  · split at h
    · rename_i d hd hx
      split at h
      · rename_i hk
        injection h with h;subst h;exact kahd b (a.get hd) hk hx
      · cases h
    · cases h
  · split at h
    · rename_i hx hy
      exact kaam a b (.inl ⟨rfl,hx⟩) hy h
    · rename_i u v _ hx hy
      split at h
      · rename_i r hr
        injection h with h;subst h;exact kacs (ko3 T t) (fun e=>kab1 a e) b hx hy hr
      · cases h
    · rename_i hy _ _
      split at h
      · rename_i r hr
        exact kaam a b (kalr hr) hy h
      · cases h
    · cases h
theorem kalh {x:Operand} (e:o.op = .entry x) (h:entE st.eval (kaa st.heap) x=some c):NStep P o st c:=by
  unfold entE at h;split at h
  · rename_i id hx
    split at h
    · rename_i m since seen stepped a
      split at h
      · rename_i kv j b f
        split at h
        · rename_i p hp
          replace h:=kam h;obtain ⟨d,h⟩:=h;simp only [qp] at d;injection h with h;subst h;obtain ⟨ys,rfl⟩:∃ ys,seen=ys++[j]:=(by obtain ⟨ys,rfl⟩:=List.getLast?_eq_some_iff.1 f;exact ⟨ys,rfl⟩);rw [qk d.1] at a;exact kahx e hx a b hp d.2
        · cases h
      · cases h
    · cases h
  · cases h
theorem kafh (a:TOk P T) {parts:Array (Nat×Operand)} (b:o.op = .build t parts) (h:kaeu T st.eval t parts=some c):NStep P o st c:=k9o a b h
theorem kaaf (g:TOk P T) {n:Nat} {parts:Array (Nat×Operand)} (i:o.op = .buildSlice t n parts) (h:litH T st.eval t n parts=some c):NStep P o st c:=by
  unfold litH at h;split at h
  · rename_i d hd
    split at h
    · rename_i e hk
      split at h
      · rename_i de b
        split at h
        · rename_i xs f
          replace h:=kam h;obtain ⟨a,h⟩:=h;injection h with h;subst h;simp only [qp] at a;exact kaig i (g.get hd) hk (g.get b) (qs a.2.1) (qk a.1) (qs a.2.2) f
        · cases h
      · cases h
    · cases h
  · cases h
theorem k5u (e:TOk P T) (p:ZOk P Z) (h:nE T Z st.eval (kaa st.heap) o=some c):NStep P o st c:=by
  unfold nE at h;split at h
  · rename_i a;exact kale e a h
  · rename_i t x a
    split at h
    · rename_i d xs hd l
      exact kajb a (e.get hd) l h
    · cases h
  · rename_i a;exact kaj6 e a h
  · rename_i a;exact kame a h
  · rename_i a;exact kall e a h
  · rename_i a;exact kak4 e a h
  · rename_i a;exact kalg e a h
  · rename_i a;exact kai6 e a h
  · rename_i a;exact kanc e p a h
  · rename_i a;exact kalh a h
  · rename_i cl a
    obtain ⟨callee,args,tys⟩:=cl;simp only at h;split at h
    · rename_i x t g m
      rw [kng g,kng m] at a;exact kaj4 e a h
    · rename_i x t g m
      rw [kng g,kng m] at a;exact kak7 e a h
    · rename_i x y g
      have:args=#[x,y]:=(by apply qbm;simpa using g);rw [this] at a;exact kadx false a h
    · rename_i x y g
      have:args=#[x,y]:=(by apply qbm;simpa using g);rw [this] at a;exact kadx true a h
    · cases h
  · rename_i x a;injection h with h;subst h;exact k1u (.inl a)
  · rename_i x a;injection h with h;subst h;exact k1u (.inr a)
  · rename_i cc x y a
    split at h
    · rename_i b k
      injection h with h;subst h;exact kaee a k
    · cases h
  · rename_i op t x a
    split at h
    · rename_i u q
      split at h
      · rename_i r hr
        injection h with h;subst h;exact n_un a q hr
      · cases h
    · cases h
  · rename_i x i a
    exact k4k a h
  · rename_i t parts a
    exact kafh e a h
  · rename_i t n parts a
    exact kaaf e a h
  · rename_i f first cap a
    cases k:first.isEmpty with
    | false=>
      rw [k] at h;cases j:cap.isEmpty with
      | false=>rw [j] at h;cases h
      | true=>
        rw [j] at h;have:cap=#[]:=(by simpa using j);subst this;simp only [qd,qe,qc] at h;subst h;exact kaid a
    | true=>
      rw [k] at h;have:first=#[]:=by simpa using k
      subst this;simp only [qe,qc] at h;subst h;exact kafm a
  · cases h
theorem kaik {dl:Dl} (h:(match nE T Z st.eval (kaa st.heap) o with | some c=>some (c,Dl.no) | none=>none)=some (c,dl)) (a:TOk P T) (b:ZOk P Z):StepA P o st c (klv st id dl) (dIds st id dl):=by
  split at h
  · rename_i c' hc
    simp only [qc,qv] at h;obtain ⟨rfl,rfl⟩:=h;exact (k5u a b hc).step
  · cases h
theorem k3h (id:Nat) {i g:Nat} {cells cells':List AV} {x:AV} {dl:Dl} (a:objC st i=some (g,cells)) (h:setE (kaa st.heap) i x cells'=some (c,dl)):x=c/\klv st id dl=putC st i cells'/\dIds st id dl=st.ids:=by
  unfold setE at h;split at h
  · rename_i ob d
    simp only [qc,qv] at h;obtain ⟨rfl,rfl⟩:=h;unfold objC objH at a;rw [d] at a;unfold putC;rw [d];split at a
    · rename_i e cs b;injection b with b;subst b;exact ⟨rfl,rfl,rfl⟩
    · rename_i g e sz cs b;injection b with b;subst b;exact ⟨rfl,rfl,rfl⟩
    · cases a
  · cases h
theorem kajh (e:TOk P T) {x y:Operand} {dl:Dl} (f:o.op = .store t x y) (h:stoE T st.eval (kaa st.heap) t x y=some (c,dl)):StepA P o st c (klv st id dl) (dIds st id dl):=by
  unfold stoE at h;split at h
  · rename_i d i n off hd hx
    split at h
    · rename_i g cells a
      replace h:=kam h;obtain ⟨b,h⟩:=h;simp only [qp] at b;obtain ⟨b1,b2,b3,b4⟩:=b;obtain rfl:=qk b1;obtain ⟨rfl,e2,e3⟩:=k3h id a h;rw [e2,e3];exact kagm f (e.get hd) hx a rfl (qk b2) b3 (qs b4)
    · cases h
  · cases h
theorem kaki (g:TOk P T) {x y:Operand} {dl:Dl} (a:st.ids.contains id=false) (i:o.op = .makeSlice t x y) (h:mksE T st.eval (kaa st.heap) t id x y=some (c,dl)):StepA P o st c (klv st id dl) (dIds st id dl):=by
  unfold mksE at h;split at h
  · rename_i d hd
    split at h
    · rename_i e hk
      split at h
      · rename_i de b
        split at h
        · rename_i zs k n k' m hx hy
          replace h:=kam h;obtain ⟨f,h⟩:=h;simp only [qp,qbx] at f;obtain ⟨b1,b1',b2,b3,b4,b5,b6⟩:=f;simp only [qc,qv] at h;obtain ⟨rfl,rfl⟩:=h;exact e_mkE i g hd hk b (qs b1) (qk b1') rfl (fun v hv=>qr.1 b2 v hv) hx hy b3 b4 b5 b6 a
        · cases h
      · cases h
    · cases h
  · cases h
theorem kakg (a:TOk P T) {mu:Bool} {n:Nat} {parts:Array (Nat×Operand)} {dl:Dl} (b:st.ids.contains id=false) (i:o.op = .buildSlice t n parts) (h:litE T st.eval (kaa st.heap) mu t n id parts=some (c,dl)):StepA P o st c (klv st id dl) (dIds st id dl):=by
  unfold litE at h;split at h
  · rename_i c' hc
    simp only [qc,qv] at h;obtain ⟨rfl,rfl⟩:=h;cases mu with
    | true=>cases hc
    | false=>exact (kaaf a i hc).step
  · split at h
    · rename_i d hd
      split at h
      · rename_i e hk
        split at h
        · rename_i de f
          split at h
          · rename_i ys g
            replace h:=kam h;obtain ⟨j,h⟩:=h;simp only [qp] at j;obtain ⟨b1,b2,b3⟩:=j;simp only [qc,qv] at h;obtain ⟨rfl,rfl⟩:=h;exact kaer _ i (a.get hd) hk (a.get f) (qs b2) (qk b1) (qs b3) g b
          · cases h
        · cases h
      · cases h
    · cases h
theorem kak9 (e:TOk P T) {x y v:Operand} {dl:Dl} (f:o.op = .mapUpdate t x y v) (h:mpuE T st.eval (kaa st.heap) t x y v=some (c,dl)):StepA P o st c (klv st id dl) (dIds st id dl):=by
  unfold mpuE at h;split at h
  · rename_i d i k hd hx hy
    split at h
    · rename_i kt et hk
      split at h
      · rename_i kd kv a b
        replace h:=kam h;obtain ⟨g,h⟩:=h;split at h
        · rename_i kv' hp
          simp only [qc,qv] at h;obtain ⟨rfl,rfl⟩:=h;exact k70 f e hd hk a hx b hy g hp
        · cases h
      · cases h
    · cases h
  · cases h
theorem kajr (e:TOk P T) {x:Operand} {dl:Dl} (a:st.ids.contains id=false) (f:o.op = .range t x) (h:rngE T st.eval (kaa st.heap) t id x=some (c,dl)):StepA P o st c (klv st id dl) (dIds st id dl):=by
  unfold rngE at h;split at h
  · rename_i d m hd hx
    split at h
    · rename_i kt et kv hk b
      simp only [qc,qv] at h;obtain ⟨rfl,rfl⟩:=h;exact kaf1 f (e.get hd) hk hx b a
    · cases h
  · cases h
theorem kakp {x:Operand} {dl:Dl} (e:o.op = .next x false) (h:nxtE st.eval (kaa st.heap) x=some (c,dl)):StepA P o st c (klv st id dl) (dIds st id dl):=by
  unfold nxtE at h;split at h
  · rename_i i hx
    split at h
    · rename_i m since seen stepped a
      split at h
      · rename_i kv b
        replace h:=kam h;obtain ⟨d,h⟩:=h;simp only [qp] at d;obtain ⟨b1,b2⟩:=d;rw [qk b1] at a;split at h
        · rename_i hl
          simp only [qc,qv] at h;obtain ⟨rfl,rfl⟩:=h;exact (kafc e hx a b (qs b2) hl).step
        · rename_i j hl
          split at h
          · rename_i p hp
            replace h:=kam h;obtain ⟨d,h⟩:=h;simp only [qc,qv] at h;obtain ⟨rfl,rfl⟩:=h;exact kako e hx a b (qs b2) hl hp d
          · cases h
        · cases h
      · cases h
    · cases h
  · cases h
theorem k8c (i:TOk P T) {x y:Operand} {e:TypeId} {de:TD} {n:Nat} {ys:List AV} {dl:Dl} (a:st.ids.contains id=false) (j:o.op = .call { callee := .builtin .append,args:=#[x,y],argTypes:=#[t,tx] }) (hd:kad T t=some d) (hk:d.kind = .slice e) (b:kad T e=some de)
    (l:0<de.size) (f:de.zero.length=de.size) (hy:srcE T de.size st tx (st.eval y)=some (n,ys)) (h:appE.grow st.eval (kaa st.heap) id x e de n ys=some (c,dl)):StepA P o st c (klv st id dl) (dIds st id dl):=by
  unfold appE.grow at h;split at h
  · rename_i m k xs hx
    replace h:=kam h;obtain ⟨g,h⟩:=h;simp only [qp] at g;simp only [qc,qv] at h;obtain ⟨rfl,rfl⟩:=h;exact kaej j i hd hk b l f hx hy (by simpa [Nat.blt_eq] using g.1) (qs g.2) a
  · cases h
theorem kals (l:TOk P T) {x y:Operand} {dl:Dl} (p:st.ids.contains id=false) (q:o.op = .call { callee := .builtin .append,args:=#[x,y],argTypes:=#[t,tx] }) (h:appE T st.eval (kaa st.heap) t tx id x y=some (c,dl)):StepA P o st c (klv st id dl) (dIds st id dl):=by
  unfold appE at h;split at h
  · rename_i d hd
    split at h
    · rename_i e hk
      split at h
      · rename_i de b
        split at h
        · rename_i ys0 hy
          split at h
          · rename_i r hr
            obtain ⟨m,cc,xs⟩:=r;simp only [qc,qv] at h;obtain ⟨rfl,rfl⟩:=h;exact (kam6 q l hd hk b hr hy).step
          · cases h
        · rename_i n ys _ hy
          replace h:=kam h;obtain ⟨s,h⟩:=h;simp only [qp] at s;have u:=qs s.1;have j:=qk s.2;split at h
          · rename_i i g off m hx
            split at h
            · rename_i g' e' sz cells f
              replace h:=kam h;obtain ⟨a,h⟩:=h;simp only [qp] at a;obtain ⟨b1,b2,b3,b4,b5,b6⟩:=a;obtain rfl:=qk b1;obtain rfl:=qk b2;obtain rfl:=qk b3;obtain rfl:=qk b4;simp only [qc,qv] at h;obtain ⟨rfl,rfl⟩:=h;exact kala q l hd hk b j hx f (qk b5) hy (qs b6)
            · cases h
          · rename_i i g off m k hx
            cases hr:Nat.ble (m+n) k with
            | true=>
              rw [hr] at h;simp only [qe] at h;split at h
              · rename_i g' cells f
                replace h:=kam h;obtain ⟨a,h⟩:=h;simp only [qp] at a;obtain rfl:=qk a.1;obtain ⟨rfl,e2,e3⟩:=k3h id f h;rw [e2,e3];exact kadj q l hd hk b hx f hy (qs hr) (qs a.2)
              · cases h
            | false=>
              rw [hr] at h;exact k8c l p q hd hk b u j hy h
          · exact k8c l p q hd hk b u j hy h
        · cases h
      · cases h
    · cases h
  · cases h
theorem kajc (j:TOk P T) {x y:Operand} {dl:Dl} (k:o.op = .call { callee := .builtin .copy,args:=#[x,y],argTypes:=#[t,tx] }) (h:cpyE T st.eval (kaa st.heap) t x y=some (c,dl)):StepA P o st c (klv st id dl) (dIds st id dl):=by
  unfold cpyE at h;split at h
  · rename_i d hd
    split at h
    · rename_i e hk
      split at h
      · rename_i de b
        split at h
        · rename_i i g off len cap n c2 ys hx hy
          split at h
          · rename_i g' cells a
            replace h:=kam h;obtain ⟨f,h⟩:=h;simp only [qp] at f;obtain rfl:=qk f.1;obtain ⟨rfl,e2,e3⟩:=k3h id a h;rw [e2,e3];exact kajz k j hd hk b hx a hy (qs f.2)
          · cases h
        · cases h
      · cases h
    · cases h
  · cases h
theorem sE_ok (f:TOk P T) (j:ZOk P Z) {mu:Bool} {dl:Dl} (b:st.ids.contains id=false) (h:sE T Z st.eval (kaa st.heap) mu id o=some (c,dl)):StepA P o st c (klv st id dl) (dIds st id dl):=by
  unfold sE at h;split at h
  · rename_i e x a
    replace h:=kam h;obtain ⟨k,h⟩:=h;simp only [qc,qv] at h;obtain ⟨rfl,rfl⟩:=h;exact kaih a rfl k b
  · rename_i e a
    split at h
    · rename_i d hd
      split at h
      · rename_i cells l
        simp only [qc,qv] at h;obtain ⟨rfl,rfl⟩:=h;exact k28 a (f.get hd) l b
      · cases h
    · cases h
  · rename_i a;exact kajh f a h
  · rename_i a;exact kaki f b a h
  · rename_i a;exact kakg f b a h
  · rename_i a
    simp only [qc,qv] at h;obtain ⟨rfl,rfl⟩:=h;exact kab5 a b
  · rename_i a;exact kak9 f a h
  · rename_i a;exact kajr f b a h
  · rename_i a;exact kakp a h
  · rename_i cl a
    obtain ⟨callee,args,tys⟩:=cl;simp only at h;split at h
    · rename_i x y t tx g i
      have e1:args=#[x,y]:=(by apply qbm;simpa using g);have e2:tys=#[t,tx]:=(by apply qbm;simpa using i);rw [e1,e2] at a;exact kals f b a h
    · rename_i x y t tx g i
      have e1:args=#[x,y]:=(by apply qbm;simpa using g);have e2:tys=#[t,tx]:=(by apply qbm;simpa using i);rw [e1,e2] at a;exact kajc f a h
    · exact kaik h f j
  · exact kaik h f j
end
end Go.Proofs.YtjpkdegjcilndaaGreatDoor
