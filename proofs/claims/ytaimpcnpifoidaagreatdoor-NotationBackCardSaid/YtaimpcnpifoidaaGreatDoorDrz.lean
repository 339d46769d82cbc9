import Derived.Test.YtaimpcnpifoidaaGreatDoorDfr
set_option linter.unusedVariables false
set_option linter.unusedSimpArgs false
namespace Go.Proofs.YtaimpcnpifoidaaGreatDoor
open Go Go.RowKit
def anc (l:List Oper) (i j:Nat):Bool:=((kzj l).getD i 0).testBit j
def dstT (l:List Oper) (j:Nat):Option Nat:=(l[j]?).bind (·.dst)
def phB (l:List Oper) (es:List Nat) (i:Nat):Bool:=es.all fun e=>bif Nat.blt e i then anc l i e else (bif Nat.blt i e then anc l e i else true)
def kabx (l:List Oper) (n:Nat) (es:List Nat):Bool:=es.all fun e=>Nat.blt e n && phB l es e
def krt (ch:List Nat):List (Nat×AObj)→List (Nat×AObj)
 | []=>[]
 | (k,v)::l=>bif ch.contains k then krt ch l else (k,v)::krt ch l
def ko6 (l:List Oper) (i:Nat):Nat→List (Nat×AV)
 | 0=>[]
 | j+1=>match dstT l j with
  | some d=>bif Nat.ble j i || anc l j i then ko6 l i j else (d, .any)::ko6 l i j
  | none=>ko6 l i j
def kiv (l:List Oper) (n:Nat) (es ch ai:List Nat) (st:St) (i:Nat) (o:Oper) (fs:List (Nat×Option Nat×AV)) (hp:List (Nat×AObj)) (ids:List Nat):St:=
 { st with tmps:=hadd fs (kmp o) (ko6 l i n++st.tmps),heap:=bif phB l es i then hp else krt ch st.heap,ids:=bif phB l es i then ids else ai }
def pnE (v:Value):PanicEntry:={ v:=v,recovered:=false }
def k3m (P:Program) (o:Oper) (st:St) (v:Value) (heap':List (Nat×AObj)) (ids':List Nat):Prop:=
 ∀ F S0 N0 ψ S a w,Sim F S0 N0 st ψ S a w→∀ (next:Act→World→Prop) (Q:Exit→Act→World→Prop),
  (∀ w',(∃ ψ' S',Core F S0 N0 heap' ids' ψ' S' w'∧Fr F w w')→Q (.panic [pnE v]) a w')→o.wp P a w next Q
def k76 (P:Program) (os:Array Oper) (v:St) (o:Oper) (c:AV):Prop:=(kdv os v o=some true∧NStep P o v c)∨(kdv os v o=some false∧c = .fz (.tup []))
def kagu (P:Program) (os:Array Oper) (l:List Oper) (n:Nat) (es ch ai:List Nat) (st:St) (v:St) (o:Oper) (c:AV) (hp:List (Nat×AObj)) (ids:List Nat) (hp':List (Nat×AObj)) (ids':List Nat):Prop:=
 ((kdv os v o=some true∧kdf P o v c hp' ids')∨(kdv os v o=some false∧c = .fz (.tup [])∧hp'=hp∧ids'=ids))∧((∀ i,i<n→phB l es i=true)∨((∀ id,id∉ch→∀ ob,kab hp id=some ob→kab hp' id=some ob)∧(∀ id,id∈ids'→id∈ai)∧∀ id,id∈ids→id∈ids'))
def kagh (P:Program) (os:Array Oper) (Q:Exit→St→Prop) (st v:St) (o:Oper):Prop:=
 kdv os v o=some true∧∃ pv hp' ids',k3m P o v pv hp' ids'∧Q (.panic [pnE pv]) { st with tmps:=[],heap:=hp',ids:=ids' }
def krl (P:Program) (os:Array Oper) (n:Nat) (es ch ai:List Nat) (Q:Exit→St→Prop) (st:St):Nat→Nat→List Oper→List (Nat×Option Nat×AV)→List (Nat×AObj)→List Nat→Option Nat→Prop
 | 0,_,l,fs,hp,ids,none=>awpL P os l { st with tmps:=hadd fs (fun _=>true) st.tmps,heap:=hp,ids:=ids } Q
 | 0,_,_,_,_,_,some _=>True
 | k+1,i,o::l,fs,hp,ids,pn=>
  (∃ e,pn=some e∧anc os.toList i e=true∧krl P os n es ch ai Q st k (i+1) l ((i,o.dst, .any)::fs) hp ids pn) ∨
  (es.contains i=false∧∃ c,k76 P os (kiv os.toList n es ch ai st i o fs hp ids) o c∧(phB os.toList es i || okA st.ids c)=true∧krl P os n es ch ai Q st k (i+1) l ((i,o.dst,c)::fs) hp ids pn) ∨
  (es.contains i=true∧pn=none∧∃ c hp' ids',kagu P os os.toList n es ch ai st (kiv os.toList n es ch ai st i o fs hp ids) o c hp ids hp' ids'∧krl P os n es ch ai Q st k (i+1) l ((i,o.dst,c)::fs) hp' ids' none) ∨
  (es.contains i=true∧pn=none∧kagh P os Q st (kiv os.toList n es ch ai st i o fs hp ids) o∧krl P os n es ch ai Q st k (i+1) l ((i,o.dst, .any)::fs) hp ids (some i))
 | _+1,_,[],_,_,_,_=>False
section
variable {P:Program} {F S0:Nat→Prop} {N0:Nat} {w w':World} {S S':Nat→Prop} {ψ ψ':Env} {Q:Exit→St→Prop} {st:St} {os:Array Oper} {n:Nat} {es ch ai:List Nat}
def fsOf (l:List Oper) (c:Nat→AV):Nat→List (Nat×Option Nat×AV)
 | 0=>[]
 | k+1=>(k,dstT l k,c k)::fsOf l c k
theorem kn9 {l:List Oper} {c c':Nat→AV}:∀ {k:Nat},(∀ j,j<k→c j=c' j)→fsOf l c k=fsOf l c' k
 | 0,_=>rfl
 | k+1,h=>by simp only [fsOf,h k (by omega),kn9 (k:=k) fun j hj=>h j (by omega)]
def FactZ (P:Program) (os:Array Oper) (n:Nat) (es ch ai:List Nat) (Q:Exit→St→Prop) (st:St) (c:Nat→AV) (H:Nat→List (Nat×AObj)×List Nat) (pn:Option Nat) (i:Nat) (o:Oper):Prop:=
 (H (i+1)=H i∧∃ e,pn=some e∧e<i∧anc os.toList i e=true) ∨
 (i∉es∧H (i+1)=H i∧k76 P os (kiv os.toList n es ch ai st i o (fsOf os.toList c i) (H i).1 (H i).2) o (c i)∧(phB os.toList es i || okA st.ids (c i))=true) ∨
 (i∈es∧(∀ e,pn=some e→i<e)∧kagu P os os.toList n es ch ai st (kiv os.toList n es ch ai st i o (fsOf os.toList c i) (H i).1 (H i).2) o (c i) (H i).1 (H i).2 (H (i+1)).1 (H (i+1)).2) ∨
 (i∈es∧pn=some i∧H (i+1)=H i∧kagh P os Q st (kiv os.toList n es ch ai st i o (fsOf os.toList c i) (H i).1 (H i).2) o)
theorem knl:∀ (k i:Nat) (l:List Oper) (c0:Nat→AV) (H0:Nat→List (Nat×AObj)×List Nat) (pn0:Option Nat),os.toList.drop i=l→i+k=n→(∀ e,pn0=some e→e<i) →
  krl P os n es ch ai Q st k i l (fsOf os.toList c0 i) (H0 i).1 (H0 i).2 pn0 →
  ∃ c H pn,(∀ j,j<i→c j=c0 j)∧(∀ j,j≤i→H j=H0 j)∧(∀ e,pn0=some e→pn=some e)∧(∀ e,pn=some e→pn0=some e∨(i≤e∧e<n∧e∈es))∧(∀ j o,i≤j→j<n→os.toList[j]?=some o→FactZ P os n es ch ai Q st c H pn j o) ∧
   (pn=none→awpL P os (os.toList.drop n) { st with tmps:=hadd (fsOf os.toList c n) (fun _=>true) st.tmps,heap:=(H n).1,ids:=(H n).2 } Q)
 | 0,i,l,c0,H0,pn0,hl,hn,hp,h=>by
  obtain rfl:i=n:=by omega
  refine ⟨c0,H0,pn0,fun _ _=>rfl,fun _ _=>rfl,fun _ h=>h,fun e h => .inl h,fun j o h1 h2=>by omega,fun hpn=>?_⟩
  subst hpn hl
  exact h
 | k+1,i,l,c0,H0,pn0,hl,hn,hp,h=>by
  cases l with
  | nil=>exact h.elim
  | cons o l=>
   have hoi:os.toList[i]?=some o:=by
    have:=congrArg (·[0]?) hl
    simpa using this
   have hl':os.toList.drop (i+1)=l:=by rw [← List.drop_drop,hl];rfl
   have hd:dstT os.toList i=o.dst:=by unfold dstT;rw [hoi];rfl
   have cons:∀ c,(i,o.dst,c)::fsOf os.toList c0 i=fsOf os.toList (fun j=>if j=i then c else c0 j) (i+1):=fun c=>by
    simp only [fsOf,hd,if_true]
    rw [kn9 (k:=i) (c':=fun j=>if j=i then c else c0 j) fun j hj=>by rw [if_neg (by omega)]]
   have hH:∀ x:List (Nat×AObj)×List Nat,(fun j=>if j=i+1 then x else H0 j) (i+1)=x:=fun x=>by simp
   rcases h with ⟨e,he,ha,h⟩ | ⟨hes,c,hf,hok,h⟩ | ⟨hes,hpn,c,hp',ids',hf,h⟩ | ⟨hes,hpn,hf,h⟩
   ·rw [cons] at h
    obtain ⟨c1,H1,pn1,k1,k2,k3,k3',k4,k5⟩:=knl k (i+1) l _ (fun j=>if j=i+1 then H0 i else H0 j) pn0 hl' (by omega) (fun e h=>by have:=hp e h;omega) (by simpa using h)
    refine ⟨c1,H1,pn1,fun j hj=>by rw [k1 j (by omega),if_neg (by omega)],fun j hj=>by rw [k2 j (by omega),if_neg (by omega)],k3,fun e h=>(k3' e h).imp id (fun h=>⟨by omega,h.2⟩),fun j o' h1 h2 ho=>?_,k5⟩
    by_cases hji:j=i
    ·subst hji
     rw [hoi] at ho
     obtain rfl:=qp ho
     exact .inl ⟨by rw [k2 (j+1) (qw _),if_pos rfl,k2 j (by omega),if_neg (by omega)],e,k3 e he,hp e he,ha⟩
    ·exact k4 j o' (by omega) h2 ho
   ·rw [cons] at h
    obtain ⟨c1,H1,pn1,k1,k2,k3,k3',k4,k5⟩:=knl k (i+1) l _ (fun j=>if j=i+1 then H0 i else H0 j) pn0 hl' (by omega) (fun e h=>by have:=hp e h;omega) (by simpa using h)
    have e1:∀ j,j<i→c1 j=c0 j:=fun j hj=>by rw [k1 j (by omega),if_neg (by omega)]
    have e2:c1 i=c:=by rw [k1 i (by omega),if_pos rfl]
    have e3:H1 i=H0 i:=by rw [k2 i (by omega),if_neg (by omega)]
    have e4:H1 (i+1)=H0 i:=by rw [k2 (i+1) (qw _),if_pos rfl]
    refine ⟨c1,H1,pn1,e1,fun j hj=>by rw [k2 j (by omega),if_neg (by omega)],k3,fun e h=>(k3' e h).imp id (fun h=>⟨by omega,h.2⟩),fun j o' h1 h2 ho=>?_,k5⟩
    by_cases hji:j=i
    ·subst hji
     rw [hoi] at ho
     obtain rfl:=qp ho
     refine .inr (.inl ⟨by simpa using hes,by rw [e3,e4],?_⟩)
     rw [kn9 e1,e2,e3]
     exact ⟨hf,hok⟩
    ·exact k4 j o' (by omega) h2 ho
   ·subst hpn
    rw [cons] at h
    obtain ⟨c1,H1,pn1,k1,k2,k3,k3',k4,k5⟩:=knl k (i+1) l _ (fun j=>if j=i+1 then (hp',ids') else H0 j) none hl' (by omega) (fun e h=>by cases h) (by simpa using h)
    have e1:∀ j,j<i→c1 j=c0 j:=fun j hj=>by rw [k1 j (by omega),if_neg (by omega)]
    have e2:c1 i=c:=by rw [k1 i (by omega),if_pos rfl]
    have e3:H1 i=H0 i:=by rw [k2 i (by omega),if_neg (by omega)]
    have e4:H1 (i+1)=(hp',ids'):=by rw [k2 (i+1) (qw _),if_pos rfl]
    refine ⟨c1,H1,pn1,e1,fun j hj=>by rw [k2 j (by omega),if_neg (by omega)],k3,fun e h=>(k3' e h).imp id (fun h=>⟨by omega,h.2⟩),fun j o' h1 h2 ho=>?_,k5⟩
    by_cases hji:j=i
    ·subst hji
     rw [hoi] at ho
     obtain rfl:=qp ho
     refine .inr (.inr (.inl ⟨by simpa using hes,fun e he=>?_,?_⟩))
     ·rcases k3' e he with h | h
      ·cases h
      ·omega
     ·rw [kn9 e1,e2,e3,e4]
      exact hf
    ·exact k4 j o' (by omega) h2 ho
   ·subst hpn
    rw [cons] at h
    obtain ⟨c1,H1,pn1,k1,k2,k3,k3',k4,k5⟩:=knl k (i+1) l _ (fun j=>if j=i+1 then H0 i else H0 j) (some i) hl' (by omega) (fun e h=>by injection h with h;omega) (by simpa using h)
    have e1:∀ j,j<i→c1 j=c0 j:=fun j hj=>by rw [k1 j (by omega),if_neg (by omega)]
    have e3:H1 i=H0 i:=by rw [k2 i (by omega),if_neg (by omega)]
    refine ⟨c1,H1,pn1,e1,fun j hj=>by rw [k2 j (by omega),if_neg (by omega)],(fun e h=>by cases h),fun e h=>?_,fun j o' h1 h2 ho=>?_,k5⟩
    ·rcases k3' e h with h | h
     ·injection h with h;subst h;exact .inr ⟨by omega,by omega,by simpa using hes⟩
     ·exact .inr ⟨by omega,h.2⟩
    by_cases hji:j=i
    ·subst hji
     rw [hoi] at ho
     obtain rfl:=qp ho
     refine .inr (.inr (.inr ⟨by simpa using hes,k3 j rfl,by rw [k2 (j+1) (qw _),if_pos rfl,k2 j (by omega),if_neg (by omega)],?_⟩))
     rw [kn9 e1,e3]
     exact hf
    ·exact k4 j o' (by omega) h2 ho
def kmd (fs:List (Nat×Option Nat×AV)) (p:Nat→Bool) (base:List (Nat×AV)):List (Nat×AV):=match fs with
 | []=>base
 | (j,some d,c)::l=>bif p j then (d,c)::kmd l p base else kmd l p base
 | (_,none,_)::l=>kmd l p base
theorem khw {l:List Oper} {c:Nat→AV} {p:Nat→Bool} {base:List (Nat×AV)} {t:Nat}:∀ k,(∃ j,j<k∧p j=true∧dstT l j=some t∧look .any (kmd (fsOf l c k) p base) t=c j) ∨
  ((∀ j,j<k→p j=true→dstT l j≠some t)∧look .any (kmd (fsOf l c k) p base) t=look .any base t)
 | 0 => .inr ⟨fun j h=>by omega,rfl⟩
 | k+1=>by
  have ih:=khw (l:=l) (c:=c) (p:=p) (base:=base) (t:=t) k
  simp only [fsOf]
  cases hd:dstT l k with
  | none=>
   simp only [kmd]
   rcases ih with ⟨j,h1,h2,h3,h4⟩ | ⟨h1,h2⟩
   ·exact .inl ⟨j,by omega,h2,h3,h4⟩
   ·refine .inr ⟨fun j hj hp=>?_,h2⟩
    by_cases hjk:j=k
    ·subst hjk;rw [hd];exact fun h=>by cases h
    ·exact h1 j (by omega) hp
  | some d=>
   simp only [kmd]
   cases hp:p k with
   | false=>
    simp only [qb]
    rcases ih with ⟨j,h1,h2,h3,h4⟩ | ⟨h1,h2⟩
    ·exact .inl ⟨j,by omega,h2,h3,h4⟩
    ·refine .inr ⟨fun j hj hpj=>?_,h2⟩
     by_cases hjk:j=k
     ·subst hjk;rw [hp] at hpj;cases hpj
     ·exact h1 j (by omega) hpj
   | true=>
    simp only [qd,kdg]
    by_cases hdt:d=t
    ·subst hdt
     exact .inl ⟨k,by omega,hp,hd,by rw [if_pos rfl]⟩
    ·rw [if_neg hdt]
     rcases ih with ⟨j,h1,h2,h3,h4⟩ | ⟨h1,h2⟩
     ·exact .inl ⟨j,by omega,h2,h3,h4⟩
     ·refine .inr ⟨fun j hj hpj=>?_,h2⟩
      by_cases hjk:j=k
      ·subst hjk;rw [hd];exact fun h=>hdt (qp h)
      ·exact h1 j (by omega) hpj
theorem kux {l:List Oper} {c:Nat→AV} {p:Nat→Bool} {base:List (Nat×AV)} {t:Nat}:∀ k,(look .any (hadd (fsOf l c k) p base) t = .any)∨(∃ j,j<k∧p j=true∧dstT l j=some t∧look .any (hadd (fsOf l c k) p base) t=c j) ∨
  ((∀ j,j<k→dstT l j≠some t)∧look .any (hadd (fsOf l c k) p base) t=look .any base t)
 | 0 => .inr (.inr ⟨fun j h=>by omega,rfl⟩)
 | k+1=>by
  have ih:=kux (l:=l) (c:=c) (p:=p) (base:=base) (t:=t) k
  simp only [fsOf]
  cases hd:dstT l k with
  | none=>
   simp only [hadd]
   rcases ih with h | ⟨j,h1,h2,h3,h4⟩ | ⟨h1,h2⟩
   ·exact .inl h
   ·exact .inr (.inl ⟨j,by omega,h2,h3,h4⟩)
   ·refine .inr (.inr ⟨fun j hj=>?_,h2⟩)
    by_cases hjk:j=k
    ·subst hjk;rw [hd];exact fun h=>by cases h
    ·exact h1 j (by omega)
  | some d=>
   simp only [hadd,kdg]
   by_cases hdt:d=t
   ·subst hdt
    rw [if_pos rfl]
    cases hp:p k with
    | false=>exact .inl rfl
    | true=>exact .inr (.inl ⟨k,by omega,hp,hd,rfl⟩)
   ·rw [if_neg hdt]
    rcases ih with h | ⟨j,h1,h2,h3,h4⟩ | ⟨h1,h2⟩
    ·exact .inl h
    ·exact .inr (.inl ⟨j,by omega,h2,h3,h4⟩)
    ·refine .inr (.inr ⟨fun j hj=>?_,h2⟩)
     by_cases hjk:j=k
     ·subst hjk;rw [hd];exact fun h=>hdt (qp h)
     ·exact h1 j (by omega)
theorem kxn {l:List Oper} {i:Nat} {base:List (Nat×AV)} {t:Nat}:∀ k,look .any (ko6 l i k++base) t = .any∨((∀ j,j<k→dstT l j=some t→j≤i∨anc l j i=true)∧look .any (ko6 l i k++base) t=look .any base t)
 | 0 => .inr ⟨fun j h=>by omega,rfl⟩
 | k+1=>by
  have ih:=kxn (l:=l) (i:=i) (base:=base) (t:=t) k
  simp only [ko6]
  cases hd:dstT l k with
  | none=>
   rcases ih with h | ⟨h1,h2⟩
   ·exact .inl h
   ·refine .inr ⟨fun j hj hjt=>?_,h2⟩
    by_cases hjk:j=k
    ·subst hjk;rw [hd] at hjt;cases hjt
    ·exact h1 j (by omega) hjt
  | some d=>
   cases hb:(Nat.ble k i || anc l k i) with
   | true=>
    simp only [hb,qd]
    rcases ih with h | ⟨h1,h2⟩
    ·exact .inl h
    ·refine .inr ⟨fun j hj hjt=>?_,h2⟩
     by_cases hjk:j=k
     ·subst hjk
      rw [Bool.or_eq_true] at hb
      exact hb.imp (fun h=>qac h) id
     ·exact h1 j (by omega) hjt
   | false=>
    simp only [hb,qb,qag,kdg]
    by_cases hdt:d=t
    ·rw [if_pos hdt];exact .inl rfl
    ·rw [if_neg hdt]
     rcases ih with h | ⟨h1,h2⟩
     ·exact .inl h
     ·refine .inr ⟨fun j hj hjt=>?_,h2⟩
      by_cases hjk:j=k
      ·subst hjk;rw [hd] at hjt;exact absurd (qp hjt) hdt
      ·exact h1 j (by omega) hjt
theorem kvu {ch:List Nat} {id:Nat} {ob:AObj}:∀ {l:List (Nat×AObj)},kab (krt ch l) id=some ob→id∉ch∧kab l id=some ob
 | [],h=>by cases h
 | (k,v)::l,h=>by
  simp only [krt] at h
  cases hc:ch.contains k with
  | true=>
   rw [hc] at h
   obtain ⟨h1,h2⟩:=kvu (l:=l) h
   refine ⟨h1,?_⟩
   rw [kai,if_neg]
   ·exact h2
   ·rintro rfl;exact h1 (by simpa using hc)
  | false=>
   rw [hc] at h
   simp only [qb,kai] at h
   rw [kai]
   by_cases hk:k=id
   ·subst hk
    rw [if_pos rfl] at h ⊢
    exact ⟨by simpa using hc,h⟩
   ·rw [if_neg hk] at h ⊢
    exact kvu h
def kug (ch:List Nat):List (Nat×AObj)→List Nat
 | []=>[]
 | (k,_)::l=>bif ch.contains k then kug ch l else k::kug ch l
theorem k1t {ch:List Nat} {id:Nat} {ob:AObj} (hid:id∉ch):∀ {l:List (Nat×AObj)},kab l id=some ob→id∈kug ch l
 | [],h=>by cases h
 | (k,v)::l,h=>by
  simp only [kug]
  rw [kai] at h
  by_cases hk:k=id
  ·subst hk
   rw [show ch.contains k=false by simpa using hid]
   exact qo ..
  ·rw [if_neg hk] at h
   have:=k1t hid (l:=l) h
   cases ch.contains k with
   | true=>exact this
   | false=>exact qk _ this
theorem kakz {ch:List Nat} {hp hp':List (Nat×AObj)} (h:(kug ch hp).map (kab hp')=(kug ch hp).map (kab hp)):∀ id,id∉ch→∀ ob,kab hp id=some ob→kab hp' id=some ob:=fun id hid ob ho=>by
 rw [List.map_inj_left.1 h id (k1t hid ho)]
 exact ho
def stZ (l:List Oper) (n:Nat) (st:St) (c:Nat→AV) (H:Nat→List (Nat×AObj)×List Nat) (listed:Array Bool) (kD:Nat):St:=
 { st with tmps:=kmd (fsOf l c n) (fun j=>listed.getD j false) st.tmps,heap:=(H kD).1,ids:=(H kD).2 }
structure DSt (F S0:Nat→Prop) (N0:Nat) (w0:World) (l:List Oper) (n:Nat) (es:List Nat) (st:St) (c:Nat→AV) (H:Nat→List (Nat×AObj)×List Nat) (pn:Option Nat) (listed:Array Bool) (a:Act) (w:World):Prop where
 inv:∃ kD ψ S,kD≤n∧(∀ e,e∈es→(listed.getD e false=true↔e<kD))∧Sim F S0 N0 (stZ l n st c H listed kD) ψ S a w
 fr:Fr F w0 w
 lsize:listed.size=l.length
 closed:∀ k o,listed.getD k false=true→l[k]?=some o→∀ e∈o.after,Region.binds .any e=true→listed.getD e.on false=true
 nopan:∀ e,pn=some e→listed.getD e false=false
theorem k3c {es:List Nat} {H:Nat→List (Nat×AObj)×List Nat} {n:Nat} (hH:∀ i,i<n→i∉es→H (i+1)=H i):∀ {a b:Nat},a≤b→b≤n→(∀ e,e∈es→¬ (a≤e∧e<b))→H a=H b
 | a,b,h1,h2,h3=>by
  induction b with
  | zero=>
    obtain rfl:a=0:=by omega
    rfl
  | succ b ih=>
   by_cases hab:a=b+1
   ·rw [hab]
   ·rw [hH b (by omega) (fun he=>h3 b he ⟨by omega,by omega⟩)]
    exact ih (by omega) (by omega) fun e he h=>h3 e he ⟨h.1,by omega⟩
theorem kaht (hm:P.follows .mixedOrders=true) {id:Nat} {l:List Oper} (hB:relB l n st.n=true) (hch:kabx l n es=true) (hai:st.ids.all ai.contains=true)
  (h:krl P l.toArray n es ch ai Q st n 0 l [] st.heap st.ids none):awp P (.region id l.toArray true) st Q:=by
 have ok:=kahh hB
 obtain ⟨c,H,pn,_,hH0,_,hpn,hfact,hfin⟩:=knl (os:=l.toArray) n 0 l (fun _ => .any) (fun _=>(st.heap,st.ids)) none rfl (by omega) (fun e h=>by cases h) h
 have hH0:H 0=(st.heap,st.ids):=hH0 0 (qw _)
 have hpn0:=hpn
 have hpn:∀ e,pn=some e→e<n:=fun e he=>by
  rcases hpn e he with h | h
  ·cases h
  ·exact h.2.1
 simp only [List.toList_toArray] at hfact hfin
 -- facts about the chain
 have hchain:∀ e,e∈es→e<n∧phB l es e=true:=fun e he=>by
  have:=qm.1 hch e he
  rw [qu] at this
  exact ⟨by simpa [Nat.blt_eq] using this.1,this.2⟩
 have hph:∀ i,phB l es i=true→∀ e,e∈es→(e<i→anc l i e=true)∧(i<e→anc l e i=true):=fun i hi e he=>by
  have:=qm.1 hi e he
  refine ⟨fun hlt=>?_,fun hlt=>?_⟩
  ·have hb:Nat.blt e i=true:=by simpa [Nat.blt_eq] using hlt
   simpa [hb] using this
  ·have hb:Nat.blt i e=true:=by simpa [Nat.blt_eq] using hlt
   have hb':Nat.blt e i=false:=by
    cases hx:Nat.blt e i with
    | false=>rfl
    | true=>
      have:e<i:=by simpa [Nat.blt_eq] using hx
      omega
   simpa [hb,hb'] using this
 intro F S0 N0 ψ0 Sa a0 w0 hsim
 have hs1:Sim F S0 N0 st ψ0 Sa a0 w0.drew:=⟨hsim.defers,hsim.size,fun t=>(hsim.tmps t).keep Ext.refl (fun _ h=>h) (fun _ h=>h) (fun _ _ _=>rfl),⟨fun id ob ho=>by
  obtain ⟨e1,e2,e3⟩:=hsim.core.obj id ob ho
  exact ⟨e1,e2.keep Ext.refl (fun _ h=>h) (fun _ h=>h) (fun _ _ _=>rfl) ⟨rfl,rfl⟩ (fun _ _=>rfl),e3⟩,hsim.core.inj,hsim.core.lt,hsim.core.s0,hsim.core.n0,hsim.core.fr⟩⟩
 refine wp_region_any hm ?_
 have hHc:∀ i,i<n→i∉es→H (i+1)=H i:=fun i hi hes=>by
  have hil:i<l.length:=by have:=ok.len;omega
  rcases hfact i l[i] (qx _) hi (List.getElem?_eq_getElem hil) with ⟨h1,_⟩ | ⟨_,h1,_⟩ | ⟨h1,_⟩ | ⟨h1,_⟩
  ·exact h1
  ·exact h1
  ·exact absurd h1 hes
  ·exact absurd h1 hes
 have hpnes:∀ e,pn=some e→e∈es:=fun e he=>by
  rcases hpn0 e he with h | h
  ·cases h
  ·exact h.2.2
 have hstepAll:¬ (∀ i,i<n→phB l es i=true)→∀ j,j<n→(∀ id,id∉ch→∀ ob,kab (H j).1 id=some ob→kab (H (j+1)).1 id=some ob)∧((∀ id,id∈(H j).2→id∈ai)→∀ id,id∈(H (j+1)).2→id∈ai)∧∀ id,id∈(H j).2→id∈(H (j+1)).2:=fun hno j hj=>by
  have hjl:j<l.length:=by have:=ok.len;omega
  rcases hfact j l[j] (qx _) hj (List.getElem?_eq_getElem hjl) with ⟨h1,_⟩ | ⟨_,h1,_⟩ | ⟨_,_,_,h1⟩ | ⟨_,_,h1,_⟩
  ·rw [h1];exact ⟨fun _ _ _ h=>h,fun h=>h,fun _ h=>h⟩
  ·rw [h1];exact ⟨fun _ _ _ h=>h,fun h=>h,fun _ h=>h⟩
  ·obtain ⟨q1,q2,q3⟩:=h1.resolve_left hno;exact ⟨q1,fun _=>q2,q3⟩
  ·rw [h1];exact ⟨fun _ _ _ h=>h,fun h=>h,fun _ h=>h⟩
 have hheapAll:¬ (∀ i,i<n→phB l es i=true)→∀ k,k≤n→∀ id,id∉ch→∀ ob,kab st.heap id=some ob→kab (H k).1 id=some ob:=fun hno k=>by
  induction k with
  | zero=>intro _ id _ ob h;rw [hH0];exact h
  | succ k ih=>intro hkn id hid ob h;exact (hstepAll hno k (by omega)).1 id hid ob (ih (by omega) id hid ob h)
 have hidsAll:¬ (∀ i,i<n→phB l es i=true)→∀ k,k≤n→(∀ id,id∈(H k).2→id∈ai)∧∀ id,id∈st.ids→id∈(H k).2:=fun hno k=>by
  induction k with
  | zero=>intro _;rw [hH0];exact ⟨fun id h=>by simpa using qm.1 hai id h,fun _ h=>h⟩
  | succ k ih=>intro hkn;obtain ⟨q1,q2⟩:=ih (by omega);exact ⟨(hstepAll hno k (by omega)).2.1 q1,fun id h=>(hstepAll hno k (by omega)).2.2 id (q2 id h)⟩
 suffices key:∀ (fuel:Nat) (listed:Array Bool) (a:Act) (w:World),DSt F S0 N0 w0 l n es st c H pn listed a w→(∀ k,listed.getD k false=true→k<n) →
   ((List.range l.length).countP fun k=>!listed.getD k true)≤fuel→wpAny P .any l.toArray (PostA F S0 N0 w0 Q) fuel listed a w by
  refine key _ _ _ _ ⟨⟨0,ψ0,Sa,qx _,fun e _=>by rw [kvw];simp,?_⟩,Fr.drew,by simp,(fun k o hk=>by rw [kvw] at hk;cases hk),fun e _=>kvw _ _⟩ (fun k hk=>by rw [kvw] at hk;cases hk) ?_
  ·refine ⟨hs1.defers,hs1.size,fun t=>?_,by show Core F S0 N0 (H 0).1 (H 0).2 _ _ _;rw [hH0];exact hs1.core⟩
   show RV _ (·∈(H 0).2) _ _ _ (look .any (kmd (fsOf l c n) _ st.tmps) t)
   rw [hH0]
   rcases khw (l:=l) (c:=c) (p:=fun j=>(Array.replicate l.toArray.size false).getD j false) (base:=st.tmps) (t:=t) n with ⟨j,_,hj,_⟩ | ⟨_,h2⟩
   ·rw [kvw] at hj;cases hj
   ·rw [h2];exact hs1.tmps t
  ·refine qaw (List.countP_le_length ..) ?_
   simp
 intro fuel
 -- the end of the head
 have fin:∀ (listed:Array Bool) (a:Act) (w:World),DSt F S0 N0 w0 l n es st c H pn listed a w→(∀ i,i<n→listed.getD i false=true)→wpList P l.toArray (PostA F S0 N0 w0 Q) (l.drop n) a w:=by
  intro listed a w d hall
  have hnone:pn=none:=by
   cases hp:pn with
   | none=>rfl
   | some e=>
    have:=d.nopan e hp
    rw [hall e (hpn e hp)] at this
    cases this
  obtain ⟨kD,ψ,S,hkn,hk,hs⟩:=d.inv
  have hHk:H kD=H n:=k3c (es:=es) (n:=n) hHc hkn (qw _) fun e he h=>by
   have:=(hk e he).1 (hall e h.2)
   omega
  have hs2:Sim F S0 N0 { st with tmps:=hadd (fsOf l c n) (fun _=>true) st.tmps,heap:=(H n).1,ids:=(H n).2 } ψ S a w:=by
   refine ⟨hs.defers,hs.size,fun t=>?_,by rw [← hHk];exact hs.core⟩
   have ht:=hs.tmps t
   rw [← hHk]
   show RV _ _ _ _ _ (look .any (hadd (fsOf l c n) (fun _=>true) st.tmps) t)
   have ht:RV ψ (·∈(H kD).2) S w (a.tmps.getD t undef) (look .any (kmd (fsOf l c n) (fun j=>listed.getD j false) st.tmps) t):=ht
   rcases kux (l:=l) (c:=c) (p:=fun _=>true) (base:=st.tmps) (t:=t) n with h | ⟨j,h1,_,h3,h4⟩ | ⟨h1,h2⟩
   ·rw [h];exact .any
   ·rw [h4]
    rcases khw (l:=l) (c:=c) (p:=fun j=>listed.getD j false) (base:=st.tmps) (t:=t) n with ⟨j',e1,e2,e3,e4⟩ | ⟨e1,e2⟩
    ·rw [e4] at ht
     have hjj:j'=j:=by
      unfold dstT at h3 e3
      simp only [qi] at h3 e3
      obtain ⟨o1,p1,p2⟩:=h3
      obtain ⟨o2,q1,q2⟩:=e3
      exact ok.uniq j' j o2 o1 t e1 h1 q1 p1 q2 p2
     rw [hjj] at ht
     exact ht
    ·exact absurd h3 (e1 j h1 (hall j h1))
   ·rw [h2]
    rcases khw (l:=l) (c:=c) (p:=fun j=>listed.getD j false) (base:=st.tmps) (t:=t) n with ⟨j',e1,e2,e3,e4⟩ | ⟨e1,e2⟩
    ·exact absurd e3 (h1 j' e1)
    ·rw [e2] at ht;exact ht
  exact kge (fun e a' w' k=>k.pre d.fr) _ _ _ (hfin hnone F S0 N0 ψ S a w hs2)
 induction fuel with
 | zero=>
  intro listed a w d hh hc
  have hall:∀ i,i<l.length→listed.getD i false=true:=fun i hi=>by
   have h0:((List.range l.length).countP fun k=>!listed.getD k true)=0:=by omega
   rw [List.countP_eq_zero] at h0
   have:=h0 i (by simpa using hi)
   simp [d.lsize,hi] at this ⊢
   exact this
  have hn:n=l.length:=by
   have:=ok.len
   rcases qaz n l.length with h' | h'
   ·have:=hh n (hall _ h');omega
   ·omega
  have H:=fin listed a w d fun i hi=>hall i (by omega)
  rw [hn] at H
  exact kzw ok 0 l.length listed a w (by omega) (qw _) d.lsize (fun i hi=>⟨fun _=>hi,fun _=>by
   have:=hall i hi
   simp [d.lsize,hi] at this ⊢
   exact this⟩) (by omega) H
 | succ fuel ih=>
  intro listed a w d hh hc
  by_cases hdone:∀ i,i<n→listed.getD i false=true
  ·refine kzw ok (fuel+1) n listed a w (qw _) ok.len d.lsize (fun i hi=>⟨fun hl=>hh i (by
    simp [d.lsize,hi] at hl ⊢
    exact hl),fun hig=>by
    have:=hdone i hig
    simp [d.lsize,hi] at this ⊢
    exact this⟩) ?_ (fin listed a w d hdone)
   refine qaw ?_ hc
   rw [show l.length=n+(l.length - n) by have:=ok.len;omega,List.range_add,List.countP_append]
   have:((List.range (l.length - n)).map (n+·)).countP (fun k=>!listed.getD k true)=l.length - n:=by
    rw [List.countP_eq_length.2,qan,List.length_range]
    intro k hk
    simp only [qao,List.mem_range] at hk
    obtain ⟨m,hm,rfl⟩:=hk
    have hlt:n+m<l.length:=by omega
    have:listed.getD (n+m) false≠true:=fun h=>by have:=hh _ h;omega
    simp [d.lsize,hlt] at this ⊢
    exact this
   omega
  ·have hne:Region.ready .any l.toArray listed≠[]:=by
    have hex:∃ i,i<n∧listed.getD i false=false∧∀ j,j<i→listed.getD j false=true:=by
     have:∃ i,i<n∧listed.getD i false=false:=by
      simp only [Classical.not_forall] at hdone
      obtain ⟨i,hi,hb⟩:=hdone
      exact ⟨i,hi,by simpa using hb⟩
     obtain ⟨i,hi,hb⟩:=this
     induction i using Nat.strongRecOn with
     | _ i ihi=>
      by_cases hall:∀ j,j<i→listed.getD j false=true
      ·exact ⟨i,hi,hb,hall⟩
      ·simp only [Classical.not_forall] at hall
       obtain ⟨j,hj,hjb⟩:=hall
       exact ihi j hj (by omega) (by simpa using hjb)
    obtain ⟨i,hi,hb,hall⟩:=hex
    have hil:i<l.length:=by have:=ok.len;omega
    have:i∈Region.ready .any l.toArray listed:=mem_ready.2 ⟨by
     simp [d.lsize,hil] at hb ⊢
     exact hb,l[i],by simp [hil],fun e he hbd=>hall _ (ok.edges i _ (List.getElem?_eq_getElem hil) e he hbd)⟩
    intro h0
    rw [h0] at this
    cases this
   refine ⟨fun h0=>absurd h0 hne,fun i hi=>?_⟩
   obtain ⟨h0,o,ho,hall⟩:=mem_ready.1 hi
   have ho':l[i]?=some o:=by simpa using ho
   have hil:i<l.length:=(List.getElem?_eq_some_iff.1 ho').1
   have hun:=kajm h0
   have hancL:∀ j,anc l i j=true→listed.getD j false=true:=fun j hj=>
    kq8 (l:=l) (S:=fun j=>listed.getD j false=true) (fun m p hm hp e he hb=>d.closed m p hm hp e he hb) i o ho' hall j hj
   have hancU:∀ j,listed.getD j false=true→anc l j i=true→False:=fun j hj ha=>by
    have hjl:j<l.length:=by have:=gD_lt hj;rw [d.lsize] at this;exact this
    have:=kq8 (l:=l) (S:=fun j=>listed.getD j false=true) (fun m p hm hp e he hb=>d.closed m p hm hp e he hb) j l[j] (List.getElem?_eq_getElem hjl) (fun e he hb=>d.closed j _ hj (List.getElem?_eq_getElem hjl) e he hb) i ha
    rw [hun] at this
    cases this
   have hig:i<n:=by
    rcases qaz i n with h' | h'
    ·exact h'
    ·exfalso
     apply hdone
     intro j hj
     exact hancL j (ok.tail i j hil h' (by omega))
   obtain ⟨kD,ψ,S,hkn,hk,hs⟩:=d.inv
   have hdi:dstT l i=o.dst:=by unfold dstT;rw [ho'];rfl
   have hset:∀ k,(listed.setIfInBounds i true).getD k false=true→k=i∨listed.getD k false=true:=fun k hk=>by
    by_cases hik:i=k
    ·exact .inl hik.symm
    ·rw [getD_set_ne false hik] at hk;exact .inr hk
   have hseti:(listed.setIfInBounds i true).getD i false=true:=by simp [d.lsize,hil]
   have hdst:∀ t,o.dst=some t→t<st.n:=fun t ht=>ok.dst i o t hig ho' ht
   -- the heaps agree with the text's,for what the view holds
   have hHsame:(∀ e,e∈es→(e<i↔e<kD))→H i=H kD:=fun hse=>by
    rcases Nat.le_total i kD with hle | hle
    ·exact k3c (es:=es) (n:=n) hHc hle hkn fun e he h=>by have:=hse e he;omega
    ·exact (k3c (es:=es) (n:=n) hHc hle (by omega) fun e he h=>by have:=hse e he;omega).symm
   have hphase:phB l es i=true→H i=H kD:=fun hp=>hHsame fun e he=>by
    obtain ⟨h1,h2⟩:=hph i hp e he
    have h3:=hk e he
    constructor
    ·intro hlt;exact h3.1 (hancL e (h1 hlt))
    ·intro hlt
     rcases Nat.lt_trichotomy e i with h | h | h
     ·exact h
     ·subst h;rw [h3.2 hlt] at hun;cases hun
     ·exact (hancU e (h3.2 hlt) (h2 h)).elim
   -- the slots of the view
   have hview:∀ (K:Nat→Prop),(∀ id,id∈(H kD).2→K id)→∀ t,RV ψ K S w (a.tmps.getD t undef) (look .any (hadd (fsOf l c i) (kmp o) (ko6 l i n++st.tmps)) t):=fun K hK t=>by
    have ht:RV ψ (·∈(H kD).2) S w (a.tmps.getD t undef) (look .any (kmd (fsOf l c n) (fun j=>listed.getD j false) st.tmps) t):=hs.tmps t
    have uniq:∀ {j j':Nat},j<n→j'<n→dstT l j=some t→dstT l j'=some t→j=j':=fun {j j'} h1 h2 h3 h4=>by
     unfold dstT at h3 h4
     simp only [qi] at h3 h4
     obtain ⟨o1,p1,p2⟩:=h3
     obtain ⟨o2,q1,q2⟩:=h4
     exact ok.uniq j j' o1 o2 t h1 h2 p1 q1 p2 q2
    rcases kux (l:=l) (c:=c) (p:=kmp o) (base:=ko6 l i n++st.tmps) (t:=t) i with h | ⟨j,h1,h2,h3,h4⟩ | ⟨h1,h2⟩
    ·rw [h];exact .any
    ·rw [h4]
     have hjl:listed.getD j false=true:=by
      obtain ⟨e,he,hon,hb⟩:=afterB_iff.1 h2
      rw [← hon];exact hall e he hb
     rcases khw (l:=l) (c:=c) (p:=fun j=>listed.getD j false) (base:=st.tmps) (t:=t) n with ⟨j',e1,e2,e3,e4⟩ | ⟨e1,e2⟩
     ·rw [e4,uniq e1 (by omega) e3 h3] at ht
      exact ht.mono hK fun _ h=>h
     ·exact absurd h3 (e1 j (by omega) hjl)
    ·rw [h2]
     rcases kxn (l:=l) (i:=i) (base:=st.tmps) (t:=t) n with h | ⟨k1,k2⟩
     ·rw [h];exact .any
     ·rw [k2]
      rcases khw (l:=l) (c:=c) (p:=fun j=>listed.getD j false) (base:=st.tmps) (t:=t) n with ⟨j',e1,e2,e3,e4⟩ | ⟨e1,e2⟩
      ·exfalso
       rcases k1 j' e1 e3 with h | h
       ·rcases qaz j' i with h' | h'
        ·exact h1 j' h' e3
        ·obtain rfl:j'=i:=by omega
         rw [hun] at e2;cases e2
       ·exact hancU j' e2 h
      ·rw [e2] at ht
       exact ht.mono hK fun _ h=>h
   have fact:=hfact i o (qx _) hig ho'
   -- what a value in the slot leaves
   have next:∀ (kD':Nat) (ψ':Env) (S':Nat→Prop) (v:Value) (w':World),kD'≤n→(∀ e,e∈es→((listed.setIfInBounds i true).getD e false=true↔e<kD'))→(∀ e,pn=some e→e≠i)→Fr F w w' →
     Core F S0 N0 (H kD').1 (H kD').2 ψ' S' w'→RV ψ' (·∈(H kD').2) S' w' v (c i)→(∀ t,RV ψ' (·∈(H kD').2) S' w' (a.tmps.getD t undef) ((stZ l n st c H listed kD).get t)) →
     wpAny P .any l.toArray (PostA F S0 N0 w0 Q) fuel (listed.setIfInBounds i true) (a.put o.dst v) w':=fun kD' ψ' S' v w' q1 q2 q3 q4 q5 q6 q7=>by
    refine ih _ _ _ ⟨⟨kD',ψ',S',q1,q2,?_⟩,d.fr.trans q4,by simp [d.lsize],?_,?_⟩ (fun k hk=>(hset k hk).elim (fun e=>by omega) (hh k)) ?_
    ·refine ⟨by rw [k56];exact hs.defers,by rw [kxt];exact hs.size,fun t=>?_,q5⟩
     rw [ktl hs.size hdst]
     have q7:=q7 t
     show RV ψ' _ S' w' _ (look .any (kmd (fsOf l c n) (fun j=>(listed.setIfInBounds i true).getD j false) st.tmps) t)
     have q7:RV ψ' (·∈(H kD').2) S' w' (a.tmps.getD t undef) (look .any (kmd (fsOf l c n) (fun j=>listed.getD j false) st.tmps) t):=q7
     have uniq:∀ {j j':Nat},j<n→j'<n→dstT l j=some t→dstT l j'=some t→j=j':=fun {j j'} h1 h2 h3 h4=>by
      unfold dstT at h3 h4
      simp only [qi] at h3 h4
      obtain ⟨o1,p1,p2⟩:=h3
      obtain ⟨o2,p3,p4⟩:=h4
      exact ok.uniq j j' o1 o2 t h1 h2 p1 p3 p2 p4
     rcases khw (l:=l) (c:=c) (p:=fun j=>(listed.setIfInBounds i true).getD j false) (base:=st.tmps) (t:=t) n with ⟨j,e1,e2,e3,e4⟩ | ⟨e1,e2⟩
     ·rw [e4]
      by_cases hji:j=i
      ·subst hji
       rw [hdi] at e3
       rw [if_pos e3]
       exact q6
      ·have hjl:=(hset j e2).resolve_left hji
       rw [if_neg (fun h=>hji (uniq e1 hig e3 (by rw [hdi];exact h)))]
       rcases khw (l:=l) (c:=c) (p:=fun j=>listed.getD j false) (base:=st.tmps) (t:=t) n with ⟨j',f1,f2,f3,f4⟩ | ⟨f1,f2⟩
       ·rw [f4,uniq f1 e1 f3 e3] at q7;exact q7
       ·exact absurd e3 (f1 j e1 hjl)
     ·rw [e2,if_neg (fun h=>e1 i hig hseti (by rw [hdi];exact h))]
      rcases khw (l:=l) (c:=c) (p:=fun j=>listed.getD j false) (base:=st.tmps) (t:=t) n with ⟨j',f1,f2,f3,f4⟩ | ⟨f1,f2⟩
      ·exact absurd f3 (e1 j' f1 (getD_set_true f2))
      ·rw [f2] at q7;exact q7
    ·intro k p hk hp e he hbd
     rcases hset k hk with rfl | hk'
     ·rw [ho'] at hp
      obtain rfl:=qp hp
      exact getD_set_true (hall e he hbd)
     ·exact getD_set_true (d.closed k p hk' hp e he hbd)
    ·intro e he
     rw [getD_set_ne false (Ne.symm (q3 e he))]
     exact d.nopan e he
    ·have:=k0r (m:=l.length) hil h0 (by rw [d.lsize];exact hil)
     omega
   have hkeep:∀ e,e∈es→i∉es→((listed.setIfInBounds i true).getD e false=true↔e<kD):=fun e he hie=>by
    have hne:i≠e:=fun h=>hie (h ▸ he)
    rw [getD_set_ne false hne]
    exact hk e he
   unfold wpOp
   simp only [ho]
   rcases fact with ⟨_,e,he,_,ha⟩ | ⟨hes,hH1,hN,hNok⟩ | ⟨hes,hpe,hgs,hcond⟩ | ⟨hes,hpe,_,hg,pv,hp',ids',hstep,hq⟩
   ·have:=d.nopan e he
    rw [hancL e ha] at this
    cases this
   ·have hpi:∀ e,pn=some e→e≠i:=fun e he hei=>by
     subst hei
     have hel:=hpn e he
     have hone:e∈es:=by
      have hel':e<l.length:=by have:=ok.len;omega
      rcases hfact e l[e] (qx _) hel (List.getElem?_eq_getElem hel') with ⟨_,e',he',h1,_⟩ | ⟨h1,h2,h3⟩ | ⟨h1,_⟩ | ⟨h1,_⟩
      ·rw [he] at he'; injection he' with he'; omega
      ·exact (hpnes e he)
      ·exact h1
      ·exact h1
     exact hes hone
    -- one that changes nothing
    have hids:∀ id,id∈(H kD).2→id∈(kiv l n es ch ai st i o (fsOf l c i) (H i).1 (H i).2).ids:=fun id=>by
     show _→id∈(bif phB l es i then (H i).2 else ai)
     cases hp:phB l es i with
     | true=>simp only [qd];rw [hphase hp];exact fun h=>h
     | false=>simp only [qb];exact (hidsAll (fun h=>by rw [h i hig] at hp;cases hp) kD hkn).1 id
    have hback:∀ {v:Value} {S':Nat→Prop} {w':World},RV ψ (·∈(kiv l n es ch ai st i o (fsOf l c i) (H i).1 (H i).2).ids) S' w' v (c i)→RV ψ (·∈(H kD).2) S' w' v (c i):=fun {v S' w'} hv=>by
     cases hp:phB l es i with
     | true=>
      have he:(kiv l n es ch ai st i o (fsOf l c i) (H i).1 (H i).2).ids=(H kD).2:=by
       show (bif phB l es i then (H i).2 else ai)=_
       rw [hp,qd,hphase hp]
      rw [he] at hv;exact hv
     | false=>
      rw [hp,Bool.false_or] at hNok
      exact (hv.subA hNok).mono (hidsAll (fun h=>by rw [h i hig] at hp;cases hp) kD hkn).2 fun _ h=>h
    have hvt:∀ t,RV ψ (·∈(kiv l n es ch ai st i o (fsOf l c i) (H i).1 (H i).2).ids) S w (a.tmps.getD t undef) ((kiv l n es ch ai st i o (fsOf l c i) (H i).1 (H i).2).get t):=hview _ hids
    have hvo:∀ id ob,kab (kiv l n es ch ai st i o (fsOf l c i) (H i).1 (H i).2).heap id=some ob→ObR ψ (·∈(kiv l n es ch ai st i o (fsOf l c i) (H i).1 (H i).2).ids) S w id ob:=fun id ob hob=>by
     have hob':kab (H kD).1 id=some ob:=by
      have hob:kab (bif phB l es i then (H i).1 else krt ch st.heap) id=some ob:=hob
      cases hp:phB l es i with
      | true=>rw [hp] at hob;simp only [qd] at hob;rw [hphase hp] at hob;exact hob
      | false=>
       rw [hp] at hob
       obtain ⟨g1,g2⟩:=kvu hob
       exact hheapAll (fun h=>by rw [h i hig] at hp;cases hp) kD hkn id g1 ob g2
     obtain ⟨g1,g2,g3⟩:=hs.core.obj id ob hob'
     exact g2.keep Ext.refl hids (fun _ h=>h) (fun _ _ _=>rfl) ⟨rfl,rfl⟩ (fun _ _=>rfl)
    rcases hN with ⟨hg,hN⟩ | ⟨hg,hN⟩
    ·have hw:=kz1 (st:=kiv l n es ch ai st i o (fsOf l c i) (H i).1 (H i).2) hvt hg
     rw [if_pos hw]
     refine .inl (ksg ?_ (hN ψ S a w hvt hvo))
     rintro v w' ⟨g1,g2⟩
     refine next kD ψ (fun b=>(S b∨w.heap.size≤b)∧b<w'.heap.size) v w' hkn (fun e he=>hkeep e he hes) hpi (Fr.of_grow hs.core.fr g1) (hs.core.grow g1) ?_ fun t=>?_
     ·exact (hback g2).bound.mono (fun _ h=>h) fun _ h=>h
     ·exact (hs.tmps t).keep Ext.refl (fun _ h=>h) (fun b hb=>⟨.inl hb,Nat.lt_of_lt_of_le (hs.core.lt b hb) g1.size⟩) (Same.of_grow g1)
    ·have hw:=kz1 (st:=kiv l n es ch ai st i o (fsOf l c i) (H i).1 (H i).2) hvt hg
     rw [if_neg (by rw [hw];exact Bool.false_ne_true)]
     exact next kD ψ S undef w hkn (fun e he=>hkeep e he hes) hpi Fr.refl hs.core (by rw [hN];exact .fz RF.undef) fun t=>hs.tmps t
   ·-- one of the chain
    have hp:=(hchain i hes).2
    have hHi:=hphase hp
    have hvs:Sim F S0 N0 (kiv l n es ch ai st i o (fsOf l c i) (H i).1 (H i).2) ψ S a w:=by
     refine ⟨hs.defers,hs.size,fun t=>?_,?_⟩
     ·show RV ψ (·∈(bif phB l es i then (H i).2 else ai)) S w _ _
      rw [hp]
      simp only [qd]
      rw [hHi]
      have:=hview (·∈(H kD).2) (fun _ h=>h) t
      rw [← hHi] at this ⊢
      exact this
     ·show Core F S0 N0 (bif phB l es i then (H i).1 else krt ch st.heap) (bif phB l es i then (H i).2 else ai) ψ S w
      rw [hp]
      simp only [qd]
      rw [hHi]
      exact hs.core
    have hv2:(kiv l n es ch ai st i o (fsOf l c i) (H i).1 (H i).2).ids=(H kD).2:=by
     show (bif phB l es i then (H i).2 else ai)=_
     rw [hp,qd,hHi]
    have hnext:∀ e,e∈es→((listed.setIfInBounds i true).getD e false=true↔e<i+1):=fun e he=>by
     have h3:=hk e he
     obtain ⟨h1,h2⟩:=hph i hp e he
     by_cases hei:i=e
     ·subst hei;rw [hseti];simp
     ·rw [getD_set_ne false hei,h3]
      constructor
      ·intro hlt
       rcases qaz e i with h | h
       ·omega
       ·exact (hancU e (h3.2 hlt) (h2 (by omega))).elim
      ·intro hlt
       exact h3.1 (hancL e (h1 (by omega)))
    rcases hgs with ⟨hg,hstep⟩ | ⟨hg,hcu,hh,hii⟩
    ·have hw:=kjw hvs hg
     rw [if_pos hw]
     refine .inl (ksg ?_ (hstep F S0 N0 ψ S a w hvs))
     rintro v w' ⟨ψ',S',g1,g2,g3,g4,g5,g6,g7⟩
     rw [hv2] at g4 g5
     exact next (i+1) ψ' S' v w' (by omega) hnext (fun e he hei=>by have:=hpe e he;omega) g3 g1 g2 fun t=>(hs.tmps t).keep g4 g5 g6 g7
    ·have hw:=kjw hvs hg
     rw [if_neg (by rw [hw];exact Bool.false_ne_true)]
     have hH1:H (i+1)=H kD:=by rw [← hHi];exact Prod.ext hh hii
     refine next (i+1) ψ S undef w (by omega) hnext (fun e he hei=>by have:=hpe e he;omega) Fr.refl ?_ ?_ fun t=>?_
     ·rw [hH1];exact hs.core
     ·rw [hcu];exact .fz RF.undef
     ·rw [hH1];exact hs.tmps t
   ·-- one that panics
    have hp:=(hchain i hes).2
    have hHi:=hphase hp
    have hvs:Sim F S0 N0 (kiv l n es ch ai st i o (fsOf l c i) (H i).1 (H i).2) ψ S a w:=by
     refine ⟨hs.defers,hs.size,fun t=>?_,?_⟩
     ·show RV ψ (·∈(bif phB l es i then (H i).2 else ai)) S w _ _
      rw [hp]
      simp only [qd]
      rw [hHi]
      have:=hview (·∈(H kD).2) (fun _ h=>h) t
      rw [← hHi] at this ⊢
      exact this
     ·show Core F S0 N0 (bif phB l es i then (H i).1 else krt ch st.heap) (bif phB l es i then (H i).2 else ai) ψ S w
      rw [hp]
      simp only [qd]
      rw [hHi]
      exact hs.core
    have hw:=kjw hvs hg
    rw [if_pos hw]
    refine .inl (hstep F S0 N0 ψ S a w hvs _ _ ?_)
    rintro w' ⟨ψ',S',g1,g2⟩
    exact ⟨_,ψ',S',hq,⟨hs.defers,hs.size,fun t => .any,g1⟩,d.fr.trans g2⟩
end
end Go.Proofs.YtaimpcnpifoidaaGreatDoor
