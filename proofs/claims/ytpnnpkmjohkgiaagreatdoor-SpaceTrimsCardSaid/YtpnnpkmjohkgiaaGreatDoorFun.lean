import Derived.Test.YtpnnpkmjohkgiaaGreatDoorRun
set_option linter.all false
namespace Go.Proofs.YtpnnpkmjohkgiaaGreatDoor
open Go Go.RowKit
inductive C0 where
 | keep
 | zr
 | sl (size:Nat)
 | px
inductive C1 where
 | one (c:C0)
 | ag (l:List C0)
 | drop
def co0F:C0->FV->FV
 | .sl size, .atom (.slice none 0 0)=>bif Nat.ble 1 size then .lst size 0 [] else .atom (.slice none 0 0)
 | .px, .atom (.pointer none) => .bx []
 | _,x=>x
def co0:C0->AV->AV
 | c, .fz x => .fz (co0F c x)
 | .sl _, .lim s n xs => .fz (.lst s n xs)
 | .zr, .row id _ => .row id 0
 | _,x=>x
def zipF:List C0->List FV->List FV
 | c::l,x::xs=>co0F c x::zipF l xs
 | _,xs=>xs
def zip0:List C0->List AV->List AV
 | c::l,x::xs=>co0 c x::zip0 l xs
 | _,xs=>xs
def co1:C1->AV->AV
 | .one c,x=>co0 c x
 | .ag l, .fz (.agg xs) => .fz (.agg (zipF l xs))
 | .ag l, .agg xs=>aggA (zip0 l xs)
 | .ag _,x=>x
 | .drop,_ => .any
def ok0 (ids:List Nat):AV->Bool
 | .fz _=>true
 | .ref id _ _=>ids.contains id
 | .row id _=>ids.contains id
 | .mp id=>ids.contains id
 | .opt id=>ids.contains id
 | .sdp id _=>ids.contains id
 | .win id _ _ _=>ids.contains id
 | .irow id _ _=>ids.contains id
 | .iref id _ _ _=>ids.contains id
 | .lim _ _ _=>true
 | .any=>true
 | _=>false
def ok1 (ids:List Nat):AV->Bool
 | .agg cs=>cs.all (ok0 ids)
 | .tup cs=>cs.all (ok0 ids)
 | .fn _ cs=>cs.all (ok0 ids)
 | .mth _ cs=>cs.all (ok0 ids)
 | x=>ok0 ids x
def kj0 (st:St) (ids:List Nat):List (Nat×C1)->Option (List (Nat×AV))
 | []=>some []
 | (t,c)::l=>match ok1 ids (co1 c (st.get t)),kj0 st ids l with
  | true,some r=>some ((t,co1 c (st.get t))::r)
  | _,_=>none
def kjy (st:St) (ids:List Nat):List (Nat×List C0)->Option (List (Nat×AObj))
 | []=>some []
 | (id,l)::r=>match kab st.heap id,kjy st ids r with
  | some (.box e cells),some r'=>bif ids.contains id && (zip0 l cells).all (ok1 ids) then some ((id, .box e (zip0 l cells))::r') else none
  | some (.frow e s xs),some r'=>bif ids.contains id then some ((id, .frow e s xs)::r') else none
  | some (.gho cs vs),some r'=>bif ids.contains id && vs.all (ok1 ids) then some ((id, .gho cs vs)::r') else none
  | some (.was ψ0 ids0 S0 w0),some r'=>bif ids.contains id && ids0.all ids.contains then some ((id, .was ψ0 ids0 S0 w0)::r') else none
  | some (.smap kv),some r'=>bif ids.contains id then some ((id, .smap kv)::r') else none
  | some (.tab g ov eo ei rows),some r'=>bif ids.contains id then some ((id, .tab g ov eo ei rows)::r') else none
  | some (.glb gs),some r'=>bif ids.contains id then some ((id, .glb gs)::r') else none
  | some (.sit s pos),some r'=>bif ids.contains id then some ((id, .sit s pos)::r') else none
  | some (.memo Φ h),some r'=>bif ids.contains id then some ((id, .memo Φ none)::r') else none
  | some (.xo (.imap kv)),some r'=>bif ids.contains id then some ((id, .xo (.imap kv))::r') else none
  | _,_=>none
def coSt (st:St) (ids:List Nat) (ts:List (Nat×C1)) (os:List (Nat×List C0)):Option St:=match ids.all st.ids.contains,kj0 st ids ts,kjy st ids os with
 | true,some tmps,some heap=>some { n:=st.n,tmps:=tmps,heap:=heap,ids:=ids,dfr:=st.dfr }
 | _,_,_=>none
section
variable {P:Program} {F S0:Nat->Prop} {N0:Nat} {w w':World} {S S':Nat->Prop} {ψ:Env} {K K':Nat->Prop} {T:List (TypeId×TD)} {o:Oper} {a:Act} {st:St} {t:TypeId} {d:TD} {ids:List Nat}
theorem kqk {c:C0} {v:Value} {x:FV} (h:RF S w v x):RF S w v (co0F c x):=by
 unfold co0F;split
 ·rename_i size;cases b:Nat.ble 1 size with
  | false=>exact h
  | true=>
   rw [h.atom_eq];exact .lst (A:=none) (cap:=0) (xs:=[]) (fun _=>[]) rfl (qt _) (by omega) (qk b) (fun i x a=>by simp at a) (fun i x a=>by simp at a) (fun i x j v y a=>by simp at a)
 rw [h.atom_eq];exact .bn
 ·exact h
theorem kk4 {c:C0} {x:FV} (h:x.single=true):(co0F c x).single=true:=by
 unfold co0F;split;rename_i size;cases a:Nat.ble 1 size <;> rfl;rfl
 ·exact h
theorem kul {c:C0} {v:Value} {x:AV} (h:RV ψ K S w v x):RV ψ K S w v (co0 c x):=by
 unfold co0;split;exact .fz (kqk h.inv)
 ·cases h with | lim h=>exact .fz h
 ·cases h with | row hK hn h1 hv=>exact .row hK (qar _) h1 fun h=>hv (by omega)
 ·exact h
theorem kre {c:C0} {x:AV} (h:x.single=true):(co0 c x).single=true:=by
 unfold co0;split;exact kk4 h;rfl;rfl
 ·exact h
theorem klc:∀ (l:List C0) (xs:List FV) (i:Nat) (y:FV),(zipF l xs)[i]?=some y->∃ c x,xs[i]?=some x/\(y=co0F c x\/y=x)
 | [],xs,i,y,h=>⟨.keep,y,by cases xs <;> exact h, .inr rfl⟩
 | c::l,[],i,y,h=>by simp [zipF] at h
 | c::l,x::xs,0,y,h=>by simp [zipF] at h;exact ⟨c,x,rfl, .inl h.symm⟩
 | c::l,x::xs,i+1,y,h=>by simp only [zipF,List.getElem?_cons_succ] at h ⊢;exact klc l xs i y h
theorem ko5:∀ (l:List C0) (xs:List FV),(zipF l xs).length=xs.length
 | [],xs=>by cases xs <;> rfl
 | c::l,[]=>rfl
 | c::l,x::xs=>by simp [zipF,ko5 l xs]
theorem kk8:∀ (l:List C0) (xs:List AV) (i:Nat) (y:AV),(zip0 l xs)[i]?=some y->∃ c x,xs[i]?=some x/\(y=co0 c x\/y=x)
 | [],xs,i,y,h=>⟨.keep,y,by cases xs <;> exact h, .inr rfl⟩
 | c::l,[],i,y,h=>by simp [zip0] at h
 | c::l,x::xs,0,y,h=>by simp [zip0] at h;exact ⟨c,x,rfl, .inl h.symm⟩
 | c::l,x::xs,i+1,y,h=>by simp only [zip0,List.getElem?_cons_succ] at h ⊢;exact kk8 l xs i y h
theorem klb:∀ (l:List C0) (xs:List AV),(zip0 l xs).length=xs.length
 | [],xs=>by cases xs <;> rfl
 | c::l,[]=>rfl
 | c::l,x::xs=>by simp [zip0,klb l xs]
theorem kq6 {l:List C0} {cs:Array Value} {xs:List AV} (h1:∀ x∈xs,x.single=true) (hr:∀ (i:Nat) (v:Value) (x:AV),cs[i]?=some v->xs[i]?=some x->RV ψ K S w v x):
  (∀ x∈zip0 l xs,x.single=true)/\∀ (i:Nat) (v:Value) (x:AV),cs[i]?=some v->(zip0 l xs)[i]?=some x->RV ψ K S w v x:=by
 refine ⟨fun x a=>?_,fun i v x hv a=>?_⟩
 ·obtain ⟨i,hi⟩:=qaq.1 a;obtain ⟨c,y,hy,b⟩:=kk8 l xs i x hi;have:=h1 y (qm hy);rcases b with rfl | rfl;exact kre this
  ·exact this
 ·obtain ⟨c,y,hy,b⟩:=kk8 l xs i x a;have:=hr i v y hv hy;rcases b with rfl | rfl;exact kul this
  ·exact this
theorem kjk {c:C1} {v:Value} {x:AV} (h:RV ψ K S w v x):RV ψ K S w v (co1 c x):=by
 unfold co1;split;exact kul h
 ·rename_i l xs;have h:=h.inv;cases h with
  | agg hs h1 hr=>
   refine .fz (.agg (by rw [ko5];exact hs) (fun y hy=>?_) fun i v y hv hy=>?_)
   ·obtain ⟨i,hi⟩:=qaq.1 hy;obtain ⟨c,z,a,b⟩:=klc l xs i y hi;have:=h1 z (qm a);rcases b with rfl | rfl;exact kk4 this
    ·exact this
   ·obtain ⟨c,z,a,b⟩:=klc l xs i y hy;have:=hr i v z hv a;rcases b with rfl | rfl;exact kqk this
    ·exact this
 ·rename_i l xs;cases h with
  | agg hs h1 hr=>
   obtain ⟨z1,z2⟩:=kq6 (l:=l) h1 hr;exact RV.aggA (by rw [klb];exact hs) z1 z2
 exact h
 ·exact .any
theorem RV.sub0 {v:Value} {x:AV} (h:RV ψ K S w v x) (ho:ok0 ids x=true):RV ψ (·∈ids) S w v x:=by
 cases h with
 | fz h=>exact .fz h
 | agg=>cases ho
 | tup=>cases ho
 | ref hK hn h1 hv=>exact .ref (by simpa [ok0] using ho) hn h1 hv
 | row hK hn h1 hv=>exact .row (by simpa [ok0] using ho) hn h1 hv
 | lim h=>exact .lim h
 | mp hK h1 hv=>exact .mp (by simpa [ok0] using ho) h1 hv
 | opt hK h1 hv=>exact .opt (by simpa [ok0] using ho) h1 hv
 | sdp hK hn h1 hv=>exact .sdp (by simpa [ok0] using ho) hn h1 hv
 | win hK hn h1 hv=>exact .win (by simpa [ok0] using ho) hn h1 hv
 | irow hK hn h1 hv=>exact .irow (by simpa [ok0] using ho) hn h1 hv
 | iref hK hn h1 hv=>exact .iref (by simpa [ok0] using ho) hn h1 hv
 | bsl=>cases ho
 | fn=>cases ho
 | mth=>cases ho
 | any=>exact .any
theorem RV.sub1 {v:Value} {x:AV} (h:RV ψ K S w v x) (ho:ok1 ids x=true):RV ψ (·∈ids) S w v x:=by
 cases h with
 | fz h=>exact .fz h
 | agg hs h1 hr=>exact .agg hs h1 fun i v x hv a=>(hr i v x hv a).sub0 (ql.1 ho x (qm a))
 | tup hs hr=>exact .tup hs fun i v x hv a=>(hr i v x hv a).sub0 (ql.1 ho x (qm a))
 | ref hK hn h1 hv=>exact .ref (by simpa [ok1,ok0] using ho) hn h1 hv
 | row hK hn h1 hv=>exact .row (by simpa [ok1,ok0] using ho) hn h1 hv
 | lim h=>exact .lim h
 | mp hK h1 hv=>exact .mp (by simpa [ok1,ok0] using ho) h1 hv
 | opt hK h1 hv=>exact .opt (by simpa [ok1,ok0] using ho) h1 hv
 | sdp hK hn h1 hv=>exact .sdp (by simpa [ok1,ok0] using ho) hn h1 hv
 | win hK hn h1 hv=>exact .win (by simpa [ok1,ok0] using ho) hn h1 hv
 | irow hK hn h1 hv=>exact .irow (by simpa [ok1,ok0] using ho) hn h1 hv
 | iref hK hn h1 hv=>exact .iref (by simpa [ok1,ok0] using ho) hn h1 hv
 | bsl=>cases ho
 | fn hs hr=>exact .fn hs fun i v x hv a=>(hr i v x hv a).sub0 (ql.1 ho x (qm a))
 | mth hs hr=>exact .mth hs fun i v x hv a=>(hr i v x hv a).sub0 (ql.1 ho x (qm a))
 | any=>exact .any
theorem klr:∀ {ts:List (Nat×C1)} {r:List (Nat×AV)} (t:Nat),kj0 st ids ts=some r->look .any r t = .any\/∃ c,look .any r t=co1 c (st.get t)/\ok1 ids (co1 c (st.get t))=true
 | [],r,t,h=>by simp only [kj0,qb] at h;subst h;exact .inl rfl
 | (k,c)::l,r,t,h=>by
  simp only [kj0] at h;split at h
  ·rename_i r' h1 a;injection h with h;subst h;rw [ka5];by_cases hk:k=t;subst hk;rw [qq rfl];exact .inr ⟨c,rfl,h1⟩
   ·rw [qh hk];exact klr t a
  ·cases h
theorem kcb:∀ {os:List (Nat×List C0)} {r:List (Nat×AObj)} (id:Nat) (ob:AObj),kjy st ids os=some r->kab r id=some ob->id∈ids /\
  ((∃ l e cells,kab st.heap id=some (.box e cells)/\ob = .box e (zip0 l cells)/\(zip0 l cells).all (ok1 ids)=true)\/(∃ e s xs,kab st.heap id=some (.frow e s xs)/\ob = .frow e s xs)\/(∃ cs vs,kab st.heap id=some (.gho cs vs)/\ob = .gho cs vs/\vs.all (ok1 ids)=true) \/
   (∃ ψ0 ids0 S0 w0,kab st.heap id=some (.was ψ0 ids0 S0 w0)/\ob = .was ψ0 ids0 S0 w0/\ids0.all ids.contains=true)\/(∃ kv,kab st.heap id=some (.smap kv)/\ob = .smap kv)\/(∃ g ov eo ei rows,kab st.heap id=some (.tab g ov eo ei rows)/\ob = .tab g ov eo ei rows)\/(∃ gs,kab st.heap id=some (.glb gs)/\ob = .glb gs)\/(∃ s pos,kab st.heap id=some (.sit s pos)/\ob = .sit s pos)\/(∃ Φ h,kab st.heap id=some (.memo Φ h)/\ob = .memo Φ none)\/∃ kv,kab st.heap id=some (.xo (.imap kv))/\ob = .xo (.imap kv))
 | [],r,id,ob,h,ho=>by simp only [kjy,qb] at h;subst h;cases ho
 | (k,l)::os,r,id,ob,h,ho=>by
  simp only [kjy] at h;split at h
  ·rename_i e cells r' h1 b;cases a:(ids.contains k && (zip0 l cells).all (ok1 ids)) with
   | false=>rw [a] at h;cases h
   | true=>
    rw [a] at h;simp only [qe,qb] at h;subst h;rw [kae] at ho;simp only [qn] at a;by_cases hk:k=id;subst hk;rw [qq rfl] at ho;injection ho with ho;exact ⟨by simpa using a.1, .inl ⟨l,e,cells,h1,ho.symm,a.2⟩⟩
    ·rw [qh hk] at ho;exact kcb id ob b ho
  ·rename_i e s xs r' h1 b;cases a:ids.contains k with
   | false=>rw [a] at h;cases h
   | true=>
    rw [a] at h;simp only [qe,qb] at h;subst h;rw [kae] at ho;by_cases hk:k=id;subst hk;rw [qq rfl] at ho;injection ho with ho;exact ⟨by simpa using a, .inr (.inl ⟨e,s,xs,h1,ho.symm⟩)⟩
    ·rw [qh hk] at ho;exact kcb id ob b ho
  ·rename_i cs vs r' h1 b;cases a:(ids.contains k && vs.all (ok1 ids)) with
   | false=>rw [a] at h;cases h
   | true=>
    rw [a] at h;simp only [qe,qb] at h;subst h;rw [kae] at ho;simp only [qn] at a;by_cases hk:k=id;subst hk;rw [qq rfl] at ho;injection ho with ho;exact ⟨by simpa using a.1, .inr (.inr (.inl ⟨cs,vs,h1,ho.symm,a.2⟩))⟩
    ·rw [qh hk] at ho;exact kcb id ob b ho
  ·rename_i ψ0 ids0 S0 w0 r' h1 b;cases a:(ids.contains k && ids0.all ids.contains) with
   | false=>rw [a] at h;cases h
   | true=>
    rw [a] at h;simp only [qe,qb] at h;subst h;rw [kae] at ho;simp only [qn] at a;by_cases hk:k=id;subst hk;rw [qq rfl] at ho;injection ho with ho;exact ⟨by simpa using a.1, .inr (.inr (.inr (.inl ⟨ψ0,ids0,S0,w0,h1,ho.symm,a.2⟩)))⟩
    ·rw [qh hk] at ho;exact kcb id ob b ho
  ·rename_i kv r' h1 b;cases a:ids.contains k with
   | false=>rw [a] at h;cases h
   | true=>
    rw [a] at h;simp only [qe,qb] at h;subst h;rw [kae] at ho;by_cases hk:k=id;subst hk;rw [qq rfl] at ho;injection ho with ho;exact ⟨by simpa using a, .inr (.inr (.inr (.inr (.inl ⟨kv,h1,ho.symm⟩))))⟩
    ·rw [qh hk] at ho;exact kcb id ob b ho
  ·rename_i g ov eo ei rows r' h1 b;cases a:ids.contains k with
   | false=>rw [a] at h;cases h
   | true=>
    rw [a] at h;simp only [qe,qb] at h;subst h;rw [kae] at ho;by_cases hk:k=id;subst hk;rw [qq rfl] at ho;injection ho with ho;exact ⟨by simpa using a, .inr (.inr (.inr (.inr (.inr (.inl ⟨g,ov,eo,ei,rows,h1,ho.symm⟩)))))⟩
    ·rw [qh hk] at ho;exact kcb id ob b ho
  ·rename_i gs r' h1 b;cases a:ids.contains k with
   | false=>rw [a] at h;cases h
   | true=>
    rw [a] at h;simp only [qe,qb] at h;subst h;rw [kae] at ho;by_cases hk:k=id;subst hk;rw [qq rfl] at ho;injection ho with ho;exact ⟨by simpa using a, .inr (.inr (.inr (.inr (.inr (.inr (.inl ⟨gs,h1,ho.symm⟩))))))⟩
    ·rw [qh hk] at ho;exact kcb id ob b ho
  ·rename_i s pos r' h1 b;cases a:ids.contains k with
   | false=>rw [a] at h;cases h
   | true=>
    rw [a] at h;simp only [qe,qb] at h;subst h;rw [kae] at ho;by_cases hk:k=id;subst hk;rw [qq rfl] at ho;injection ho with ho;exact ⟨by simpa using a, .inr (.inr (.inr (.inr (.inr (.inr (.inr (.inl ⟨s,pos,h1,ho.symm⟩)))))))⟩
    ·rw [qh hk] at ho;exact kcb id ob b ho
  ·rename_i Φ c r' h1 b;cases a:ids.contains k with
   | false=>rw [a] at h;cases h
   | true=>
    rw [a] at h;simp only [qe,qb] at h;subst h;rw [kae] at ho;by_cases hk:k=id;subst hk;rw [qq rfl] at ho;injection ho with ho;exact ⟨by simpa using a, .inr (.inr (.inr (.inr (.inr (.inr (.inr (.inr (.inl ⟨Φ,c,h1,ho.symm⟩))))))))⟩
    ·rw [qh hk] at ho;exact kcb id ob b ho
  ·rename_i kv r' h1 b;cases a:ids.contains k with
   | false=>rw [a] at h;cases h
   | true=>
    rw [a] at h;simp only [qe,qb] at h;subst h;rw [kae] at ho;by_cases hk:k=id;subst hk;rw [qq rfl] at ho;injection ho with ho;exact ⟨by simpa using a, .inr (.inr (.inr (.inr (.inr (.inr (.inr (.inr (.inr ⟨kv,h1,ho.symm⟩))))))))⟩
    ·rw [qh hk] at ho;exact kcb id ob b ho
  ·cases h
theorem le_co {st':St} {ts:List (Nat×C1)} {os:List (Nat×List C0)} (h:coSt st ids ts os=some st'):LeSt st st':=by
 unfold coSt at h;split at h
 ·rename_i tmps heap h1 u m;injection h with h;subst h;intro F S0 N0 ψ S a w hs;refine ⟨ψ,S,hs.defers,hs.size,fun t=>?_,⟨fun id ob ho=>?_,fun id id' o o' b ho n p y=>?_,hs.core.lt,hs.core.s0,hs.core.n0,hs.core.fr⟩⟩
  ·rcases klr t u with h | ⟨c,h,hk⟩;show RV ψ _ S w _ (look .any tmps t);rw [h];exact .any
   ·show RV ψ _ S w _ (look .any tmps t);rw [h];exact (kjk (hs.tmps t)).sub1 hk
  ·obtain ⟨f,q⟩:=kcb id ob m ho;rcases q with ⟨l,e,cells,d,rfl,g⟩ | ⟨e,s,xs,d,rfl⟩ | ⟨cs,vs,d,rfl,g⟩ | ⟨ψ0,ids0,S0,w0,d,rfl,g⟩ | ⟨kv,d,rfl⟩ | ⟨_,_,_,_,_,d,rfl⟩ | ⟨_,d,rfl⟩ | ⟨_,_,d,rfl⟩ | ⟨_,_,d,rfl⟩ | ⟨_,d,rfl⟩;obtain ⟨_,⟨k0,b,cs,k1,k2,k3,k4,k5⟩,k6⟩:=hs.core.obj id _ d;obtain ⟨z1,z2⟩:=kq6 (l:=l) k4 k5;exact ⟨f,⟨k0,b,cs,k1,k2,by rw [klb];exact k3,z1,fun i v x hv j=>(z2 i v x hv j).sub1 (ql.1 g x (qm j))⟩,k6⟩;obtain ⟨_,k,k6⟩:=hs.core.obj id _ d;exact ⟨f,k,k6⟩;obtain ⟨_,⟨k0,k1,kn,k3⟩,k6⟩:=hs.core.obj id _ d;exact ⟨f,⟨k0,k1,kn,fun i v x hv j=>(k3 i v x hv j).sub1 (ql.1 g x (qm j))⟩,k6⟩;obtain ⟨_,⟨k0,k1,kn,k2,k3,k4,k5⟩,k6⟩:=hs.core.obj id _ d;exact ⟨f,⟨k0,k1,kn,k2,fun i hi=>by simpa using ql.1 g i hi,k4,k5⟩,k6⟩;obtain ⟨_,k,k6⟩:=hs.core.obj id _ d;exact ⟨f,k,k6⟩;obtain ⟨_,k,k6⟩:=hs.core.obj id _ d;exact ⟨f,k,k6⟩;obtain ⟨_,k,k6⟩:=hs.core.obj id _ d;exact ⟨f,k,k6⟩;obtain ⟨_,k,k6⟩:=hs.core.obj id _ d;exact ⟨f,k,k6⟩;obtain ⟨_,⟨k0,b,es,cl,k1,k2,k3⟩,k6⟩:=hs.core.obj id _ d;exact ⟨f,⟨k0,b,es,cl,k1,k2,k3.1,trivial⟩,k6⟩
   ·obtain ⟨_,k,k6⟩:=hs.core.obj id _ d;exact ⟨f,k,k6⟩
  ·obtain ⟨_,q⟩:=kcb id o m ho;obtain ⟨_,r⟩:=kcb id' o' m n;have k1:∃ o,kab st.heap id=some o:=(by rcases q with ⟨l,_,cells,d,_⟩ | ⟨e,s,xs,d,_⟩ | ⟨cs,vs,d,_⟩ | ⟨_,_,_,_,d,_⟩ | ⟨_,d,_⟩ | ⟨_,_,_,_,_,d,_⟩ | ⟨_,d,_⟩ | ⟨_,_,d,_⟩ | ⟨_,_,d,_⟩ | ⟨_,d,_⟩ <;> exact ⟨_,d⟩);have k2:∃ o,kab st.heap id'=some o:=(by rcases r with ⟨l,_,cells,d,_⟩ | ⟨e,s,xs,d,_⟩ | ⟨cs,vs,d,_⟩ | ⟨_,_,_,_,d,_⟩ | ⟨_,d,_⟩ | ⟨_,_,_,_,_,d,_⟩ | ⟨_,d,_⟩ | ⟨_,_,d,_⟩ | ⟨_,_,d,_⟩ | ⟨_,d,_⟩ <;> exact ⟨_,d⟩);obtain ⟨o1,k1⟩:=k1;obtain ⟨o2,k2⟩:=k2;exact hs.core.inj id id' o1 o2 b k1 k2 p y
 ·cases h
def kb6 (id:Nat):List (Nat×AObj)->List (Nat×AObj)
 | []=>[]
 | (k,v)::l=>bif Nat.beq k id then kb6 id l else (k,v)::kb6 id l
theorem kda (id:Nat):∀ {l:List (Nat×AObj)} {k:Nat} {ob:AObj},kab (kb6 id l) k=some ob->k≠id/\kab l k=some ob
 | [],k,ob,h=>by cases h
 | (j,v)::l,k,ob,h=>by
  simp only [kb6] at h;cases a:Nat.beq j id with
  | true=>
   rw [a] at h;obtain rfl:=qf a;obtain ⟨h1,b⟩:=kda j h;refine ⟨h1,?_⟩;rw [kae,qh (Ne.symm h1)];exact b
  | false=>
   rw [a] at h;simp only [qg,kae] at h;rw [kae];by_cases hk:j=k;subst hk;rw [qq rfl] at h ⊢;exact ⟨(fun e=>by subst e;rw [Nat.beq_refl] at a;cases a),h⟩
   ·rw [qh hk] at h ⊢;exact kda id h
theorem kmf {id:Nat}:∀ {l:List (Nat×AObj)} {k:Nat} {ob:AObj},k≠id->kab l k=some ob->kab (kb6 id l) k=some ob
 | [],k,ob,_,h=>by cases h
 | (j,v)::l,k,ob,a,h=>by
  simp only [kb6];rw [kae] at h;by_cases b:j=k;subst b;rw [qq rfl] at h;rw [Nat.beq_eq_false a];simp only [qg,kae];exact h
  ·rw [qh b] at h;have ih:=kmf a h;cases c:Nat.beq j id with
   | true=>exact ih
   | false=>
    simp only [qg,kae];rw [qh b];exact ih
theorem kh6 {heap:List (Nat×AObj)} {ids:List Nat} {id:Nat} {e:TypeId} {size:Nat} {xs:List FV} (h:Core F S0 N0 heap ids ψ S w) (ho:kab heap id=some (.frow e size xs)):
  Core F S0 N0 (kb6 id heap) ids ψ (fun b=>S b\/kav (ψ.val id)=some b) w/\RF (fun b=>S b\/kav (ψ.val id)=some b) w (ψ.val id) (.lst size xs.length xs):=by
 obtain ⟨I,p,z⟩:=h.obj id _ ho;have q:=p;obtain ⟨h0,r,cs,f,B,hr⟩:=p;refine ⟨⟨fun k ob hk=>?_,fun k k' o o' b hk l m a C=>?_,fun b a=>?_,fun b a=>?_,h.n0,h.fr⟩,?_⟩
 ·obtain ⟨m,hk⟩:=kda id hk;obtain ⟨h1,J,H⟩:=h.obj k ob hk;refine ⟨h1,J.keep Ext.refl (fun _ h=>h) (fun b a => .inl a) (fun _ _ _=>rfl) ⟨rfl,rfl⟩ (fun _ _=>rfl),fun b a=>⟨fun hs=>?_,(H b a).2⟩⟩;rcases hs with hs | hs;exact (H b a).1 hs
  ·exact h.inj k id ob _ b hk ho m a (.of hs)
 obtain ⟨_,hk⟩:=kda id hk;obtain ⟨_,l⟩:=kda id l;exact h.inj k k' o o' b hk l m a C
 ·rcases a with a | a;exact h.lt b a
  ·exact q.lt (.of a)
 ·rcases a with a | a;exact h.s0 b a
  ·exact (z b (.of a)).2.2
 ·rcases f.2 with ⟨hv,D⟩ | ⟨g,cap,cur,hv,_,K,E,s,L,G⟩;have:xs=[]:=List.eq_nil_of_length_eq_zero D;subst this;rw [hv];exact .lst (A:=none) (cap:=0) (xs:=[]) (fun _=>[]) rfl (qt _) (by omega) r (fun i x c=>by simp at c) (fun i x c=>by simp at c) (fun i x j v y c=>by simp at c)
  ·rw [hv];have t:∀ i x,xs[i]?=some x->(i+1)*size<=cs.length:=fun i x c=>(by rw [f.1];exact qay _ (qd.1 c).1);refine .lst (fun i=>(cs.drop (i*size)).take size) rfl E (by unfold maxLen at s;exact s) r (fun i x c=>⟨g,0,rfl, .inr (by rfl),fun j u n=>?_⟩) (fun i x c=>?_) fun i x j v y c d hy=>?_
   ·rw [qw] at n;split at n
    ·rw [qae,<- G,qw] at n;split at n;simp only [World.cell?,K,Nat.zero_add];simpa using n
     ·cases n
    ·cases n
   have:=t i x c;rw [qa4] at this;exact ⟨by rw [qam,qba];omega,B x (qm c)⟩
   ·rw [qw] at d;split at d;rw [qae] at d;exact (hr i x j v y c d hy).mono fun _ h => .inl h
    ·cases d
end
end Go.Proofs.YtpnnpkmjohkgiaaGreatDoor
