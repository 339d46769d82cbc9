import Derived.Test.YtpnnpkmjohkgiaaGreatDoorRun
set_option linter.all false
namespace Go.Proofs.YtpnnpkmjohkgiaaGreatDoor
open Go Go.RowKit
inductive C0 where
 | keep
 | zr
 | sl (size:Nat)
 | px
inductive C1 where
 | one (c:C0)
 | ag (l:List C0)
 | drop
def co0F:C0->FV->FV
 | .sl size, .atom (.slice none 0 0)=>bif Nat.ble 1 size then .lst size 0 [] else .atom (.slice none 0 0)
 | .px, .atom (.pointer none) => .bx []
 | _,x=>x
def co0:C0->AV->AV
 | c, .fz x => .fz (co0F c x)
 | .sl _, .lim s n xs => .fz (.lst s n xs)
 | .zr, .row id _ => .row id 0
 | _,x=>x
def zipF:List C0->List FV->List FV
 | c::l,x::xs=>co0F c x::zipF l xs
 | _,xs=>xs
def zip0:List C0->List AV->List AV
 | c::l,x::xs=>co0 c x::zip0 l xs
 | _,xs=>xs
def co1:C1->AV->AV
 | .one c,x=>co0 c x
 | .ag l, .fz (.agg xs) => .fz (.agg (zipF l xs))
 | .ag l, .agg xs=>aggA (zip0 l xs)
 | .ag _,x=>x
 | .drop,_ => .any
def ok0 (ids:List Nat):AV->Bool
 | .fz _=>true
 | .ref id _ _=>ids.contains id
 | .row id _=>ids.contains id
 | .mp id=>ids.contains id
 | .opt id=>ids.contains id
 | .sdp id _=>ids.contains id
 | .win id _ _ _=>ids.contains id
 | .irow id _ _=>ids.contains id
 | .iref id _ _ _=>ids.contains id
 | .lim _ _ _=>true
 | .any=>true
 | _=>false
def ok1 (ids:List Nat):AV->Bool
 | .agg cs=>cs.all (ok0 ids)
 | .tup cs=>cs.all (ok0 ids)
 | .fn _ cs=>cs.all (ok0 ids)
 | .mth _ cs=>cs.all (ok0 ids)
 | x=>ok0 ids x
def kko (st:St) (ids:List Nat):List (Nat×C1)->Option (List (Nat×AV))
 | []=>some []
 | (t,c)::l=>match ok1 ids (co1 c (st.get t)),kko st ids l with
  | true,some r=>some ((t,co1 c (st.get t))::r)
  | _,_=>none
def kkm (st:St) (ids:List Nat):List (Nat×List C0)->Option (List (Nat×AObj))
 | []=>some []
 | (id,l)::r=>match kaa st.heap id,kkm st ids r with
  | some (.box e cells),some r'=>bif ids.contains id && (zip0 l cells).all (ok1 ids) then some ((id, .box e (zip0 l cells))::r') else none
  | some (.frow e s xs),some r'=>bif ids.contains id then some ((id, .frow e s xs)::r') else none
  | some (.gho cs vs),some r'=>bif ids.contains id && vs.all (ok1 ids) then some ((id, .gho cs vs)::r') else none
  | some (.was ψ0 ids0 S0 w0),some r'=>bif ids.contains id && ids0.all ids.contains then some ((id, .was ψ0 ids0 S0 w0)::r') else none
  | some (.smap kv),some r'=>bif ids.contains id then some ((id, .smap kv)::r') else none
  | some (.tab g ov eo ei rows),some r'=>bif ids.contains id then some ((id, .tab g ov eo ei rows)::r') else none
  | some (.glb gs),some r'=>bif ids.contains id then some ((id, .glb gs)::r') else none
  | some (.sit s pos),some r'=>bif ids.contains id then some ((id, .sit s pos)::r') else none
  | some (.memo Φ h),some r'=>bif ids.contains id then some ((id, .memo Φ none)::r') else none
  | some (.xo (.imap kv)),some r'=>bif ids.contains id then some ((id, .xo (.imap kv))::r') else none
  | _,_=>none
def coSt (st:St) (ids:List Nat) (ts:List (Nat×C1)) (os:List (Nat×List C0)):Option St:=match ids.all st.ids.contains,kko st ids ts,kkm st ids os with
 | true,some tmps,some heap=>some { n:=st.n,tmps:=tmps,heap:=heap,ids:=ids,dfr:=st.dfr }
 | _,_,_=>none
section
variable {P:Program} {F S0:Nat->Prop} {N0:Nat} {w w':World} {S S':Nat->Prop} {ψ:Env} {K K':Nat->Prop} {T:List (TypeId×TD)} {o:Oper} {a:Act} {st:St} {t:TypeId} {d:TD} {ids:List Nat}
theorem kq1 {c:C0} {v:Value} {x:FV} (h:RF S w v x):RF S w v (co0F c x):=by
 unfold co0F;split
 ·rename_i size;cases b:Nat.ble 1 size with
  | false=>exact h
  | true=>
   rw [h.atom_eq];exact .lst (A:=none) (cap:=0) (xs:=[]) (fun _=>[]) rfl (qx _) (by omega) (qj b) (fun i x a=>by simp at a) (fun i x a=>by simp at a) (fun i x j v y a=>by simp at a)
 rw [h.atom_eq];exact .bn
 ·exact h
theorem klo {c:C0} {x:FV} (h:x.single=true):(co0F c x).single=true:=by
 unfold co0F;split;rename_i size;cases a:Nat.ble 1 size <;> rfl;rfl
 ·exact h
theorem ku6 {c:C0} {v:Value} {x:AV} (h:RV ψ K S w v x):RV ψ K S w v (co0 c x):=by
 unfold co0;split;exact .fz (kq1 h.inv)
 ·cases h with | lim h=>exact .fz h
 ·cases h with | row hK hn h1 hv=>exact .row hK (qak _) h1 fun h=>hv (by omega)
 ·exact h
theorem krt {c:C0} {x:AV} (h:x.single=true):(co0 c x).single=true:=by
 unfold co0;split;exact klo h;rfl;rfl
 ·exact h
theorem kly:∀ (l:List C0) (xs:List FV) (i:Nat) (y:FV),(zipF l xs)[i]?=some y->∃ c x,xs[i]?=some x/\(y=co0F c x\/y=x)
 | [],xs,i,y,h=>⟨.keep,y,by cases xs <;> exact h, .inr rfl⟩
 | c::l,[],i,y,h=>by simp [zipF] at h
 | c::l,x::xs,0,y,h=>by simp [zipF] at h;exact ⟨c,x,rfl, .inl h.symm⟩
 | c::l,x::xs,i+1,y,h=>by simp only [zipF,List.getElem?_cons_succ] at h ⊢;exact kly l xs i y h
theorem kpk:∀ (l:List C0) (xs:List FV),(zipF l xs).length=xs.length
 | [],xs=>by cases xs <;> rfl
 | c::l,[]=>rfl
 | c::l,x::xs=>by simp [zipF,kpk l xs]
theorem klr:∀ (l:List C0) (xs:List AV) (i:Nat) (y:AV),(zip0 l xs)[i]?=some y->∃ c x,xs[i]?=some x/\(y=co0 c x\/y=x)
 | [],xs,i,y,h=>⟨.keep,y,by cases xs <;> exact h, .inr rfl⟩
 | c::l,[],i,y,h=>by simp [zip0] at h
 | c::l,x::xs,0,y,h=>by simp [zip0] at h;exact ⟨c,x,rfl, .inl h.symm⟩
 | c::l,x::xs,i+1,y,h=>by simp only [zip0,List.getElem?_cons_succ] at h ⊢;exact klr l xs i y h
theorem klw:∀ (l:List C0) (xs:List AV),(zip0 l xs).length=xs.length
 | [],xs=>by cases xs <;> rfl
 | c::l,[]=>rfl
 | c::l,x::xs=>by simp [zip0,klw l xs]
theorem krl {l:List C0} {cs:Array Value} {xs:List AV} (h1:∀ x∈xs,x.single=true) (hr:∀ (i:Nat) (v:Value) (x:AV),cs[i]?=some v->xs[i]?=some x->RV ψ K S w v x):
  (∀ x∈zip0 l xs,x.single=true)/\∀ (i:Nat) (v:Value) (x:AV),cs[i]?=some v->(zip0 l xs)[i]?=some x->RV ψ K S w v x:=by
 refine ⟨fun x a=>?_,fun i v x hv a=>?_⟩
 ·obtain ⟨i,hi⟩:=qag.1 a;obtain ⟨c,y,hy,b⟩:=klr l xs i x hi;have:=h1 y (qk hy);rcases b with rfl | rfl;exact krt this
  ·exact this
 ·obtain ⟨c,y,hy,b⟩:=klr l xs i x a;have:=hr i v y hv hy;rcases b with rfl | rfl;exact ku6 this
  ·exact this
theorem kkb {c:C1} {v:Value} {x:AV} (h:RV ψ K S w v x):RV ψ K S w v (co1 c x):=by
 unfold co1;split;exact ku6 h
 ·rename_i l xs;have h:=h.inv;cases h with
  | agg hs h1 hr=>
   refine .fz (.agg (by rw [kpk];exact hs) (fun y hy=>?_) fun i v y hv hy=>?_)
   ·obtain ⟨i,hi⟩:=qag.1 hy;obtain ⟨c,z,a,b⟩:=kly l xs i y hi;have:=h1 z (qk a);rcases b with rfl | rfl;exact klo this
    ·exact this
   ·obtain ⟨c,z,a,b⟩:=kly l xs i y hy;have:=hr i v z hv a;rcases b with rfl | rfl;exact kq1 this
    ·exact this
 ·rename_i l xs;cases h with
  | agg hs h1 hr=>
   obtain ⟨z1,z2⟩:=krl (l:=l) h1 hr;exact RV.aggA (by rw [klw];exact hs) z1 z2
 exact h
 ·exact .any
theorem RV.sub0 {v:Value} {x:AV} (h:RV ψ K S w v x) (ho:ok0 ids x=true):RV ψ (·∈ids) S w v x:=by
 cases h with
 | fz h=>exact .fz h
 | agg=>cases ho
 | tup=>cases ho
 | ref hK hn h1 hv=>exact .ref (by simpa [ok0] using ho) hn h1 hv
 | row hK hn h1 hv=>exact .row (by simpa [ok0] using ho) hn h1 hv
 | lim h=>exact .lim h
 | mp hK h1 hv=>exact .mp (by simpa [ok0] using ho) h1 hv
 | opt hK h1 hv=>exact .opt (by simpa [ok0] using ho) h1 hv
 | sdp hK hn h1 hv=>exact .sdp (by simpa [ok0] using ho) hn h1 hv
 | win hK hn h1 hv=>exact .win (by simpa [ok0] using ho) hn h1 hv
 | irow hK hn h1 hv=>exact .irow (by simpa [ok0] using ho) hn h1 hv
 | iref hK hn h1 hv=>exact .iref (by simpa [ok0] using ho) hn h1 hv
 | bsl=>cases ho
 | fn=>cases ho
 | mth=>cases ho
 | any=>exact .any
theorem RV.sub1 {v:Value} {x:AV} (h:RV ψ K S w v x) (ho:ok1 ids x=true):RV ψ (·∈ids) S w v x:=by
 cases h with
 | fz h=>exact .fz h
 | agg hs h1 hr=>exact .agg hs h1 fun i v x hv a=>(hr i v x hv a).sub0 (ql.1 ho x (qk a))
 | tup hs hr=>exact .tup hs fun i v x hv a=>(hr i v x hv a).sub0 (ql.1 ho x (qk a))
 | ref hK hn h1 hv=>exact .ref (by simpa [ok1,ok0] using ho) hn h1 hv
 | row hK hn h1 hv=>exact .row (by simpa [ok1,ok0] using ho) hn h1 hv
 | lim h=>exact .lim h
 | mp hK h1 hv=>exact .mp (by simpa [ok1,ok0] using ho) h1 hv
 | opt hK h1 hv=>exact .opt (by simpa [ok1,ok0] using ho) h1 hv
 | sdp hK hn h1 hv=>exact .sdp (by simpa [ok1,ok0] using ho) hn h1 hv
 | win hK hn h1 hv=>exact .win (by simpa [ok1,ok0] using ho) hn h1 hv
 | irow hK hn h1 hv=>exact .irow (by simpa [ok1,ok0] using ho) hn h1 hv
 | iref hK hn h1 hv=>exact .iref (by simpa [ok1,ok0] using ho) hn h1 hv
 | bsl=>cases ho
 | fn hs hr=>exact .fn hs fun i v x hv a=>(hr i v x hv a).sub0 (ql.1 ho x (qk a))
 | mth hs hr=>exact .mth hs fun i v x hv a=>(hr i v x hv a).sub0 (ql.1 ho x (qk a))
 | any=>exact .any
theorem kme:∀ {ts:List (Nat×C1)} {r:List (Nat×AV)} (t:Nat),kko st ids ts=some r->look .any r t = .any\/∃ c,look .any r t=co1 c (st.get t)/\ok1 ids (co1 c (st.get t))=true
 | [],r,t,h=>by simp only [kko,qb] at h;subst h;exact .inl rfl
 | (k,c)::l,r,t,h=>by
  simp only [kko] at h;split at h
  ·rename_i r' h1 a;injection h with h;subst h;rw [ka7];by_cases hk:k=t;subst hk;rw [qq rfl];exact .inr ⟨c,rfl,h1⟩
   ·rw [qh hk];exact kme t a
  ·cases h
theorem kce:∀ {os:List (Nat×List C0)} {r:List (Nat×AObj)} (id:Nat) (ob:AObj),kkm st ids os=some r->kaa r id=some ob->id∈ids /\
  ((∃ l e cells,kaa st.heap id=some (.box e cells)/\ob = .box e (zip0 l cells)/\(zip0 l cells).all (ok1 ids)=true)\/(∃ e s xs,kaa st.heap id=some (.frow e s xs)/\ob = .frow e s xs)\/(∃ cs vs,kaa st.heap id=some (.gho cs vs)/\ob = .gho cs vs/\vs.all (ok1 ids)=true) \/
   (∃ ψ0 ids0 S0 w0,kaa st.heap id=some (.was ψ0 ids0 S0 w0)/\ob = .was ψ0 ids0 S0 w0/\ids0.all ids.contains=true)\/(∃ kv,kaa st.heap id=some (.smap kv)/\ob = .smap kv)\/(∃ g ov eo ei rows,kaa st.heap id=some (.tab g ov eo ei rows)/\ob = .tab g ov eo ei rows)\/(∃ gs,kaa st.heap id=some (.glb gs)/\ob = .glb gs)\/(∃ s pos,kaa st.heap id=some (.sit s pos)/\ob = .sit s pos)\/(∃ Φ h,kaa st.heap id=some (.memo Φ h)/\ob = .memo Φ none)\/∃ kv,kaa st.heap id=some (.xo (.imap kv))/\ob = .xo (.imap kv))
 | [],r,id,ob,h,ho=>by simp only [kkm,qb] at h;subst h;cases ho
 | (k,l)::os,r,id,ob,h,ho=>by
  simp only [kkm] at h;split at h
  ·rename_i e cells r' h1 b;cases a:(ids.contains k && (zip0 l cells).all (ok1 ids)) with
   | false=>rw [a] at h;cases h
   | true=>
    rw [a] at h;simp only [qe,qb] at h;subst h;rw [kaf] at ho;simp only [qm] at a;by_cases hk:k=id;subst hk;rw [qq rfl] at ho;injection ho with ho;exact ⟨by simpa using a.1, .inl ⟨l,e,cells,h1,ho.symm,a.2⟩⟩
    ·rw [qh hk] at ho;exact kce id ob b ho
  ·rename_i e s xs r' h1 b;cases a:ids.contains k with
   | false=>rw [a] at h;cases h
   | true=>
    rw [a] at h;simp only [qe,qb] at h;subst h;rw [kaf] at ho;by_cases hk:k=id;subst hk;rw [qq rfl] at ho;injection ho with ho;exact ⟨by simpa using a, .inr (.inl ⟨e,s,xs,h1,ho.symm⟩)⟩
    ·rw [qh hk] at ho;exact kce id ob b ho
  ·rename_i cs vs r' h1 b;cases a:(ids.contains k && vs.all (ok1 ids)) with
   | false=>rw [a] at h;cases h
   | true=>
    rw [a] at h;simp only [qe,qb] at h;subst h;rw [kaf] at ho;simp only [qm] at a;by_cases hk:k=id;subst hk;rw [qq rfl] at ho;injection ho with ho;exact ⟨by simpa using a.1, .inr (.inr (.inl ⟨cs,vs,h1,ho.symm,a.2⟩))⟩
    ·rw [qh hk] at ho;exact kce id ob b ho
  ·rename_i ψ0 ids0 S0 w0 r' h1 b;cases a:(ids.contains k && ids0.all ids.contains) with
   | false=>rw [a] at h;cases h
   | true=>
    rw [a] at h;simp only [qe,qb] at h;subst h;rw [kaf] at ho;simp only [qm] at a;by_cases hk:k=id;subst hk;rw [qq rfl] at ho;injection ho with ho;exact ⟨by simpa using a.1, .inr (.inr (.inr (.inl ⟨ψ0,ids0,S0,w0,h1,ho.symm,a.2⟩)))⟩
    ·rw [qh hk] at ho;exact kce id ob b ho
  ·rename_i kv r' h1 b;cases a:ids.contains k with
   | false=>rw [a] at h;cases h
   | true=>
    rw [a] at h;simp only [qe,qb] at h;subst h;rw [kaf] at ho;by_cases hk:k=id;subst hk;rw [qq rfl] at ho;injection ho with ho;exact ⟨by simpa using a, .inr (.inr (.inr (.inr (.inl ⟨kv,h1,ho.symm⟩))))⟩
    ·rw [qh hk] at ho;exact kce id ob b ho
  ·rename_i g ov eo ei rows r' h1 b;cases a:ids.contains k with
   | false=>rw [a] at h;cases h
   | true=>
    rw [a] at h;simp only [qe,qb] at h;subst h;rw [kaf] at ho;by_cases hk:k=id;subst hk;rw [qq rfl] at ho;injection ho with ho;exact ⟨by simpa using a, .inr (.inr (.inr (.inr (.inr (.inl ⟨g,ov,eo,ei,rows,h1,ho.symm⟩)))))⟩
    ·rw [qh hk] at ho;exact kce id ob b ho
  ·rename_i gs r' h1 b;cases a:ids.contains k with
   | false=>rw [a] at h;cases h
   | true=>
    rw [a] at h;simp only [qe,qb] at h;subst h;rw [kaf] at ho;by_cases hk:k=id;subst hk;rw [qq rfl] at ho;injection ho with ho;exact ⟨by simpa using a, .inr (.inr (.inr (.inr (.inr (.inr (.inl ⟨gs,h1,ho.symm⟩))))))⟩
    ·rw [qh hk] at ho;exact kce id ob b ho
  ·rename_i s pos r' h1 b;cases a:ids.contains k with
   | false=>rw [a] at h;cases h
   | true=>
    rw [a] at h;simp only [qe,qb] at h;subst h;rw [kaf] at ho;by_cases hk:k=id;subst hk;rw [qq rfl] at ho;injection ho with ho;exact ⟨by simpa using a, .inr (.inr (.inr (.inr (.inr (.inr (.inr (.inl ⟨s,pos,h1,ho.symm⟩)))))))⟩
    ·rw [qh hk] at ho;exact kce id ob b ho
  ·rename_i Φ c r' h1 b;cases a:ids.contains k with
   | false=>rw [a] at h;cases h
   | true=>
    rw [a] at h;simp only [qe,qb] at h;subst h;rw [kaf] at ho;by_cases hk:k=id;subst hk;rw [qq rfl] at ho;injection ho with ho;exact ⟨by simpa using a, .inr (.inr (.inr (.inr (.inr (.inr (.inr (.inr (.inl ⟨Φ,c,h1,ho.symm⟩))))))))⟩
    ·rw [qh hk] at ho;exact kce id ob b ho
  ·rename_i kv r' h1 b;cases a:ids.contains k with
   | false=>rw [a] at h;cases h
   | true=>
    rw [a] at h;simp only [qe,qb] at h;subst h;rw [kaf] at ho;by_cases hk:k=id;subst hk;rw [qq rfl] at ho;injection ho with ho;exact ⟨by simpa using a, .inr (.inr (.inr (.inr (.inr (.inr (.inr (.inr (.inr ⟨kv,h1,ho.symm⟩))))))))⟩
    ·rw [qh hk] at ho;exact kce id ob b ho
  ·cases h
theorem le_co {st':St} {ts:List (Nat×C1)} {os:List (Nat×List C0)} (h:coSt st ids ts os=some st'):LeSt st st':=by
 unfold coSt at h;split at h
 ·rename_i tmps heap h1 u m;injection h with h;subst h;intro F S0 N0 ψ S a w hs;refine ⟨ψ,S,hs.defers,hs.size,fun t=>?_,⟨fun id ob ho=>?_,fun id id' o o' b ho n p y=>?_,hs.core.lt,hs.core.s0,hs.core.n0,hs.core.fr⟩⟩
  ·rcases kme t u with h | ⟨c,h,hk⟩;show RV ψ _ S w _ (look .any tmps t);rw [h];exact .any
   ·show RV ψ _ S w _ (look .any tmps t);rw [h];exact (kkb (hs.tmps t)).sub1 hk
  ·obtain ⟨f,q⟩:=kce id ob m ho;rcases q with ⟨l,e,cells,d,rfl,g⟩ | ⟨e,s,xs,d,rfl⟩ | ⟨cs,vs,d,rfl,g⟩ | ⟨ψ0,ids0,S0,w0,d,rfl,g⟩ | ⟨kv,d,rfl⟩ | ⟨_,_,_,_,_,d,rfl⟩ | ⟨_,d,rfl⟩ | ⟨_,_,d,rfl⟩ | ⟨_,_,d,rfl⟩ | ⟨_,d,rfl⟩;obtain ⟨_,⟨k0,b,cs,k1,k2,k3,k4,k5⟩,k6⟩:=hs.core.obj id _ d;obtain ⟨z1,z2⟩:=krl (l:=l) k4 k5;exact ⟨f,⟨k0,b,cs,k1,k2,by rw [klw];exact k3,z1,fun i v x hv j=>(z2 i v x hv j).sub1 (ql.1 g x (qk j))⟩,k6⟩;obtain ⟨_,k,k6⟩:=hs.core.obj id _ d;exact ⟨f,k,k6⟩;obtain ⟨_,⟨k0,k1,kn,k3⟩,k6⟩:=hs.core.obj id _ d;exact ⟨f,⟨k0,k1,kn,fun i v x hv j=>(k3 i v x hv j).sub1 (ql.1 g x (qk j))⟩,k6⟩;obtain ⟨_,⟨k0,k1,kn,k2,k3,k4,k5⟩,k6⟩:=hs.core.obj id _ d;exact ⟨f,⟨k0,k1,kn,k2,fun i hi=>by simpa using ql.1 g i hi,k4,k5⟩,k6⟩;obtain ⟨_,k,k6⟩:=hs.core.obj id _ d;exact ⟨f,k,k6⟩;obtain ⟨_,k,k6⟩:=hs.core.obj id _ d;exact ⟨f,k,k6⟩;obtain ⟨_,k,k6⟩:=hs.core.obj id _ d;exact ⟨f,k,k6⟩;obtain ⟨_,k,k6⟩:=hs.core.obj id _ d;exact ⟨f,k,k6⟩;obtain ⟨_,⟨k0,b,es,cl,k1,k2,k3⟩,k6⟩:=hs.core.obj id _ d;exact ⟨f,⟨k0,b,es,cl,k1,k2,k3.1,trivial⟩,k6⟩
   ·obtain ⟨_,k,k6⟩:=hs.core.obj id _ d;exact ⟨f,k,k6⟩
  ·obtain ⟨_,q⟩:=kce id o m ho;obtain ⟨_,r⟩:=kce id' o' m n;have k1:∃ o,kaa st.heap id=some o:=(by rcases q with ⟨l,_,cells,d,_⟩ | ⟨e,s,xs,d,_⟩ | ⟨cs,vs,d,_⟩ | ⟨_,_,_,_,d,_⟩ | ⟨_,d,_⟩ | ⟨_,_,_,_,_,d,_⟩ | ⟨_,d,_⟩ | ⟨_,_,d,_⟩ | ⟨_,_,d,_⟩ | ⟨_,d,_⟩ <;> exact ⟨_,d⟩);have k2:∃ o,kaa st.heap id'=some o:=(by rcases r with ⟨l,_,cells,d,_⟩ | ⟨e,s,xs,d,_⟩ | ⟨cs,vs,d,_⟩ | ⟨_,_,_,_,d,_⟩ | ⟨_,d,_⟩ | ⟨_,_,_,_,_,d,_⟩ | ⟨_,d,_⟩ | ⟨_,_,d,_⟩ | ⟨_,_,d,_⟩ | ⟨_,d,_⟩ <;> exact ⟨_,d⟩);obtain ⟨o1,k1⟩:=k1;obtain ⟨o2,k2⟩:=k2;exact hs.core.inj id id' o1 o2 b k1 k2 p y
 ·cases h
def kgj (id:Nat):List (Nat×AObj)->List (Nat×AObj)
 | []=>[]
 | (k,v)::l=>bif Nat.beq k id then kgj id l else (k,v)::kgj id l
theorem ker (id:Nat):∀ {l:List (Nat×AObj)} {k:Nat} {ob:AObj},kaa (kgj id l) k=some ob->k≠id/\kaa l k=some ob
 | [],k,ob,h=>by cases h
 | (j,v)::l,k,ob,h=>by
  simp only [kgj] at h;cases a:Nat.beq j id with
  | true=>
   rw [a] at h;obtain rfl:=qf a;obtain ⟨h1,b⟩:=ker j h;refine ⟨h1,?_⟩;rw [kaf,qh (Ne.symm h1)];exact b
  | false=>
   rw [a] at h;simp only [qg,kaf] at h;rw [kaf];by_cases hk:j=k;subst hk;rw [qq rfl] at h ⊢;exact ⟨(fun e=>by subst e;rw [Nat.beq_refl] at a;cases a),h⟩
   ·rw [qh hk] at h ⊢;exact ker id h
theorem kqp {heap:List (Nat×AObj)} {ids:List Nat} {id:Nat} {e:TypeId} {size:Nat} {xs:List FV} (h:Core F S0 N0 heap ids ψ S w) (ho:kaa heap id=some (.frow e size xs)):
  Core F S0 N0 (kgj id heap) ids ψ (fun b=>S b\/kau (ψ.val id)=some b) w/\RF (fun b=>S b\/kau (ψ.val id)=some b) w (ψ.val id) (.lst size xs.length xs):=by
 obtain ⟨I,p,z⟩:=h.obj id _ ho;have q:=p;obtain ⟨h0,r,cs,f,B,hr⟩:=p;refine ⟨⟨fun k ob hk=>?_,fun k k' o o' b hk l m a C=>?_,fun b a=>?_,fun b a=>?_,h.n0,h.fr⟩,?_⟩
 ·obtain ⟨m,hk⟩:=ker id hk;obtain ⟨h1,J,H⟩:=h.obj k ob hk;refine ⟨h1,J.keep Ext.refl (fun _ h=>h) (fun b a => .inl a) (fun _ _ _=>rfl) ⟨rfl,rfl⟩ (fun _ _=>rfl),fun b a=>⟨fun hs=>?_,(H b a).2⟩⟩;rcases hs with hs | hs;exact (H b a).1 hs
  ·exact h.inj k id ob _ b hk ho m a (.of hs)
 obtain ⟨_,hk⟩:=ker id hk;obtain ⟨_,l⟩:=ker id l;exact h.inj k k' o o' b hk l m a C
 ·rcases a with a | a;exact h.lt b a
  ·exact q.lt (.of a)
 ·rcases a with a | a;exact h.s0 b a
  ·exact (z b (.of a)).2.2
 ·rcases f.2 with ⟨hv,D⟩ | ⟨g,cap,cur,hv,_,K,E,s,L,G⟩;have:xs=[]:=List.eq_nil_of_length_eq_zero D;subst this;rw [hv];exact .lst (A:=none) (cap:=0) (xs:=[]) (fun _=>[]) rfl (qx _) (by omega) r (fun i x c=>by simp at c) (fun i x c=>by simp at c) (fun i x j v y c=>by simp at c)
  ·rw [hv];have t:∀ i x,xs[i]?=some x->(i+1)*size<=cs.length:=fun i x c=>(by rw [f.1];exact qau _ (qd.1 c).1);refine .lst (fun i=>(cs.drop (i*size)).take size) rfl E (by unfold maxLen at s;exact s) r (fun i x c=>⟨g,0,rfl, .inr (by rfl),fun j u n=>?_⟩) (fun i x c=>?_) fun i x j v y c d hy=>?_
   ·rw [qy] at n;split at n
    ·rw [qac,<- G,qy] at n;split at n;simp only [World.cell?,K,Nat.zero_add];simpa using n
     ·cases n
    ·cases n
   have:=t i x c;rw [qa1] at this;exact ⟨by rw [qar,qa6];omega,B x (qk c)⟩
   ·rw [qy] at d;split at d;rw [qac] at d;exact (hr i x j v y c d hy).mono fun _ h => .inl h
    ·cases d
end
end Go.Proofs.YtpnnpkmjohkgiaaGreatDoor
