import Derived.Test.YtaimpcnpifoidaaGreatDoorRun
set_option linter.unusedVariables false
set_option linter.unusedSimpArgs false
namespace Go.Proofs.YtaimpcnpifoidaaGreatDoor
open Go Go.RowKit
inductive C0 where
 | keep
 | zr
 | sl (size:Nat)
 | px
inductive C1 where
 | one (c:C0)
 | ag (l:List C0)
 | drop
def co0F:C0→FV→FV
 | .sl size, .atom (.slice none 0 0)=>bif Nat.ble 1 size then .lst size 0 [] else .atom (.slice none 0 0)
 | .px, .atom (.pointer none) => .bx []
 | _,x=>x
def co0:C0→AV→AV
 | c, .fz x => .fz (co0F c x)
 | .sl _, .lim s n xs => .fz (.lst s n xs)
 | .zr, .row id _ => .row id 0
 | _,x=>x
def zipF:List C0→List FV→List FV
 | c::l,x::xs=>co0F c x::zipF l xs
 | _,xs=>xs
def zip0:List C0→List AV→List AV
 | c::l,x::xs=>co0 c x::zip0 l xs
 | _,xs=>xs
def co1:C1→AV→AV
 | .one c,x=>co0 c x
 | .ag l, .fz (.agg xs) => .fz (.agg (zipF l xs))
 | .ag l, .agg xs=>aggA (zip0 l xs)
 | .ag _,x=>x
 | .drop,_ => .any
def ok0 (ids:List Nat):AV→Bool
 | .fz _=>true
 | .ref id _ _=>ids.contains id
 | .row id _=>ids.contains id
 | .mp id=>ids.contains id
 | .opt id=>ids.contains id
 | .sdp id _=>ids.contains id
 | .win id _ _ _=>ids.contains id
 | .irow id _ _=>ids.contains id
 | .iref id _ _ _=>ids.contains id
 | .lim _ _ _=>true
 | .any=>true
 | _=>false
def ok1 (ids:List Nat):AV→Bool
 | .agg cs=>cs.all (ok0 ids)
 | .tup cs=>cs.all (ok0 ids)
 | .fn _ cs=>cs.all (ok0 ids)
 | .mth _ cs=>cs.all (ok0 ids)
 | x=>ok0 ids x
def ksw (st:St) (ids:List Nat):List (Nat×C1)→Option (List (Nat×AV))
 | []=>some []
 | (t,c)::l=>match ok1 ids (co1 c (st.get t)),ksw st ids l with
  | true,some r=>some ((t,co1 c (st.get t))::r)
  | _,_=>none
def ksy (st:St) (ids:List Nat):List (Nat×List C0)→Option (List (Nat×AObj))
 | []=>some []
 | (id,l)::r=>match kab st.heap id,ksy st ids r with
  | some (.box e cells),some r'=>bif ids.contains id && (zip0 l cells).all (ok1 ids) then some ((id, .box e (zip0 l cells))::r') else none
  | some (.frow e s xs),some r'=>bif ids.contains id then some ((id, .frow e s xs)::r') else none
  | some (.gho cs vs),some r'=>bif ids.contains id && vs.all (ok1 ids) then some ((id, .gho cs vs)::r') else none
  | some (.was ψ0 ids0 S0 w0),some r'=>bif ids.contains id && ids0.all ids.contains then some ((id, .was ψ0 ids0 S0 w0)::r') else none
  | some (.smap kv),some r'=>bif ids.contains id then some ((id, .smap kv)::r') else none
  | some (.tab g ov eo ei rows),some r'=>bif ids.contains id then some ((id, .tab g ov eo ei rows)::r') else none
  | some (.glb gs),some r'=>bif ids.contains id then some ((id, .glb gs)::r') else none
  | some (.sit s pos),some r'=>bif ids.contains id then some ((id, .sit s pos)::r') else none
  | some (.memo Φ h),some r'=>bif ids.contains id then some ((id, .memo Φ none)::r') else none
  | _,_=>none
def coSt (st:St) (ids:List Nat) (ts:List (Nat×C1)) (os:List (Nat×List C0)):Option St:=match ids.all st.ids.contains,ksw st ids ts,ksy st ids os with
 | true,some tmps,some heap=>some { n:=st.n,tmps:=tmps,heap:=heap,ids:=ids,dfr:=st.dfr }
 | _,_,_=>none
section
variable {P:Program} {F S0:Nat→Prop} {N0:Nat} {w w':World} {S S':Nat→Prop} {ψ:Env} {K K':Nat→Prop} {T:List (TypeId×TD)} {o:Oper} {a:Act} {st:St} {t:TypeId} {d:TD} {ids:List Nat}
theorem k6z {c:C0} {v:Value} {x:FV} (h:RF S w v x):RF S w v (co0F c x):=by
 unfold co0F
 split
 ·rename_i size
  cases hb:Nat.ble 1 size with
  | false=>exact h
  | true=>
   rw [h.atom_eq]
   exact .lst (A:=none) (cap:=0) (xs:=[]) (fun _=>[]) rfl (qw _) (by omega) (qac hb) (fun i x hx=>by simp at hx) (fun i x hx=>by simp at hx) (fun i x j v y hx=>by simp at hx)
 ·rw [h.atom_eq]
  exact .bn
 ·exact h
theorem kxo {c:C0} {x:FV} (h:x.single=true):(co0F c x).single=true:=by
 unfold co0F
 split
 ·rename_i size
  cases hb:Nat.ble 1 size <;> rfl
 ·rfl
 ·exact h
theorem kabg {c:C0} {v:Value} {x:AV} (h:RV ψ K S w v x):RV ψ K S w v (co0 c x):=by
 unfold co0
 split
 ·exact .fz (k6z h.inv)
 ·cases h with | lim h=>exact .fz h
 ·cases h with | row hK hn h1 hv=>exact .row hK (qx _) h1 fun h=>hv (by omega)
 ·exact h
theorem k98 {c:C0} {x:AV} (h:x.single=true):(co0 c x).single=true:=by
 unfold co0
 split
 ·exact kxo h
 ·rfl
 ·rfl
 ·exact h
theorem kyg:∀ (l:List C0) (xs:List FV) (i:Nat) (y:FV),(zipF l xs)[i]?=some y→∃ c x,xs[i]?=some x∧(y=co0F c x∨y=x)
 | [],xs,i,y,h=>⟨.keep,y,by cases xs <;> exact h, .inr rfl⟩
 | c::l,[],i,y,h=>by simp [zipF] at h
 | c::l,x::xs,0,y,h=>by simp [zipF] at h;exact ⟨c,x,rfl, .inl h.symm⟩
 | c::l,x::xs,i+1,y,h=>by
  simp only [zipF,List.getElem?_cons_succ] at h ⊢
  exact kyg l xs i y h
theorem k4j:∀ (l:List C0) (xs:List FV),(zipF l xs).length=xs.length
 | [],xs=>by cases xs <;> rfl
 | c::l,[]=>rfl
 | c::l,x::xs=>by simp [zipF,k4j l xs]
theorem kyd:∀ (l:List C0) (xs:List AV) (i:Nat) (y:AV),(zip0 l xs)[i]?=some y→∃ c x,xs[i]?=some x∧(y=co0 c x∨y=x)
 | [],xs,i,y,h=>⟨.keep,y,by cases xs <;> exact h, .inr rfl⟩
 | c::l,[],i,y,h=>by simp [zip0] at h
 | c::l,x::xs,0,y,h=>by simp [zip0] at h;exact ⟨c,x,rfl, .inl h.symm⟩
 | c::l,x::xs,i+1,y,h=>by
  simp only [zip0,List.getElem?_cons_succ] at h ⊢
  exact kyd l xs i y h
theorem kyf:∀ (l:List C0) (xs:List AV),(zip0 l xs).length=xs.length
 | [],xs=>by cases xs <;> rfl
 | c::l,[]=>rfl
 | c::l,x::xs=>by simp [zip0,kyf l xs]
theorem k60 {l:List C0} {cs:Array Value} {xs:List AV} (h1:∀ x∈xs,x.single=true) (hr:∀ (i:Nat) (v:Value) (x:AV),cs[i]?=some v→xs[i]?=some x→RV ψ K S w v x):
  (∀ x∈zip0 l xs,x.single=true)∧∀ (i:Nat) (v:Value) (x:AV),cs[i]?=some v→(zip0 l xs)[i]?=some x→RV ψ K S w v x:=by
 refine ⟨fun x hx=>?_,fun i v x hv hx=>?_⟩
 ·obtain ⟨i,hi⟩:=qa4.1 hx
  obtain ⟨c,y,hy,he⟩:=kyd l xs i x hi
  have:=h1 y (qt hy)
  rcases he with rfl | rfl
  ·exact k98 this
  ·exact this
 ·obtain ⟨c,y,hy,he⟩:=kyd l xs i x hx
  have:=hr i v y hv hy
  rcases he with rfl | rfl
  ·exact kabg this
  ·exact this
theorem ksz {c:C1} {v:Value} {x:AV} (h:RV ψ K S w v x):RV ψ K S w v (co1 c x):=by
 unfold co1
 split
 ·exact kabg h
 ·rename_i l xs
  have h:=h.inv
  cases h with
  | agg hs h1 hr=>
   refine .fz (.agg (by rw [k4j];exact hs) (fun y hy=>?_) fun i v y hv hy=>?_)
   ·obtain ⟨i,hi⟩:=qa4.1 hy
    obtain ⟨c,z,hz,he⟩:=kyg l xs i y hi
    have:=h1 z (qt hz)
    rcases he with rfl | rfl
    ·exact kxo this
    ·exact this
   ·obtain ⟨c,z,hz,he⟩:=kyg l xs i y hy
    have:=hr i v z hv hz
    rcases he with rfl | rfl
    ·exact k6z this
    ·exact this
 ·rename_i l xs
  cases h with
  | agg hs h1 hr=>
   obtain ⟨z1,z2⟩:=k60 (l:=l) h1 hr
   exact RV.aggA (by rw [kyf];exact hs) z1 z2
 ·exact h
 ·exact .any
theorem RV.sub0 {v:Value} {x:AV} (h:RV ψ K S w v x) (ho:ok0 ids x=true):RV ψ (·∈ids) S w v x:=by
 cases h with
 | fz h=>exact .fz h
 | agg=>cases ho
 | tup=>cases ho
 | ref hK hn h1 hv=>exact .ref (by simpa [ok0] using ho) hn h1 hv
 | row hK hn h1 hv=>exact .row (by simpa [ok0] using ho) hn h1 hv
 | lim h=>exact .lim h
 | mp hK h1 hv=>exact .mp (by simpa [ok0] using ho) h1 hv
 | opt hK h1 hv=>exact .opt (by simpa [ok0] using ho) h1 hv
 | sdp hK hn h1 hv=>exact .sdp (by simpa [ok0] using ho) hn h1 hv
 | win hK hn h1 hv=>exact .win (by simpa [ok0] using ho) hn h1 hv
 | irow hK hn h1 hv=>exact .irow (by simpa [ok0] using ho) hn h1 hv
 | iref hK hn h1 hv=>exact .iref (by simpa [ok0] using ho) hn h1 hv
 | fn=>cases ho
 | mth=>cases ho
 | any=>exact .any
theorem RV.sub1 {v:Value} {x:AV} (h:RV ψ K S w v x) (ho:ok1 ids x=true):RV ψ (·∈ids) S w v x:=by
 cases h with
 | fz h=>exact .fz h
 | agg hs h1 hr=>exact .agg hs h1 fun i v x hv hx=>(hr i v x hv hx).sub0 (qm.1 ho x (qt hx))
 | tup hs hr=>exact .tup hs fun i v x hv hx=>(hr i v x hv hx).sub0 (qm.1 ho x (qt hx))
 | ref hK hn h1 hv=>exact .ref (by simpa [ok1,ok0] using ho) hn h1 hv
 | row hK hn h1 hv=>exact .row (by simpa [ok1,ok0] using ho) hn h1 hv
 | lim h=>exact .lim h
 | mp hK h1 hv=>exact .mp (by simpa [ok1,ok0] using ho) h1 hv
 | opt hK h1 hv=>exact .opt (by simpa [ok1,ok0] using ho) h1 hv
 | sdp hK hn h1 hv=>exact .sdp (by simpa [ok1,ok0] using ho) hn h1 hv
 | win hK hn h1 hv=>exact .win (by simpa [ok1,ok0] using ho) hn h1 hv
 | irow hK hn h1 hv=>exact .irow (by simpa [ok1,ok0] using ho) hn h1 hv
 | iref hK hn h1 hv=>exact .iref (by simpa [ok1,ok0] using ho) hn h1 hv
 | fn hs hr=>exact .fn hs fun i v x hv hx=>(hr i v x hv hx).sub0 (qm.1 ho x (qt hx))
 | mth hs hr=>exact .mth hs fun i v x hv hx=>(hr i v x hv hx).sub0 (qm.1 ho x (qt hx))
 | any=>exact .any
theorem kul:∀ {ts:List (Nat×C1)} {r:List (Nat×AV)} (t:Nat),ksw st ids ts=some r→look .any r t = .any∨∃ c,look .any r t=co1 c (st.get t)∧ok1 ids (co1 c (st.get t))=true
 | [],r,t,h=>by simp only [ksw,qh] at h;subst h;exact .inl rfl
 | (k,c)::l,r,t,h=>by
  simp only [ksw] at h
  split at h
  ·rename_i r' h1 h2
   injection h with h
   subst h
   rw [kdg]
   by_cases hk:k=t
   ·subst hk
    rw [if_pos rfl]
    exact .inr ⟨c,rfl,h1⟩
   ·rw [if_neg hk]
    exact kul t h2
  ·cases h
theorem kgg:∀ {os:List (Nat×List C0)} {r:List (Nat×AObj)} (id:Nat) (ob:AObj),ksy st ids os=some r→kab r id=some ob→id∈ids ∧
  ((∃ l e cells,kab st.heap id=some (.box e cells)∧ob = .box e (zip0 l cells)∧(zip0 l cells).all (ok1 ids)=true)∨(∃ e s xs,kab st.heap id=some (.frow e s xs)∧ob = .frow e s xs)∨(∃ cs vs,kab st.heap id=some (.gho cs vs)∧ob = .gho cs vs∧vs.all (ok1 ids)=true) ∨
   (∃ ψ0 ids0 S0 w0,kab st.heap id=some (.was ψ0 ids0 S0 w0)∧ob = .was ψ0 ids0 S0 w0∧ids0.all ids.contains=true)∨(∃ kv,kab st.heap id=some (.smap kv)∧ob = .smap kv)∨(∃ g ov eo ei rows,kab st.heap id=some (.tab g ov eo ei rows)∧ob = .tab g ov eo ei rows)∨(∃ gs,kab st.heap id=some (.glb gs)∧ob = .glb gs)∨(∃ s pos,kab st.heap id=some (.sit s pos)∧ob = .sit s pos)∨∃ Φ h,kab st.heap id=some (.memo Φ h)∧ob = .memo Φ none)
 | [],r,id,ob,h,ho=>by simp only [ksy,qh] at h;subst h;cases ho
 | (k,l)::os,r,id,ob,h,ho=>by
  simp only [ksy] at h
  split at h
  ·rename_i e cells r' h1 h2
   cases hb:(ids.contains k && (zip0 l cells).all (ok1 ids)) with
   | false=>rw [hb] at h;cases h
   | true=>
    rw [hb] at h
    simp only [qd,qh] at h
    subst h
    rw [kai] at ho
    simp only [qu] at hb
    by_cases hk:k=id
    ·subst hk
     rw [if_pos rfl] at ho
     injection ho with ho
     exact ⟨by simpa using hb.1, .inl ⟨l,e,cells,h1,ho.symm,hb.2⟩⟩
    ·rw [if_neg hk] at ho
     exact kgg id ob h2 ho
  ·rename_i e s xs r' h1 h2
   cases hb:ids.contains k with
   | false=>rw [hb] at h;cases h
   | true=>
    rw [hb] at h
    simp only [qd,qh] at h
    subst h
    rw [kai] at ho
    by_cases hk:k=id
    ·subst hk
     rw [if_pos rfl] at ho
     injection ho with ho
     exact ⟨by simpa using hb, .inr (.inl ⟨e,s,xs,h1,ho.symm⟩)⟩
    ·rw [if_neg hk] at ho
     exact kgg id ob h2 ho
  ·rename_i cs vs r' h1 h2
   cases hb:(ids.contains k && vs.all (ok1 ids)) with
   | false=>rw [hb] at h;cases h
   | true=>
    rw [hb] at h
    simp only [qd,qh] at h
    subst h
    rw [kai] at ho
    simp only [qu] at hb
    by_cases hk:k=id
    ·subst hk
     rw [if_pos rfl] at ho
     injection ho with ho
     exact ⟨by simpa using hb.1, .inr (.inr (.inl ⟨cs,vs,h1,ho.symm,hb.2⟩))⟩
    ·rw [if_neg hk] at ho
     exact kgg id ob h2 ho
  ·rename_i ψ0 ids0 S0 w0 r' h1 h2
   cases hb:(ids.contains k && ids0.all ids.contains) with
   | false=>rw [hb] at h;cases h
   | true=>
    rw [hb] at h
    simp only [qd,qh] at h
    subst h
    rw [kai] at ho
    simp only [qu] at hb
    by_cases hk:k=id
    ·subst hk
     rw [if_pos rfl] at ho
     injection ho with ho
     exact ⟨by simpa using hb.1, .inr (.inr (.inr (.inl ⟨ψ0,ids0,S0,w0,h1,ho.symm,hb.2⟩)))⟩
    ·rw [if_neg hk] at ho
     exact kgg id ob h2 ho
  ·rename_i kv r' h1 h2
   cases hb:ids.contains k with
   | false=>rw [hb] at h;cases h
   | true=>
    rw [hb] at h
    simp only [qd,qh] at h
    subst h
    rw [kai] at ho
    by_cases hk:k=id
    ·subst hk
     rw [if_pos rfl] at ho
     injection ho with ho
     exact ⟨by simpa using hb, .inr (.inr (.inr (.inr (.inl ⟨kv,h1,ho.symm⟩))))⟩
    ·rw [if_neg hk] at ho
     exact kgg id ob h2 ho
  ·rename_i g ov eo ei rows r' h1 h2
   cases hb:ids.contains k with
   | false=>rw [hb] at h;cases h
   | true=>
    rw [hb] at h
    simp only [qd,qh] at h
    subst h
    rw [kai] at ho
    by_cases hk:k=id
    ·subst hk
     rw [if_pos rfl] at ho
     injection ho with ho
     exact ⟨by simpa using hb, .inr (.inr (.inr (.inr (.inr (.inl ⟨g,ov,eo,ei,rows,h1,ho.symm⟩)))))⟩
    ·rw [if_neg hk] at ho
     exact kgg id ob h2 ho
  ·rename_i gs r' h1 h2
   cases hb:ids.contains k with
   | false=>rw [hb] at h;cases h
   | true=>
    rw [hb] at h
    simp only [qd,qh] at h
    subst h
    rw [kai] at ho
    by_cases hk:k=id
    ·subst hk
     rw [if_pos rfl] at ho
     injection ho with ho
     exact ⟨by simpa using hb, .inr (.inr (.inr (.inr (.inr (.inr (.inl ⟨gs,h1,ho.symm⟩))))))⟩
    ·rw [if_neg hk] at ho
     exact kgg id ob h2 ho
  ·rename_i s pos r' h1 h2
   cases hb:ids.contains k with
   | false=>rw [hb] at h;cases h
   | true=>
    rw [hb] at h
    simp only [qd,qh] at h
    subst h
    rw [kai] at ho
    by_cases hk:k=id
    ·subst hk
     rw [if_pos rfl] at ho
     injection ho with ho
     exact ⟨by simpa using hb, .inr (.inr (.inr (.inr (.inr (.inr (.inr (.inl ⟨s,pos,h1,ho.symm⟩)))))))⟩
    ·rw [if_neg hk] at ho
     exact kgg id ob h2 ho
  ·rename_i Φ h' r' h1 h2
   cases hb:ids.contains k with
   | false=>rw [hb] at h;cases h
   | true=>
    rw [hb] at h
    simp only [qd,qh] at h
    subst h
    rw [kai] at ho
    by_cases hk:k=id
    ·subst hk
     rw [if_pos rfl] at ho
     injection ho with ho
     exact ⟨by simpa using hb, .inr (.inr (.inr (.inr (.inr (.inr (.inr (.inr ⟨Φ,h',h1,ho.symm⟩)))))))⟩
    ·rw [if_neg hk] at ho
     exact kgg id ob h2 ho
  ·cases h
theorem kagc {st':St} {ts:List (Nat×C1)} {os:List (Nat×List C0)} (h:coSt st ids ts os=some st':=by kernel_rfl):LeSt st st':=by
 unfold coSt at h
 split at h
 ·rename_i tmps heap h1 h2 h3
  injection h with h
  subst h
  intro F S0 N0 ψ S a w hs
  refine ⟨ψ,S,hs.defers,hs.size,fun t=>?_,⟨fun id ob ho=>?_,fun id id' o o' b ho ho' hne hb=>?_,hs.core.lt,hs.core.s0,hs.core.n0,hs.core.fr⟩⟩
  ·rcases kul t h2 with h | ⟨c,h,hk⟩
   ·show RV ψ _ S w _ (look .any tmps t)
    rw [h];exact .any
   ·show RV ψ _ S w _ (look .any tmps t)
    rw [h];exact (ksz (hs.tmps t)).sub1 hk
  ·obtain ⟨hid,hh⟩:=kgg id ob h3 ho
   rcases hh with ⟨l,e,cells,h4,rfl,h5⟩ | ⟨e,s,xs,h4,rfl⟩ | ⟨cs,vs,h4,rfl,h5⟩ | ⟨ψ0,ids0,S0,w0,h4,rfl,h5⟩ | ⟨kv,h4,rfl⟩ | ⟨_,_,_,_,_,h4,rfl⟩ | ⟨_,h4,rfl⟩ | ⟨_,_,h4,rfl⟩ | ⟨_,_,h4,rfl⟩
   ·obtain ⟨_,⟨k0,b,cs,k1,k2,k3,k4,k5⟩,k6⟩:=hs.core.obj id _ h4
    obtain ⟨z1,z2⟩:=k60 (l:=l) k4 k5
    exact ⟨hid,⟨k0,b,cs,k1,k2,by rw [kyf];exact k3,z1,fun i v x hv hx=>(z2 i v x hv hx).sub1 (qm.1 h5 x (qt hx))⟩,k6⟩
   ·obtain ⟨_,k,k6⟩:=hs.core.obj id _ h4
    exact ⟨hid,k,k6⟩
   ·obtain ⟨_,⟨k0,k1,kn,k3⟩,k6⟩:=hs.core.obj id _ h4
    exact ⟨hid,⟨k0,k1,kn,fun i v x hv hx=>(k3 i v x hv hx).sub1 (qm.1 h5 x (qt hx))⟩,k6⟩
   ·obtain ⟨_,⟨k0,k1,kn,k2,k3,k4,k5⟩,k6⟩:=hs.core.obj id _ h4
    exact ⟨hid,⟨k0,k1,kn,k2,fun i hi=>by simpa using qm.1 h5 i hi,k4,k5⟩,k6⟩
   ·obtain ⟨_,k,k6⟩:=hs.core.obj id _ h4
    exact ⟨hid,k,k6⟩
   ·obtain ⟨_,k,k6⟩:=hs.core.obj id _ h4
    exact ⟨hid,k,k6⟩
   ·obtain ⟨_,k,k6⟩:=hs.core.obj id _ h4
    exact ⟨hid,k,k6⟩
   ·obtain ⟨_,k,k6⟩:=hs.core.obj id _ h4
    exact ⟨hid,k,k6⟩
   ·obtain ⟨_,⟨k0,b,es,cl,k1,k2,k3⟩,k6⟩:=hs.core.obj id _ h4
    exact ⟨hid,⟨k0,b,es,cl,k1,k2,k3.1,trivial⟩,k6⟩
  ·obtain ⟨_,hh⟩:=kgg id o h3 ho
   obtain ⟨_,hh'⟩:=kgg id' o' h3 ho'
   have k1:∃ o,kab st.heap id=some o:=by
    rcases hh with ⟨l,_,cells,h4,_⟩ | ⟨e,s,xs,h4,_⟩ | ⟨cs,vs,h4,_⟩ | ⟨_,_,_,_,h4,_⟩ | ⟨_,h4,_⟩ | ⟨_,_,_,_,_,h4,_⟩ | ⟨_,h4,_⟩ | ⟨_,_,h4,_⟩ | ⟨_,_,h4,_⟩ <;> exact ⟨_,h4⟩
   have k2:∃ o,kab st.heap id'=some o:=by
    rcases hh' with ⟨l,_,cells,h4,_⟩ | ⟨e,s,xs,h4,_⟩ | ⟨cs,vs,h4,_⟩ | ⟨_,_,_,_,h4,_⟩ | ⟨_,h4,_⟩ | ⟨_,_,_,_,_,h4,_⟩ | ⟨_,h4,_⟩ | ⟨_,_,h4,_⟩ | ⟨_,_,h4,_⟩ <;> exact ⟨_,h4⟩
   obtain ⟨o1,k1⟩:=k1
   obtain ⟨o2,k2⟩:=k2
   exact hs.core.inj id id' o1 o2 b k1 k2 hne hb
 ·cases h
def kc2 (id:Nat):List (Nat×AObj)→List (Nat×AObj)
 | []=>[]
 | (k,v)::l=>bif Nat.beq k id then kc2 id l else (k,v)::kc2 id l
theorem keg (id:Nat):∀ {l:List (Nat×AObj)} {k:Nat} {ob:AObj},kab (kc2 id l) k=some ob→k≠id∧kab l k=some ob
 | [],k,ob,h=>by cases h
 | (j,v)::l,k,ob,h=>by
  simp only [kc2] at h
  cases hb:Nat.beq j id with
  | true=>
   rw [hb] at h
   obtain rfl:=qr hb
   obtain ⟨h1,h2⟩:=keg j h
   refine ⟨h1,?_⟩
   rw [kai,if_neg (Ne.symm h1)]
   exact h2
  | false=>
   rw [hb] at h
   simp only [qb,kai] at h
   rw [kai]
   by_cases hk:j=k
   ·subst hk
    rw [if_pos rfl] at h ⊢
    exact ⟨(fun e=>by subst e;rw [Nat.beq_refl] at hb;cases hb),h⟩
   ·rw [if_neg hk] at h ⊢
    exact keg id h
theorem kz7 {id:Nat}:∀ {l:List (Nat×AObj)} {k:Nat} {ob:AObj},k≠id→kab l k=some ob→kab (kc2 id l) k=some ob
 | [],k,ob,_,h=>by cases h
 | (j,v)::l,k,ob,hne,h=>by
  simp only [kc2]
  rw [kai] at h
  by_cases hj:j=k
  ·subst hj
   rw [if_pos rfl] at h
   rw [Nat.beq_eq_false hne]
   simp only [qb,kai]
   exact h
  ·rw [if_neg hj] at h
   have ih:=kz7 hne h
   cases hb:Nat.beq j id with
   | true=>exact ih
   | false=>
    simp only [qb,kai]
    rw [if_neg hj]
    exact ih
theorem ko3 {heap:List (Nat×AObj)} {ids:List Nat} {id:Nat} {e:TypeId} {size:Nat} {xs:List FV} (h:Core F S0 N0 heap ids ψ S w) (ho:kab heap id=some (.frow e size xs)):
  Core F S0 N0 (kc2 id heap) ids ψ (fun b=>S b∨kb1 (ψ.val id)=some b) w∧RF (fun b=>S b∨kb1 (ψ.val id)=some b) w (ψ.val id) (.lst size xs.length xs):=by
 obtain ⟨hid,hob,hfr⟩:=h.obj id _ ho
 have hob':=hob
 obtain ⟨h0,hsz,cs,hown,hel,hr⟩:=hob
 refine ⟨⟨fun k ob hk=>?_,fun k k' o o' b hk hk' hne hb hb'=>?_,fun b hb=>?_,fun b hb=>?_,h.n0,h.fr⟩,?_⟩
 ·obtain ⟨hne,hk⟩:=keg id hk
  obtain ⟨h1,h2,h3⟩:=h.obj k ob hk
  refine ⟨h1,h2.keep Ext.refl (fun _ h=>h) (fun b hb => .inl hb) (fun _ _ _=>rfl) ⟨rfl,rfl⟩ (fun _ _=>rfl),fun b hb=>⟨fun hs=>?_,(h3 b hb).2⟩⟩
  rcases hs with hs | hs
  ·exact (h3 b hb).1 hs
  ·exact h.inj k id ob _ b hk ho hne hb (.of hs)
 ·obtain ⟨_,hk⟩:=keg id hk
  obtain ⟨_,hk'⟩:=keg id hk'
  exact h.inj k k' o o' b hk hk' hne hb hb'
 ·rcases hb with hb | hb
  ·exact h.lt b hb
  ·exact hob'.lt (.of hb)
 ·rcases hb with hb | hb
  ·exact h.s0 b hb
  ·exact (hfr b (.of hb)).2.2
 ·rcases hown.2 with ⟨hv,hx0⟩ | ⟨g,cap,cur,hv,_,hh,hnc,hcm,hcs,htk⟩
  ·have:xs=[]:=qz hx0
   subst this
   rw [hv]
   exact .lst (A:=none) (cap:=0) (xs:=[]) (fun _=>[]) rfl (qw _) (by omega) hsz (fun i x hx=>by simp at hx) (fun i x hx=>by simp at hx) (fun i x j v y hx=>by simp at hx)
  ·rw [hv]
   have hlen:∀ i x,xs[i]?=some x→(i+1)*size≤cs.length:=fun i x hx=>by
    rw [hown.1];exact Nat.mul_le_mul_right _ (List.getElem?_eq_some_iff.1 hx).1
   refine .lst (fun i=>(cs.drop (i*size)).take size) rfl hnc (by unfold maxLen at hcm;exact hcm) hsz (fun i x hx=>⟨g,0,rfl, .inr (by rfl),fun j u hu=>?_⟩) (fun i x hx=>?_) fun i x j v y hx hv' hy=>?_
   ·rw [List.getElem?_take] at hu
    split at hu
    ·rw [List.getElem?_drop,← htk,List.getElem?_take] at hu
     split at hu
     ·simp only [World.cell?,hh,Nat.zero_add]
      simpa using hu
     ·cases hu
    ·cases hu
   ·have:=hlen i x hx
    rw [Nat.add_mul] at this
    exact ⟨by rw [qai,qaq];omega,hel x (qt hx)⟩
   ·rw [List.getElem?_take] at hv'
    split at hv'
    ·rw [List.getElem?_drop] at hv'
     exact (hr i x j v y hx hv' hy).mono fun _ h => .inl h
    ·cases hv'
end
end Go.Proofs.YtaimpcnpifoidaaGreatDoor
