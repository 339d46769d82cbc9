import Derived.Test.YtnlhjbnpjefjgaaGreatDoorOpx
set_option linter.all false
set_option linter.unusedSectionVars false
namespace Go.Proofs.YtnlhjbnpjefjgaaGreatDoor
open Go Go.RowKit
variable [Dr]
abbrev Res:=Option (AV×List (Nat×AObj)×List Nat)
def fresh (l:List Nat):Nat:=l.foldl Nat.max 0+1
def nres (st:St) (c:Option AV):Res:=match c with
 | some c=>some (c,st.heap,st.ids)
 | none=>none
def kk4 (T:List (TypeId×TD)) (t:TypeId):Bool:=match kad T t with
 | some d=>match d.kind with
  | .bool=>true
  | _=>false
 | none=>false
def lenX (T:List (TypeId×TD)) (st:St) (x:Operand) (t:TypeId):Option AV:=match kad T t with
 | some d=>match d.kind,st.eval x with
  | .slice _,x=>match lenOf x with
   | some n=>some (.fz (.atom (.int .i64 n)))
   | none=>none
  | .str, .fz (.atom (.string s))=>some (.fz (.atom (.int .i64 s.size)))
  | _,_=>none
 | none=>none
def fldX (T:List (TypeId×TD)) (st:St) (s:TypeId) (x:Operand) (f:Nat):Option AV:=match kad T s with
 | some d=>match d.kind with
  | .st fs=>match fs[f]? with
   | some (ft,off)=>match kad T ft with
    | some df=>bif Nat.beq df.size 0 then none else klf st off (st.eval x)
    | none=>none
   | none=>none
  | _=>none
 | none=>none
def litX (T:List (TypeId×TD)) (st:St) (t:TypeId) (n:Nat) (parts:Array (Nat×Operand)):Option AV:=match kad T t with
 | some d=>match d.kind with
  | .slice e=>match kad T e with
   | some de=>match kks de.size 0 (kcw st parts) with
    | some xs=>bif Nat.beq xs.length n && (Nat.ble 1 de.size && Nat.ble (n*de.size) 16777216) then some (.lim de.size n xs) else none
    | none=>none
   | none=>none
  | _=>none
 | none=>none
def boxX (e:TypeId) (st:St) (cells:List AV):Res:=bif cells.all AV.single && !st.ids.contains (fresh st.ids) then some (.ref (fresh st.ids) 0 0,(fresh st.ids, .box e cells)::st.heap,fresh st.ids::st.ids) else none
def kqu (T:List (TypeId×TD)) (st:St) (t:TypeId) (x y:Operand):Res:=match kad T t,st.eval x with
 | some d, .ref id n off=>match kaa st.heap id with
  | some (.box e cells)=>bif Nat.beq n 0 && (Nat.beq (st.eval y).cells.length d.size && ((st.eval y).cells.all AV.single && Nat.ble (off+(st.eval y).cells.length) cells.length)) then some (.any,(id, .box e (kb9 cells off (st.eval y).cells))::st.heap,st.ids) else none
  | _=>none
 | _,_=>none
def kto (T:List (TypeId×TD)) (o:Oper) (st:St):Option AV:=match o.op with
 | .move x=>some (st.eval x)
 | .assign x=>some (st.eval x)
 | .pick c x y=>match st.eval c with
  | .fz (.atom (.bool b))=>some (bif b then st.eval x else st.eval y)
  | _=>none
 | .binOp op t x y _=>match st.eval x,st.eval y with
  | .fz (.atom u), .fz (.atom v)=>match binV (kk4 T t) op u v with
   | some r=>some (.fz (.atom r))
   | none=>none
  | _,_=>none
 | .unOp op _ x=>match st.eval x with
  | .fz (.atom u)=>match unV op u with
   | some r=>some (.fz (.atom r))
   | none=>none
  | _=>none
 | .load t x=>match kad T t,kj9 st (st.eval x) with
  | some d,some xs=>kjt d xs
  | _,_=>none
 | .fieldAddr s x f=>fldX T st s x f
 | .extract x i=>match st.eval x with | .fz (.tup xs)=>(xs[i]?).map .fz | .tup xs=>xs[i]? | _=>none
 | .nilCheck x=>klf st 0 (st.eval x)
 | .build t parts=>kx0 T st t parts
 | .indexAddr t x y=>arrX T st t x y
 | .buildSlice t n parts=>litX T st t n parts
 | .call c=>match c.callee,c.args.toList,c.argTypes.toList with
  | .builtin .len,[x],[t]=>lenX T st x t
  | _,_,_=>none
 | .makeFunc (.func f) first cap=>bif first.isEmpty then some (.fn f (cap.toList.map st.eval)) else (bif cap.isEmpty then some (.mth f (first.toList.map st.eval)) else none)
 | _=>none
def krd (T:List (TypeId×TD)) (o:Oper) (st:St):Res:=match o.op with
 | .box e x=>boxX e st (st.eval x).cells
 | .alloc e=>match kad T e with
  | some d=>match knm d with
   | some cells=>boxX e st cells
   | none=>none
  | none=>none
 | .store t x y=>kqu T st t x y
 | _=>nres st (kto T o st)
variable {P:Program} {w w':World} {S S':Nat->Prop} {ψ:Env} {T:List (TypeId×TD)} {o:Oper} {a:Act} {st:St}
theorem k38 {c0:Option AV} {c:AV} {h:List (Nat×AObj)} {i:List Nat} (hr:nres st c0=some (c,h,i)) (hn:∀ x,c0=some x->NStep P o st x):StepA P o st c h i:=by
 cases c0 with
 | none=>cases hr
 | some x=>
  simp only [nres,qc,qt] at hr;obtain ⟨rfl,rfl,rfl⟩:=hr;exact (hn x rfl).step
theorem kj6 {α:Type} {xs:Array α} {x:α} (h:xs.toList=[x]):xs=#[x]:=by apply qbr;simpa using h
theorem kiq (h:TOk P T) (c:AV) (a:kto T o st=some c:=by kernel_rfl):NStep P o st c:=by
 unfold kto at a;split at a;rename_i x ho;injection a with a;subst a;exact ktr (.inl ho);rename_i x ho;injection a with a;subst a;exact ktr (.inr ho)
 ·rename_i c x y ho;split at a;rename_i b g;injection a with a;subst a;exact k3h ho g
  ·cases a
 ·rename_i op t x y yt ho;split at a
  ·rename_i u v q hv;split at a
   ·rename_i r hr;injection a with a;subst a;refine k7d (kk4 T t) (fun g=>?_) ho q hv hr;unfold kk4 at g;split at g
    ·rename_i d j;split at g;rename_i hk;obtain ⟨_,e,h1,m⟩:=h.get j;rw [hk] at m;cases e <;> simp [kff] at m;exact h1
     ·cases g
    ·cases g
   ·cases a
  ·cases a
 ·rename_i op t x ho;split at a
  ·rename_i u q;split at a;rename_i r hr;injection a with a;subst a;exact n_un ho q hr
   ·cases a
  ·cases a
 ·rename_i t x ho;split at a;rename_i d xs j k;exact kabf ho (h.get j) k a
  ·cases a
 ·rename_i s x f ho;unfold fldX at a;split at a
  ·rename_i d j;split at a
   ·rename_i fs hk;split at a
    ·rename_i ft off hf;split at a
     ·rename_i df w;cases g:Nat.beq df.size 0 with
      | true=>rw [g] at a;cases a
      | false=>
       rw [g] at a;exact k78 ho (h.get j) hk hf (h.get w) (fun e=>by rw [e] at g;cases g) a
     ·cases a
    ·cases a
   ·cases a
  ·cases a
 rename_i x i ho;exact kvi ho a;rename_i x ho;exact k02 ho a;rename_i t parts ho;exact kzm h ho a;rename_i t x y ho;exact n_arr h ho a
 ·rename_i t n parts ho;unfold litX at a;split at a
  ·rename_i d j;split at a
   ·rename_i e hk;split at a
    ·rename_i de z;split at a
     ·rename_i xs k;cases g:(Nat.beq xs.length n && (Nat.ble 1 de.size && Nat.ble (n*de.size) 16777216)) with
      | false=>rw [g] at a;cases a
      | true=>
       rw [g] at a;simp only [qe,qc] at a;subst a;simp only [qv] at g;exact k6y ho (h.get j) hk (h.get z) (qr g.2.1) (qi g.1) (qr g.2.2) k
     ·cases a
    ·cases a
   ·cases a
  ·cases a
 ·rename_i c ho;split at a
  ·rename_i x t h1 m A;have p:o.op = .call { callee := .builtin .len,args:=#[x],argTypes:=#[t] }:=(by obtain ⟨cl,as_,ts⟩:=c;simp only at h1 m A;rw [ho,h1,kj6 m,kj6 A]);unfold lenX at a;split at a
   ·rename_i d j;split at a
    ·rename_i e hk;split at a;rename_i n hn;injection a with a;subst a;exact kud p (h.get j) hk hn
     ·cases a
    rename_i s hk hv;injection a with a;subst a;exact kvm p (h.get j) hk hv
    ·cases a
   ·cases a
  ·cases a
 ·rename_i f first cap ho
  cases g:first.isEmpty with
  | false=>
   rw [g] at a;cases l:cap.isEmpty with
   | false=>rw [l] at a;cases a
   | true=>
    rw [l] at a;have:cap=#[]:=(by simpa using l);subst this;simp only [qf,qe,qc] at a;subst a;exact k6u ho
  | true=>
   rw [g] at a;have:first=#[]:=by simpa using g
   subst this;simp only [qe,qc] at a;subst a;exact k4d ho
 ·cases a
theorem kxy (f:TOk P T) {c:AV} {h:List (Nat×AObj)} {i:List Nat} (a:krd T o st=some (c,h,i)):StepA P o st c h i:=by
 unfold krd at a;split at a
 ·rename_i e x ho;unfold boxX at a;cases b:((st.eval x).cells.all AV.single && !st.ids.contains (Go.Proofs.YtnlhjbnpjefjgaaGreatDoor.fresh st.ids)) with
  | false=>rw [b] at a;cases a
  | true=>
   rw [b] at a;simp only [qe,qc,qt] at a;obtain ⟨rfl,rfl,rfl⟩:=a;simp only [qv,qb2] at b;exact k6z ho rfl b.1 b.2
 ·rename_i e ho;split at a
  ·rename_i d g;split at a
   ·rename_i cells j;unfold boxX at a;cases b:(cells.all AV.single && !st.ids.contains (Go.Proofs.YtnlhjbnpjefjgaaGreatDoor.fresh st.ids)) with
    | false=>rw [b] at a;cases a
    | true=>
     rw [b] at a;simp only [qe,qc,qt] at a;obtain ⟨rfl,rfl,rfl⟩:=a;simp only [qv,qb2] at b;exact kuk ho (f.get g) j b.2
   ·cases a
  ·cases a
 ·rename_i t x y ho;unfold kqu at a;split at a
  ·rename_i d id n off g k;split at a
   ·rename_i e cells l;cases b:(Nat.beq n 0 && (Nat.beq (st.eval y).cells.length d.size && ((st.eval y).cells.all AV.single && Nat.ble (off+(st.eval y).cells.length) cells.length))) with
    | false=>rw [b] at a;cases a
    | true=>
     rw [b] at a;simp only [qe,qc,qt] at a;obtain ⟨rfl,rfl,rfl⟩:=a;simp only [qv] at b;obtain ⟨b1,b2,b3,b4⟩:=b;obtain rfl:=qi b1;exact kzn ho (f.get g) k l rfl (qi b2) b3 (qr b4)
   ·cases a
  ·cases a
 ·exact k38 a fun z j=>kiq f _ (a:=j)
def kq6 (st:St) (o:Oper):Bool:=match o.dst with
 | some t=>Nat.blt t st.n
 | none=>true
theorem kkf {st:St} {o:Oper} (h:kq6 st o=true):∀ t,o.dst=some t->t<st.n:=fun t ht=>by unfold kq6 at h;rw [ht] at h;exact qb0 (by simpa [Nat.blt_eq] using h)
end Go.Proofs.YtnlhjbnpjefjgaaGreatDoor
set_option linter.all false
set_option linter.unusedSectionVars false
namespace Go.Proofs.YtnlhjbnpjefjgaaGreatDoor
open Go Go.RowKit
variable [Dr]
inductive C0 where
 | keep
 | zr
 | sl (size:Nat)
 | px
inductive C1 where
 | one (c:C0)
 | ag (l:List C0)
 | drop
def co0F:C0->FV->FV
 | .sl size, .atom (.slice none 0 0)=>bif Nat.ble 1 size then .lst size 0 [] else .atom (.slice none 0 0)
 | .px, .atom (.pointer none) => .bx []
 | _,x=>x
def co0:C0->AV->AV
 | c, .fz x => .fz (co0F c x)
 | .sl _, .lim s n xs => .fz (.lst s n xs)
 | .zr, .row id _ => .row id 0
 | _,x=>x
def zipF:List C0->List FV->List FV
 | c::l,x::xs=>co0F c x::zipF l xs
 | _,xs=>xs
def zip0:List C0->List AV->List AV
 | c::l,x::xs=>co0 c x::zip0 l xs
 | _,xs=>xs
def co1:C1->AV->AV
 | .one c,x=>co0 c x
 | .ag l, .fz (.agg xs) => .fz (.agg (zipF l xs))
 | .ag l, .agg xs=>aggA (zip0 l xs)
 | .ag _,x=>x
 | .drop,_ => .any
def ok0 (ids:List Nat):AV->Bool
 | .fz _=>true
 | .ref id _ _=>ids.contains id
 | .row id _=>ids.contains id
 | .mp id=>ids.contains id
 | .opt id=>ids.contains id
 | .sdp id _=>ids.contains id
 | .win id _ _ _=>ids.contains id
 | .irow id _ _=>ids.contains id
 | .iref id _ _ _=>ids.contains id
 | .lim _ _ _=>true
 | .any=>true
 | _=>false
def ok1 (ids:List Nat):AV->Bool
 | .agg cs=>cs.all (ok0 ids)
 | .tup cs=>cs.all (ok0 ids)
 | .fn _ cs=>cs.all (ok0 ids)
 | .mth _ cs=>cs.all (ok0 ids)
 | x=>ok0 ids x
def kox (st:St) (ids:List Nat):List (Nat×C1)->Option (List (Nat×AV))
 | []=>some []
 | (t,c)::l=>match ok1 ids (co1 c (st.get t)),kox st ids l with
  | true,some r=>some ((t,co1 c (st.get t))::r)
  | _,_=>none
def kov (st:St) (ids:List Nat):List (Nat×List C0)->Option (List (Nat×AObj))
 | []=>some []
 | (id,l)::r=>match kaa st.heap id,kov st ids r with
  | some (.box e cells),some r'=>bif ids.contains id && (zip0 l cells).all (ok1 ids) then some ((id, .box e (zip0 l cells))::r') else none
  | some (.frow e s xs),some r'=>bif ids.contains id then some ((id, .frow e s xs)::r') else none
  | some (.gho cs vs),some r'=>bif ids.contains id && vs.all (ok1 ids) then some ((id, .gho cs vs)::r') else none
  | some (.was ψ0 ids0 S0 w0),some r'=>bif ids.contains id && ids0.all ids.contains then some ((id, .was ψ0 ids0 S0 w0)::r') else none
  | some (.smap kv),some r'=>bif ids.contains id then some ((id, .smap kv)::r') else none
  | some (.tab g ov eo ei rows),some r'=>bif ids.contains id then some ((id, .tab g ov eo ei rows)::r') else none
  | some (.glb gs),some r'=>bif ids.contains id then some ((id, .glb gs)::r') else none
  | some (.sit s pos),some r'=>bif ids.contains id then some ((id, .sit s pos)::r') else none
  | some (.memo Φ h),some r'=>bif ids.contains id then some ((id, .memo Φ none)::r') else none
  | some (.xo (.imap kv)),some r'=>bif ids.contains id then some ((id, .xo (.imap kv))::r') else none
  | some (.xo (.mit m a b c)),some r'=>bif ids.contains id && ids.contains m then some ((id, .xo (.mit m a b c))::r') else none
  | _,_=>none
def coSt (st:St) (ids:List Nat) (ts:List (Nat×C1)) (os:List (Nat×List C0)):Option St:=match ids.all st.ids.contains,kox st ids ts,kov st ids os with
 | true,some tmps,some heap=>some { n:=st.n,tmps:=tmps,heap:=heap,ids:=ids,dfr:=st.dfr }
 | _,_,_=>none
variable {P:Program} {F S0:Nat->Prop} {N0:Nat} {w w':World} {S S':Nat->Prop} {ψ:Env} {K K':Nat->Prop} {T:List (TypeId×TD)} {o:Oper} {a:Act} {st:St} {t:TypeId} {d:TD} {ids:List Nat}
theorem kzu {c:C0} {v:Value} {x:FV} (h:RF S w v x):RF S w v (co0F c x):=by
 unfold co0F;split
 ·rename_i size;cases b:Nat.ble 1 size with
  | false=>exact h
  | true=>
   rw [h.atom_eq];exact .lst (A:=none) (cap:=0) (xs:=[]) (fun _=>[]) rfl (qy _) (by omega) (qr b) (fun i x a=>by simp at a) (fun i x a=>by simp at a) (fun i x j v y a=>by simp at a)
 rw [h.atom_eq];exact .bn
 ·exact h
theorem ksi {c:C0} {x:FV} (h:x.single=true):(co0F c x).single=true:=by
 unfold co0F;split;rename_i size;cases a:Nat.ble 1 size <;> rfl;rfl
 ·exact h
theorem k34 {c:C0} {v:Value} {x:AV} (h:RV ψ K S w v x):RV ψ K S w v (co0 c x):=by
 unfold co0;split;exact .fz (kzu h.inv)
 ·cases h with | lim h=>exact .fz h
 ·cases h with | row hK hn h1 hv=>exact .row hK (qar _) h1 fun h=>hv (by omega)
 ·exact h
theorem k0s {c:C0} {x:AV} (h:x.single=true):(co0 c x).single=true:=by
 unfold co0;split;exact ksi h;rfl;rfl
 ·exact h
theorem ksv:∀ (l:List C0) (xs:List FV) (i:Nat) (y:FV),(zipF l xs)[i]?=some y->∃ c x,xs[i]?=some x/\(y=co0F c x\/y=x)
 | [],xs,i,y,h=>⟨.keep,y,by cases xs <;> exact h, .inr rfl⟩
 | c::l,[],i,y,h=>by simp [zipF] at h
 | c::l,x::xs,0,y,h=>by simp [zipF] at h;exact ⟨c,x,rfl, .inl h.symm⟩
 | c::l,x::xs,i+1,y,h=>by simp only [zipF,qax] at h ⊢;exact ksv l xs i y h
theorem kxl:∀ (l:List C0) (xs:List FV),(zipF l xs).length=xs.length
 | [],xs=>by cases xs <;> rfl
 | c::l,[]=>rfl
 | c::l,x::xs=>by simp [zipF,kxl l xs]
theorem kso:∀ (l:List C0) (xs:List AV) (i:Nat) (y:AV),(zip0 l xs)[i]?=some y->∃ c x,xs[i]?=some x/\(y=co0 c x\/y=x)
 | [],xs,i,y,h=>⟨.keep,y,by cases xs <;> exact h, .inr rfl⟩
 | c::l,[],i,y,h=>by simp [zip0] at h
 | c::l,x::xs,0,y,h=>by simp [zip0] at h;exact ⟨c,x,rfl, .inl h.symm⟩
 | c::l,x::xs,i+1,y,h=>by simp only [zip0,qax] at h ⊢;exact kso l xs i y h
theorem ksu:∀ (l:List C0) (xs:List AV),(zip0 l xs).length=xs.length
 | [],xs=>by cases xs <;> rfl
 | c::l,[]=>rfl
 | c::l,x::xs=>by simp [zip0,ksu l xs]
theorem k0l (l:List C0) {cs:Array Value} {xs:List AV} (h1:∀ x∈xs,x.single=true) (hr:∀ (i:Nat) (v:Value) (x:AV),cs[i]?=some v->xs[i]?=some x->RV ψ K S w v x):
  (∀ x∈zip0 l xs,x.single=true)/\∀ (i:Nat) (v:Value) (x:AV),cs[i]?=some v->(zip0 l xs)[i]?=some x->RV ψ K S w v x:=by
 refine ⟨fun x a=>?_,fun i v x hv a=>?_⟩
 ·obtain ⟨i,hi⟩:=qal.1 a;obtain ⟨c,y,hy,b⟩:=kso l xs i x hi;have:=h1 y (qk hy);rcases b with rfl | rfl;exact k0s this
  ·exact this
 ·obtain ⟨c,y,hy,b⟩:=kso l xs i x a;have:=hr i v y hv hy;rcases b with rfl | rfl;exact k34 this
  ·exact this
theorem kmz (c:C1) {v:Value} {x:AV} (h:RV ψ K S w v x):RV ψ K S w v (co1 c x):=by
 unfold co1;split;exact k34 h
 ·rename_i l xs;have h:=h.inv;cases h with
  | agg hs h1 hr=>
   refine .fz (.agg (by rw [kxl];exact hs) (fun y hy=>?_) fun i v y hv hy=>?_)
   ·obtain ⟨i,hi⟩:=qal.1 hy;obtain ⟨c,z,a,b⟩:=ksv l xs i y hi;have:=h1 z (qk a);rcases b with rfl | rfl;exact ksi this
    ·exact this
   ·obtain ⟨c,z,a,b⟩:=ksv l xs i y hy;have:=hr i v z hv a;rcases b with rfl | rfl;exact kzu this
    ·exact this
 ·rename_i l xs;cases h with
  | agg hs h1 hr=>
   obtain ⟨z1,z2⟩:=k0l l h1 hr;exact RV.aggA (by rw [ksu];exact hs) z1 z2
 exact h
 ·exact .any
theorem RV.sub0 {v:Value} {x:AV} (h:RV ψ K S w v x) (ho:ok0 ids x=true):RV ψ (·∈ids) S w v x:=by
 cases h with
 | fz h=>exact .fz h
 | agg=>cases ho
 | tup=>cases ho
 | ref hK hn h1 hv=>exact .ref (by simpa [ok0] using ho) hn h1 hv
 | row hK hn h1 hv=>exact .row (by simpa [ok0] using ho) hn h1 hv
 | lim h=>exact .lim h
 | mp hK h1 hv=>exact .mp (by simpa [ok0] using ho) h1 hv
 | opt hK h1 hv=>exact .opt (by simpa [ok0] using ho) h1 hv
 | sdp hK hn h1 hv=>exact .sdp (by simpa [ok0] using ho) hn h1 hv
 | win hK hn h1 hv=>exact .win (by simpa [ok0] using ho) hn h1 hv
 | irow hK hn h1 hv=>exact .irow (by simpa [ok0] using ho) hn h1 hv
 | iref hK hn h1 hv=>exact .iref (by simpa [ok0] using ho) hn h1 hv
 | bsl=>cases ho
 | fn=>cases ho
 | mth=>cases ho
 | any=>exact .any
theorem RV.sub1 {v:Value} {x:AV} (h:RV ψ K S w v x) (ho:ok1 ids x=true):RV ψ (·∈ids) S w v x:=by
 cases h with
 | fz h=>exact .fz h
 | agg hs h1 hr=>exact .agg hs h1 fun i v x hv a=>(hr i v x hv a).sub0 (qu.1 ho x (qk a))
 | tup hs hr=>exact .tup hs fun i v x hv a=>(hr i v x hv a).sub0 (qu.1 ho x (qk a))
 | ref hK hn h1 hv=>exact .ref (by simpa [ok1,ok0] using ho) hn h1 hv
 | row hK hn h1 hv=>exact .row (by simpa [ok1,ok0] using ho) hn h1 hv
 | lim h=>exact .lim h
 | mp hK h1 hv=>exact .mp (by simpa [ok1,ok0] using ho) h1 hv
 | opt hK h1 hv=>exact .opt (by simpa [ok1,ok0] using ho) h1 hv
 | sdp hK hn h1 hv=>exact .sdp (by simpa [ok1,ok0] using ho) hn h1 hv
 | win hK hn h1 hv=>exact .win (by simpa [ok1,ok0] using ho) hn h1 hv
 | irow hK hn h1 hv=>exact .irow (by simpa [ok1,ok0] using ho) hn h1 hv
 | iref hK hn h1 hv=>exact .iref (by simpa [ok1,ok0] using ho) hn h1 hv
 | bsl=>cases ho
 | fn hs hr=>exact .fn hs fun i v x hv a=>(hr i v x hv a).sub0 (qu.1 ho x (qk a))
 | mth hs hr=>exact .mth hs fun i v x hv a=>(hr i v x hv a).sub0 (qu.1 ho x (qk a))
 | any=>exact .any
theorem ko5:∀ {ts:List (Nat×C1)} {r:List (Nat×AV)} (t:Nat),kox st ids ts=some r->look .any r t = .any\/∃ c,look .any r t=co1 c (st.get t)/\ok1 ids (co1 c (st.get t))=true
 | [],r,t,h=>by simp only [kox,qc] at h;subst h;exact .inl rfl
 | (k,c)::l,r,t,h=>by
  simp only [kox] at h;split at h
  ·rename_i r' h1 a;injection h with h;subst h;rw [kbc];by_cases hk:k=t;subst hk;rw [qn rfl];exact .inr ⟨c,rfl,h1⟩
   ·rw [qj hk];exact ko5 t a
  ·cases h
theorem kdb:∀ {os:List (Nat×List C0)} {r:List (Nat×AObj)} (id:Nat) (ob:AObj),kov st ids os=some r->kaa r id=some ob->id∈ids /\
  ((∃ l e cells,kaa st.heap id=some (.box e cells)/\ob = .box e (zip0 l cells)/\(zip0 l cells).all (ok1 ids)=true)\/(∃ e s xs,kaa st.heap id=some (.frow e s xs)/\ob = .frow e s xs)\/(∃ cs vs,kaa st.heap id=some (.gho cs vs)/\ob = .gho cs vs/\vs.all (ok1 ids)=true) \/
   (∃ ψ0 ids0 S0 w0,kaa st.heap id=some (.was ψ0 ids0 S0 w0)/\ob = .was ψ0 ids0 S0 w0/\ids0.all ids.contains=true)\/(∃ kv,kaa st.heap id=some (.smap kv)/\ob = .smap kv)\/(∃ g ov eo ei rows,kaa st.heap id=some (.tab g ov eo ei rows)/\ob = .tab g ov eo ei rows)\/(∃ gs,kaa st.heap id=some (.glb gs)/\ob = .glb gs)\/(∃ s pos,kaa st.heap id=some (.sit s pos)/\ob = .sit s pos)\/(∃ Φ h,kaa st.heap id=some (.memo Φ h)/\ob = .memo Φ none)\/(∃ kv,kaa st.heap id=some (.xo (.imap kv))/\ob = .xo (.imap kv))\/∃ m a b c,kaa st.heap id=some (.xo (.mit m a b c))/\ob = .xo (.mit m a b c)/\ids.contains m=true)
 | [],r,id,ob,h,ho=>by simp only [kov,qc] at h;subst h;cases ho
 | (k,l)::os,r,id,ob,h,ho=>by
  simp only [kov] at h;split at h
  ·rename_i e cells r' h1 f;cases d:(ids.contains k && (zip0 l cells).all (ok1 ids)) with
   | false=>rw [d] at h;cases h
   | true=>
    rw [d] at h;simp only [qe,qc] at h;subst h;rw [kah] at ho;simp only [qv] at d;by_cases hk:k=id;subst hk;rw [qn rfl] at ho;injection ho with ho;exact ⟨by simpa using d.1, .inl ⟨l,e,cells,h1,ho.symm,d.2⟩⟩
    ·rw [qj hk] at ho;exact kdb id ob f ho
  ·rename_i e s xs r' h1 f;cases d:ids.contains k with
   | false=>rw [d] at h;cases h
   | true=>
    rw [d] at h;simp only [qe,qc] at h;subst h;rw [kah] at ho;by_cases hk:k=id;subst hk;rw [qn rfl] at ho;injection ho with ho;exact ⟨by simpa using d, .inr (.inl ⟨e,s,xs,h1,ho.symm⟩)⟩
    ·rw [qj hk] at ho;exact kdb id ob f ho
  ·rename_i cs vs r' h1 f;cases d:(ids.contains k && vs.all (ok1 ids)) with
   | false=>rw [d] at h;cases h
   | true=>
    rw [d] at h;simp only [qe,qc] at h;subst h;rw [kah] at ho;simp only [qv] at d;by_cases hk:k=id;subst hk;rw [qn rfl] at ho;injection ho with ho;exact ⟨by simpa using d.1, .inr (.inr (.inl ⟨cs,vs,h1,ho.symm,d.2⟩))⟩
    ·rw [qj hk] at ho;exact kdb id ob f ho
  ·rename_i ψ0 ids0 S0 w0 r' h1 f;cases d:(ids.contains k && ids0.all ids.contains) with
   | false=>rw [d] at h;cases h
   | true=>
    rw [d] at h;simp only [qe,qc] at h;subst h;rw [kah] at ho;simp only [qv] at d;by_cases hk:k=id;subst hk;rw [qn rfl] at ho;injection ho with ho;exact ⟨by simpa using d.1, .inr (.inr (.inr (.inl ⟨ψ0,ids0,S0,w0,h1,ho.symm,d.2⟩)))⟩
    ·rw [qj hk] at ho;exact kdb id ob f ho
  ·rename_i kv r' h1 f;cases d:ids.contains k with
   | false=>rw [d] at h;cases h
   | true=>
    rw [d] at h;simp only [qe,qc] at h;subst h;rw [kah] at ho;by_cases hk:k=id;subst hk;rw [qn rfl] at ho;injection ho with ho;exact ⟨by simpa using d, .inr (.inr (.inr (.inr (.inl ⟨kv,h1,ho.symm⟩))))⟩
    ·rw [qj hk] at ho;exact kdb id ob f ho
  ·rename_i g ov eo ei rows r' h1 f;cases d:ids.contains k with
   | false=>rw [d] at h;cases h
   | true=>
    rw [d] at h;simp only [qe,qc] at h;subst h;rw [kah] at ho;by_cases hk:k=id;subst hk;rw [qn rfl] at ho;injection ho with ho;exact ⟨by simpa using d, .inr (.inr (.inr (.inr (.inr (.inl ⟨g,ov,eo,ei,rows,h1,ho.symm⟩)))))⟩
    ·rw [qj hk] at ho;exact kdb id ob f ho
  ·rename_i gs r' h1 f;cases d:ids.contains k with
   | false=>rw [d] at h;cases h
   | true=>
    rw [d] at h;simp only [qe,qc] at h;subst h;rw [kah] at ho;by_cases hk:k=id;subst hk;rw [qn rfl] at ho;injection ho with ho;exact ⟨by simpa using d, .inr (.inr (.inr (.inr (.inr (.inr (.inl ⟨gs,h1,ho.symm⟩))))))⟩
    ·rw [qj hk] at ho;exact kdb id ob f ho
  ·rename_i s pos r' h1 f;cases d:ids.contains k with
   | false=>rw [d] at h;cases h
   | true=>
    rw [d] at h;simp only [qe,qc] at h;subst h;rw [kah] at ho;by_cases hk:k=id;subst hk;rw [qn rfl] at ho;injection ho with ho;exact ⟨by simpa using d, .inr (.inr (.inr (.inr (.inr (.inr (.inr (.inl ⟨s,pos,h1,ho.symm⟩)))))))⟩
    ·rw [qj hk] at ho;exact kdb id ob f ho
  ·rename_i Φ i r' h1 f;cases d:ids.contains k with
   | false=>rw [d] at h;cases h
   | true=>
    rw [d] at h;simp only [qe,qc] at h;subst h;rw [kah] at ho;by_cases hk:k=id;subst hk;rw [qn rfl] at ho;injection ho with ho;exact ⟨by simpa using d, .inr (.inr (.inr (.inr (.inr (.inr (.inr (.inr (.inl ⟨Φ,i,h1,ho.symm⟩))))))))⟩
    ·rw [qj hk] at ho;exact kdb id ob f ho
  ·rename_i kv r' h1 f;cases d:ids.contains k with
   | false=>rw [d] at h;cases h
   | true=>
    rw [d] at h;simp only [qe,qc] at h;subst h;rw [kah] at ho;by_cases hk:k=id;subst hk;rw [qn rfl] at ho;injection ho with ho;exact ⟨by simpa using d, .inr (.inr (.inr (.inr (.inr (.inr (.inr (.inr (.inr (.inl ⟨kv,h1,ho.symm⟩)))))))))⟩
    ·rw [qj hk] at ho;exact kdb id ob f ho
  ·rename_i m x y z r' h1 f;cases d:(ids.contains k && ids.contains m) with
   | false=>rw [d] at h;cases h
   | true=>
    rw [d] at h;simp only [qe,qc] at h;subst h;rw [kah] at ho;simp only [qv] at d;by_cases hk:k=id;subst hk;rw [qn rfl] at ho;injection ho with ho;exact ⟨by simpa using d.1, .inr (.inr (.inr (.inr (.inr (.inr (.inr (.inr (.inr (.inr ⟨m,x,y,z,h1,ho.symm,d.2⟩)))))))))⟩
    ·rw [qj hk] at ho;exact kdb id ob f ho
  ·cases h
theorem le_co {st':St} {ts:List (Nat×C1)} {os:List (Nat×List C0)} (h:coSt st ids ts os=some st'):LeSt st st':=by
 unfold coSt at h;split at h
 ·rename_i tmps heap h1 y n;injection h with h;subst h;intro F S0 N0 ψ S a w hs;refine ⟨ψ,S,hs.defers,hs.size,fun t=>?_,⟨fun id ob ho=>?_,fun id id' o o' b ho p q z=>?_,hs.core.lt,hs.core.s0,hs.core.n0,hs.core.fr⟩⟩
  ·rcases ko5 t y with h | ⟨c,h,hk⟩;show RV ψ _ S w _ (look .any tmps t);rw [h];exact .any
   ·show RV ψ _ S w _ (look .any tmps t);rw [h];exact (kmz _ (hs.tmps t)).sub1 hk
  ·obtain ⟨f,r⟩:=kdb id ob n ho;rcases r with ⟨l,e,cells,d,rfl,g⟩ | ⟨e,s,xs,d,rfl⟩ | ⟨cs,vs,d,rfl,g⟩ | ⟨ψ0,ids0,S0,w0,d,rfl,g⟩ | ⟨kv,d,rfl⟩ | ⟨_,_,_,_,_,d,rfl⟩ | ⟨_,d,rfl⟩ | ⟨_,_,d,rfl⟩ | ⟨_,_,d,rfl⟩ | ⟨_,d,rfl⟩ | ⟨m,_,_,_,d,rfl,g⟩;obtain ⟨_,⟨k0,b,cs,k1,k2,k3,k4,k5⟩,k6⟩:=hs.core.obj id _ d;obtain ⟨z1,z2⟩:=k0l l k4 k5;exact ⟨f,⟨k0,b,cs,k1,k2,by rw [ksu];exact k3,z1,fun i v x hv j=>(z2 i v x hv j).sub1 (qu.1 g x (qk j))⟩,k6⟩;obtain ⟨_,k,k6⟩:=hs.core.obj id _ d;exact ⟨f,k,k6⟩;obtain ⟨_,⟨k0,k1,kn,k3⟩,k6⟩:=hs.core.obj id _ d;exact ⟨f,⟨k0,k1,kn,fun i v x hv j=>(k3 i v x hv j).sub1 (qu.1 g x (qk j))⟩,k6⟩;obtain ⟨_,⟨k0,k1,kn,k2,k3,k4,k5⟩,k6⟩:=hs.core.obj id _ d;exact ⟨f,⟨k0,k1,kn,k2,fun i hi=>by simpa using qu.1 g i hi,k4,k5⟩,k6⟩;obtain ⟨_,k,k6⟩:=hs.core.obj id _ d;exact ⟨f,k,k6⟩;obtain ⟨_,k,k6⟩:=hs.core.obj id _ d;exact ⟨f,k,k6⟩;obtain ⟨_,k,k6⟩:=hs.core.obj id _ d;exact ⟨f,k,k6⟩;obtain ⟨_,k,k6⟩:=hs.core.obj id _ d;exact ⟨f,k,k6⟩;obtain ⟨_,⟨k0,b,es,cl,k1,k2,k3⟩,k6⟩:=hs.core.obj id _ d;exact ⟨f,⟨k0,b,es,cl,k1,k2,k3.1,trivial⟩,k6⟩;obtain ⟨_,k,k6⟩:=hs.core.obj id _ d;exact ⟨f,k,k6⟩
   ·obtain ⟨_,⟨k0,k1,b,bm,k2,k3,k4⟩,k6⟩:=hs.core.obj id _ d;exact ⟨f,⟨k0,by simpa using g,b,bm,k2,k3,k4⟩,k6⟩
  ·obtain ⟨_,r⟩:=kdb id o n ho;obtain ⟨_,u⟩:=kdb id' o' n p;have k1:∃ o,kaa st.heap id=some o:=(by rcases r with ⟨l,_,cells,d,_⟩ | ⟨e,s,xs,d,_⟩ | ⟨cs,vs,d,_⟩ | ⟨_,_,_,_,d,_⟩ | ⟨_,d,_⟩ | ⟨_,_,_,_,_,d,_⟩ | ⟨_,d,_⟩ | ⟨_,_,d,_⟩ | ⟨_,_,d,_⟩ | ⟨_,d,_⟩ | ⟨_,_,_,_,d,_⟩ <;> exact ⟨_,d⟩);have k2:∃ o,kaa st.heap id'=some o:=(by rcases u with ⟨l,_,cells,d,_⟩ | ⟨e,s,xs,d,_⟩ | ⟨cs,vs,d,_⟩ | ⟨_,_,_,_,d,_⟩ | ⟨_,d,_⟩ | ⟨_,_,_,_,_,d,_⟩ | ⟨_,d,_⟩ | ⟨_,_,d,_⟩ | ⟨_,_,d,_⟩ | ⟨_,d,_⟩ | ⟨_,_,_,_,d,_⟩ <;> exact ⟨_,d⟩);obtain ⟨o1,k1⟩:=k1;obtain ⟨o2,k2⟩:=k2;exact hs.core.inj id id' o1 o2 b k1 k2 q z
 ·cases h
def kcv (id:Nat):List (Nat×AObj)->List (Nat×AObj)
 | []=>[]
 | (k,v)::l=>bif Nat.beq k id then kcv id l else (k,v)::kcv id l
theorem keq (id:Nat):∀ {l:List (Nat×AObj)} {k:Nat} {ob:AObj},kaa (kcv id l) k=some ob->k≠id/\kaa l k=some ob
 | [],k,ob,h=>by cases h
 | (j,v)::l,k,ob,h=>by
  simp only [kcv] at h;cases a:Nat.beq j id with
  | true=>
   rw [a] at h;obtain rfl:=qi a;obtain ⟨h1,b⟩:=keq j h;refine ⟨h1,?_⟩;rw [kah,qj (Ne.symm h1)];exact b
  | false=>
   rw [a] at h;simp only [qf,kah] at h;rw [kah];by_cases hk:j=k;subst hk;rw [qn rfl] at h ⊢;exact ⟨(fun e=>by subst e;rw [Nat.beq_refl] at a;cases a),h⟩
   ·rw [qj hk] at h ⊢;exact keq id h
theorem kt6 {id:Nat}:∀ {l:List (Nat×AObj)} {k:Nat} {ob:AObj},k≠id->kaa l k=some ob->kaa (kcv id l) k=some ob
 | [],k,ob,_,h=>by cases h
 | (j,v)::l,k,ob,a,h=>by
  simp only [kcv];rw [kah] at h;by_cases b:j=k;subst b;rw [qn rfl] at h;rw [Nat.beq_eq_false a];simp only [qf,kah];exact h
  ·rw [qj b] at h;have ih:=kt6 a h;cases c:Nat.beq j id with
   | true=>exact ih
   | false=>
    simp only [qf,kah];rw [qj b];exact ih
theorem kjo {heap:List (Nat×AObj)} {ids:List Nat} {id:Nat} {e:TypeId} {size:Nat} {xs:List FV} (h:Core F S0 N0 heap ids ψ S w) (ho:kaa heap id=some (.frow e size xs)):
  Core F S0 N0 (kcv id heap) ids ψ (fun b=>S b\/kar (ψ.val id)=some b) w/\RF (fun b=>S b\/kar (ψ.val id)=some b) w (ψ.val id) (.lst size xs.length xs):=by
 obtain ⟨I,p,z⟩:=h.obj id _ ho;have q:=p;obtain ⟨h0,r,cs,f,B,hr⟩:=p;refine ⟨⟨fun k ob hk=>?_,fun k k' o o' b hk l m a C=>?_,fun b a=>?_,fun b a=>?_,h.n0,h.fr⟩,?_⟩
 ·obtain ⟨m,hk⟩:=keq id hk;obtain ⟨h1,J,H⟩:=h.obj k ob hk;refine ⟨h1,J.keep Ext.refl (fun _ h=>h) (fun b a => .inl a) (fun _ _ _=>rfl) ⟨rfl,rfl⟩ (fun _ _=>rfl),fun b a=>⟨fun hs=>?_,(H b a).2⟩⟩;rcases hs with hs | hs;exact (H b a).1 hs
  ·exact h.inj k id ob _ b hk ho m a (.of hs)
 obtain ⟨_,hk⟩:=keq id hk;obtain ⟨_,l⟩:=keq id l;exact h.inj k k' o o' b hk l m a C
 ·rcases a with a | a;exact h.lt b a
  ·exact q.lt (.of a)
 ·rcases a with a | a;exact h.s0 b a
  ·exact (z b (.of a)).2.2
 ·rcases f.2 with ⟨hv,D⟩ | ⟨g,cap,cur,hv,_,K,E,s,L,G⟩;have:xs=[]:=qa6 D;subst this;rw [hv];exact .lst (A:=none) (cap:=0) (xs:=[]) (fun _=>[]) rfl (qy _) (by omega) r (fun i x c=>by simp at c) (fun i x c=>by simp at c) (fun i x j v y c=>by simp at c)
  ·rw [hv];have t:∀ i x,xs[i]?=some x->(i+1)*size<=cs.length:=fun i x c=>(by rw [f.1];exact qbe _ (qd.1 c).1);refine .lst (fun i=>(cs.drop (i*size)).take size) rfl E (by unfold maxLen at s;exact s) r (fun i x c=>⟨g,0,rfl, .inr (by rfl),fun j u n=>?_⟩) (fun i x c=>?_) fun i x j v y c d hy=>?_
   ·rw [qad] at n;split at n
    ·rw [qan,<- G,qad] at n;split at n;simp only [World.cell?,K,Nat.zero_add];simpa using n
     ·cases n
    ·cases n
   have:=t i x c;rw [qbi] at this;exact ⟨by rw [qav,qba];omega,B x (qk c)⟩
   ·rw [qad] at d;split at d;rw [qan] at d;exact (hr i x j v y c d hy).mono fun _ h => .inl h
    ·cases d
end Go.Proofs.YtnlhjbnpjefjgaaGreatDoor
set_option linter.all false
set_option linter.unusedSectionVars false
namespace Go.Proofs.YtnlhjbnpjefjgaaGreatDoor
open Go Go.RowKit
variable [Dr]
def PCall (P:Program) (f:FuncId) (args:List FV) (r:FV):Prop:=
 (∃ fn, P.funcs[f]? = some fn /\ fn.body.isNone = false /\ (fn.name == "runtime.NumGoroutine") = false) /\
 ∀ (S:Nat->Prop) (w:World) (vs:Array Value),vs.size=args.length->(∀ (i:Nat) (v:Value) (x:FV),vs[i]?=some v->args[i]?=some x->RF S w v x) ->
  Calls P f vs w fun e w'=>∃ v,e = .returned v/\RF (fun b=>S b\/w.heap.size<=b) w' v r/\Grow w w'
def k6v (st:St) (c:C1) (x:Operand):Option FV:=match co1 c (st.eval x) with
 | .fz y=>some y
 | _=>none
def koj (st:St):List C1->List Operand->Option (List FV)
 | [],[]=>some []
 | c::cs,x::xs=>match k6v st c x,koj st cs xs with
  | some y,some ys=>some (y::ys)
  | _,_=>none
 | _,_=>none
variable {P:Program} {F S0:Nat->Prop} {N0:Nat} {w w':World} {S S':Nat->Prop} {ψ:Env} {K:Nat->Prop} {T:List (TypeId×TD)} {o:Oper} {a:Act} {st:St} {t:TypeId} {d:TD}
theorem kvu {ids:List Nat} (h:∀ t,RV ψ (·∈ids) S w (a.tmps.getD t undef) (st.get t)):∀ {cs:List C1} {xs:List Operand} {ys:List FV},koj st cs xs=some ys ->
  ys.length=xs.length/\∀ (i:Nat) (x:Operand) (y:FV),xs[i]?=some x->ys[i]?=some y->RF S w (a.eval x) y
 | [],[],ys,h=>by simp only [koj,qc] at h;subst h;exact ⟨rfl,fun i x y h=>by simp at h⟩
 | c::cs,x::xs,ys,b=>by
  simp only [koj] at b;split at b
  ·rename_i y ys' h1 e;injection b with b;subst b;obtain ⟨e1,e2⟩:=kvu h e;refine ⟨by simp [e1],fun i x' y' d hy=>?_⟩;cases i with
   | zero=>
    simp at d hy;subst d hy;unfold k6v at h1;have hv:=kmz c (Sim.eval_tmps h x);split at h1;rename_i z f;injection h1 with h1;subst h1;rw [f] at hv;exact hv.inv
    ·cases h1
   | succ i=>exact e2 i x' y' (by simpa using d) (by simpa using hy)
  ·cases b
 | [],_::_,ys,h=>by cases h
 | _::_,[],ys,h=>by cases h
theorem knr {f : FuncId} {args : Array Operand} {ts : Array TypeId} (ho : o.op = .call { callee := .value (.func f), args := args, argTypes := ts }) (hf : ∃ fn, P.funcs[f]? = some fn /\ fn.body.isNone = false /\ (fn.name == "runtime.NumGoroutine") = false) :
  (execOp a.eval o).run P w = .ok (.enter f (args.map a.eval)) w:=by
 obtain ⟨fn,h1,c,d⟩:=hf;have b:fn.body≠none:=by intro h;rw [h] at c;cases c
 simp only [qbu,ne_eq] at d;simp [execOp,ho,resolve,Act.eval,Deferred.ofValue,invoke,callFunc,h1,b,d]
theorem k39 {f:FuncId} {args:Array Operand} {ts:Array TypeId} {cs:List C1} {ys:List FV} {r:FV} (ho:o.op = .call { callee := .value (.func f),args:=args,argTypes:=ts }) (hc:koj st cs args.toList=some ys) (hp:PCall P f ys r):NStep P o st (.fz r):=by
 intro ψ S a w ht d;obtain ⟨e1,e2⟩:=kvu ht hc;unfold kcm;rw [knr ho hp.1];refine (hp.2 S w (args.map a.eval) (by simp [e1]) fun i v x hv b=>?_).mono ?_;simp only [Array.getElem?_map,qw] at hv;obtain ⟨y,hy,rfl⟩:=hv;exact e2 i y x (by simpa using hy) b
 ·rintro e w' ⟨v,rfl,h1,c⟩;exact ⟨v,rfl,c, .fz h1⟩
def resX (T:List (TypeId×TD)) (st:St) (r:ResultVar) (c:C1):Option FV:=match r with
 | .tmp t=>match co1 c (st.get t) with
  | .fz y=>some y
  | _=>none
 | .cell x t=>match kad T t,kj9 st (st.get x) with
  | some d,some xs=>match kjt d xs with
   | some z=>match co1 c z with
    | .fz y=>some y
    | _=>none
   | none=>none
  | _,_=>none
def kr0 (T:List (TypeId×TD)) (st:St):List ResultVar->List C1->Option (List FV)
 | [],[]=>some []
 | r::rs,c::cs=>match resX T st r c,kr0 T st rs cs with
  | some y,some ys=>some (y::ys)
  | _,_=>none
 | _,_=>none
def k01 (T:List (TypeId×TD)) (st:St) (rs:List ResultVar) (cs:List C1):Option FV:=match kr0 T st rs cs with
 | some [y]=>some y
 | some ys=>some (.tup ys)
 | none=>none
def retX (T:List (TypeId×TD)) (st:St) (rs:List ResultVar) (cs:List C1):Option FV:=match st.dfr with
 | []=>k01 T st rs cs
 | _=>none
theorem kx9 {T:List (TypeId×TD)} {st:St} {rs:List ResultVar} {cs:List C1} {y:FV} (h:retX T st rs cs=some y):st.dfr=[]/\k01 T st rs cs=some y:=by
 unfold retX at h;split at h;rename_i a;exact ⟨a,h⟩
 ·cases h
theorem k0a {v:Value} {x:AV} {xs:List AV} {c:AV} (n:TdOk P t d) (hv:RV ψ (·∈st.ids) S w v x) (q:∀ id o,kaa st.heap id=some o->ObR ψ (·∈st.ids) S w id o) (e:kj9 st x=some xs) (hc:kjt d xs=some c):
  ∃ ad u,v = .pointer (some ad)/\(loadVar t ad).run P w = .ok u w/\RV ψ (·∈st.ids) S w u c:=by
 obtain ⟨b,off,hv,cs,h,hl,h1,hr⟩:=kpg hv q e;unfold kjt at hc;cases hk:d.kind.agg with
 | false=>
  rw [hk] at hc;simp only [qf] at hc;cases xs with
  | nil=>cases hc
  | cons y ys=>
   simp only [List.head?_cons,qc] at hc;subst hc;have k:cs[0]?=some (cs[0]'(by simp at hl;omega)):=qa _;have f:w.cell? ⟨b,off,none⟩=some (cs[0]'(by simp at hl;omega)):=(by simpa using h 0 _ k);exact ⟨_,cs[0]'(by simp at hl;omega),hv,by simp [loadVar,n.isAgg,hk,f],hr 0 _ y k rfl⟩
 | true=>
  rw [hk] at hc;simp only [qe] at hc;cases g:Nat.ble d.size xs.length with
  | false=>rw [g] at hc;cases hc
  | true=>
   rw [g] at hc;simp only [qe,qc] at hc;subst hc;have p:=qr g;have l:(cs.take d.size).length=d.size:=(by rw [qav];omega);have a:=run_loadCells_list (P:=P) w ⟨b,off,none⟩ (cs.take d.size) fun j v m=>by
    rw [qad] at m;split at m;rw [kbo];exact h j v m
    ·cases m
   rw [l] at a;refine ⟨_, .agg (cs.take d.size).toArray,hv,by simp [loadVar,n.isAgg,hk,n.size,a],RV.aggA (by simp [hl]) (fun x e=>h1 x (qa8 e)) fun i v x hv e=>?_⟩;simp only [List.getElem?_toArray] at hv;rw [qad] at hv e;split at hv;rename_i hi;rw [qn hi] at e;exact hr i v x hv e
   ·cases hv
def kgw (tmps:Array Value):ResultVar->Sem Value
 | .tmp t=>pure (tmps.getD t undef)
 | .cell x t=>do loadVar t (<- asAddr (tmps.getD x undef))
theorem kxr (f:TOk P T) (hs:Sim F S0 N0 st ψ S a w):∀ {rs:List ResultVar} {cs:List C1} {ys:List FV},kr0 T st rs cs=some ys ->
  ∃ vs:List Value,(rs.mapM (kgw a.tmps)).run P w = .ok vs w/\vs.length=ys.length/\∀ (i:Nat) (v:Value) (y:FV),vs[i]?=some v->ys[i]?=some y->RF S w v y
 | [],[],ys,h=>by simp only [kr0,qc] at h;subst h;exact ⟨[],by simp,rfl,fun i v y h=>by simp at h⟩
 | r::rs,c::cs,ys,h=>by
  simp only [kr0] at h;split at h
  ·rename_i y ys' h1 g;injection h with h;subst h;obtain ⟨vs,k1,k2,k3⟩:=kxr f hs g;have key:∃ v,(kgw a.tmps r).run P w = .ok v w/\RF S w v y:=by
    unfold resX at h1;split at h1
    ·rename_i t;have hv:=kmz c (hs.tmps t);split at h1;rename_i z b;injection h1 with h1;subst h1;rw [b] at hv;exact ⟨_,rfl,hv.inv⟩
     ·cases h1
    ·rename_i x t;split at h1
     ·rename_i d xs j k;split at h1
      ·rename_i z b;obtain ⟨ad,u,e1,e2,e3⟩:=k0a (f.get j) (hs.tmps x) (fun id o ho=>(hs.core.obj id o ho).2.1) k b;have hv:=kmz c e3;split at h1;rename_i z' e;injection h1 with h1;subst h1;rw [e] at hv;refine ⟨u,?_,hv.inv⟩;simp only [kgw,e1,asAddr,Sem.run_bind,Sem.run_pure,Result.andThen_ok,e2]
       ·cases h1
      ·cases h1
     ·cases h1
   obtain ⟨v,e1,e2⟩:=key;refine ⟨v::vs,?_,by simp [k2],fun i v' y' hv hy=>?_⟩;rw [List.mapM_cons];simp only [Sem.run_bind,e1,Result.andThen_ok,k1,Sem.run_pure]
   ·cases i with
    | zero=>simp at hv hy;subst hv hy;exact e2
    | succ i=>exact k3 i v' y' (by simpa using hv) (by simpa using hy)
  ·cases h
 | [],_::_,ys,h=>by cases h
 | _::_,[],ys,h=>by cases h
theorem k8x (d:TOk P T) (hs:Sim F S0 N0 st ψ S a w) {fn:Func} {cs:List C1} {y:FV} (h:retX T st fn.results.toList cs=some y):∃ v,(results fn a.tmps).run P w = .ok v w/\RF S w v y:=by
 replace h:=(kx9 h).2;unfold k01 at h;have key:∀ ys,kr0 T st fn.results.toList cs=some ys->∃ vs:List Value,(results fn a.tmps).run P w = .ok (if h:vs.length=1 then vs[0] else .tuple vs.toArray) w/\vs.length=ys.length/\∀ (i:Nat) (v:Value) (y:FV),vs[i]?=some v->ys[i]?=some y->RF S w v y:=fun ys hy=>by
  obtain ⟨vs,k1,k2,k3⟩:=kxr d hs hy;refine ⟨vs,?_,k2,k3⟩;unfold results;rw [Array.mapM_eq_mapM_toList];have b:∀ (g:ResultVar->Sem Value),(∀ x,g x=kgw a.tmps x)->(fn.results.toList.mapM g).run P w = .ok vs w:=fun g b=>by rw [show g=kgw a.tmps from funext b];exact k1
  simp only [Sem.run_bind,Sem.run_map];rw [b _ fun x=>by cases x <;> rfl];simp only [Result.andThen_ok,Sem.run_pure];simp
 split at h
 ·rename_i z e;injection h with h;subst h;obtain ⟨vs,k1,k2,k3⟩:=key _ e;have hl:vs.length=1:=by simpa using k2
  rw [dif_pos hl] at k1;exact ⟨_,k1,k3 0 _ _ (qa (by omega)) rfl⟩
 ·rename_i ys c hy;injection h with h;subst h;obtain ⟨vs,k1,k2,k3⟩:=key _ hy;have hl:¬ vs.length=1:=fun hl=>by rw [k2] at hl;obtain ⟨z,rfl⟩:=List.length_eq_one_iff.1 hl;exact c z rfl
  rw [dif_neg hl] at k1;exact ⟨_,k1, .tup (by simpa using k2) fun i v x hv f=>k3 i v x (by simpa using hv) f⟩
 ·cases h
def kls:Nat->List FV->List (Nat×AV)
 | _,[]=>[]
 | i,x::l=>(i, .fz x)::kls (i+1) l
def retQ (T:List (TypeId×TD)) (rs:List ResultVar) (cs:List C1) (r:FV):Exit->St->Prop
 | .normal,st=>retX T st rs cs=some r
 | .ret,st=>retX T st rs cs=some r
 | _,_=>False
theorem ktw:∀ (l:List FV) (i t:Nat),(look .any (kls i l) t = .any)\/∃ x,i<=t/\l[t - i]?=some x/\look .any (kls i l) t = .fz x
 | [],i,t => .inl rfl
 | x::l,i,t=>by
  simp only [kls,kbc];by_cases h:i=t;subst h;exact .inr ⟨x,qy _,by simp,by simp⟩
  ·rw [qj h];rcases ktw l (i+1) t with h1 | ⟨y,h1,a,b⟩;exact .inl h1
   ·exact .inr ⟨y,by omega,by rw [show t - i=(t - (i+1))+1 by omega];simpa using a,b⟩
theorem ky6 (p : TOk P T) {f : FuncId} {fn : Func} {c : Code} {args : List FV} {r : FV} (cs : List C1) (hf : P.funcs[f]? = some fn) (a : fn.body = some c) (hn : (fn.name == "runtime.NumGoroutine") = false) (j : Nat.ble args.length fn.ntmps = true)
  (h:awp P c { n:=fn.ntmps,tmps:=kls 0 args,heap:=[],ids:=[] } (retQ T fn.results.toList cs r)):PCall P f args r:=by
 have j:=qr j;refine ⟨⟨fn,hf,by rw [a];rfl,hn⟩,fun S w vs hs hr=>calls_of_wp hf a ?_⟩;have l:Sim (fun b=>b<w.heap.size) S w.heap.size { n:=fn.ntmps,tmps:=kls 0 args,heap:=[],ids:=[] } ⟨fun _=>0,fun _=>undef⟩ (fun b=>S b/\b<w.heap.size) { tmps:=vs++Array.replicate (fn.ntmps - vs.size) undef,defers:=[] } w:=by
  refine ⟨rfl,by simp;omega,fun t=>?_,⟨(fun id o ho=>nomatch ho),(fun id id' o o' b ho=>nomatch ho),fun b a=>a.2,fun b a => .inl a.1,qy _,fun b a=>a⟩⟩;show RV _ _ _ w _ (look .any (kls 0 args) t);rcases ktw args 0 t with h | ⟨x,_,h1,m⟩;rw [h];exact .any
  ·rw [m];have d:t<vs.size:=(by rw [hs];have:=(qd.1 h1).1;omega);have:(vs++Array.replicate (fn.ntmps - vs.size) undef).getD t undef=vs[t]:=(by rw [qa3,qbn d];simp [d]);rw [this];exact .fz (hr t _ x (by simp [d]) (by simpa using h1)).bound
 refine wp_mono (h _ _ _ _ _ _ w l) ?_;rintro e a' w' ⟨st',ψ',S',g,m,i⟩;have fin:retX T st' fn.results.toList cs=some r->a'.defers=[]/\∃ v,(results fn a'.tmps).run P w' = .ok v w'/\∃ v',Ending.returned v = .returned v'/\RF (fun b=>S b\/w.heap.size<=b) w' v' r/\Grow w w':=fun g=>by obtain ⟨v,e1,e2⟩:=k8x p m g;exact ⟨m.defers.trans (kx9 g).1,v,e1,v,rfl,e2.mono m.core.s0,⟨⟨i.os,i.tape,i.output,i.size,fun k hk=>i.block k hk⟩,i.drawn⟩⟩
 cases e with
 | normal=>exact fin g
 | ret=>exact fin g
 | _=>exact g.elim
end Go.Proofs.YtnlhjbnpjefjgaaGreatDoor
set_option linter.all false
namespace Go.Proofs.YtnlhjbnpjefjgaaGreatDoor
open Go Go.RowKit
variable [Dr]
def hadd (fs:List (Nat×Option Nat×AV)) (p:Nat->Bool) (base:List (Nat×AV)):List (Nat×AV):=match fs with
 | []=>base
 | (j,some d,c)::l=>(d,bif p j then c else .any)::hadd l p base
 | (_,none,_)::l=>hadd l p base
def hst (st:St) (fs:List (Nat×Option Nat×AV)) (p:Nat->Bool):St:={ st with tmps:=hadd fs p st.tmps }
variable {P:Program} {F S0:Nat->Prop} {N0:Nat} {w w':World} {S S':Nat->Prop} {ψ:Env} {K:Nat->Prop} {o:Oper} {a:Act} {st:St}
theorem kjb (st:St) {ops:Array Oper} {g:Bool} (hs:∀ t,RV ψ K S w (a.tmps.getD t undef) (st.get t)) (h:kbk ops st o=some g):Region.wanted o (yielded ops a.tmps)=g:=by
 unfold kbk at h;unfold Region.wanted;split at h;rename_i e;rw [e];injection h
 ·rename_i j want e;rw [e];split at h
  ·rename_i t ht;have hv:=hs t;split at h
   ·rename_i b f;rw [f] at hv;injection h with h;subst h;have c:a.tmps.getD t undef = .bool b:=hv.atom;rw [qa3] at c;have d:a.tmps[t]?=some (.bool b):=by
     cases d:a.tmps[t]? with
     | none=>rw [d] at c;cases c
     | some u=>rw [d] at c;simp only [qam] at c;rw [c]
    simp only [yielded,ht,qb,d];cases b <;> cases want <;> rfl
   rename_i xs f;rw [f] at hv;injection h with h;subst h;exact ksh hv.inv ht
   ·cases h
  ·cases h
theorem ko6 {a:Act} (d:Option Nat) {v:Value} (n t:Nat) (hn:a.tmps.size=n) (c:∀ t,d=some t->t<n):(a.put d v).tmps.getD t undef=if d=some t then v else a.tmps.getD t undef:=by
 cases d with
 | none=>simp [Act.put]
 | some d=>
  have b:=c d rfl;by_cases h:d=t;subst h;simp [Act.put,hn,b]
  ·rw [qj (by simpa using h)];simp only [Act.put];rw [qa3,Array.getElem?_setIfInBounds_ne h,<- qa3]
end Go.Proofs.YtnlhjbnpjefjgaaGreatDoor
set_option linter.all false
namespace Go.Proofs.YtnlhjbnpjefjgaaGreatDoor
open Go Go.RowKit
variable [Dr]
abbrev w64 (n:Int):Int:=IntKind.i64.wrap n
abbrev wu64 (n:Int):Int:=IntKind.u64.wrap n
def eB (b:Bool):FV := .atom (.bool b)
def eI (n:Int):FV := .atom (.int .i64 n)
def eL {α:Type} (size:Nat) (e:α->FV) (xs:List α):FV := .lst size xs.length (xs.map e)
def idx {α:Type} (xs:List α) (i:Int):Option α:=if 0<=i then xs[i.toNat]? else none
def app {α:Type} (bytes:Nat) (xs ys:List α):Option (List α):=if (xs.length+ys.length)*(bytes+1)<=140737488355328 then some (xs++ys) else none
variable {P:Program} {T:List (TypeId×TD)} {o:Oper} {st:St} {t:TypeId} {d:TD}
theorem kpm {α:Type} {xs:List α} {i:Int} {x:α} (h:idx xs i=some x):0<=i/\xs[i.toNat]?=some x:=by
 unfold idx at h;split at h;exact ⟨by assumption,h⟩
 ·cases h
theorem k7m {α:Type} (enc:α->FV) {xs:List α} {i:Int} {x:α} {X Y:Operand} {e:TypeId} {de:TD} {k:IntKind} {cs:List FV} (h:idx xs i=some x) (c:TOk P T) (ho:o.op = .indexAddr t X Y) (f:kad T t=some d) (hk:d.kind = .slice e) (b:kad T e=some de) (g:km1 (st.eval X)=some (xs.map enc)) (a:∀ x,(enc x).cells.length=de.size) (hy:st.eval Y = .fz (.atom (.int k i))) (hc:(enc x).cells=cs):NStep P o st (.fz (.fp cs)):=by
 obtain ⟨h0,h1⟩:=kpm h;refine kzz ho (c.get f) hk (c.get b) g (fun z j=>?_) hy h0 (z:=enc x) (by rw [ql,h1];rfl) hc;obtain ⟨y,_,rfl⟩:=qaf.1 j;exact a y
theorem kyn {α:Type} {bytes:Nat} {xs ys r:List α} (h:app bytes xs ys=some r):r=xs++ys/\(xs.length+ys.length)*(bytes+1)<=140737488355328:=by
 unfold app at h;split at h;injection h with h;exact ⟨h.symm,by assumption⟩
 ·cases h
theorem kw8 {α:Type} (enc:α->FV) {bytes:Nat} {xs ys r:List α} {X Y:Operand} {e:TypeId} {de:TD} {n m id:Nat} (h:app bytes xs ys=some r) (i:TOk P T) (ho:o.op = .call { callee := .builtin .append,args:=#[X,Y],argTypes:=#[t,t] }) (j:kad T t=some d) (hk:d.kind = .slice e) (b:kad T e=some de) (k:Nat.ble 1 de.size=true) (c:de.zero.length=de.size) (f:de.bytes=bytes) (l:st.eval X = .row id n) (g:kaa st.heap id=some (.frow e de.size (xs.map enc))) (hn:n=xs.length) (hy:st.eval Y = .fz (.lst de.size m (ys.map enc))\/st.eval Y = .lim de.size m (ys.map enc)):
  StepA P o st (.row id r.length) ((id, .frow e de.size (r.map enc))::st.heap) st.ids:=by
 obtain ⟨rfl,a⟩:=kyn h;subst f;have:=k45 (id:=id) (d:=d) (t:=t) (st:=st) (o:=o) (P:=P) (xs.map enc) (ys.map enc) ho (i.get j) hk (i.get b) (qr k) c l g (by rw [hn];simp) hy (by simpa using a);rw [<- qas,qaa] at this;exact this
theorem kgl (t id n:Nat) (e:TypeId) (size:Nat) (xs:List FV) (f:st.get t = .row id n:=by kernel_rfl) (d:kaa st.heap id=some (.frow e size xs):=by kernel_rfl) (hn:n=xs.length:=by simp):
  LeSt st { st with tmps:=(t, .fz (.lst size n xs))::st.tmps,heap:=kcv id st.heap }:=by
 subst hn;intro F S0 N0 ψ S a w hs;obtain ⟨c1,c2⟩:=kjo hs.core d;have c:∀ k,RV ψ (·∈st.ids) (fun b=>S b\/kar (ψ.val id)=some b) w (a.tmps.getD k undef) (st.get k):=fun k=>(hs.tmps k).mono (fun _ h=>h) fun _ h => .inl h;refine ⟨ψ,_,hs.defers,hs.size,fun k=>?_,c1⟩;simp only [St.get,kbc];split
 ·rename_i hk;subst hk;have hv:=c t;rw [f] at hv;have h0:=(hs.core.obj id _ d).2.1.1;refine .fz ?_;generalize a.tmps.getD t undef=u at hv;cases hv with
  | row hK g h1 hv=>rw [hv (by rw [h0])];exact c2
 ·exact c k
theorem kic (id2 id n j:Nat) (e:TypeId) (size:Nat) (xs:List FV) (e2:TypeId) (cells:List AV) (d:kaa st.heap id2=some (.box e2 cells):=by kernel_rfl) (l:cells[j]?=some (.row id n):=by kernel_rfl) (g:kaa st.heap id=some (.frow e size xs):=by kernel_rfl) (hn:n=xs.length:=by simp):
  LeSt st { st with heap:=(id2, .box e2 (cells.set j (.fz (.lst size n xs))))::kcv id st.heap }:=by
 subst hn;intro F S0 N0 ψ S a w hs;obtain ⟨c1,c2⟩:=kjo hs.core g;have q:id2≠id:=fun h=>by rw [h,g] at d;cases d
 have p:kaa (kcv id st.heap) id2=some (.box e2 cells):=kt6 q d;obtain ⟨k1,⟨k0,b,cs,k2,k3,k4,k5,k6⟩,k7⟩:=c1.obj id2 _ p;refine ⟨ψ,_,hs.defers,hs.size,fun k=>(hs.tmps k).mono (fun _ h=>h) fun _ h => .inl h,⟨fun i o ho=>?_,fun i i' o o' b ho r m u=>?_,c1.lt,c1.s0,c1.n0,c1.fr⟩⟩
 ·rw [kah] at ho;by_cases hi:id2=i
  ·subst hi;rw [qn rfl] at ho;injection ho with ho;subst ho;refine ⟨k1,⟨k0,b,cs,k2,k3,by simpa using k4,fun x l=>?_,fun i v x hv c=>?_⟩,k7⟩
   ·rcases List.mem_or_eq_of_mem_set l with l | rfl;exact k5 x l
    ·rfl
   ·rw [List.getElem?_set] at c;split at c
    ·rename_i s;subst s;split at c
     ·injection c with c;subst c;have t:=k6 j v _ hv l;have h0:=(hs.core.obj id _ g).2.1.1;refine .fz ?_;cases t with
      | row hK y h1 hv=>rw [hv (by rw [h0])];exact c2
     ·cases c
    ·exact k6 i v x hv c
  ·rw [qj hi] at ho;exact c1.obj i o ho
 ·have f:∀ {i:Nat} {o:AObj},kaa ((id2,AObj.box e2 (cells.set j (.fz (.lst size xs.length xs))))::kcv id st.heap) i=some o->∃ o',kaa (kcv id st.heap) i=some o':=fun {i o} h=>by
   rw [kah] at h;by_cases hi:id2=i;subst hi;exact ⟨_,p⟩
   ·rw [qj hi] at h;exact ⟨_,h⟩
  obtain ⟨o1,h1⟩:=f ho;obtain ⟨o2,p⟩:=f r;exact c1.inj i i' o1 o2 b h1 p m u
theorem kem (e e2:TypeId) (size id2 j id:Nat) (cells:List AV) (u:Nat.ble 1 size=true:=by kernel_rfl) (g:kaa st.heap id2=some (.box e2 cells):=by kernel_rfl) (l:cells[j]?=some (.fz (.atom (.slice none 0 0))):=by kernel_rfl) (d:st.ids.contains id=false:=by kernel_rfl):
  LeSt st { st with heap:=(id2, .box e2 (cells.set j (.row id 0)))::(id, .frow e size [])::st.heap,ids:=id::st.ids }:=by
 have d:id∉st.ids:=by simpa using d
 intro F S0 N0 ψ S a w hs;have hadd:=hs.core.add (n:=0) (v := .slice none 0 0) (w':=w) (ob := .frow e size []) (kai _) d (fun b q=>by cases q) ⟨kbq _ _,qr u,[],by rw [kap];exact ⟨by simp, .inl ⟨rfl,rfl⟩⟩,(fun x l=>by cases l),fun i x j v y h=>by simp at h⟩;have r:id≠id2:=fun h=>d (by rw [h];exact (hs.core.obj id2 _ g).1);have p:kaa ((id, .frow e size [])::st.heap) id2=some (.box e2 cells):=by rw [kah,qj r];exact g
 obtain ⟨k1,⟨k0,b,cs,k2,k3,k4,k5,k6⟩,k7⟩:=hadd.obj id2 _ p;refine ⟨ψ.set id 0 (.slice none 0 0),S,hs.defers,hs.size,fun k=>(hs.tmps k).keep (kbs d _ _) (fun _ h=>qh _ h) (fun _ h=>h) (fun _ _ _=>rfl),⟨fun i o ho=>?_,fun i i' o o' b ho s m q=>?_,hadd.lt,hadd.s0,hadd.n0,hadd.fr⟩⟩
 ·rw [kah] at ho;by_cases hi:id2=i
  ·subst hi;rw [qn rfl] at ho;injection ho with ho;subst ho;refine ⟨k1,⟨k0,b,cs,k2,k3,by simpa using k4,fun x l=>?_,fun i v x hv c=>?_⟩,k7⟩
   ·rcases List.mem_or_eq_of_mem_set l with l | rfl;exact k5 x l
    ·rfl
   ·rw [List.getElem?_set] at c;split at c
    ·rename_i t;subst t;split at c;injection c with c;subst c;rw [(k6 j v _ hv l).atom];exact .row (qq ..) (qar _) rfl fun _=>(kap _ _).symm
     ·cases c
    ·exact k6 i v x hv c
  ·rw [qj hi] at ho;exact hadd.obj i o ho
 ·have f:∀ {i:Nat} {o:AObj},kaa ((id2,AObj.box e2 (cells.set j (.row id 0)))::(id, .frow e size [])::st.heap) i=some o->∃ o',kaa ((id, .frow e size [])::st.heap) i=some o':=fun {i o} h=>by
   rw [kah] at h;by_cases hi:id2=i;subst hi;exact ⟨_,p⟩
   ·rw [qj hi] at h;exact ⟨_,h⟩
  obtain ⟨o1,h1⟩:=f ho;obtain ⟨o2,p⟩:=f s;exact hadd.inj i i' o1 o2 b h1 p m q
theorem LeSt.refl:LeSt st st:=fun F S0 N0 ψ S a w h=>⟨ψ,S,h⟩
theorem LeSt.trans {st' st'':St} (h:LeSt st st') (k:LeSt st' st''):LeSt st st'':=fun F S0 N0 ψ S a w hs=>by obtain ⟨ψ',S',b⟩:=h F S0 N0 ψ S a w hs;exact k F S0 N0 ψ' S' a w b
theorem NStep.eqv {c c':AV} (h:NStep P o st c) (e:c=c'):NStep P o st c':=e ▸ h
theorem kpr {c:Code} {Q:Exit->St->Prop} (h:awp P c st fun e st'=>∃ st2,LeSt st' st2/\Q e st2):awp P c st Q:=fun F S0 N0 ψ S a w hs=>
 wp_mono (h F S0 N0 ψ S a w hs) fun e a' w' ⟨st',ψ',S',⟨st2,h0,h1⟩,b,d⟩=>by obtain ⟨ψ2,S2,f⟩:=h0 F S0 N0 ψ' S' a' w' b;exact ⟨st2,ψ2,S2,h1,f,d⟩
theorem kw2 {c:Code} {Qa Q:Exit->St->Prop} (ha:awp P c st Qa) (a:∀ e st',Qa e st'->∃ st2,LeSt st' st2/\Q e st2):awp P c st Q:=kpr (kpy ha a)
theorem le_eq (t:Nat) (x y:AV) (b:st.get t=x) (h:x=y):LeSt st (st.put (some t) y):=by
 subst h;intro F S0 N0 ψ S a w hs;refine ⟨ψ,S,hs.defers,hs.size,fun k=>?_,hs.core⟩;simp only [St.put,St.get,kbc];split;rename_i hk;subst hk;rw [<- b];exact hs.tmps t
 ·exact hs.tmps k
theorem k16 {σ β:Type} {step:σ->Option (σ ⊕ β)} (body:Code) (stOf:σ->St) {s0:σ} {b:β} {n:Nat} (Qb:β->Exit->St->Prop) (hl:kac step n s0=some b) (h0:LeSt st (stOf s0)) (hr:∀ s r,step s=some r->awp P body (stOf s) fun e st=>match r with | .inl s'=>e = .normal/\LeSt st (stOf s') | .inr b'=>(e ≠ .normal/\e ≠ .outgrown)/\Qb b' e st):awp P (.loop body) st (Qb b):=by
 exact k5w stOf hl h0 (fun s s' hs=>hr s _ hs) fun s hs=>kpy (hr s _ hs) fun e st h=>⟨h.1.1,h.1.2,h.2⟩
end Go.Proofs.YtnlhjbnpjefjgaaGreatDoor
