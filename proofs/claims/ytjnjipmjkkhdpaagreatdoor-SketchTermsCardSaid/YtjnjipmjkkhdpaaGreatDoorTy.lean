import Derived.Test.YtjnjipmjkkhdpaaGreatDoorOpx
set_option linter.all false
set_option linter.unusedSectionVars false
namespace Go.Proofs.YtjnjipmjkkhdpaaGreatDoor
open Go Go.RowKit
variable [Dr]
abbrev Res:=Option (AV×List (Nat×AObj)×List Nat)
def fresh (l:List Nat):Nat:=l.foldl Nat.max 0+1
def nres (st:St) (c:Option AV):Res:=match c with
 | some c=>some (c,st.heap,st.ids)
 | none=>none
def kk4 (T:List (TypeId×TD)) (t:TypeId):Bool:=match kac T t with
 | some d=>match d.kind with
  | .bool=>true
  | _=>false
 | none=>false
def lenX (T:List (TypeId×TD)) (st:St) (x:Operand) (t:TypeId):Option AV:=match kac T t with
 | some d=>match d.kind,st.eval x with
  | .slice _,x=>match lenOf x with
   | some n=>some (.fz (.atom (.int .i64 n)))
   | none=>none
  | .str, .fz (.atom (.string s))=>some (.fz (.atom (.int .i64 s.size)))
  | _,_=>none
 | none=>none
def fldX (T:List (TypeId×TD)) (st:St) (s:TypeId) (x:Operand) (f:Nat):Option AV:=match kac T s with
 | some d=>match d.kind with
  | .st fs=>match fs[f]? with
   | some (ft,off)=>match kac T ft with
    | some df=>bif Nat.beq df.size 0 then none else klk st off (st.eval x)
    | none=>none
   | none=>none
  | _=>none
 | none=>none
def litX (T:List (TypeId×TD)) (st:St) (t:TypeId) (n:Nat) (parts:Array (Nat×Operand)):Option AV:=match kac T t with
 | some d=>match d.kind with
  | .slice e=>match kac T e with
   | some de=>match kkg de.size 0 (kb4 st parts) with
    | some xs=>bif Nat.beq xs.length n && (Nat.ble 1 de.size && Nat.ble (n*de.size) 16777216) then some (.lim de.size n xs) else none
    | none=>none
   | none=>none
  | _=>none
 | none=>none
def boxX (e:TypeId) (st:St) (cells:List AV):Res:=bif cells.all AV.single && !st.ids.contains (fresh st.ids) then some (.ref (fresh st.ids) 0 0,(fresh st.ids, .box e cells)::st.heap,fresh st.ids::st.ids) else none
def kqy (T:List (TypeId×TD)) (st:St) (t:TypeId) (x y:Operand):Res:=match kac T t,st.eval x with
 | some d, .ref id n off=>match kaa st.heap id with
  | some (.box e cells)=>bif Nat.beq n 0 && (Nat.beq (st.eval y).cells.length d.size && ((st.eval y).cells.all AV.single && Nat.ble (off+(st.eval y).cells.length) cells.length)) then some (.any,(id, .box e (kbw cells off (st.eval y).cells))::st.heap,st.ids) else none
  | _=>none
 | _,_=>none
def ktw (T:List (TypeId×TD)) (o:Oper) (st:St):Option AV:=match o.op with
 | .move x=>some (st.eval x)
 | .assign x=>some (st.eval x)
 | .pick c x y=>match st.eval c with
  | .fz (.atom (.bool b))=>some (bif b then st.eval x else st.eval y)
  | _=>none
 | .binOp op t x y _=>match st.eval x,st.eval y with
  | .fz (.atom u), .fz (.atom v)=>match binV (kk4 T t) op u v with
   | some r=>some (.fz (.atom r))
   | none=>none
  | _,_=>none
 | .unOp op _ x=>match st.eval x with
  | .fz (.atom u)=>match unV op u with
   | some r=>some (.fz (.atom r))
   | none=>none
  | _=>none
 | .load t x=>match kac T t,kjy st (st.eval x) with
  | some d,some xs=>kjl d xs
  | _,_=>none
 | .fieldAddr s x f=>fldX T st s x f
 | .extract x i=>match st.eval x with | .fz (.tup xs)=>(xs[i]?).map .fz | .tup xs=>xs[i]? | _=>none
 | .nilCheck x=>klk st 0 (st.eval x)
 | .build t parts=>ky4 T st t parts
 | .indexAddr t x y=>arrX T st t x y
 | .buildSlice t n parts=>litX T st t n parts
 | .call c=>match c.callee,c.args.toList,c.argTypes.toList with
  | .builtin .len,[x],[t]=>lenX T st x t
  | _,_,_=>none
 | .makeFunc (.func f) first cap=>bif first.isEmpty then some (.fn f (cap.toList.map st.eval)) else (bif cap.isEmpty then some (.mth f (first.toList.map st.eval)) else none)
 | _=>none
def kri (T:List (TypeId×TD)) (o:Oper) (st:St):Res:=match o.op with
 | .box e x=>boxX e st (st.eval x).cells
 | .alloc e=>match kac T e with
  | some d=>match knx d with
   | some cells=>boxX e st cells
   | none=>none
  | none=>none
 | .store t x y=>kqy T st t x y
 | _=>nres st (ktw T o st)
variable {P:Program} {w w':World} {S S':Nat->Prop} {ψ:Env} {T:List (TypeId×TD)} {o:Oper} {a:Act} {st:St}
theorem k49 {c0:Option AV} {c:AV} {h:List (Nat×AObj)} {i:List Nat} (hr:nres st c0=some (c,h,i)) (hn:∀ x,c0=some x->NStep P o st x):StepA P o st c h i:=by
 cases c0 with
 | none=>cases hr
 | some x=>
  simp only [nres,qc,qp] at hr;obtain ⟨rfl,rfl,rfl⟩:=hr;exact (hn x rfl).step
theorem kjq {α:Type} {xs:Array α} {x:α} (h:xs.toList=[x]):xs=#[x]:=by apply qbj;simpa using h
theorem ko5 (h:TOk P T) (c:AV) (hx:ktw T o st=some c:=by kernel_rfl):NStep P o st c:=by
 unfold ktw at hx;split at hx;rename_i x a;injection hx with hx;subst hx;exact ktz (.inl a);rename_i x a;injection hx with hx;subst hx;exact ktz (.inr a)
 ·rename_i c x y a;split at hx;rename_i b g;injection hx with hx;subst hx;exact k4g a g
  ·cases hx
 ·rename_i op t x y yt a;split at hx
  ·rename_i u v p hv;split at hx
   ·rename_i r hr;injection hx with hx;subst hx;refine k24 (kk4 T t) (fun g=>?_) a p hv hr;unfold kk4 at g;split at g
    ·rename_i d hd;split at g;rename_i hk;obtain ⟨_,e,h1,l⟩:=h.get hd;rw [hk] at l;cases e <;> simp [ker] at l;exact h1
     ·cases g
    ·cases g
   ·cases hx
  ·cases hx
 ·rename_i op t x a;split at hx
  ·rename_i u p;split at hx;rename_i r hr;injection hx with hx;subst hx;exact n_un a p hr
   ·cases hx
  ·cases hx
 ·rename_i t x a;split at hx;rename_i d xs hd j;exact kabj a (h.get hd) j hx
  ·cases hx
 ·rename_i s x f a;unfold fldX at hx;split at hx
  ·rename_i d hd;split at hx
   ·rename_i fs hk;split at hx
    ·rename_i ft off A;split at hx
     ·rename_i df q;cases g:Nat.beq df.size 0 with
      | true=>rw [g] at hx;cases hx
      | false=>
       rw [g] at hx;exact k82 a (h.get hd) hk A (h.get q) (fun e=>by rw [e] at g;cases g) hx
     ·cases hx
    ·cases hx
   ·cases hx
  ·cases hx
 rename_i x i a;exact kv1 a hx;rename_i x a;exact k16 a hx;rename_i t parts a;exact k0j h a hx;rename_i t x y a;exact n_arr h a hx
 ·rename_i t n parts a;unfold litX at hx;split at hx
  ·rename_i d hd;split at hx
   ·rename_i e hk;split at hx
    ·rename_i de w;split at hx
     ·rename_i xs j;cases g:(Nat.beq xs.length n && (Nat.ble 1 de.size && Nat.ble (n*de.size) 16777216)) with
      | false=>rw [g] at hx;cases hx
      | true=>
       rw [g] at hx;simp only [qg,qc] at hx;subst hx;simp only [qk] at g;exact k7o a (h.get hd) hk (h.get w) (qh g.2.1) (qe g.1) (qh g.2.2) j
     ·cases hx
    ·cases hx
   ·cases hx
  ·cases hx
 ·rename_i c a;split at hx
  ·rename_i x t h1 l z;have m:o.op = .call { callee := .builtin .len,args:=#[x],argTypes:=#[t] }:=(by obtain ⟨cl,as_,ts⟩:=c;simp only at h1 l z;rw [a,h1,kjq l,kjq z]);unfold lenX at hx;split at hx
   ·rename_i d hd;split at hx
    ·rename_i e hk;split at hx;rename_i n hn;injection hx with hx;subst hx;exact kuc m (h.get hd) hk hn
     ·cases hx
    rename_i s hk hv;injection hx with hx;subst hx;exact kv8 m (h.get hd) hk hv
    ·cases hx
   ·cases hx
  ·cases hx
 ·rename_i f first cap a
  cases g:first.isEmpty with
  | false=>
   rw [g] at hx;cases k:cap.isEmpty with
   | false=>rw [k] at hx;cases hx
   | true=>
    rw [k] at hx;have:cap=#[]:=(by simpa using k);subst this;simp only [qo,qg,qc] at hx;subst hx;exact k7k a
  | true=>
   rw [g] at hx;have:first=#[]:=by simpa using g
   subst this;simp only [qg,qc] at hx;subst hx;exact k5f a
 ·cases hx
theorem ky3 (f:TOk P T) {c:AV} {h:List (Nat×AObj)} {i:List Nat} (hx:kri T o st=some (c,h,i)):StepA P o st c h i:=by
 unfold kri at hx;split at hx
 ·rename_i e x b;unfold boxX at hx;cases a:((st.eval x).cells.all AV.single && !st.ids.contains (Go.Proofs.YtjnjipmjkkhdpaaGreatDoor.fresh st.ids)) with
  | false=>rw [a] at hx;cases hx
  | true=>
   rw [a] at hx;simp only [qg,qc,qp] at hx;obtain ⟨rfl,rfl,rfl⟩:=hx;simp only [qk,qbn] at a;exact k7p b rfl a.1 a.2
 ·rename_i e b;split at hx
  ·rename_i d hd;split at hx
   ·rename_i cells g;unfold boxX at hx;cases a:(cells.all AV.single && !st.ids.contains (Go.Proofs.YtjnjipmjkkhdpaaGreatDoor.fresh st.ids)) with
    | false=>rw [a] at hx;cases hx
    | true=>
     rw [a] at hx;simp only [qg,qc,qp] at hx;obtain ⟨rfl,rfl,rfl⟩:=hx;simp only [qk,qbn] at a;exact ku1 b (f.get hd) g a.2
   ·cases hx
  ·cases hx
 ·rename_i t x y b;unfold kqy at hx;split at hx
  ·rename_i d id n off hd j;split at hx
   ·rename_i e cells k;cases a:(Nat.beq n 0 && (Nat.beq (st.eval y).cells.length d.size && ((st.eval y).cells.all AV.single && Nat.ble (off+(st.eval y).cells.length) cells.length))) with
    | false=>rw [a] at hx;cases hx
    | true=>
     rw [a] at hx;simp only [qg,qc,qp] at hx;obtain ⟨rfl,rfl,rfl⟩:=hx;simp only [qk] at a;obtain ⟨b1,b2,b3,b4⟩:=a;obtain rfl:=qe b1;exact k0k b (f.get hd) j k rfl (qe b2) b3 (qh b4)
   ·cases hx
  ·cases hx
 ·exact k49 hx fun z g=>ko5 f _ (hx:=g)
def ko1 (st:St) (o:Oper):Bool:=match o.dst with
 | some t=>Nat.blt t st.n
 | none=>true
theorem klj {st:St} {o:Oper} (h:ko1 st o=true):∀ t,o.dst=some t->t<st.n:=fun t ht=>by unfold ko1 at h;rw [ht] at h;exact qa9 (by simpa [Nat.blt_eq] using h)
end Go.Proofs.YtjnjipmjkkhdpaaGreatDoor
set_option linter.all false
set_option linter.unusedSectionVars false
namespace Go.Proofs.YtjnjipmjkkhdpaaGreatDoor
open Go Go.RowKit
variable [Dr]
inductive C0 where
 | keep
 | zr
 | sl (size:Nat)
 | px
inductive C1 where
 | one (c:C0)
 | ag (l:List C0)
 | drop
def co0F:C0->FV->FV
 | .sl size, .atom (.slice none 0 0)=>bif Nat.ble 1 size then .lst size 0 [] else .atom (.slice none 0 0)
 | .px, .atom (.pointer none) => .bx []
 | _,x=>x
def co0:C0->AV->AV
 | c, .fz x => .fz (co0F c x)
 | .sl _, .lim s n xs => .fz (.lst s n xs)
 | .zr, .row id _ => .row id 0
 | _,x=>x
def zipF:List C0->List FV->List FV
 | c::l,x::xs=>co0F c x::zipF l xs
 | _,xs=>xs
def zip0:List C0->List AV->List AV
 | c::l,x::xs=>co0 c x::zip0 l xs
 | _,xs=>xs
def co1:C1->AV->AV
 | .one c,x=>co0 c x
 | .ag l, .fz (.agg xs) => .fz (.agg (zipF l xs))
 | .ag l, .agg xs=>aggA (zip0 l xs)
 | .ag _,x=>x
 | .drop,_ => .any
def ok0 (ids:List Nat):AV->Bool
 | .fz _=>true
 | .ref id _ _=>ids.contains id
 | .row id _=>ids.contains id
 | .mp id=>ids.contains id
 | .opt id=>ids.contains id
 | .sdp id _=>ids.contains id
 | .win id _ _ _ _=>ids.contains id
 | .irow id _ _=>ids.contains id
 | .iref id _ _ _=>ids.contains id
 | .lim _ _ _=>true
 | .any=>true
 | _=>false
def ok1 (ids:List Nat):AV->Bool
 | .agg cs=>cs.all (ok0 ids)
 | .tup cs=>cs.all (ok0 ids)
 | .fn _ cs=>cs.all (ok0 ids)
 | .mth _ cs=>cs.all (ok0 ids)
 | x=>ok0 ids x
def kov (st:St) (ids:List Nat):List (Nat×C1)->Option (List (Nat×AV))
 | []=>some []
 | (t,c)::l=>match ok1 ids (co1 c (st.get t)),kov st ids l with
  | true,some r=>some ((t,co1 c (st.get t))::r)
  | _,_=>none
def kou (st:St) (ids:List Nat):List (Nat×List C0)->Option (List (Nat×AObj))
 | []=>some []
 | (id,l)::r=>match kaa st.heap id,kou st ids r with
  | some (.box e cells),some r'=>bif ids.contains id && (zip0 l cells).all (ok1 ids) then some ((id, .box e (zip0 l cells))::r') else none
  | some (.frow e s xs),some r'=>bif ids.contains id then some ((id, .frow e s xs)::r') else none
  | some (.gho cs vs),some r'=>bif ids.contains id && vs.all (ok1 ids) then some ((id, .gho cs vs)::r') else none
  | some (.was ψ0 ids0 S0 w0),some r'=>bif ids.contains id && ids0.all ids.contains then some ((id, .was ψ0 ids0 S0 w0)::r') else none
  | some (.smap kv),some r'=>bif ids.contains id then some ((id, .smap kv)::r') else none
  | some (.tab g ov eo ei rows),some r'=>bif ids.contains id then some ((id, .tab g ov eo ei rows)::r') else none
  | some (.glb gs),some r'=>bif ids.contains id then some ((id, .glb gs)::r') else none
  | some (.sit s pos),some r'=>bif ids.contains id then some ((id, .sit s pos)::r') else none
  | some (.memo Φ h),some r'=>bif ids.contains id then some ((id, .memo Φ none)::r') else none
  | some (.xo (.imap kv)),some r'=>bif ids.contains id then some ((id, .xo (.imap kv))::r') else none
  | some (.xo (.opq J)),some r'=>bif ids.contains id then some ((id, .xo (.opq J))::r') else none
  | some (.xo (.mit m a b c)),some r'=>bif ids.contains id && ids.contains m then some ((id, .xo (.mit m a b c))::r') else none
  | _,_=>none
def xoK:XO->Bool
 | .imap _=>true
 | .opq _=>true
 | _=>false
def coSt (st:St) (ids:List Nat) (ts:List (Nat×C1)) (os:List (Nat×List C0)):Option St:=match ids.all st.ids.contains,kov st ids ts,kou st ids os with
 | true,some tmps,some heap=>some { n:=st.n,tmps:=tmps,heap:=heap,ids:=ids,dfr:=st.dfr }
 | _,_,_=>none
variable {P:Program} {F S0:Nat->Prop} {N0:Nat} {w w':World} {S S':Nat->Prop} {ψ:Env} {K K':Nat->Prop} {T:List (TypeId×TD)} {o:Oper} {a:Act} {st:St} {t:TypeId} {d:TD} {ids:List Nat}
theorem ku2 {c:C0} {v:Value} {x:FV} (h:RF S w v x):RF S w v (co0F c x):=by
 unfold co0F;split
 ·rename_i size;cases a:Nat.ble 1 size with
  | false=>exact h
  | true=>
   rw [h.atom_eq];exact .lst (A:=none) (cap:=0) (xs:=[]) (fun _=>[]) rfl (qv _) (by omega) (qh a) (fun i x hx=>by simp at hx) (fun i x hx=>by simp at hx) (fun i x j v y hx=>by simp at hx)
 rw [h.atom_eq];exact .bn
 ·exact h
theorem kod {c:C0} {x:FV} (h:x.single=true):(co0F c x).single=true:=by
 unfold co0F;split;rename_i size;cases a:Nat.ble 1 size <;> rfl;rfl
 ·exact h
theorem k45 {c:C0} {v:Value} {x:AV} (h:RV ψ K S w v x):RV ψ K S w v (co0 c x):=by
 unfold co0;split;exact .fz (ku2 h.inv)
 ·cases h with | lim h=>exact .fz h
 ·cases h with | row hK hn h1 hv=>exact .row hK (qaq _) h1 fun h=>hv (by omega)
 ·exact h
theorem k1q {c:C0} {x:AV} (h:x.single=true):(co0 c x).single=true:=by
 unfold co0;split;exact kod h;rfl;rfl
 ·exact h
theorem kpb:∀ (l:List C0) (xs:List FV) (i:Nat) (y:FV),(zipF l xs)[i]?=some y->∃ c x,xs[i]?=some x/\(y=co0F c x\/y=x)
 | [],xs,i,y,h=>⟨.keep,y,by cases xs <;> exact h, .inr rfl⟩
 | c::l,[],i,y,h=>by simp [zipF] at h
 | c::l,x::xs,0,y,h=>by simp [zipF] at h;exact ⟨c,x,rfl, .inl h.symm⟩
 | c::l,x::xs,i+1,y,h=>by simp only [zipF,qbo] at h ⊢;exact kpb l xs i y h
theorem ksz:∀ (l:List C0) (xs:List FV),(zipF l xs).length=xs.length
 | [],xs=>by cases xs <;> rfl
 | c::l,[]=>rfl
 | c::l,x::xs=>by simp [zipF,ksz l xs]
theorem kso:∀ (l:List C0) (xs:List AV) (i:Nat) (y:AV),(zip0 l xs)[i]?=some y->∃ c x,xs[i]?=some x/\(y=co0 c x\/y=x)
 | [],xs,i,y,h=>⟨.keep,y,by cases xs <;> exact h, .inr rfl⟩
 | c::l,[],i,y,h=>by simp [zip0] at h
 | c::l,x::xs,0,y,h=>by simp [zip0] at h;exact ⟨c,x,rfl, .inl h.symm⟩
 | c::l,x::xs,i+1,y,h=>by simp only [zip0,qbo] at h ⊢;exact kso l xs i y h
theorem ksu:∀ (l:List C0) (xs:List AV),(zip0 l xs).length=xs.length
 | [],xs=>by cases xs <;> rfl
 | c::l,[]=>rfl
 | c::l,x::xs=>by simp [zip0,ksu l xs]
theorem k1i (l:List C0) {cs:Array Value} {xs:List AV} (h1:∀ x∈xs,x.single=true) (hr:∀ (i:Nat) (v:Value) (x:AV),cs[i]?=some v->xs[i]?=some x->RV ψ K S w v x):
  (∀ x∈zip0 l xs,x.single=true)/\∀ (i:Nat) (v:Value) (x:AV),cs[i]?=some v->(zip0 l xs)[i]?=some x->RV ψ K S w v x:=by
 refine ⟨fun x hx=>?_,fun i v x hv hx=>?_⟩
 ·obtain ⟨i,hi⟩:=qbm.1 hx;obtain ⟨c,y,hy,a⟩:=kso l xs i x hi;have:=h1 y (qm hy);rcases a with rfl | rfl;exact k1q this
  ·exact this
 ·obtain ⟨c,y,hy,a⟩:=kso l xs i x hx;have:=hr i v y hv hy;rcases a with rfl | rfl;exact k45 this
  ·exact this
theorem klp (c:C1) {v:Value} {x:AV} (h:RV ψ K S w v x):RV ψ K S w v (co1 c x):=by
 unfold co1;split;exact k45 h
 ·rename_i l xs;have h:=h.inv;cases h with
  | agg hs h1 hr=>
   refine .fz (.agg (by rw [ksz];exact hs) (fun y hy=>?_) fun i v y hv hy=>?_)
   ·obtain ⟨i,hi⟩:=qbm.1 hy;obtain ⟨c,z,a,b⟩:=kpb l xs i y hi;have:=h1 z (qm a);rcases b with rfl | rfl;exact kod this
    ·exact this
   ·obtain ⟨c,z,a,b⟩:=kpb l xs i y hy;have:=hr i v z hv a;rcases b with rfl | rfl;exact ku2 this
    ·exact this
 ·rename_i l xs;cases h with
  | agg hs h1 hr=>
   obtain ⟨z1,z2⟩:=k1i l h1 hr;exact RV.aggA (by rw [ksu];exact hs) z1 z2
 exact h
 ·exact .any
theorem RV.sub0 {v:Value} {x:AV} (h:RV ψ K S w v x) (a:ok0 ids x=true):RV ψ (·∈ids) S w v x:=by
 cases h with
 | fz h=>exact .fz h
 | agg=>cases a
 | tup=>cases a
 | ref hK hn h1 hv=>exact .ref (by simpa [ok0] using a) hn h1 hv
 | row hK hn h1 hv=>exact .row (by simpa [ok0] using a) hn h1 hv
 | lim h=>exact .lim h
 | mp hK h1 hv=>exact .mp (by simpa [ok0] using a) h1 hv
 | opt hK h1 hv=>exact .opt (by simpa [ok0] using a) h1 hv
 | sdp hK hn h1 hv=>exact .sdp (by simpa [ok0] using a) hn h1 hv
 | win hK hn h1 hv=>exact .win (by simpa [ok0] using a) hn h1 hv
 | irow hK hn h1 hv=>exact .irow (by simpa [ok0] using a) hn h1 hv
 | iref hK hn h1 hv=>exact .iref (by simpa [ok0] using a) hn h1 hv
 | bsl=>cases a
 | fn=>cases a
 | mth=>cases a
 | any=>exact .any
theorem RV.sub1 {v:Value} {x:AV} (h:RV ψ K S w v x) (a:ok1 ids x=true):RV ψ (·∈ids) S w v x:=by
 cases h with
 | fz h=>exact .fz h
 | agg hs h1 hr=>exact .agg hs h1 fun i v x hv hx=>(hr i v x hv hx).sub0 (qq.1 a x (qm hx))
 | tup hs hr=>exact .tup hs fun i v x hv hx=>(hr i v x hv hx).sub0 (qq.1 a x (qm hx))
 | ref hK hn h1 hv=>exact .ref (by simpa [ok1,ok0] using a) hn h1 hv
 | row hK hn h1 hv=>exact .row (by simpa [ok1,ok0] using a) hn h1 hv
 | lim h=>exact .lim h
 | mp hK h1 hv=>exact .mp (by simpa [ok1,ok0] using a) h1 hv
 | opt hK h1 hv=>exact .opt (by simpa [ok1,ok0] using a) h1 hv
 | sdp hK hn h1 hv=>exact .sdp (by simpa [ok1,ok0] using a) hn h1 hv
 | win hK hn h1 hv=>exact .win (by simpa [ok1,ok0] using a) hn h1 hv
 | irow hK hn h1 hv=>exact .irow (by simpa [ok1,ok0] using a) hn h1 hv
 | iref hK hn h1 hv=>exact .iref (by simpa [ok1,ok0] using a) hn h1 hv
 | bsl=>cases a
 | fn hs hr=>exact .fn hs fun i v x hv hx=>(hr i v x hv hx).sub0 (qq.1 a x (qm hx))
 | mth hs hr=>exact .mth hs fun i v x hv hx=>(hr i v x hv hx).sub0 (qq.1 a x (qm hx))
 | any=>exact .any
theorem ko0:∀ {ts:List (Nat×C1)} {r:List (Nat×AV)} (t:Nat),kov st ids ts=some r->look .any r t = .any\/∃ c,look .any r t=co1 c (st.get t)/\ok1 ids (co1 c (st.get t))=true
 | [],r,t,h=>by simp only [kov,qc] at h;subst h;exact .inl rfl
 | (k,c)::l,r,t,h=>by
  simp only [kov] at h;split at h
  ·rename_i r' h1 a;injection h with h;subst h;rw [kaw];by_cases hk:k=t;subst hk;rw [qr rfl];exact .inr ⟨c,rfl,h1⟩
   ·rw [qj hk];exact ko0 t a
  ·cases h
theorem kb8:∀ {os:List (Nat×List C0)} {r:List (Nat×AObj)} (id:Nat) (ob:AObj),kou st ids os=some r->kaa r id=some ob->id∈ids /\
  ((∃ l e cells,kaa st.heap id=some (.box e cells)/\ob = .box e (zip0 l cells)/\(zip0 l cells).all (ok1 ids)=true)\/(∃ e s xs,kaa st.heap id=some (.frow e s xs)/\ob = .frow e s xs)\/(∃ cs vs,kaa st.heap id=some (.gho cs vs)/\ob = .gho cs vs/\vs.all (ok1 ids)=true) \/
   (∃ ψ0 ids0 S0 w0,kaa st.heap id=some (.was ψ0 ids0 S0 w0)/\ob = .was ψ0 ids0 S0 w0/\ids0.all ids.contains=true)\/(∃ kv,kaa st.heap id=some (.smap kv)/\ob = .smap kv)\/(∃ g ov eo ei rows,kaa st.heap id=some (.tab g ov eo ei rows)/\ob = .tab g ov eo ei rows)\/(∃ gs,kaa st.heap id=some (.glb gs)/\ob = .glb gs)\/(∃ s pos,kaa st.heap id=some (.sit s pos)/\ob = .sit s pos)\/(∃ Φ h,kaa st.heap id=some (.memo Φ h)/\ob = .memo Φ none)\/(∃ k,kaa st.heap id=some (.xo k)/\ob = .xo k/\xoK k=true)\/∃ m a b c,kaa st.heap id=some (.xo (.mit m a b c))/\ob = .xo (.mit m a b c)/\ids.contains m=true)
 | [],r,id,ob,h,d=>by simp only [kou,qc] at h;subst h;cases d
 | (k,l)::os,r,id,ob,h,d=>by
  simp only [kou] at h;split at h
  ·rename_i e cells r' h1 i;cases f:(ids.contains k && (zip0 l cells).all (ok1 ids)) with
   | false=>rw [f] at h;cases h
   | true=>
    rw [f] at h;simp only [qg,qc] at h;subst h;rw [kab] at d;simp only [qk] at f;by_cases hk:k=id;subst hk;rw [qr rfl] at d;injection d with d;exact ⟨by simpa using f.1, .inl ⟨l,e,cells,h1,d.symm,f.2⟩⟩
    ·rw [qj hk] at d;exact kb8 id ob i d
  ·rename_i e s xs r' h1 i;cases f:ids.contains k with
   | false=>rw [f] at h;cases h
   | true=>
    rw [f] at h;simp only [qg,qc] at h;subst h;rw [kab] at d;by_cases hk:k=id;subst hk;rw [qr rfl] at d;injection d with d;exact ⟨by simpa using f, .inr (.inl ⟨e,s,xs,h1,d.symm⟩)⟩
    ·rw [qj hk] at d;exact kb8 id ob i d
  ·rename_i cs vs r' h1 i;cases f:(ids.contains k && vs.all (ok1 ids)) with
   | false=>rw [f] at h;cases h
   | true=>
    rw [f] at h;simp only [qg,qc] at h;subst h;rw [kab] at d;simp only [qk] at f;by_cases hk:k=id;subst hk;rw [qr rfl] at d;injection d with d;exact ⟨by simpa using f.1, .inr (.inr (.inl ⟨cs,vs,h1,d.symm,f.2⟩))⟩
    ·rw [qj hk] at d;exact kb8 id ob i d
  ·rename_i ψ0 ids0 S0 w0 r' h1 i;cases f:(ids.contains k && ids0.all ids.contains) with
   | false=>rw [f] at h;cases h
   | true=>
    rw [f] at h;simp only [qg,qc] at h;subst h;rw [kab] at d;simp only [qk] at f;by_cases hk:k=id;subst hk;rw [qr rfl] at d;injection d with d;exact ⟨by simpa using f.1, .inr (.inr (.inr (.inl ⟨ψ0,ids0,S0,w0,h1,d.symm,f.2⟩)))⟩
    ·rw [qj hk] at d;exact kb8 id ob i d
  ·rename_i kv r' h1 i;cases f:ids.contains k with
   | false=>rw [f] at h;cases h
   | true=>
    rw [f] at h;simp only [qg,qc] at h;subst h;rw [kab] at d;by_cases hk:k=id;subst hk;rw [qr rfl] at d;injection d with d;exact ⟨by simpa using f, .inr (.inr (.inr (.inr (.inl ⟨kv,h1,d.symm⟩))))⟩
    ·rw [qj hk] at d;exact kb8 id ob i d
  ·rename_i g ov eo ei rows r' h1 i;cases f:ids.contains k with
   | false=>rw [f] at h;cases h
   | true=>
    rw [f] at h;simp only [qg,qc] at h;subst h;rw [kab] at d;by_cases hk:k=id;subst hk;rw [qr rfl] at d;injection d with d;exact ⟨by simpa using f, .inr (.inr (.inr (.inr (.inr (.inl ⟨g,ov,eo,ei,rows,h1,d.symm⟩)))))⟩
    ·rw [qj hk] at d;exact kb8 id ob i d
  ·rename_i gs r' h1 i;cases f:ids.contains k with
   | false=>rw [f] at h;cases h
   | true=>
    rw [f] at h;simp only [qg,qc] at h;subst h;rw [kab] at d;by_cases hk:k=id;subst hk;rw [qr rfl] at d;injection d with d;exact ⟨by simpa using f, .inr (.inr (.inr (.inr (.inr (.inr (.inl ⟨gs,h1,d.symm⟩))))))⟩
    ·rw [qj hk] at d;exact kb8 id ob i d
  ·rename_i s pos r' h1 i;cases f:ids.contains k with
   | false=>rw [f] at h;cases h
   | true=>
    rw [f] at h;simp only [qg,qc] at h;subst h;rw [kab] at d;by_cases hk:k=id;subst hk;rw [qr rfl] at d;injection d with d;exact ⟨by simpa using f, .inr (.inr (.inr (.inr (.inr (.inr (.inr (.inl ⟨s,pos,h1,d.symm⟩)))))))⟩
    ·rw [qj hk] at d;exact kb8 id ob i d
  ·rename_i Φ j r' h1 i;cases f:ids.contains k with
   | false=>rw [f] at h;cases h
   | true=>
    rw [f] at h;simp only [qg,qc] at h;subst h;rw [kab] at d;by_cases hk:k=id;subst hk;rw [qr rfl] at d;injection d with d;exact ⟨by simpa using f, .inr (.inr (.inr (.inr (.inr (.inr (.inr (.inr (.inl ⟨Φ,j,h1,d.symm⟩))))))))⟩
    ·rw [qj hk] at d;exact kb8 id ob i d
  ·rename_i kv r' h1 i;cases f:ids.contains k with
   | false=>rw [f] at h;cases h
   | true=>
    rw [f] at h;simp only [qg,qc] at h;subst h;rw [kab] at d;by_cases hk:k=id;subst hk;rw [qr rfl] at d;injection d with d;exact ⟨by simpa using f, .inr (.inr (.inr (.inr (.inr (.inr (.inr (.inr (.inr (.inl ⟨_,h1,d.symm,rfl⟩)))))))))⟩
    ·rw [qj hk] at d;exact kb8 id ob i d
  ·rename_i kv r' h1 i;cases f:ids.contains k with
   | false=>rw [f] at h;cases h
   | true=>
    rw [f] at h;simp only [qg,qc] at h;subst h;rw [kab] at d;by_cases hk:k=id;subst hk;rw [qr rfl] at d;injection d with d;exact ⟨by simpa using f, .inr (.inr (.inr (.inr (.inr (.inr (.inr (.inr (.inr (.inl ⟨_,h1,d.symm,rfl⟩)))))))))⟩
    ·rw [qj hk] at d;exact kb8 id ob i d
  ·rename_i m x y z r' h1 i;cases f:(ids.contains k && ids.contains m) with
   | false=>rw [f] at h;cases h
   | true=>
    rw [f] at h;simp only [qg,qc] at h;subst h;rw [kab] at d;simp only [qk] at f;by_cases hk:k=id;subst hk;rw [qr rfl] at d;injection d with d;exact ⟨by simpa using f.1, .inr (.inr (.inr (.inr (.inr (.inr (.inr (.inr (.inr (.inr ⟨m,x,y,z,h1,d.symm,f.2⟩)))))))))⟩
    ·rw [qj hk] at d;exact kb8 id ob i d
  ·cases h
theorem k7q {st':St} {ts:List (Nat×C1)} {os:List (Nat×List C0)} (h:coSt st ids ts os=some st':=by kernel_rfl):LeSt st st':=by
 unfold coSt at h;split at h
 ·rename_i tmps heap h1 y j;injection h with h;subst h;intro F S0 N0 ψ S a w hs;refine ⟨ψ,S,hs.defers,hs.size,fun t=>?_,⟨fun id ob n=>?_,fun id id' o o' b n p q z=>?_,hs.core.lt,hs.core.s0,hs.core.n0,hs.core.fr⟩⟩
  ·rcases ko0 t y with h | ⟨c,h,hk⟩;show RV ψ _ S w _ (look .any tmps t);rw [h];exact .any
   ·show RV ψ _ S w _ (look .any tmps t);rw [h];exact (klp _ (hs.tmps t)).sub1 hk
  ·obtain ⟨f,r⟩:=kb8 id ob j n;rcases r with ⟨l,e,cells,d,rfl,g⟩ | ⟨e,s,xs,d,rfl⟩ | ⟨cs,vs,d,rfl,g⟩ | ⟨ψ0,ids0,S0,w0,d,rfl,g⟩ | ⟨kv,d,rfl⟩ | ⟨_,_,_,_,_,d,rfl⟩ | ⟨_,d,rfl⟩ | ⟨_,_,d,rfl⟩ | ⟨_,_,d,rfl⟩ | ⟨kk,d,rfl,hx⟩ | ⟨m,_,_,_,d,rfl,g⟩;obtain ⟨_,⟨k0,b,cs,k1,k2,k3,k4,k5⟩,k6⟩:=hs.core.obj id _ d;obtain ⟨z1,z2⟩:=k1i l k4 k5;exact ⟨f,⟨k0,b,cs,k1,k2,by rw [ksu];exact k3,z1,fun i v x hv hx=>(z2 i v x hv hx).sub1 (qq.1 g x (qm hx))⟩,k6⟩;obtain ⟨_,k,k6⟩:=hs.core.obj id _ d;exact ⟨f,k,k6⟩;obtain ⟨_,⟨k0,k1,kn,k3⟩,k6⟩:=hs.core.obj id _ d;exact ⟨f,⟨k0,k1,kn,fun i v x hv hx=>(k3 i v x hv hx).sub1 (qq.1 g x (qm hx))⟩,k6⟩;obtain ⟨_,⟨k0,k1,kn,k2,k3,k4,k5⟩,k6⟩:=hs.core.obj id _ d;exact ⟨f,⟨k0,k1,kn,k2,fun i hi=>by simpa using qq.1 g i hi,k4,k5⟩,k6⟩;obtain ⟨_,k,k6⟩:=hs.core.obj id _ d;exact ⟨f,k,k6⟩;obtain ⟨_,k,k6⟩:=hs.core.obj id _ d;exact ⟨f,k,k6⟩;obtain ⟨_,k,k6⟩:=hs.core.obj id _ d;exact ⟨f,k,k6⟩;obtain ⟨_,k,k6⟩:=hs.core.obj id _ d;exact ⟨f,k,k6⟩;obtain ⟨_,⟨k0,b,es,cl,k1,k2,k3⟩,k6⟩:=hs.core.obj id _ d;exact ⟨f,⟨k0,b,es,cl,k1,k2,k3.1,trivial⟩,k6⟩
   ·obtain ⟨_,k,k6⟩:=hs.core.obj id _ d;cases kk with
    | imap kv=>exact ⟨f,k,k6⟩
    | opq J=>exact ⟨f,k,k6⟩
    | _=>cases hx
   ·obtain ⟨_,⟨k0,k1,b,bm,k2,k3,k4⟩,k6⟩:=hs.core.obj id _ d;exact ⟨f,⟨k0,by simpa using g,b,bm,k2,k3,k4⟩,k6⟩
  ·obtain ⟨_,r⟩:=kb8 id o j n;obtain ⟨_,u⟩:=kb8 id' o' j p;have k1:∃ o,kaa st.heap id=some o:=(by rcases r with ⟨l,_,cells,d,_⟩ | ⟨e,s,xs,d,_⟩ | ⟨cs,vs,d,_⟩ | ⟨_,_,_,_,d,_⟩ | ⟨_,d,_⟩ | ⟨_,_,_,_,_,d,_⟩ | ⟨_,d,_⟩ | ⟨_,_,d,_⟩ | ⟨_,_,d,_⟩ | ⟨_,d,_⟩ | ⟨_,_,_,_,d,_⟩ <;> exact ⟨_,d⟩);have k2:∃ o,kaa st.heap id'=some o:=(by rcases u with ⟨l,_,cells,d,_⟩ | ⟨e,s,xs,d,_⟩ | ⟨cs,vs,d,_⟩ | ⟨_,_,_,_,d,_⟩ | ⟨_,d,_⟩ | ⟨_,_,_,_,_,d,_⟩ | ⟨_,d,_⟩ | ⟨_,_,d,_⟩ | ⟨_,_,d,_⟩ | ⟨_,d,_⟩ | ⟨_,_,_,_,d,_⟩ <;> exact ⟨_,d⟩);obtain ⟨o1,k1⟩:=k1;obtain ⟨o2,k2⟩:=k2;exact hs.core.inj id id' o1 o2 b k1 k2 q z
 ·cases h
def kdm (id:Nat):List (Nat×AObj)->List (Nat×AObj)
 | []=>[]
 | (k,v)::l=>bif Nat.beq k id then kdm id l else (k,v)::kdm id l
theorem kcg (id:Nat):∀ {l:List (Nat×AObj)} {k:Nat} {ob:AObj},kaa (kdm id l) k=some ob->k≠id/\kaa l k=some ob
 | [],k,ob,h=>by cases h
 | (j,v)::l,k,ob,h=>by
  simp only [kdm] at h;cases a:Nat.beq j id with
  | true=>
   rw [a] at h;obtain rfl:=qe a;obtain ⟨h1,b⟩:=kcg j h;refine ⟨h1,?_⟩;rw [kab,qj (Ne.symm h1)];exact b
  | false=>
   rw [a] at h;simp only [qo,kab] at h;rw [kab];by_cases hk:j=k;subst hk;rw [qr rfl] at h ⊢;exact ⟨(fun e=>by subst e;rw [Nat.beq_refl] at a;cases a),h⟩
   ·rw [qj hk] at h ⊢;exact kcg id h
theorem kun {id:Nat}:∀ {l:List (Nat×AObj)} {k:Nat} {ob:AObj},k≠id->kaa l k=some ob->kaa (kdm id l) k=some ob
 | [],k,ob,_,h=>by cases h
 | (j,v)::l,k,ob,a,h=>by
  simp only [kdm];rw [kab] at h;by_cases b:j=k;subst b;rw [qr rfl] at h;rw [Nat.beq_eq_false a];simp only [qo,kab];exact h
  ·rw [qj b] at h;have ih:=kun a h;cases c:Nat.beq j id with
   | true=>exact ih
   | false=>
    simp only [qo,kab];rw [qj b];exact ih
theorem kle {heap:List (Nat×AObj)} {ids:List Nat} {id:Nat} {e:TypeId} {size:Nat} {xs:List FV} (h:Core F S0 N0 heap ids ψ S w) (G:kaa heap id=some (.frow e size xs)):
  Core F S0 N0 (kdm id heap) ids ψ (fun b=>S b\/kap (ψ.val id)=some b) w/\RF (fun b=>S b\/kap (ψ.val id)=some b) w (ψ.val id) (.lst size xs.length xs):=by
 obtain ⟨I,n,t⟩:=h.obj id _ G;have p:=n;obtain ⟨h0,q,cs,d,z,hr⟩:=n;refine ⟨⟨fun k ob hk=>?_,fun k k' o o' b hk f l a B=>?_,fun b a=>?_,fun b a=>?_,h.n0,h.fr⟩,?_⟩
 ·obtain ⟨l,hk⟩:=kcg id hk;obtain ⟨h1,J,H⟩:=h.obj k ob hk;refine ⟨h1,J.keep Ext.refl (fun _ h=>h) (fun b a => .inl a) (fun _ _ _=>rfl) ⟨rfl,rfl⟩ (fun _ _=>rfl),fun b a=>⟨fun hs=>?_,(H b a).2⟩⟩;rcases hs with hs | hs;exact (H b a).1 hs
  ·exact h.inj k id ob _ b hk G l a (.of hs)
 obtain ⟨_,hk⟩:=kcg id hk;obtain ⟨_,f⟩:=kcg id f;exact h.inj k k' o o' b hk f l a B
 ·rcases a with a | a;exact h.lt b a
  ·exact p.lt (.of a)
 ·rcases a with a | a;exact h.s0 b a
  ·exact (t b (.of a)).2.2
 ·rcases d.2 with ⟨hv,C⟩ | ⟨g,cap,cur,hv,_,K,D,r,L,E⟩;have:xs=[]:=qav C;subst this;rw [hv];exact .lst (A:=none) (cap:=0) (xs:=[]) (fun _=>[]) rfl (qv _) (by omega) q (fun i x hx=>by simp at hx) (fun i x hx=>by simp at hx) (fun i x j v y hx=>by simp at hx)
  ·rw [hv];have s:∀ i x,xs[i]?=some x->(i+1)*size<=cs.length:=fun i x hx=>(by rw [d.1];exact qan _ (qd.1 hx).1);refine .lst (fun i=>(cs.drop (i*size)).take size) rfl D (by unfold maxLen at r;exact r) q (fun i x hx=>⟨g,0,rfl, .inr (by rfl),fun j u m=>?_⟩) (fun i x hx=>?_) fun i x j v y hx c hy=>?_
   ·rw [qw] at m;split at m
    ·rw [qag,<- E,qw] at m;split at m;simp only [World.cell?,K,Nat.zero_add];simpa using m
     ·cases m
    ·cases m
   have:=s i x hx;rw [qaw] at this;exact ⟨by rw [q9,qau];omega,z x (qm hx)⟩
   ·rw [qw] at c;split at c;rw [qag] at c;exact (hr i x j v y hx c hy).mono fun _ h => .inl h
    ·cases c
end Go.Proofs.YtjnjipmjkkhdpaaGreatDoor
set_option linter.all false
set_option linter.unusedSectionVars false
namespace Go.Proofs.YtjnjipmjkkhdpaaGreatDoor
open Go Go.RowKit
variable [Dr]
def PCall (P:Program) (f:FuncId) (args:List FV) (r:FV):Prop:=
 (∃ fn, P.funcs[f]? = some fn /\ fn.body.isNone = false /\ (fn.name == "runtime.NumGoroutine") = false) /\
 ∀ (S:Nat->Prop) (w:World) (vs:Array Value),vs.size=args.length->(∀ (i:Nat) (v:Value) (x:FV),vs[i]?=some v->args[i]?=some x->RF S w v x) ->
  Calls P f vs w fun e w'=>∃ v,e = .returned v/\RF (fun b=>S b\/w.heap.size<=b) w' v r/\Grow w w'
def k7l (st:St) (c:C1) (x:Operand):Option FV:=match co1 c (st.eval x) with
 | .fz y=>some y
 | _=>none
def kmy (st:St):List C1->List Operand->Option (List FV)
 | [],[]=>some []
 | c::cs,x::xs=>match k7l st c x,kmy st cs xs with
  | some y,some ys=>some (y::ys)
  | _,_=>none
 | _,_=>none
variable {P:Program} {F S0:Nat->Prop} {N0:Nat} {w w':World} {S S':Nat->Prop} {ψ:Env} {K:Nat->Prop} {T:List (TypeId×TD)} {o:Oper} {a:Act} {st:St} {t:TypeId} {d:TD}
theorem kq4 {ids:List Nat} (h:∀ t,RV ψ (·∈ids) S w (a.tmps.getD t undef) (st.get t)):∀ {cs:List C1} {xs:List Operand} {ys:List FV},kmy st cs xs=some ys ->
  ys.length=xs.length/\∀ (i:Nat) (x:Operand) (y:FV),xs[i]?=some x->ys[i]?=some y->RF S w (a.eval x) y
 | [],[],ys,h=>by simp only [kmy,qc] at h;subst h;exact ⟨rfl,fun i x y h=>by simp at h⟩
 | c::cs,x::xs,ys,b=>by
  simp only [kmy] at b;split at b
  ·rename_i y ys' h1 d;injection b with b;subst b;obtain ⟨e1,e2⟩:=kq4 h d;refine ⟨by simp [e1],fun i x' y' hx hy=>?_⟩;cases i with
   | zero=>
    simp at hx hy;subst hx hy;unfold k7l at h1;have hv:=klp c (Sim.eval_tmps h x);split at h1;rename_i z e;injection h1 with h1;subst h1;rw [e] at hv;exact hv.inv
    ·cases h1
   | succ i=>exact e2 i x' y' (by simpa using hx) (by simpa using hy)
  ·cases b
 | [],_::_,ys,h=>by cases h
 | _::_,[],ys,h=>by cases h
theorem kqs {f : FuncId} {args : Array Operand} {ts : Array TypeId} (e : o.op = .call { callee := .value (.func f), args := args, argTypes := ts }) (g : ∃ fn, P.funcs[f]? = some fn /\ fn.body.isNone = false /\ (fn.name == "runtime.NumGoroutine") = false) :
  (execOp a.eval o).run P w = .ok (.enter f (args.map a.eval)) w:=by
 obtain ⟨fn,h1,c,d⟩:=g;have b:fn.body≠none:=by intro h;rw [h] at c;cases c
 simp only [qa0,ne_eq] at d;simp [execOp,e,resolve,Act.eval,Deferred.ofValue,invoke,callFunc,h1,b,d]
theorem k5a {f:FuncId} {args:Array Operand} {ts:Array TypeId} {cs:List C1} {ys:List FV} {r:FV} (b:o.op = .call { callee := .value (.func f),args:=args,argTypes:=ts }) (hc:kmy st cs args.toList=some ys) (hp:PCall P f ys r):NStep P o st (.fz r):=by
 intro ψ S a w ht d;obtain ⟨e1,e2⟩:=kq4 ht hc;unfold kce;rw [kqs b hp.1];refine (hp.2 S w (args.map a.eval) (by simp [e1]) fun i v x hv hx=>?_).mono ?_;simp only [Array.getElem?_map,qn] at hv;obtain ⟨y,hy,rfl⟩:=hv;exact e2 i y x (by simpa using hy) hx
 ·rintro e w' ⟨v,rfl,h1,c⟩;exact ⟨v,rfl,c, .fz h1⟩
def resX (T:List (TypeId×TD)) (st:St) (r:ResultVar) (c:C1):Option FV:=match r with
 | .tmp t=>match co1 c (st.get t) with
  | .fz y=>some y
  | _=>none
 | .cell x t=>match kac T t,kjy st (st.get x) with
  | some d,some xs=>match kjl d xs with
   | some z=>match co1 c z with
    | .fz y=>some y
    | _=>none
   | none=>none
  | _,_=>none
def kr0 (T:List (TypeId×TD)) (st:St):List ResultVar->List C1->Option (List FV)
 | [],[]=>some []
 | r::rs,c::cs=>match resX T st r c,kr0 T st rs cs with
  | some y,some ys=>some (y::ys)
  | _,_=>none
 | _,_=>none
def k15 (T:List (TypeId×TD)) (st:St) (rs:List ResultVar) (cs:List C1):Option FV:=match kr0 T st rs cs with
 | some [y]=>some y
 | some ys=>some (.tup ys)
 | none=>none
def retX (T:List (TypeId×TD)) (st:St) (rs:List ResultVar) (cs:List C1):Option FV:=match st.dfr with
 | []=>k15 T st rs cs
 | _=>none
theorem ky9 {T:List (TypeId×TD)} {st:St} {rs:List ResultVar} {cs:List C1} {y:FV} (h:retX T st rs cs=some y):st.dfr=[]/\k15 T st rs cs=some y:=by
 unfold retX at h;split at h;rename_i hd;exact ⟨hd,h⟩
 ·cases h
theorem k06 {v:Value} {x:AV} {xs:List AV} {c:AV} (hd:TdOk P t d) (hv:RV ψ (·∈st.ids) S w v x) (n:∀ id o,kaa st.heap id=some o->ObR ψ (·∈st.ids) S w id o) (hx:kjy st x=some xs) (hc:kjl d xs=some c):
  ∃ ad u,v = .pointer (some ad)/\(loadVar t ad).run P w = .ok u w/\RV ψ (·∈st.ids) S w u c:=by
 obtain ⟨b,off,hv,cs,g,hl,h1,hr⟩:=kpg hv n hx;unfold kjl at hc;cases hk:d.kind.agg with
 | false=>
  rw [hk] at hc;simp only [qo] at hc;cases xs with
  | nil=>cases hc
  | cons y ys=>
   simp only [List.head?_cons,qc] at hc;subst hc;have h:cs[0]?=some (cs[0]'(by simp at hl;omega)):=qa _;have e:w.cell? ⟨b,off,none⟩=some (cs[0]'(by simp at hl;omega)):=(by simpa using g 0 _ h);exact ⟨_,cs[0]'(by simp at hl;omega),hv,by simp [loadVar,hd.isAgg,hk,e],hr 0 _ y h rfl⟩
 | true=>
  rw [hk] at hc;simp only [qg] at hc;cases f:Nat.ble d.size xs.length with
  | false=>rw [f] at hc;cases hc
  | true=>
   rw [f] at hc;simp only [qg,qc] at hc;subst hc;have m:=qh f;have k:(cs.take d.size).length=d.size:=(by rw [q9];omega);have a:=run_loadCells_list (P:=P) w ⟨b,off,none⟩ (cs.take d.size) fun j v l=>by
    rw [qw] at l;split at l;rw [kbg];exact g j v l
    ·cases l
   rw [k] at a;refine ⟨_, .agg (cs.take d.size).toArray,hv,by simp [loadVar,hd.isAgg,hk,hd.size,a],RV.aggA (by simp [hl]) (fun x hx=>h1 x (qa4 hx)) fun i v x hv hx=>?_⟩;simp only [qbr] at hv;rw [qw] at hv hx;split at hv;rename_i hi;rw [qr hi] at hx;exact hr i v x hv hx
   ·cases hv
def kfz (tmps:Array Value):ResultVar->Sem Value
 | .tmp t=>pure (tmps.getD t undef)
 | .cell x t=>do loadVar t (<- asAddr (tmps.getD x undef))
theorem kyw (f:TOk P T) (hs:Sim F S0 N0 st ψ S a w):∀ {rs:List ResultVar} {cs:List C1} {ys:List FV},kr0 T st rs cs=some ys ->
  ∃ vs:List Value,(rs.mapM (kfz a.tmps)).run P w = .ok vs w/\vs.length=ys.length/\∀ (i:Nat) (v:Value) (y:FV),vs[i]?=some v->ys[i]?=some y->RF S w v y
 | [],[],ys,h=>by simp only [kr0,qc] at h;subst h;exact ⟨[],by simp,rfl,fun i v y h=>by simp at h⟩
 | r::rs,c::cs,ys,h=>by
  simp only [kr0] at h;split at h
  ·rename_i y ys' h1 g;injection h with h;subst h;obtain ⟨vs,k1,k2,k3⟩:=kyw f hs g;have key:∃ v,(kfz a.tmps r).run P w = .ok v w/\RF S w v y:=by
    unfold resX at h1;split at h1
    ·rename_i t;have hv:=klp c (hs.tmps t);split at h1;rename_i z b;injection h1 with h1;subst h1;rw [b] at hv;exact ⟨_,rfl,hv.inv⟩
     ·cases h1
    ·rename_i x t;split at h1
     ·rename_i d xs hd hx;split at h1
      ·rename_i z b;obtain ⟨ad,u,e1,e2,e3⟩:=k06 (f.get hd) (hs.tmps x) (fun id o j=>(hs.core.obj id o j).2.1) hx b;have hv:=klp c e3;split at h1;rename_i z' e;injection h1 with h1;subst h1;rw [e] at hv;refine ⟨u,?_,hv.inv⟩;simp only [kfz,e1,asAddr,Sem.run_bind,Sem.run_pure,Result.andThen_ok,e2]
       ·cases h1
      ·cases h1
     ·cases h1
   obtain ⟨v,e1,e2⟩:=key;refine ⟨v::vs,?_,by simp [k2],fun i v' y' hv hy=>?_⟩;rw [List.mapM_cons];simp only [Sem.run_bind,e1,Result.andThen_ok,k1,Sem.run_pure]
   ·cases i with
    | zero=>simp at hv hy;subst hv hy;exact e2
    | succ i=>exact k3 i v' y' (by simpa using hv) (by simpa using hy)
  ·cases h
 | [],_::_,ys,h=>by cases h
 | _::_,[],ys,h=>by cases h
theorem k9j (d:TOk P T) (hs:Sim F S0 N0 st ψ S a w) {fn:Func} {cs:List C1} {y:FV} (h:retX T st fn.results.toList cs=some y):∃ v,(results fn a.tmps).run P w = .ok v w/\RF S w v y:=by
 replace h:=(ky9 h).2;unfold k15 at h;have key:∀ ys,kr0 T st fn.results.toList cs=some ys->∃ vs:List Value,(results fn a.tmps).run P w = .ok (if h:vs.length=1 then vs[0] else .tuple vs.toArray) w/\vs.length=ys.length/\∀ (i:Nat) (v:Value) (y:FV),vs[i]?=some v->ys[i]?=some y->RF S w v y:=fun ys hy=>by
  obtain ⟨vs,k1,k2,k3⟩:=kyw d hs hy;refine ⟨vs,?_,k2,k3⟩;unfold results;rw [Array.mapM_eq_mapM_toList];have b:∀ (g:ResultVar->Sem Value),(∀ x,g x=kfz a.tmps x)->(fn.results.toList.mapM g).run P w = .ok vs w:=fun g b=>by rw [show g=kfz a.tmps from funext b];exact k1
  simp only [Sem.run_bind,Sem.run_map];rw [b _ fun x=>by cases x <;> rfl];simp only [Result.andThen_ok,Sem.run_pure];simp
 split at h
 ·rename_i z e;injection h with h;subst h;obtain ⟨vs,k1,k2,k3⟩:=key _ e;have hl:vs.length=1:=by simpa using k2
  rw [dif_pos hl] at k1;exact ⟨_,k1,k3 0 _ _ (qa (by omega)) rfl⟩
 ·rename_i ys c hy;injection h with h;subst h;obtain ⟨vs,k1,k2,k3⟩:=key _ hy;have hl:¬ vs.length=1:=fun hl=>by rw [k2] at hl;obtain ⟨z,rfl⟩:=List.length_eq_one_iff.1 hl;exact c z rfl
  rw [dif_neg hl] at k1;exact ⟨_,k1, .tup (by simpa using k2) fun i v x hv hx=>k3 i v x (by simpa using hv) hx⟩
 ·cases h
def klv:Nat->List FV->List (Nat×AV)
 | _,[]=>[]
 | i,x::l=>(i, .fz x)::klv (i+1) l
def retQ (T:List (TypeId×TD)) (rs:List ResultVar) (cs:List C1) (r:FV):Exit->St->Prop
 | .normal,st=>retX T st rs cs=some r
 | .ret,st=>retX T st rs cs=some r
 | _,_=>False
theorem kt2:∀ (l:List FV) (i t:Nat),(look .any (klv i l) t = .any)\/∃ x,i<=t/\l[t - i]?=some x/\look .any (klv i l) t = .fz x
 | [],i,t => .inl rfl
 | x::l,i,t=>by
  simp only [klv,kaw];by_cases h:i=t;subst h;exact .inr ⟨x,qv _,by simp,by simp⟩
  ·rw [qj h];rcases kt2 l (i+1) t with h1 | ⟨y,h1,a,b⟩;exact .inl h1
   ·exact .inr ⟨y,by omega,by rw [show t - i=(t - (i+1))+1 by omega];simpa using a,b⟩
theorem kz6 (s : TOk P T) {f : FuncId} {fn : Func} {c : Code} {args : List FV} {r : FV} (cs : List C1) (q : P.funcs[f]? = some fn) (a : fn.body = some c) (hn : (fn.name == "runtime.NumGoroutine") = false) (j : Nat.ble args.length fn.ntmps = true)
  (h:awp P c { n:=fn.ntmps,tmps:=klv 0 args,heap:=[],ids:=[] } (retQ T fn.results.toList cs r)):PCall P f args r:=by
 have j:=qh j;refine ⟨⟨fn,q,by rw [a];rfl,hn⟩,fun S w vs hs hr=>calls_of_wp q a (wp_wide.1 ?_)⟩;have l:Sim (fun b=>b<w.heap.size) S w.heap.size { n:=fn.ntmps,tmps:=klv 0 args,heap:=[],ids:=[] } ⟨fun _=>0,fun _=>undef⟩ (fun b=>S b/\b<w.heap.size) { tmps:=vs++Array.replicate (fn.ntmps - vs.size) undef,defers:=[] } w:=by
  refine ⟨rfl,by simp;omega,fun t=>?_,⟨(fun id o p=>nomatch p),(fun id id' o o' b p=>nomatch p),fun b a=>a.2,fun b a => .inl a.1,qv _,fun b a=>a⟩⟩;show RV _ _ _ w _ (look .any (klv 0 args) t);rcases kt2 args 0 t with h | ⟨x,_,h1,m⟩;rw [h];exact .any
  ·rw [m];have d:t<vs.size:=(by rw [hs];have:=(qd.1 h1).1;omega);have:(vs++Array.replicate (fn.ntmps - vs.size) undef).getD t undef=vs[t]:=(by rw [qam,qax d];simp [d]);rw [this];exact .fz (hr t _ x (by simp [d]) (by simpa using h1)).bound
 refine kbq (h _ _ _ _ _ _ w l) ?_;rintro e a' w' ⟨st',ψ',S',g,m,i⟩;have fin:retX T st' fn.results.toList cs=some r->a'.defers=[]/\∃ v,(results fn a'.tmps).run P w' = .ok v w'/\∃ v',Ending.returned v = .returned v'/\RF (fun b=>S b\/w.heap.size<=b) w' v' r/\Grow w w':=fun g=>by obtain ⟨v,e1,e2⟩:=k9j s m g;exact ⟨m.defers.trans (ky9 g).1,v,e1,v,rfl,e2.mono m.core.s0,⟨⟨i.os,i.tape,i.output,i.size,fun k hk=>i.block k hk⟩,i.drawn⟩⟩
 cases e with
 | normal=>exact fin g
 | ret=>exact fin g
 | _=>exact g.elim
end Go.Proofs.YtjnjipmjkkhdpaaGreatDoor
set_option linter.all false
namespace Go.Proofs.YtjnjipmjkkhdpaaGreatDoor
open Go Go.RowKit
variable [Dr]
def hadd (fs:List (Nat×Option Nat×AV)) (p:Nat->Bool) (base:List (Nat×AV)):List (Nat×AV):=match fs with
 | []=>base
 | (j,some d,c)::l=>(d,bif p j then c else .any)::hadd l p base
 | (_,none,_)::l=>hadd l p base
def hst (st:St) (fs:List (Nat×Option Nat×AV)) (p:Nat->Bool):St:={ st with tmps:=hadd fs p st.tmps }
variable {P:Program} {F S0:Nat->Prop} {N0:Nat} {w w':World} {S S':Nat->Prop} {ψ:Env} {K:Nat->Prop} {o:Oper} {a:Act} {st:St}
theorem kut (st:St) {ops:Array Oper} {g:Bool} (hs:∀ t,RV ψ K S w (a.tmps.getD t undef) (st.get t)) (h:kbi ops st o=some g):Region.wanted o (yielded ops a.tmps)=g:=by
 unfold kbi at h;unfold Region.wanted;split at h;rename_i e;rw [e];injection h
 ·rename_i j want e;rw [e];split at h
  ·rename_i t ht;have hv:=hs t;split at h
   ·rename_i b f;rw [f] at hv;injection h with h;subst h;have c:a.tmps.getD t undef = .bool b:=hv.atom;rw [qam] at c;have d:a.tmps[t]?=some (.bool b):=by
     cases d:a.tmps[t]? with
     | none=>rw [d] at c;cases c
     | some u=>rw [d] at c;simp only [qbh] at c;rw [c]
    simp only [yielded,ht,qb,d];cases b <;> cases want <;> rfl
   rename_i xs f;rw [f] at hv;injection h with h;subst h;exact ksi hv.inv ht
   ·cases h
  ·cases h
theorem kks {a:Act} (d:Option Nat) {v:Value} (n t:Nat) (hn:a.tmps.size=n) (hd:∀ t,d=some t->t<n):(a.put d v).tmps.getD t undef=if d=some t then v else a.tmps.getD t undef:=by
 cases d with
 | none=>simp [Act.put]
 | some d=>
  have b:=hd d rfl;by_cases h:d=t;subst h;simp [Act.put,hn,b]
  ·rw [qj (by simpa using h)];simp only [Act.put];rw [qam,Array.getElem?_setIfInBounds_ne h,<- qam]
end Go.Proofs.YtjnjipmjkkhdpaaGreatDoor
set_option linter.all false
namespace Go.Proofs.YtjnjipmjkkhdpaaGreatDoor
open Go Go.RowKit
variable [Dr]
abbrev w64 (n:Int):Int:=IntKind.i64.wrap n
abbrev wu8 (n:Int):Int:=IntKind.u8.wrap n
def eB (b:Bool):FV := .atom (.bool b)
def eS (s:BA):FV := .atom (.string s)
def eI (n:Int):FV := .atom (.int .i64 n)
def eU8 (n:Int):FV := .atom (.int .u8 n)
def eL {α:Type} (size:Nat) (e:α->FV) (xs:List α):FV := .lst size xs.length (xs.map e)
def idx {α:Type} (xs:List α) (i:Int):Option α:=if 0<=i then xs[i.toNat]? else none
def byt (s:BA) (i:Int):Option Int:=if 0<=i then (s[i.toNat]?).map fun c=>(c.toNat:Int) else none
def app {α:Type} (bytes:Nat) (xs ys:List α):Option (List α):=if (xs.length+ys.length)*(bytes+1)<=140737488355328 then some (xs++ys) else none
def cat (s u:BA):Option BA:=if s.size+u.size<=9223372036854775807 then some (s++u) else none
variable {P:Program} {T:List (TypeId×TD)} {o:Oper} {st:St} {t:TypeId} {d:TD}
theorem kpm {α:Type} {xs:List α} {i:Int} {x:α} (h:idx xs i=some x):0<=i/\xs[i.toNat]?=some x:=by
 unfold idx at h;split at h;exact ⟨by assumption,h⟩
 ·cases h
theorem k8m {α:Type} (enc:α->FV) {xs:List α} {i:Int} {x:α} {X Y:Operand} {e:TypeId} {de:TD} {k:IntKind} {cs:List FV} (h:idx xs i=some x) (c:TOk P T) (f:o.op = .indexAddr t X Y) (hd:kac T t=some d) (hk:d.kind = .slice e) (b:kac T e=some de) (hx:kjf (st.eval X)=some (xs.map enc)) (a:∀ x,(enc x).cells.length=de.size) (hy:st.eval Y = .fz (.atom (.int k i))) (hc:(enc x).cells=cs):NStep P o st (.fz (.fp cs)):=by
 obtain ⟨h0,h1⟩:=kpm h;refine k0y f (c.get hd) hk (c.get b) hx (fun z g=>?_) hy h0 (z:=enc x) (by rw [ql,h1];rfl) hc;obtain ⟨y,_,rfl⟩:=qap.1 g;exact a y
theorem kab0 {s:BA} {i c:Int} {X Y:Operand} {k:IntKind} (h:byt s i=some c) (a:TOk P T) (e:o.op = .index t X Y) (hd:kac T t=some d) (hk:d.kind = .str) (hx:st.eval X = .fz (.atom (.string s))) (hy:st.eval Y = .fz (.atom (.int k i))):
  NStep P o st (.fz (.atom (.int .u8 c))):=by
 unfold byt at h;split at h;rename_i h0;simp only [qn] at h;obtain ⟨b,f,rfl⟩:=h;exact k4t e (a.get hd) hk hx hy h0 f
 ·cases h
theorem k7z (s u:BA) {r:BA} (X Y:Operand) (yt:TypeId) (h:cat s u=some r) (a:o.op = .binOp .add t X Y yt:=by kernel_rfl) (hx:st.eval X = .fz (.atom (.string s)):=by kernel_rfl) (hy:st.eval Y = .fz (.atom (.string u)):=by kernel_rfl):NStep P o st (.fz (.atom (.string r))):=by
 unfold cat at h;split at h;injection h with h;subst h;exact k6x a hx hy (by assumption)
 ·cases h
theorem k62 {α:Type} {bytes:Nat} {xs ys r:List α} (h:app bytes xs ys=some r):r=xs++ys/\(xs.length+ys.length)*(bytes+1)<=140737488355328:=by
 unfold app at h;split at h;injection h with h;exact ⟨h.symm,by assumption⟩
 ·cases h
theorem kyc {α:Type} (enc:α->FV) {bytes:Nat} {xs ys r:List α} {X Y:Operand} {e:TypeId} {de:TD} {n m id:Nat} (h:app bytes xs ys=some r) (i:TOk P T) (j:o.op = .call { callee := .builtin .append,args:=#[X,Y],argTypes:=#[t,t] }) (hd:kac T t=some d) (hk:d.kind = .slice e) (b:kac T e=some de) (k:Nat.ble 1 de.size=true) (c:de.zero.length=de.size) (f:de.bytes=bytes) (hx:st.eval X = .row id n) (g:kaa st.heap id=some (.frow e de.size (xs.map enc))) (hn:n=xs.length) (hy:st.eval Y = .fz (.lst de.size m (ys.map enc))\/st.eval Y = .lim de.size m (ys.map enc)):
  StepA P o st (.row id r.length) ((id, .frow e de.size (r.map enc))::st.heap) st.ids:=by
 obtain ⟨rfl,a⟩:=k62 h;subst f;have:=k50 (id:=id) (d:=d) (t:=t) (st:=st) (o:=o) (P:=P) (xs.map enc) (ys.map enc) j (i.get hd) hk (i.get b) (qh k) c hx g (by rw [hn];simp) hy (by simpa using a);rw [<- List.map_append,qs] at this;exact this
theorem kjv (t id n:Nat) (e:TypeId) (size:Nat) (xs:List FV) (hx:st.get t = .row id n:=by kernel_rfl) (d:kaa st.heap id=some (.frow e size xs):=by kernel_rfl) (hn:n=xs.length:=by simp):
  LeSt st { st with tmps:=(t, .fz (.lst size n xs))::st.tmps,heap:=kdm id st.heap }:=by
 subst hn;intro F S0 N0 ψ S a w hs;obtain ⟨c1,c2⟩:=kle hs.core d;have c:∀ k,RV ψ (·∈st.ids) (fun b=>S b\/kap (ψ.val id)=some b) w (a.tmps.getD k undef) (st.get k):=fun k=>(hs.tmps k).mono (fun _ h=>h) fun _ h => .inl h;refine ⟨ψ,_,hs.defers,hs.size,fun k=>?_,c1⟩;simp only [St.get,kaw];split
 ·rename_i hk;subst hk;have hv:=c t;rw [hx] at hv;have h0:=(hs.core.obj id _ d).2.1.1;refine .fz ?_;generalize a.tmps.getD t undef=u at hv;cases hv with
  | row hK f h1 hv=>rw [hv (by rw [h0])];exact c2
 ·exact c k
theorem kl2 (id2 id n j:Nat) (e:TypeId) (size:Nat) (xs:List FV) (e2:TypeId) (cells:List AV) (d:kaa st.heap id2=some (.box e2 cells):=by kernel_rfl) (hx:cells[j]?=some (.row id n):=by kernel_rfl) (l:kaa st.heap id=some (.frow e size xs):=by kernel_rfl) (hn:n=xs.length:=by simp):
  LeSt st { st with heap:=(id2, .box e2 (cells.set j (.fz (.lst size n xs))))::kdm id st.heap }:=by
 subst hn;intro F S0 N0 ψ S a w hs;obtain ⟨c1,c2⟩:=kle hs.core l;have q:id2≠id:=fun h=>by rw [h,l] at d;cases d
 have p:kaa (kdm id st.heap) id2=some (.box e2 cells):=kun q d;obtain ⟨k1,⟨k0,b,cs,k2,k3,k4,k5,k6⟩,k7⟩:=c1.obj id2 _ p;refine ⟨ψ,_,hs.defers,hs.size,fun k=>(hs.tmps k).mono (fun _ h=>h) fun _ h => .inl h,⟨fun i o g=>?_,fun i i' o o' b g r m u=>?_,c1.lt,c1.s0,c1.n0,c1.fr⟩⟩
 ·rw [kab] at g;by_cases hi:id2=i
  ·subst hi;rw [qr rfl] at g;injection g with g;subst g;refine ⟨k1,⟨k0,b,cs,k2,k3,by simpa using k4,fun x hx=>?_,fun i v x hv c=>?_⟩,k7⟩
   ·rcases List.mem_or_eq_of_mem_set hx with hx | rfl;exact k5 x hx
    ·rfl
   ·rw [List.getElem?_set] at c;split at c
    ·rename_i s;subst s;split at c
     ·injection c with c;subst c;have t:=k6 j v _ hv hx;have h0:=(hs.core.obj id _ l).2.1.1;refine .fz ?_;cases t with
      | row hK y h1 hv=>rw [hv (by rw [h0])];exact c2
     ·cases c
    ·exact k6 i v x hv c
  ·rw [qj hi] at g;exact c1.obj i o g
 ·have f:∀ {i:Nat} {o:AObj},kaa ((id2,AObj.box e2 (cells.set j (.fz (.lst size xs.length xs))))::kdm id st.heap) i=some o->∃ o',kaa (kdm id st.heap) i=some o':=fun {i o} h=>by
   rw [kab] at h;by_cases hi:id2=i;subst hi;exact ⟨_,p⟩
   ·rw [qj hi] at h;exact ⟨_,h⟩
  obtain ⟨o1,h1⟩:=f g;obtain ⟨o2,p⟩:=f r;exact c1.inj i i' o1 o2 b h1 p m u
theorem kkk (e e2:TypeId) (size id2 j id:Nat) (cells:List AV) (u:Nat.ble 1 size=true:=by kernel_rfl) (l:kaa st.heap id2=some (.box e2 cells):=by kernel_rfl) (hx:cells[j]?=some (.fz (.atom (.slice none 0 0))):=by kernel_rfl) (d:st.ids.contains id=false:=by kernel_rfl):
  LeSt st { st with heap:=(id2, .box e2 (cells.set j (.row id 0)))::(id, .frow e size [])::st.heap,ids:=id::st.ids }:=by
 have d:id∉st.ids:=by simpa using d
 intro F S0 N0 ψ S a w hs;have hadd:=hs.core.add (n:=0) (v := .slice none 0 0) (w':=w) (ob := .frow e size []) (kae _) d (fun b q=>by cases q) ⟨kbf _ _,qh u,[],by rw [kaj];exact ⟨by simp, .inl ⟨rfl,rfl⟩⟩,(fun x hx=>by cases hx),fun i x j v y h=>by simp at h⟩;have r:id≠id2:=fun h=>d (by rw [h];exact (hs.core.obj id2 _ l).1);have p:kaa ((id, .frow e size [])::st.heap) id2=some (.box e2 cells):=by rw [kab,qj r];exact l
 obtain ⟨k1,⟨k0,b,cs,k2,k3,k4,k5,k6⟩,k7⟩:=hadd.obj id2 _ p;refine ⟨ψ.set id 0 (.slice none 0 0),S,hs.defers,hs.size,fun k=>(hs.tmps k).keep (ka3 d _ _) (fun _ h=>qf _ h) (fun _ h=>h) (fun _ _ _=>rfl),⟨fun i o g=>?_,fun i i' o o' b g s m q=>?_,hadd.lt,hadd.s0,hadd.n0,hadd.fr⟩⟩
 ·rw [kab] at g;by_cases hi:id2=i
  ·subst hi;rw [qr rfl] at g;injection g with g;subst g;refine ⟨k1,⟨k0,b,cs,k2,k3,by simpa using k4,fun x hx=>?_,fun i v x hv c=>?_⟩,k7⟩
   ·rcases List.mem_or_eq_of_mem_set hx with hx | rfl;exact k5 x hx
    ·rfl
   ·rw [List.getElem?_set] at c;split at c
    ·rename_i t;subst t;split at c;injection c with c;subst c;rw [(k6 j v _ hv hx).atom];exact .row (qt ..) (qaq _) rfl fun _=>(kaj _ _).symm
     ·cases c
    ·exact k6 i v x hv c
  ·rw [qj hi] at g;exact hadd.obj i o g
 ·have f:∀ {i:Nat} {o:AObj},kaa ((id2,AObj.box e2 (cells.set j (.row id 0)))::(id, .frow e size [])::st.heap) i=some o->∃ o',kaa ((id, .frow e size [])::st.heap) i=some o':=fun {i o} h=>by
   rw [kab] at h;by_cases hi:id2=i;subst hi;exact ⟨_,p⟩
   ·rw [qj hi] at h;exact ⟨_,h⟩
  obtain ⟨o1,h1⟩:=f g;obtain ⟨o2,p⟩:=f s;exact hadd.inj i i' o1 o2 b h1 p m q
theorem LeSt.refl:LeSt st st:=fun F S0 N0 ψ S a w h=>⟨ψ,S,h⟩
theorem LeSt.trans {st' st'':St} (h:LeSt st st') (k:LeSt st' st''):LeSt st st'':=fun F S0 N0 ψ S a w hs=>by obtain ⟨ψ',S',b⟩:=h F S0 N0 ψ S a w hs;exact k F S0 N0 ψ' S' a w b
theorem NStep.eqv {c c':AV} (h:NStep P o st c) (e:c=c'):NStep P o st c':=e ▸ h
theorem kps [Rd] {c:Code} {Q:Exit->St->Prop} (h:awp P c st fun e st'=>∃ st2,LeSt st' st2/\Q e st2):awp P c st Q:=fun F S0 N0 ψ S a w hs=>
 kbq (h F S0 N0 ψ S a w hs) fun e a' w' ⟨st',ψ',S',⟨st2,h0,h1⟩,b,d⟩=>by obtain ⟨ψ2,S2,f⟩:=h0 F S0 N0 ψ' S' a' w' b;exact ⟨st2,ψ2,S2,h1,f,d⟩
theorem kx3 [Rd] {c:Code} {Qa Q:Exit->St->Prop} (ha:awp P c st Qa) (a:∀ e st',Qa e st'->∃ st2,LeSt st' st2/\Q e st2):awp P c st Q:=kps (kp1 ha a)
theorem kw2 (t:Nat) (x y:AV) (h:x=y) (hx:st.get t=x:=by kernel_rfl):LeSt st (st.put (some t) y):=by
 subst h;intro F S0 N0 ψ S a w hs;refine ⟨ψ,S,hs.defers,hs.size,fun k=>?_,hs.core⟩;simp only [St.put,St.get,kaw];split;rename_i hk;subst hk;rw [<- hx];exact hs.tmps t
 ·exact hs.tmps k
theorem k29 [Rd] {σ β:Type} {step:σ->Option (σ ⊕ β)} (body:Code) (stOf:σ->St) {s0:σ} {b:β} {n:Nat} (Qb:β->Exit->St->Prop) (hl:kah step n s0=some b) (h0:LeSt st (stOf s0)) (hr:∀ s r,step s=some r->awp P body (stOf s) fun e st=>match r with | .inl s'=>e = .normal/\LeSt st (stOf s') | .inr b'=>(e ≠ .normal/\e ≠ .outgrown)/\Qb b' e st):awp P (.loop body) st (Qb b):=by
 exact k6n stOf hl h0 (fun s s' hs=>hr s _ hs) fun s hs=>kp1 (hr s _ hs) fun e st h=>⟨h.1.1,h.1.2,h.2⟩
end Go.Proofs.YtjnjipmjkkhdpaaGreatDoor
