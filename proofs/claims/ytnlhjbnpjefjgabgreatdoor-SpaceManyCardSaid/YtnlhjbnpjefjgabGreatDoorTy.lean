import Derived.Test.YtnlhjbnpjefjgabGreatDoorOpx
set_option linter.all false
set_option linter.unusedSectionVars false
namespace Go.Proofs.YtnlhjbnpjefjgabGreatDoor
open Go Go.RowKit
variable [Dr]
abbrev Res:=Option (AV×List (Nat×AObj)×List Nat)
def fresh (l:List Nat):Nat:=l.foldl Nat.max 0+1
def nres (st:St) (c:Option AV):Res:=match c with
 | some c=>some (c,st.heap,st.ids)
 | none=>none
def kl2 (T:List (TypeId×TD)) (t:TypeId):Bool:=match kac T t with
 | some d=>match d.kind with
  | .bool=>true
  | _=>false
 | none=>false
def lenX (T:List (TypeId×TD)) (st:St) (x:Operand) (t:TypeId):Option AV:=match kac T t with
 | some d=>match d.kind,st.eval x with
  | .slice _,x=>match lenOf x with
   | some n=>some (.fz (.atom (.int .i64 n)))
   | none=>none
  | .str, .fz (.atom (.string s))=>some (.fz (.atom (.int .i64 s.size)))
  | _,_=>none
 | none=>none
def fldX (T:List (TypeId×TD)) (st:St) (s:TypeId) (x:Operand) (f:Nat):Option AV:=match kac T s with
 | some d=>match d.kind with
  | .st fs=>match fs[f]? with
   | some (ft,off)=>match kac T ft with
    | some df=>bif Nat.beq df.size 0 then none else kmh st off (st.eval x)
    | none=>none
   | none=>none
  | _=>none
 | none=>none
def litX (T:List (TypeId×TD)) (st:St) (t:TypeId) (n:Nat) (parts:Array (Nat×Operand)):Option AV:=match kac T t with
 | some d=>match d.kind with
  | .slice e=>match kac T e with
   | some de=>match klh de.size 0 (kb3 st parts) with
    | some xs=>bif Nat.beq xs.length n && (Nat.ble 1 de.size && Nat.ble (n*de.size) 16777216) then some (.lim de.size n xs) else none
    | none=>none
   | none=>none
  | _=>none
 | none=>none
def boxX (e:TypeId) (st:St) (cells:List AV):Res:=bif cells.all AV.single && !st.ids.contains (fresh st.ids) then some (.ref (fresh st.ids) 0 0,(fresh st.ids, .box e cells)::st.heap,fresh st.ids::st.ids) else none
def ktc (T:List (TypeId×TD)) (st:St) (t:TypeId) (x y:Operand):Res:=match kac T t,st.eval x with
 | some d, .ref id n off=>match kaa st.heap id with
  | some (.box e cells)=>bif Nat.beq n 0 && (Nat.beq (st.eval y).cells.length d.size && ((st.eval y).cells.all AV.single && Nat.ble (off+(st.eval y).cells.length) cells.length)) then some (.any,(id, .box e (kbm cells off (st.eval y).cells))::st.heap,st.ids) else none
  | _=>none
 | _,_=>none
def kv9 (T:List (TypeId×TD)) (o:Oper) (st:St):Option AV:=match o.op with
 | .move x=>some (st.eval x)
 | .assign x=>some (st.eval x)
 | .pick c x y=>match st.eval c with
  | .fz (.atom (.bool b))=>some (bif b then st.eval x else st.eval y)
  | _=>none
 | .binOp op t x y _=>match st.eval x,st.eval y with
  | .fz (.atom u), .fz (.atom v)=>match binV (kl2 T t) op u v with
   | some r=>some (.fz (.atom r))
   | none=>none
  | _,_=>none
 | .unOp op _ x=>match st.eval x with
  | .fz (.atom u)=>match unV op u with
   | some r=>some (.fz (.atom r))
   | none=>none
  | _=>none
 | .load t x=>match kac T t,kkp st (st.eval x) with
  | some d,some xs=>kj6 d xs
  | _,_=>none
 | .fieldAddr s x f=>fldX T st s x f
 | .extract x i=>match st.eval x with | .fz (.tup xs)=>(xs[i]?).map .fz | .tup xs=>xs[i]? | _=>none
 | .nilCheck x=>kmh st 0 (st.eval x)
 | .build t parts=>k04 T st t parts
 | .indexAddr t x y=>arrX T st t x y
 | .buildSlice t n parts=>litX T st t n parts
 | .call c=>match c.callee,c.args.toList,c.argTypes.toList with
  | .builtin .len,[x],[t]=>lenX T st x t
  | _,_,_=>none
 | .makeFunc (.func f) first cap=>bif first.isEmpty then some (.fn f (cap.toList.map st.eval)) else (bif cap.isEmpty then some (.mth f (first.toList.map st.eval)) else none)
 | _=>none
def ktu (T:List (TypeId×TD)) (o:Oper) (st:St):Res:=match o.op with
 | .box e x=>boxX e st (st.eval x).cells
 | .alloc e=>match kac T e with
  | some d=>match kpf d with
   | some cells=>boxX e st cells
   | none=>none
  | none=>none
 | .store t x y=>ktc T st t x y
 | _=>nres st (kv9 T o st)
variable {P:Program} {w w':World} {S S':Nat->Prop} {ψ:Env} {T:List (TypeId×TD)} {o:Oper} {a:Act} {st:St}
theorem k6w {c0:Option AV} {c:AV} {h:List (Nat×AObj)} {i:List Nat} (hr:nres st c0=some (c,h,i)) (hn:∀ x,c0=some x->NStep P o st x):StepA P o st c h i:=by
 cases c0 with
 | none=>cases hr
 | some x=>
  simp only [nres,qb,qp] at hr;obtain ⟨rfl,rfl,rfl⟩:=hr;exact (hn x rfl).step
theorem kkl {α:Type} {xs:Array α} {x:α} (h:xs.toList=[x]):xs=#[x]:=by apply qbh;simpa using h
theorem ku8 (h:TOk P T) {c:AV} (a:kv9 T o st=some c:=by kernel_rfl):NStep P o st c:=by
 unfold kv9 at a;split at a;rename_i x ho;injection a with a;subst a;exact kwf (.inl ho);rename_i x ho;injection a with a;subst a;exact kwf (.inr ho)
 ·rename_i c x y ho;split at a;rename_i b g;injection a with a;subst a;exact k6e ho g
  ·cases a
 ·rename_i op t x y yt ho;split at a
  ·rename_i u v hu hv;split at a
   ·rename_i r hr;injection a with a;subst a;refine k49 (kl2 T t) (fun g=>?_) ho hu hv hr;unfold kl2 at g;split at g
    ·rename_i d j;split at g;rename_i hk;obtain ⟨_,e,h1,m⟩:=h.get j;rw [hk] at m;cases e <;> simp [kdd] at m;exact h1
     ·cases g
    ·cases g
   ·cases a
  ·cases a
 ·rename_i op t x ho;split at a
  ·rename_i u hu;split at a;rename_i r hr;injection a with a;subst a;exact n_un ho hu hr
   ·cases a
  ·cases a
 ·rename_i t x ho;split at a;rename_i d xs j k;exact kac1 ho (h.get j) k a
  ·cases a
 ·rename_i s x f ho;unfold fldX at a;split at a
  ·rename_i d j;split at a
   ·rename_i fs hk;split at a
    ·rename_i ft off hf;split at a
     ·rename_i df q;cases g:Nat.beq df.size 0 with
      | true=>rw [g] at a;cases a
      | false=>
       rw [g] at a;exact kaac ho (h.get j) hk hf (h.get q) (fun e=>by rw [e] at g;cases g) a
     ·cases a
    ·cases a
   ·cases a
  ·cases a
 rename_i x i ho;exact kyg ho a;rename_i x ho;exact k4a ho a;rename_i t parts ho;exact k2w h ho a;rename_i t x y ho;exact n_arr h ho a
 ·rename_i t n parts ho;unfold litX at a;split at a
  ·rename_i d j;split at a
   ·rename_i e hk;split at a
    ·rename_i de w;split at a
     ·rename_i xs k;cases g:(Nat.beq xs.length n && (Nat.ble 1 de.size && Nat.ble (n*de.size) 16777216)) with
      | false=>rw [g] at a;cases a
      | true=>
       rw [g] at a;simp only [qr,qb] at a;subst a;simp only [qo] at g;exact k88 ho (h.get j) hk (h.get w) (qi g.2.1) (qf g.1) (qi g.2.2) k
     ·cases a
    ·cases a
   ·cases a
  ·cases a
 ·rename_i c ho;split at a
  ·rename_i x t h1 m z;have p:o.op = .call { callee := .builtin .len,args:=#[x],argTypes:=#[t] }:=(by obtain ⟨cl,as_,ts⟩:=c;simp only at h1 m z;rw [ho,h1,kkl m,kkl z]);unfold lenX at a;split at a
   ·rename_i d j;split at a
    ·rename_i e hk;split at a;rename_i n hn;injection a with a;subst a;exact kwr p (h.get j) hk hn
     ·cases a
    rename_i s hk hv;injection a with a;subst a;exact kyj p (h.get j) hk hv
    ·cases a
   ·cases a
  ·cases a
 ·rename_i f first cap ho
  cases g:first.isEmpty with
  | false=>
   rw [g] at a;cases l:cap.isEmpty with
   | false=>rw [l] at a;cases a
   | true=>
    rw [l] at a;have:cap=#[]:=(by simpa using l);subst this;simp only [qw,qr,qb] at a;subst a;exact k84 ho
  | true=>
   rw [g] at a;have:first=#[]:=by simpa using g
   subst this;simp only [qr,qb] at a;subst a;exact k61 ho
 ·cases a
theorem k01 (f:TOk P T) {c:AV} {h:List (Nat×AObj)} {i:List Nat} (a:ktu T o st=some (c,h,i)):StepA P o st c h i:=by
 unfold ktu at a;split at a
 ·rename_i e x ho;unfold boxX at a;cases b:((st.eval x).cells.all AV.single && !st.ids.contains (Go.Proofs.YtnlhjbnpjefjgabGreatDoor.fresh st.ids)) with
  | false=>rw [b] at a;cases a
  | true=>
   rw [b] at a;simp only [qr,qb,qp] at a;obtain ⟨rfl,rfl,rfl⟩:=a;simp only [qo,qbq] at b;exact k89 ho rfl b.1 b.2
 ·rename_i e ho;split at a
  ·rename_i d g;split at a
   ·rename_i cells j;unfold boxX at a;cases b:(cells.all AV.single && !st.ids.contains (Go.Proofs.YtnlhjbnpjefjgabGreatDoor.fresh st.ids)) with
    | false=>rw [b] at a;cases a
    | true=>
     rw [b] at a;simp only [qr,qb,qp] at a;obtain ⟨rfl,rfl,rfl⟩:=a;simp only [qo,qbq] at b;exact kxl ho (f.get g) j b.2
   ·cases a
  ·cases a
 ·rename_i t x y ho;unfold ktc at a;split at a
  ·rename_i d id n off g k;split at a
   ·rename_i e cells l;cases b:(Nat.beq n 0 && (Nat.beq (st.eval y).cells.length d.size && ((st.eval y).cells.all AV.single && Nat.ble (off+(st.eval y).cells.length) cells.length))) with
    | false=>rw [b] at a;cases a
    | true=>
     rw [b] at a;simp only [qr,qb,qp] at a;obtain ⟨rfl,rfl,rfl⟩:=a;simp only [qo] at b;obtain ⟨b1,b2,b3,b4⟩:=b;obtain rfl:=qf b1;exact k2x ho (f.get g) k l rfl (qf b2) b3 (qi b4)
   ·cases a
  ·cases a
 ·exact k6w a fun z j=>ku8 f j
def kq4 (st:St) (o:Oper):Bool:=match o.dst with
 | some t=>Nat.blt t st.n
 | none=>true
theorem kjl {st:St} {o:Oper} (h:kq4 st o=true):∀ t,o.dst=some t->t<st.n:=fun t ht=>by unfold kq4 at h;rw [ht] at h;exact of_decide_eq_true (by simpa [Nat.blt_eq] using h)
end Go.Proofs.YtnlhjbnpjefjgabGreatDoor
set_option linter.all false
set_option linter.unusedSectionVars false
namespace Go.Proofs.YtnlhjbnpjefjgabGreatDoor
open Go Go.RowKit
variable [Dr]
inductive C0 where
 | keep
 | zr
 | sl (size:Nat)
 | px
inductive C1 where
 | one (c:C0)
 | ag (l:List C0)
 | drop
def co0F:C0->FV->FV
 | .sl size, .atom (.slice none 0 0)=>bif Nat.ble 1 size then .lst size 0 [] else .atom (.slice none 0 0)
 | .px, .atom (.pointer none) => .bx []
 | _,x=>x
def co0:C0->AV->AV
 | c, .fz x => .fz (co0F c x)
 | .sl _, .lim s n xs => .fz (.lst s n xs)
 | .zr, .row id _ => .row id 0
 | _,x=>x
def zipF:List C0->List FV->List FV
 | c::l,x::xs=>co0F c x::zipF l xs
 | _,xs=>xs
def zip0:List C0->List AV->List AV
 | c::l,x::xs=>co0 c x::zip0 l xs
 | _,xs=>xs
def co1:C1->AV->AV
 | .one c,x=>co0 c x
 | .ag l, .fz (.agg xs) => .fz (.agg (zipF l xs))
 | .ag l, .agg xs=>aggA (zip0 l xs)
 | .ag _,x=>x
 | .drop,_ => .any
def ok0 (ids:List Nat):AV->Bool
 | .fz _=>true
 | .ref id _ _=>ids.contains id
 | .row id _=>ids.contains id
 | .mp id=>ids.contains id
 | .opt id=>ids.contains id
 | .sdp id _=>ids.contains id
 | .win id _ _ _=>ids.contains id
 | .irow id _ _=>ids.contains id
 | .iref id _ _ _=>ids.contains id
 | .lim _ _ _=>true
 | .any=>true
 | _=>false
def ok1 (ids:List Nat):AV->Bool
 | .agg cs=>cs.all (ok0 ids)
 | .tup cs=>cs.all (ok0 ids)
 | .fn _ cs=>cs.all (ok0 ids)
 | .mth _ cs=>cs.all (ok0 ids)
 | x=>ok0 ids x
def kqw (st:St) (ids:List Nat):List (Nat×C1)->Option (List (Nat×AV))
 | []=>some []
 | (t,c)::l=>match ok1 ids (co1 c (st.get t)),kqw st ids l with
  | true,some r=>some ((t,co1 c (st.get t))::r)
  | _,_=>none
def kqu (st:St) (ids:List Nat):List (Nat×List C0)->Option (List (Nat×AObj))
 | []=>some []
 | (id,l)::r=>match kaa st.heap id,kqu st ids r with
  | some (.box e cells),some r'=>bif ids.contains id && (zip0 l cells).all (ok1 ids) then some ((id, .box e (zip0 l cells))::r') else none
  | some (.frow e s xs),some r'=>bif ids.contains id then some ((id, .frow e s xs)::r') else none
  | some (.gho cs vs),some r'=>bif ids.contains id && vs.all (ok1 ids) then some ((id, .gho cs vs)::r') else none
  | some (.was ψ0 ids0 S0 w0),some r'=>bif ids.contains id && ids0.all ids.contains then some ((id, .was ψ0 ids0 S0 w0)::r') else none
  | some (.smap kv),some r'=>bif ids.contains id then some ((id, .smap kv)::r') else none
  | some (.tab g ov eo ei rows),some r'=>bif ids.contains id then some ((id, .tab g ov eo ei rows)::r') else none
  | some (.glb gs),some r'=>bif ids.contains id then some ((id, .glb gs)::r') else none
  | some (.sit s pos),some r'=>bif ids.contains id then some ((id, .sit s pos)::r') else none
  | some (.memo Φ h),some r'=>bif ids.contains id then some ((id, .memo Φ none)::r') else none
  | some (.xo (.imap kv)),some r'=>bif ids.contains id then some ((id, .xo (.imap kv))::r') else none
  | some (.xo (.mit m a b c)),some r'=>bif ids.contains id && ids.contains m then some ((id, .xo (.mit m a b c))::r') else none
  | _,_=>none
def coSt (st:St) (ids:List Nat) (ts:List (Nat×C1)) (os:List (Nat×List C0)):Option St:=match ids.all st.ids.contains,kqw st ids ts,kqu st ids os with
 | true,some tmps,some heap=>some { n:=st.n,tmps:=tmps,heap:=heap,ids:=ids,dfr:=st.dfr }
 | _,_,_=>none
variable {P:Program} {F S0:Nat->Prop} {N0:Nat} {w w':World} {S S':Nat->Prop} {ψ:Env} {K K':Nat->Prop} {T:List (TypeId×TD)} {o:Oper} {a:Act} {st:St} {t:TypeId} {d:TD} {ids:List Nat}
theorem k23 {c:C0} {v:Value} {x:FV} (h:RF S w v x):RF S w v (co0F c x):=by
 unfold co0F;split
 ·rename_i size;cases b:Nat.ble 1 size with
  | false=>exact h
  | true=>
   rw [h.atom_eq];exact .lst (A:=none) (cap:=0) (xs:=[]) (fun _=>[]) rfl (qu _) (by omega) (qi b) (fun i x a=>by simp at a) (fun i x a=>by simp at a) (fun i x j v y a=>by simp at a)
 rw [h.atom_eq];exact .bn
 ·exact h
theorem kuw {c:C0} {x:FV} (h:x.single=true):(co0F c x).single=true:=by
 unfold co0F;split;rename_i size;cases a:Nat.ble 1 size <;> rfl;rfl
 ·exact h
theorem k6t {c:C0} {v:Value} {x:AV} (h:RV ψ K S w v x):RV ψ K S w v (co0 c x):=by
 unfold co0;split;exact .fz (k23 h.inv)
 ·cases h with | lim h=>exact .fz h
 ·cases h with | row hK hn h1 hv=>exact .row hK (qas _) h1 fun h=>hv (by omega)
 ·exact h
theorem k3z {c:C0} {x:AV} (h:x.single=true):(co0 c x).single=true:=by
 unfold co0;split;exact kuw h;rfl;rfl
 ·exact h
theorem kvc:∀ (l:List C0) (xs:List FV) (i:Nat) (y:FV),(zipF l xs)[i]?=some y->∃ c x,xs[i]?=some x/\(y=co0F c x\/y=x)
 | [],xs,i,y,h=>⟨.keep,y,by cases xs <;> exact h, .inr rfl⟩
 | c::l,[],i,y,h=>by simp [zipF] at h
 | c::l,x::xs,0,y,h=>by simp [zipF] at h;exact ⟨c,x,rfl, .inl h.symm⟩
 | c::l,x::xs,i+1,y,h=>by simp only [zipF,qac] at h ⊢;exact kvc l xs i y h
theorem k0k:∀ (l:List C0) (xs:List FV),(zipF l xs).length=xs.length
 | [],xs=>by cases xs <;> rfl
 | c::l,[]=>rfl
 | c::l,x::xs=>by simp [zipF,k0k l xs]
theorem ku2:∀ (l:List C0) (xs:List AV) (i:Nat) (y:AV),(zip0 l xs)[i]?=some y->∃ c x,xs[i]?=some x/\(y=co0 c x\/y=x)
 | [],xs,i,y,h=>⟨.keep,y,by cases xs <;> exact h, .inr rfl⟩
 | c::l,[],i,y,h=>by simp [zip0] at h
 | c::l,x::xs,0,y,h=>by simp [zip0] at h;exact ⟨c,x,rfl, .inl h.symm⟩
 | c::l,x::xs,i+1,y,h=>by simp only [zip0,qac] at h ⊢;exact ku2 l xs i y h
theorem kva:∀ (l:List C0) (xs:List AV),(zip0 l xs).length=xs.length
 | [],xs=>by cases xs <;> rfl
 | c::l,[]=>rfl
 | c::l,x::xs=>by simp [zip0,kva l xs]
theorem k3u (l:List C0) {cs:Array Value} {xs:List AV} (h1:∀ x∈xs,x.single=true) (hr:∀ (i:Nat) (v:Value) (x:AV),cs[i]?=some v->xs[i]?=some x->RV ψ K S w v x):
  (∀ x∈zip0 l xs,x.single=true)/\∀ (i:Nat) (v:Value) (x:AV),cs[i]?=some v->(zip0 l xs)[i]?=some x->RV ψ K S w v x:=by
 refine ⟨fun x a=>?_,fun i v x hv a=>?_⟩
 ·obtain ⟨i,hi⟩:=qbs.1 a;obtain ⟨c,y,hy,b⟩:=ku2 l xs i x hi;have:=h1 y (ql hy);rcases b with rfl | rfl;exact k3z this
  ·exact this
 ·obtain ⟨c,y,hy,b⟩:=ku2 l xs i x a;have:=hr i v y hv hy;rcases b with rfl | rfl;exact k6t this
  ·exact this
theorem koa (c:C1) {v:Value} {x:AV} (h:RV ψ K S w v x):RV ψ K S w v (co1 c x):=by
 unfold co1;split;exact k6t h
 ·rename_i l xs;have h:=h.inv;cases h with
  | agg hs h1 hr=>
   refine .fz (.agg (by rw [k0k];exact hs) (fun y hy=>?_) fun i v y hv hy=>?_)
   ·obtain ⟨i,hi⟩:=qbs.1 hy;obtain ⟨c,z,a,b⟩:=kvc l xs i y hi;have:=h1 z (ql a);rcases b with rfl | rfl;exact kuw this
    ·exact this
   ·obtain ⟨c,z,a,b⟩:=kvc l xs i y hy;have:=hr i v z hv a;rcases b with rfl | rfl;exact k23 this
    ·exact this
 ·rename_i l xs;cases h with
  | agg hs h1 hr=>
   obtain ⟨z1,z2⟩:=k3u l h1 hr;exact RV.aggA (by rw [kva];exact hs) z1 z2
 exact h
 ·exact .any
theorem RV.sub0 {v:Value} {x:AV} (h:RV ψ K S w v x) (ho:ok0 ids x=true):RV ψ (·∈ids) S w v x:=by
 cases h with
 | fz h=>exact .fz h
 | agg=>cases ho
 | tup=>cases ho
 | ref hK hn h1 hv=>exact .ref (by simpa [ok0] using ho) hn h1 hv
 | row hK hn h1 hv=>exact .row (by simpa [ok0] using ho) hn h1 hv
 | lim h=>exact .lim h
 | mp hK h1 hv=>exact .mp (by simpa [ok0] using ho) h1 hv
 | opt hK h1 hv=>exact .opt (by simpa [ok0] using ho) h1 hv
 | sdp hK hn h1 hv=>exact .sdp (by simpa [ok0] using ho) hn h1 hv
 | win hK hn h1 hv=>exact .win (by simpa [ok0] using ho) hn h1 hv
 | irow hK hn h1 hv=>exact .irow (by simpa [ok0] using ho) hn h1 hv
 | iref hK hn h1 hv=>exact .iref (by simpa [ok0] using ho) hn h1 hv
 | bsl=>cases ho
 | fn=>cases ho
 | mth=>cases ho
 | any=>exact .any
theorem RV.sub1 {v:Value} {x:AV} (h:RV ψ K S w v x) (ho:ok1 ids x=true):RV ψ (·∈ids) S w v x:=by
 cases h with
 | fz h=>exact .fz h
 | agg hs h1 hr=>exact .agg hs h1 fun i v x hv a=>(hr i v x hv a).sub0 (qk.1 ho x (ql a))
 | tup hs hr=>exact .tup hs fun i v x hv a=>(hr i v x hv a).sub0 (qk.1 ho x (ql a))
 | ref hK hn h1 hv=>exact .ref (by simpa [ok1,ok0] using ho) hn h1 hv
 | row hK hn h1 hv=>exact .row (by simpa [ok1,ok0] using ho) hn h1 hv
 | lim h=>exact .lim h
 | mp hK h1 hv=>exact .mp (by simpa [ok1,ok0] using ho) h1 hv
 | opt hK h1 hv=>exact .opt (by simpa [ok1,ok0] using ho) h1 hv
 | sdp hK hn h1 hv=>exact .sdp (by simpa [ok1,ok0] using ho) hn h1 hv
 | win hK hn h1 hv=>exact .win (by simpa [ok1,ok0] using ho) hn h1 hv
 | irow hK hn h1 hv=>exact .irow (by simpa [ok1,ok0] using ho) hn h1 hv
 | iref hK hn h1 hv=>exact .iref (by simpa [ok1,ok0] using ho) hn h1 hv
 | bsl=>cases ho
 | fn hs hr=>exact .fn hs fun i v x hv a=>(hr i v x hv a).sub0 (qk.1 ho x (ql a))
 | mth hs hr=>exact .mth hs fun i v x hv a=>(hr i v x hv a).sub0 (qk.1 ho x (ql a))
 | any=>exact .any
theorem kq3:∀ {ts:List (Nat×C1)} {r:List (Nat×AV)} (t:Nat),kqw st ids ts=some r->look .any r t = .any\/∃ c,look .any r t=co1 c (st.get t)/\ok1 ids (co1 c (st.get t))=true
 | [],r,t,h=>by simp only [kqw,qb] at h;subst h;exact .inl rfl
 | (k,c)::l,r,t,h=>by
  simp only [kqw] at h;split at h
  ·rename_i r' h1 a;injection h with h;subst h;rw [kar];by_cases hk:k=t;subst hk;rw [qt rfl];exact .inr ⟨c,rfl,h1⟩
   ·rw [qq hk];exact kq3 t a
  ·cases h
theorem kce:∀ {os:List (Nat×List C0)} {r:List (Nat×AObj)} (id:Nat) (ob:AObj),kqu st ids os=some r->kaa r id=some ob->id∈ids /\
  ((∃ l e cells,kaa st.heap id=some (.box e cells)/\ob = .box e (zip0 l cells)/\(zip0 l cells).all (ok1 ids)=true)\/(∃ e s xs,kaa st.heap id=some (.frow e s xs)/\ob = .frow e s xs)\/(∃ cs vs,kaa st.heap id=some (.gho cs vs)/\ob = .gho cs vs/\vs.all (ok1 ids)=true) \/
   (∃ ψ0 ids0 S0 w0,kaa st.heap id=some (.was ψ0 ids0 S0 w0)/\ob = .was ψ0 ids0 S0 w0/\ids0.all ids.contains=true)\/(∃ kv,kaa st.heap id=some (.smap kv)/\ob = .smap kv)\/(∃ g ov eo ei rows,kaa st.heap id=some (.tab g ov eo ei rows)/\ob = .tab g ov eo ei rows)\/(∃ gs,kaa st.heap id=some (.glb gs)/\ob = .glb gs)\/(∃ s pos,kaa st.heap id=some (.sit s pos)/\ob = .sit s pos)\/(∃ Φ h,kaa st.heap id=some (.memo Φ h)/\ob = .memo Φ none)\/(∃ kv,kaa st.heap id=some (.xo (.imap kv))/\ob = .xo (.imap kv))\/∃ m a b c,kaa st.heap id=some (.xo (.mit m a b c))/\ob = .xo (.mit m a b c)/\ids.contains m=true)
 | [],r,id,ob,h,ho=>by simp only [kqu,qb] at h;subst h;cases ho
 | (k,l)::os,r,id,ob,h,ho=>by
  simp only [kqu] at h;split at h
  ·rename_i e cells r' h1 f;cases d:(ids.contains k && (zip0 l cells).all (ok1 ids)) with
   | false=>rw [d] at h;cases h
   | true=>
    rw [d] at h;simp only [qr,qb] at h;subst h;rw [kae] at ho;simp only [qo] at d;by_cases hk:k=id;subst hk;rw [qt rfl] at ho;injection ho with ho;exact ⟨by simpa using d.1, .inl ⟨l,e,cells,h1,ho.symm,d.2⟩⟩
    ·rw [qq hk] at ho;exact kce id ob f ho
  ·rename_i e s xs r' h1 f;cases d:ids.contains k with
   | false=>rw [d] at h;cases h
   | true=>
    rw [d] at h;simp only [qr,qb] at h;subst h;rw [kae] at ho;by_cases hk:k=id;subst hk;rw [qt rfl] at ho;injection ho with ho;exact ⟨by simpa using d, .inr (.inl ⟨e,s,xs,h1,ho.symm⟩)⟩
    ·rw [qq hk] at ho;exact kce id ob f ho
  ·rename_i cs vs r' h1 f;cases d:(ids.contains k && vs.all (ok1 ids)) with
   | false=>rw [d] at h;cases h
   | true=>
    rw [d] at h;simp only [qr,qb] at h;subst h;rw [kae] at ho;simp only [qo] at d;by_cases hk:k=id;subst hk;rw [qt rfl] at ho;injection ho with ho;exact ⟨by simpa using d.1, .inr (.inr (.inl ⟨cs,vs,h1,ho.symm,d.2⟩))⟩
    ·rw [qq hk] at ho;exact kce id ob f ho
  ·rename_i ψ0 ids0 S0 w0 r' h1 f;cases d:(ids.contains k && ids0.all ids.contains) with
   | false=>rw [d] at h;cases h
   | true=>
    rw [d] at h;simp only [qr,qb] at h;subst h;rw [kae] at ho;simp only [qo] at d;by_cases hk:k=id;subst hk;rw [qt rfl] at ho;injection ho with ho;exact ⟨by simpa using d.1, .inr (.inr (.inr (.inl ⟨ψ0,ids0,S0,w0,h1,ho.symm,d.2⟩)))⟩
    ·rw [qq hk] at ho;exact kce id ob f ho
  ·rename_i kv r' h1 f;cases d:ids.contains k with
   | false=>rw [d] at h;cases h
   | true=>
    rw [d] at h;simp only [qr,qb] at h;subst h;rw [kae] at ho;by_cases hk:k=id;subst hk;rw [qt rfl] at ho;injection ho with ho;exact ⟨by simpa using d, .inr (.inr (.inr (.inr (.inl ⟨kv,h1,ho.symm⟩))))⟩
    ·rw [qq hk] at ho;exact kce id ob f ho
  ·rename_i g ov eo ei rows r' h1 f;cases d:ids.contains k with
   | false=>rw [d] at h;cases h
   | true=>
    rw [d] at h;simp only [qr,qb] at h;subst h;rw [kae] at ho;by_cases hk:k=id;subst hk;rw [qt rfl] at ho;injection ho with ho;exact ⟨by simpa using d, .inr (.inr (.inr (.inr (.inr (.inl ⟨g,ov,eo,ei,rows,h1,ho.symm⟩)))))⟩
    ·rw [qq hk] at ho;exact kce id ob f ho
  ·rename_i gs r' h1 f;cases d:ids.contains k with
   | false=>rw [d] at h;cases h
   | true=>
    rw [d] at h;simp only [qr,qb] at h;subst h;rw [kae] at ho;by_cases hk:k=id;subst hk;rw [qt rfl] at ho;injection ho with ho;exact ⟨by simpa using d, .inr (.inr (.inr (.inr (.inr (.inr (.inl ⟨gs,h1,ho.symm⟩))))))⟩
    ·rw [qq hk] at ho;exact kce id ob f ho
  ·rename_i s pos r' h1 f;cases d:ids.contains k with
   | false=>rw [d] at h;cases h
   | true=>
    rw [d] at h;simp only [qr,qb] at h;subst h;rw [kae] at ho;by_cases hk:k=id;subst hk;rw [qt rfl] at ho;injection ho with ho;exact ⟨by simpa using d, .inr (.inr (.inr (.inr (.inr (.inr (.inr (.inl ⟨s,pos,h1,ho.symm⟩)))))))⟩
    ·rw [qq hk] at ho;exact kce id ob f ho
  ·rename_i Φ i r' h1 f;cases d:ids.contains k with
   | false=>rw [d] at h;cases h
   | true=>
    rw [d] at h;simp only [qr,qb] at h;subst h;rw [kae] at ho;by_cases hk:k=id;subst hk;rw [qt rfl] at ho;injection ho with ho;exact ⟨by simpa using d, .inr (.inr (.inr (.inr (.inr (.inr (.inr (.inr (.inl ⟨Φ,i,h1,ho.symm⟩))))))))⟩
    ·rw [qq hk] at ho;exact kce id ob f ho
  ·rename_i kv r' h1 f;cases d:ids.contains k with
   | false=>rw [d] at h;cases h
   | true=>
    rw [d] at h;simp only [qr,qb] at h;subst h;rw [kae] at ho;by_cases hk:k=id;subst hk;rw [qt rfl] at ho;injection ho with ho;exact ⟨by simpa using d, .inr (.inr (.inr (.inr (.inr (.inr (.inr (.inr (.inr (.inl ⟨kv,h1,ho.symm⟩)))))))))⟩
    ·rw [qq hk] at ho;exact kce id ob f ho
  ·rename_i m x y z r' h1 f;cases d:(ids.contains k && ids.contains m) with
   | false=>rw [d] at h;cases h
   | true=>
    rw [d] at h;simp only [qr,qb] at h;subst h;rw [kae] at ho;simp only [qo] at d;by_cases hk:k=id;subst hk;rw [qt rfl] at ho;injection ho with ho;exact ⟨by simpa using d.1, .inr (.inr (.inr (.inr (.inr (.inr (.inr (.inr (.inr (.inr ⟨m,x,y,z,h1,ho.symm,d.2⟩)))))))))⟩
    ·rw [qq hk] at ho;exact kce id ob f ho
  ·cases h
theorem le_co {st':St} {ts:List (Nat×C1)} {os:List (Nat×List C0)} (h:coSt st ids ts os=some st'):LeSt st st':=by
 unfold coSt at h;split at h
 ·rename_i tmps heap h1 y n;injection h with h;subst h;intro F S0 N0 ψ S a w hs;refine ⟨ψ,S,hs.defers,hs.size,fun t=>?_,⟨fun id ob ho=>?_,fun id id' o o' b ho p q z=>?_,hs.core.lt,hs.core.s0,hs.core.n0,hs.core.fr⟩⟩
  ·rcases kq3 t y with h | ⟨c,h,hk⟩;show RV ψ _ S w _ (look .any tmps t);rw [h];exact .any
   ·show RV ψ _ S w _ (look .any tmps t);rw [h];exact (koa _ (hs.tmps t)).sub1 hk
  ·obtain ⟨f,r⟩:=kce id ob n ho;rcases r with ⟨l,e,cells,d,rfl,g⟩ | ⟨e,s,xs,d,rfl⟩ | ⟨cs,vs,d,rfl,g⟩ | ⟨ψ0,ids0,S0,w0,d,rfl,g⟩ | ⟨kv,d,rfl⟩ | ⟨_,_,_,_,_,d,rfl⟩ | ⟨_,d,rfl⟩ | ⟨_,_,d,rfl⟩ | ⟨_,_,d,rfl⟩ | ⟨_,d,rfl⟩ | ⟨m,_,_,_,d,rfl,g⟩;obtain ⟨_,⟨k0,b,cs,k1,k2,k3,k4,k5⟩,k6⟩:=hs.core.obj id _ d;obtain ⟨z1,z2⟩:=k3u l k4 k5;exact ⟨f,⟨k0,b,cs,k1,k2,by rw [kva];exact k3,z1,fun i v x hv j=>(z2 i v x hv j).sub1 (qk.1 g x (ql j))⟩,k6⟩;obtain ⟨_,k,k6⟩:=hs.core.obj id _ d;exact ⟨f,k,k6⟩;obtain ⟨_,⟨k0,k1,kn,k3⟩,k6⟩:=hs.core.obj id _ d;exact ⟨f,⟨k0,k1,kn,fun i v x hv j=>(k3 i v x hv j).sub1 (qk.1 g x (ql j))⟩,k6⟩;obtain ⟨_,⟨k0,k1,kn,k2,k3,k4,k5⟩,k6⟩:=hs.core.obj id _ d;exact ⟨f,⟨k0,k1,kn,k2,fun i hi=>by simpa using qk.1 g i hi,k4,k5⟩,k6⟩;obtain ⟨_,k,k6⟩:=hs.core.obj id _ d;exact ⟨f,k,k6⟩;obtain ⟨_,k,k6⟩:=hs.core.obj id _ d;exact ⟨f,k,k6⟩;obtain ⟨_,k,k6⟩:=hs.core.obj id _ d;exact ⟨f,k,k6⟩;obtain ⟨_,k,k6⟩:=hs.core.obj id _ d;exact ⟨f,k,k6⟩;obtain ⟨_,⟨k0,b,es,cl,k1,k2,k3⟩,k6⟩:=hs.core.obj id _ d;exact ⟨f,⟨k0,b,es,cl,k1,k2,k3.1,trivial⟩,k6⟩;obtain ⟨_,k,k6⟩:=hs.core.obj id _ d;exact ⟨f,k,k6⟩
   ·obtain ⟨_,⟨k0,k1,b,bm,k2,k3,k4⟩,k6⟩:=hs.core.obj id _ d;exact ⟨f,⟨k0,by simpa using g,b,bm,k2,k3,k4⟩,k6⟩
  ·obtain ⟨_,r⟩:=kce id o n ho;obtain ⟨_,u⟩:=kce id' o' n p;have k1:∃ o,kaa st.heap id=some o:=(by rcases r with ⟨l,_,cells,d,_⟩ | ⟨e,s,xs,d,_⟩ | ⟨cs,vs,d,_⟩ | ⟨_,_,_,_,d,_⟩ | ⟨_,d,_⟩ | ⟨_,_,_,_,_,d,_⟩ | ⟨_,d,_⟩ | ⟨_,_,d,_⟩ | ⟨_,_,d,_⟩ | ⟨_,d,_⟩ | ⟨_,_,_,_,d,_⟩ <;> exact ⟨_,d⟩);have k2:∃ o,kaa st.heap id'=some o:=(by rcases u with ⟨l,_,cells,d,_⟩ | ⟨e,s,xs,d,_⟩ | ⟨cs,vs,d,_⟩ | ⟨_,_,_,_,d,_⟩ | ⟨_,d,_⟩ | ⟨_,_,_,_,_,d,_⟩ | ⟨_,d,_⟩ | ⟨_,_,d,_⟩ | ⟨_,_,d,_⟩ | ⟨_,d,_⟩ | ⟨_,_,_,_,d,_⟩ <;> exact ⟨_,d⟩);obtain ⟨o1,k1⟩:=k1;obtain ⟨o2,k2⟩:=k2;exact hs.core.inj id id' o1 o2 b k1 k2 q z
 ·cases h
def kbd (id:Nat):List (Nat×AObj)->List (Nat×AObj)
 | []=>[]
 | (k,v)::l=>bif Nat.beq k id then kbd id l else (k,v)::kbd id l
theorem kbh (id:Nat):∀ {l:List (Nat×AObj)} {k:Nat} {ob:AObj},kaa (kbd id l) k=some ob->k≠id/\kaa l k=some ob
 | [],k,ob,h=>by cases h
 | (j,v)::l,k,ob,h=>by
  simp only [kbd] at h;cases a:Nat.beq j id with
  | true=>
   rw [a] at h;obtain rfl:=qf a;obtain ⟨h1,b⟩:=kbh j h;refine ⟨h1,?_⟩;rw [kae,qq (Ne.symm h1)];exact b
  | false=>
   rw [a] at h;simp only [qw,kae] at h;rw [kae];by_cases hk:j=k;subst hk;rw [qt rfl] at h ⊢;exact ⟨(fun e=>by subst e;rw [Nat.beq_refl] at a;cases a),h⟩
   ·rw [qq hk] at h ⊢;exact kbh id h
theorem kw2 {id:Nat}:∀ {l:List (Nat×AObj)} {k:Nat} {ob:AObj},k≠id->kaa l k=some ob->kaa (kbd id l) k=some ob
 | [],k,ob,_,h=>by cases h
 | (j,v)::l,k,ob,a,h=>by
  simp only [kbd];rw [kae] at h;by_cases b:j=k;subst b;rw [qt rfl] at h;rw [Nat.beq_eq_false a];simp only [qw,kae];exact h
  ·rw [qq b] at h;have ih:=kw2 a h;cases c:Nat.beq j id with
   | true=>exact ih
   | false=>
    simp only [qw,kae];rw [qq b];exact ih
theorem kju {heap:List (Nat×AObj)} {ids:List Nat} {id:Nat} {e:TypeId} {size:Nat} {xs:List FV} (h:Core F S0 N0 heap ids ψ S w) (ho:kaa heap id=some (.frow e size xs)):
  Core F S0 N0 (kbd id heap) ids ψ (fun b=>S b\/kak (ψ.val id)=some b) w/\RF (fun b=>S b\/kak (ψ.val id)=some b) w (ψ.val id) (.lst size xs.length xs):=by
 obtain ⟨H,n,t⟩:=h.obj id _ ho;have p:=n;obtain ⟨h0,q,cs,f,z,hr⟩:=n;refine ⟨⟨fun k ob hk=>?_,fun k k' o o' b hk l m a B=>?_,fun b a=>?_,fun b a=>?_,h.n0,h.fr⟩,?_⟩
 ·obtain ⟨m,hk⟩:=kbh id hk;obtain ⟨h1,I,G⟩:=h.obj k ob hk;refine ⟨h1,I.keep Ext.refl (fun _ h=>h) (fun b a => .inl a) (fun _ _ _=>rfl) ⟨rfl,rfl⟩ (fun _ _=>rfl),fun b a=>⟨fun hs=>?_,(G b a).2⟩⟩;rcases hs with hs | hs;exact (G b a).1 hs
  ·exact h.inj k id ob _ b hk ho m a (.of hs)
 obtain ⟨_,hk⟩:=kbh id hk;obtain ⟨_,l⟩:=kbh id l;exact h.inj k k' o o' b hk l m a B
 ·rcases a with a | a;exact h.lt b a
  ·exact p.lt (.of a)
 ·rcases a with a | a;exact h.s0 b a
  ·exact (t b (.of a)).2.2
 ·rcases f.2 with ⟨hv,C⟩ | ⟨g,cap,cur,hv,_,J,D,r,K,E⟩;have:xs=[]:=qa2 C;subst this;rw [hv];exact .lst (A:=none) (cap:=0) (xs:=[]) (fun _=>[]) rfl (qu _) (by omega) q (fun i x c=>by simp at c) (fun i x c=>by simp at c) (fun i x j v y c=>by simp at c)
  ·rw [hv];have s:∀ i x,xs[i]?=some x->(i+1)*size<=cs.length:=fun i x c=>(by rw [f.1];exact qbg _ (qd.1 c).1);refine .lst (fun i=>(cs.drop (i*size)).take size) rfl D (by unfold maxLen at r;exact r) q (fun i x c=>⟨g,0,rfl, .inr (by rfl),fun j u hu=>?_⟩) (fun i x c=>?_) fun i x j v y c d hy=>?_
   ·rw [qv] at hu;split at hu
    ·rw [qae,<- E,qv] at hu;split at hu;simp only [World.cell?,J,Nat.zero_add];simpa using hu
     ·cases hu
    ·cases hu
   have:=s i x c;rw [qbd] at this;exact ⟨by rw [qak,qaw];omega,z x (ql c)⟩
   ·rw [qv] at d;split at d;rw [qae] at d;exact (hr i x j v y c d hy).mono fun _ h => .inl h
    ·cases d
end Go.Proofs.YtnlhjbnpjefjgabGreatDoor
set_option linter.all false
set_option linter.unusedSectionVars false
namespace Go.Proofs.YtnlhjbnpjefjgabGreatDoor
open Go Go.RowKit
variable [Dr]
def PCall (P:Program) (f:FuncId) (args:List FV) (r:FV):Prop:=
 (∃ fn, P.funcs[f]? = some fn /\ fn.body.isNone = false /\ (fn.name == "runtime.NumGoroutine") = false) /\
 ∀ (S:Nat->Prop) (w:World) (vs:Array Value),vs.size=args.length->(∀ (i:Nat) (v:Value) (x:FV),vs[i]?=some v->args[i]?=some x->RF S w v x) ->
  Calls P f vs w fun e w'=>∃ v,e = .returned v/\RF (fun b=>S b\/w.heap.size<=b) w' v r/\Grow w w'
def k85 (st:St) (c:C1) (x:Operand):Option FV:=match co1 c (st.eval x) with
 | .fz y=>some y
 | _=>none
def kqi (st:St):List C1->List Operand->Option (List FV)
 | [],[]=>some []
 | c::cs,x::xs=>match k85 st c x,kqi st cs xs with
  | some y,some ys=>some (y::ys)
  | _,_=>none
 | _,_=>none
variable {P:Program} {F S0:Nat->Prop} {N0:Nat} {w w':World} {S S':Nat->Prop} {ψ:Env} {K:Nat->Prop} {T:List (TypeId×TD)} {o:Oper} {a:Act} {st:St} {t:TypeId} {d:TD}
theorem kyr {ids:List Nat} (h:∀ t,RV ψ (·∈ids) S w (a.tmps.getD t undef) (st.get t)):∀ {cs:List C1} {xs:List Operand} {ys:List FV},kqi st cs xs=some ys ->
  ys.length=xs.length/\∀ (i:Nat) (x:Operand) (y:FV),xs[i]?=some x->ys[i]?=some y->RF S w (a.eval x) y
 | [],[],ys,h=>by simp only [kqi,qb] at h;subst h;exact ⟨rfl,fun i x y h=>by simp at h⟩
 | c::cs,x::xs,ys,b=>by
  simp only [kqi] at b;split at b
  ·rename_i y ys' h1 e;injection b with b;subst b;obtain ⟨e1,e2⟩:=kyr h e;refine ⟨by simp [e1],fun i x' y' d hy=>?_⟩;cases i with
   | zero=>
    simp at d hy;subst d hy;unfold k85 at h1;have hv:=koa c (Sim.eval_tmps h x);split at h1;rename_i z f;injection h1 with h1;subst h1;rw [f] at hv;exact hv.inv
    ·cases h1
   | succ i=>exact e2 i x' y' (by simpa using d) (by simpa using hy)
  ·cases b
 | [],_::_,ys,h=>by cases h
 | _::_,[],ys,h=>by cases h
theorem kpo {f : FuncId} {args : Array Operand} {ts : Array TypeId} (ho : o.op = .call { callee := .value (.func f), args := args, argTypes := ts }) (hf : ∃ fn, P.funcs[f]? = some fn /\ fn.body.isNone = false /\ (fn.name == "runtime.NumGoroutine") = false) :
  (execOp a.eval o).run P w = .ok (.enter f (args.map a.eval)) w:=by
 obtain ⟨fn,h1,c,d⟩:=hf;have b:fn.body≠none:=by intro h;rw [h] at c;cases c
 simp only [beq_eq_false_iff_ne,ne_eq] at d;simp [execOp,ho,resolve,Act.eval,Deferred.ofValue,invoke,callFunc,h1,b,d]
theorem k6x {f:FuncId} {args:Array Operand} {ts:Array TypeId} {cs:List C1} {ys:List FV} {r:FV} (ho:o.op = .call { callee := .value (.func f),args:=args,argTypes:=ts }) (hc:kqi st cs args.toList=some ys) (hp:PCall P f ys r):NStep P o st (.fz r):=by
 intro ψ S a w ht d;obtain ⟨e1,e2⟩:=kyr ht hc;unfold kbx;rw [kpo ho hp.1];refine (hp.2 S w (args.map a.eval) (by simp [e1]) fun i v x hv b=>?_).mono ?_;simp only [Array.getElem?_map,qs] at hv;obtain ⟨y,hy,rfl⟩:=hv;exact e2 i y x (by simpa using hy) b
 ·rintro e w' ⟨v,rfl,h1,c⟩;exact ⟨v,rfl,c, .fz h1⟩
def resX (T:List (TypeId×TD)) (st:St) (r:ResultVar) (c:C1):Option FV:=match r with
 | .tmp t=>match co1 c (st.get t) with
  | .fz y=>some y
  | _=>none
 | .cell x t=>match kac T t,kkp st (st.get x) with
  | some d,some xs=>match kj6 d xs with
   | some z=>match co1 c z with
    | .fz y=>some y
    | _=>none
   | none=>none
  | _,_=>none
def kuf (T:List (TypeId×TD)) (st:St):List ResultVar->List C1->Option (List FV)
 | [],[]=>some []
 | r::rs,c::cs=>match resX T st r c,kuf T st rs cs with
  | some y,some ys=>some (y::ys)
  | _,_=>none
 | _,_=>none
def k39 (T:List (TypeId×TD)) (st:St) (rs:List ResultVar) (cs:List C1):Option FV:=match kuf T st rs cs with
 | some [y]=>some y
 | some ys=>some (.tup ys)
 | none=>none
def retX (T:List (TypeId×TD)) (st:St) (rs:List ResultVar) (cs:List C1):Option FV:=match st.dfr with
 | []=>k39 T st rs cs
 | _=>none
theorem k1g {T:List (TypeId×TD)} {st:St} {rs:List ResultVar} {cs:List C1} {y:FV} (h:retX T st rs cs=some y):st.dfr=[]/\k39 T st rs cs=some y:=by
 unfold retX at h;split at h;rename_i a;exact ⟨a,h⟩
 ·cases h
theorem k3j {v:Value} {x:AV} {xs:List AV} {c:AV} (n:TdOk P t d) (hv:RV ψ (·∈st.ids) S w v x) (q:∀ id o,kaa st.heap id=some o->ObR ψ (·∈st.ids) S w id o) (e:kkp st x=some xs) (hc:kj6 d xs=some c):
  ∃ ad u,v = .pointer (some ad)/\(loadVar t ad).run P w = .ok u w/\RV ψ (·∈st.ids) S w u c:=by
 obtain ⟨b,off,hv,cs,h,hl,h1,hr⟩:=krf hv q e;unfold kj6 at hc;cases hk:d.kind.agg with
 | false=>
  rw [hk] at hc;simp only [qw] at hc;cases xs with
  | nil=>cases hc
  | cons y ys=>
   simp only [List.head?_cons,qb] at hc;subst hc;have k:cs[0]?=some (cs[0]'(by simp at hl;omega)):=qa _;have f:w.cell? ⟨b,off,none⟩=some (cs[0]'(by simp at hl;omega)):=(by simpa using h 0 _ k);exact ⟨_,cs[0]'(by simp at hl;omega),hv,by simp [loadVar,n.isAgg,hk,f],hr 0 _ y k rfl⟩
 | true=>
  rw [hk] at hc;simp only [qr] at hc;cases g:Nat.ble d.size xs.length with
  | false=>rw [g] at hc;cases hc
  | true=>
   rw [g] at hc;simp only [qr,qb] at hc;subst hc;have p:=qi g;have l:(cs.take d.size).length=d.size:=(by rw [qak];omega);have a:=run_loadCells_list (P:=P) w ⟨b,off,none⟩ (cs.take d.size) fun j v m=>by
    rw [qv] at m;split at m;rw [ka3];exact h j v m
    ·cases m
   rw [l] at a;refine ⟨_, .agg (cs.take d.size).toArray,hv,by simp [loadVar,n.isAgg,hk,n.size,a],RV.aggA (by simp [hl]) (fun x e=>h1 x (qa6 e)) fun i v x hv e=>?_⟩;simp only [qbu] at hv;rw [qv] at hv e;split at hv;rename_i hi;rw [qt hi] at e;exact hr i v x hv e
   ·cases hv
def kfd (tmps:Array Value):ResultVar->Sem Value
 | .tmp t=>pure (tmps.getD t undef)
 | .cell x t=>do loadVar t (<- asAddr (tmps.getD x undef))
theorem k0v (f:TOk P T) (hs:Sim F S0 N0 st ψ S a w):∀ {rs:List ResultVar} {cs:List C1} {ys:List FV},kuf T st rs cs=some ys ->
  ∃ vs:List Value,(rs.mapM (kfd a.tmps)).run P w = .ok vs w/\vs.length=ys.length/\∀ (i:Nat) (v:Value) (y:FV),vs[i]?=some v->ys[i]?=some y->RF S w v y
 | [],[],ys,h=>by simp only [kuf,qb] at h;subst h;exact ⟨[],by simp,rfl,fun i v y h=>by simp at h⟩
 | r::rs,c::cs,ys,h=>by
  simp only [kuf] at h;split at h
  ·rename_i y ys' h1 g;injection h with h;subst h;obtain ⟨vs,k1,k2,k3⟩:=k0v f hs g;have key:∃ v,(kfd a.tmps r).run P w = .ok v w/\RF S w v y:=by
    unfold resX at h1;split at h1
    ·rename_i t;have hv:=koa c (hs.tmps t);split at h1;rename_i z b;injection h1 with h1;subst h1;rw [b] at hv;exact ⟨_,rfl,hv.inv⟩
     ·cases h1
    ·rename_i x t;split at h1
     ·rename_i d xs j k;split at h1
      ·rename_i z b;obtain ⟨ad,u,e1,e2,e3⟩:=k3j (f.get j) (hs.tmps x) (fun id o ho=>(hs.core.obj id o ho).2.1) k b;have hv:=koa c e3;split at h1;rename_i z' e;injection h1 with h1;subst h1;rw [e] at hv;refine ⟨u,?_,hv.inv⟩;simp only [kfd,e1,asAddr,Sem.run_bind,Sem.run_pure,Result.andThen_ok,e2]
       ·cases h1
      ·cases h1
     ·cases h1
   obtain ⟨v,e1,e2⟩:=key;refine ⟨v::vs,?_,by simp [k2],fun i v' y' hv hy=>?_⟩;rw [List.mapM_cons];simp only [Sem.run_bind,e1,Result.andThen_ok,k1,Sem.run_pure]
   ·cases i with
    | zero=>simp at hv hy;subst hv hy;exact e2
    | succ i=>exact k3 i v' y' (by simpa using hv) (by simpa using hy)
  ·cases h
 | [],_::_,ys,h=>by cases h
 | _::_,[],ys,h=>by cases h
theorem kaa2 (d:TOk P T) (hs:Sim F S0 N0 st ψ S a w) {fn:Func} {cs:List C1} {y:FV} (h:retX T st fn.results.toList cs=some y):∃ v,(results fn a.tmps).run P w = .ok v w/\RF S w v y:=by
 replace h:=(k1g h).2;unfold k39 at h;have key:∀ ys,kuf T st fn.results.toList cs=some ys->∃ vs:List Value,(results fn a.tmps).run P w = .ok (if h:vs.length=1 then vs[0] else .tuple vs.toArray) w/\vs.length=ys.length/\∀ (i:Nat) (v:Value) (y:FV),vs[i]?=some v->ys[i]?=some y->RF S w v y:=fun ys hy=>by
  obtain ⟨vs,k1,k2,k3⟩:=k0v d hs hy;refine ⟨vs,?_,k2,k3⟩;unfold results;rw [Array.mapM_eq_mapM_toList];have b:∀ (g:ResultVar->Sem Value),(∀ x,g x=kfd a.tmps x)->(fn.results.toList.mapM g).run P w = .ok vs w:=fun g b=>by rw [show g=kfd a.tmps from funext b];exact k1
  simp only [Sem.run_bind,Sem.run_map];rw [b _ fun x=>by cases x <;> rfl];simp only [Result.andThen_ok,Sem.run_pure];simp
 split at h
 ·rename_i z e;injection h with h;subst h;obtain ⟨vs,k1,k2,k3⟩:=key _ e;have hl:vs.length=1:=by simpa using k2
  rw [dif_pos hl] at k1;exact ⟨_,k1,k3 0 _ _ (qa (by omega)) rfl⟩
 ·rename_i ys c hy;injection h with h;subst h;obtain ⟨vs,k1,k2,k3⟩:=key _ hy;have hl:¬ vs.length=1:=fun hl=>by rw [k2] at hl;obtain ⟨z,rfl⟩:=List.length_eq_one_iff.1 hl;exact c z rfl
  rw [dif_neg hl] at k1;exact ⟨_,k1, .tup (by simpa using k2) fun i v x hv f=>k3 i v x (by simpa using hv) f⟩
 ·cases h
def kmy:Nat->List FV->List (Nat×AV)
 | _,[]=>[]
 | i,x::l=>(i, .fz x)::kmy (i+1) l
def retQ (T:List (TypeId×TD)) (rs:List ResultVar) (cs:List C1) (r:FV):Exit->St->Prop
 | .normal,st=>retX T st rs cs=some r
 | .ret,st=>retX T st rs cs=some r
 | _,_=>False
theorem kwj:∀ (l:List FV) (i t:Nat),(look .any (kmy i l) t = .any)\/∃ x,i<=t/\l[t - i]?=some x/\look .any (kmy i l) t = .fz x
 | [],i,t => .inl rfl
 | x::l,i,t=>by
  simp only [kmy,kar];by_cases h:i=t;subst h;exact .inr ⟨x,qu _,by simp,by simp⟩
  ·rw [qq h];rcases kwj l (i+1) t with h1 | ⟨y,h1,a,b⟩;exact .inl h1
   ·exact .inr ⟨y,by omega,by rw [show t - i=(t - (i+1))+1 by omega];simpa using a,b⟩
theorem k2f (p : TOk P T) {f : FuncId} {fn : Func} {c : Code} {args : List FV} {r : FV} (cs : List C1) (hf : P.funcs[f]? = some fn) (a : fn.body = some c) (hn : (fn.name == "runtime.NumGoroutine") = false) (j : Nat.ble args.length fn.ntmps = true)
  (h:awp P c { n:=fn.ntmps,tmps:=kmy 0 args,heap:=[],ids:=[] } (retQ T fn.results.toList cs r)):PCall P f args r:=by
 have j:=qi j;refine ⟨⟨fn,hf,by rw [a];rfl,hn⟩,fun S w vs hs hr=>calls_of_wp hf a ?_⟩;have l:Sim (fun b=>b<w.heap.size) S w.heap.size { n:=fn.ntmps,tmps:=kmy 0 args,heap:=[],ids:=[] } ⟨fun _=>0,fun _=>undef⟩ (fun b=>S b/\b<w.heap.size) { tmps:=vs++Array.replicate (fn.ntmps - vs.size) undef,defers:=[] } w:=by
  refine ⟨rfl,by simp;omega,fun t=>?_,⟨(fun id o ho=>nomatch ho),(fun id id' o o' b ho=>nomatch ho),fun b a=>a.2,fun b a => .inl a.1,qu _,fun b a=>a⟩⟩;show RV _ _ _ w _ (look .any (kmy 0 args) t);rcases kwj args 0 t with h | ⟨x,_,h1,m⟩;rw [h];exact .any
  ·rw [m];have d:t<vs.size:=(by rw [hs];have:=(qd.1 h1).1;omega);have:(vs++Array.replicate (fn.ntmps - vs.size) undef).getD t undef=vs[t]:=(by rw [qaj,qa4 d];simp [d]);rw [this];exact .fz (hr t _ x (by simp [d]) (by simpa using h1)).bound
 refine wp_mono (h _ _ _ _ _ _ w l) ?_;rintro e a' w' ⟨st',ψ',S',g,m,i⟩;have fin:retX T st' fn.results.toList cs=some r->a'.defers=[]/\∃ v,(results fn a'.tmps).run P w' = .ok v w'/\∃ v',Ending.returned v = .returned v'/\RF (fun b=>S b\/w.heap.size<=b) w' v' r/\Grow w w':=fun g=>by obtain ⟨v,e1,e2⟩:=kaa2 p m g;exact ⟨m.defers.trans (k1g g).1,v,e1,v,rfl,e2.mono m.core.s0,⟨⟨i.os,i.tape,i.output,i.size,fun k hk=>i.block k hk⟩,i.drawn⟩⟩
 cases e with
 | normal=>exact fin g
 | ret=>exact fin g
 | _=>exact g.elim
end Go.Proofs.YtnlhjbnpjefjgabGreatDoor
set_option linter.all false
namespace Go.Proofs.YtnlhjbnpjefjgabGreatDoor
open Go Go.RowKit
variable [Dr]
def hadd (fs:List (Nat×Option Nat×AV)) (p:Nat->Bool) (base:List (Nat×AV)):List (Nat×AV):=match fs with
 | []=>base
 | (j,some d,c)::l=>(d,bif p j then c else .any)::hadd l p base
 | (_,none,_)::l=>hadd l p base
def hst (st:St) (fs:List (Nat×Option Nat×AV)) (p:Nat->Bool):St:={ st with tmps:=hadd fs p st.tmps }
variable {P:Program} {F S0:Nat->Prop} {N0:Nat} {w w':World} {S S':Nat->Prop} {ψ:Env} {K:Nat->Prop} {o:Oper} {a:Act} {st:St}
theorem kiy (st:St) {ops:Array Oper} {g:Bool} (hs:∀ t,RV ψ K S w (a.tmps.getD t undef) (st.get t)) (h:ka0 ops st o=some g):Region.wanted o (yielded ops a.tmps)=g:=by
 unfold ka0 at h;unfold Region.wanted;split at h;rename_i d;rw [d];injection h
 ·rename_i j want d;rw [d];split at h
  ·rename_i t ht;have hv:=hs t;split at h
   ·rename_i b e;rw [e] at hv;injection h with h;subst h;have hu:a.tmps.getD t undef = .bool b:=hv.atom;rw [qaj] at hu;have c:a.tmps[t]?=some (.bool b):=by
     cases c:a.tmps[t]? with
     | none=>rw [c] at hu;cases hu
     | some u=>rw [c] at hu;simp only [qa9] at hu;rw [hu]
    simp only [yielded,ht,qh,c];cases b <;> cases want <;> rfl
   rename_i xs e;rw [e] at hv;injection h with h;subst h;exact kuv hv.inv ht
   ·cases h
  ·cases h
theorem kkc {a:Act} (d:Option Nat) {v:Value} (n t:Nat) (hn:a.tmps.size=n) (c:∀ t,d=some t->t<n):(a.put d v).tmps.getD t undef=if d=some t then v else a.tmps.getD t undef:=by
 cases d with
 | none=>simp [Act.put]
 | some d=>
  have b:=c d rfl;by_cases h:d=t;subst h;simp [Act.put,hn,b]
  ·rw [qq (by simpa using h)];simp only [Act.put];rw [qaj,Array.getElem?_setIfInBounds_ne h,<- qaj]
end Go.Proofs.YtnlhjbnpjefjgabGreatDoor
set_option linter.all false
namespace Go.Proofs.YtnlhjbnpjefjgabGreatDoor
open Go Go.RowKit
variable [Dr]
abbrev w64 (n:Int):Int:=IntKind.i64.wrap n
abbrev wu64 (n:Int):Int:=IntKind.u64.wrap n
abbrev wu8 (n:Int):Int:=IntKind.u8.wrap n
def eB (b:Bool):FV := .atom (.bool b)
def eS (s:BA):FV := .atom (.string s)
def eI (n:Int):FV := .atom (.int .i64 n)
def eU8 (n:Int):FV := .atom (.int .u8 n)
def eU64 (n:Int):FV := .atom (.int .u64 n)
def eL {α:Type} (size:Nat) (e:α->FV) (xs:List α):FV := .lst size xs.length (xs.map e)
def idx {α:Type} (xs:List α) (i:Int):Option α:=if 0<=i then xs[i.toNat]? else none
def byt (s:BA) (i:Int):Option Int:=if 0<=i then (s[i.toNat]?).map fun c=>(c.toNat:Int) else none
def app {α:Type} (bytes:Nat) (xs ys:List α):Option (List α):=if (xs.length+ys.length)*(bytes+1)<=140737488355328 then some (xs++ys) else none
variable {P:Program} {T:List (TypeId×TD)} {o:Oper} {st:St} {t:TypeId} {d:TD}
theorem kvi {α:Type} {xs:List α} {i:Int} {x:α} (h:idx xs i=some x):0<=i/\xs[i.toNat]?=some x:=by
 unfold idx at h;split at h;exact ⟨by assumption,h⟩
 ·cases h
theorem k9w {α:Type} (enc:α->FV) {xs:List α} {i:Int} {x:α} {X Y:Operand} {e:TypeId} {de:TD} {k:IntKind} {cs:List FV} (h:idx xs i=some x) (c:TOk P T) (ho:o.op = .indexAddr t X Y) (f:kac T t=some d) (hk:d.kind = .slice e) (b:kac T e=some de) (g:kld (st.eval X)=some (xs.map enc)) (a:∀ x,(enc x).cells.length=de.size) (hy:st.eval Y = .fz (.atom (.int k i))) (hc:(enc x).cells=cs):NStep P o st (.fz (.fp cs)):=by
 obtain ⟨h0,h1⟩:=kvi h;refine k28 ho (c.get f) hk (c.get b) g (fun z j=>?_) hy h0 (z:=enc x) (by rw [qg,h1];rfl) hc;obtain ⟨y,_,rfl⟩:=qx.1 j;exact a y
theorem kadg {s:BA} {i c:Int} {X Y:Operand} {k:IntKind} (h:byt s i=some c) (a:TOk P T) (ho:o.op = .index t X Y) (e:kac T t=some d) (hk:d.kind = .str) (f:st.eval X = .fz (.atom (.string s))) (hy:st.eval Y = .fz (.atom (.int k i))):
  NStep P o st (.fz (.atom (.int .u8 c))):=by
 unfold byt at h;split at h;rename_i h0;simp only [qs] at h;obtain ⟨b,g,rfl⟩:=h;exact k6m ho (a.get e) hk f hy h0 g
 ·cases h
theorem k1u {α:Type} {bytes:Nat} {xs ys r:List α} (h:app bytes xs ys=some r):r=xs++ys/\(xs.length+ys.length)*(bytes+1)<=140737488355328:=by
 unfold app at h;split at h;injection h with h;exact ⟨h.symm,by assumption⟩
 ·cases h
theorem k7k {α:Type} (enc:α->FV) {bytes:Nat} {xs ys r:List α} {X Y:Operand} {e:TypeId} {de:TD} {n m id:Nat} (h:app bytes xs ys=some r) (i:TOk P T) (ho:o.op = .call { callee := .builtin .append,args:=#[X,Y],argTypes:=#[t,t] }) (j:kac T t=some d) (hk:d.kind = .slice e) (b:kac T e=some de) (k:Nat.ble 1 de.size=true) (c:de.zero.length=de.size) (f:de.bytes=bytes) (l:st.eval X = .row id n) (g:kaa st.heap id=some (.frow e de.size (xs.map enc))) (hn:n=xs.length) (hy:st.eval Y = .fz (.lst de.size m (ys.map enc))\/st.eval Y = .lim de.size m (ys.map enc)):
  StepA P o st (.row id r.length) ((id, .frow e de.size (r.map enc))::st.heap) st.ids:=by
 obtain ⟨rfl,a⟩:=k1u h;subst f;have:=k7s (id:=id) (d:=d) (t:=t) (st:=st) (o:=o) (P:=P) (xs.map enc) (ys.map enc) ho (i.get j) hk (i.get b) (qi k) c l g (by rw [hn];simp) hy (by simpa using a);rw [<- qbc,qj] at this;exact this
theorem kgt (t id n:Nat) (e:TypeId) (size:Nat) (xs:List FV) (f:st.get t = .row id n:=by kernel_rfl) (d:kaa st.heap id=some (.frow e size xs):=by kernel_rfl) (hn:n=xs.length:=by simp):
  LeSt st { st with tmps:=(t, .fz (.lst size n xs))::st.tmps,heap:=kbd id st.heap }:=by
 subst hn;intro F S0 N0 ψ S a w hs;obtain ⟨c1,c2⟩:=kju hs.core d;have c:∀ k,RV ψ (·∈st.ids) (fun b=>S b\/kak (ψ.val id)=some b) w (a.tmps.getD k undef) (st.get k):=fun k=>(hs.tmps k).mono (fun _ h=>h) fun _ h => .inl h;refine ⟨ψ,_,hs.defers,hs.size,fun k=>?_,c1⟩;simp only [St.get,kar];split
 ·rename_i hk;subst hk;have hv:=c t;rw [f] at hv;have h0:=(hs.core.obj id _ d).2.1.1;refine .fz ?_;generalize a.tmps.getD t undef=u at hv;cases hv with
  | row hK g h1 hv=>rw [hv (by rw [h0])];exact c2
 ·exact c k
theorem kj1 (id2 id n j:Nat) (e:TypeId) (size:Nat) (xs:List FV) (e2:TypeId) (cells:List AV) (d:kaa st.heap id2=some (.box e2 cells):=by kernel_rfl) (l:cells[j]?=some (.row id n):=by kernel_rfl) (g:kaa st.heap id=some (.frow e size xs):=by kernel_rfl) (hn:n=xs.length:=by simp):
  LeSt st { st with heap:=(id2, .box e2 (cells.set j (.fz (.lst size n xs))))::kbd id st.heap }:=by
 subst hn;intro F S0 N0 ψ S a w hs;obtain ⟨c1,c2⟩:=kju hs.core g;have q:id2≠id:=fun h=>by rw [h,g] at d;cases d
 have p:kaa (kbd id st.heap) id2=some (.box e2 cells):=kw2 q d;obtain ⟨k1,⟨k0,b,cs,k2,k3,k4,k5,k6⟩,k7⟩:=c1.obj id2 _ p;refine ⟨ψ,_,hs.defers,hs.size,fun k=>(hs.tmps k).mono (fun _ h=>h) fun _ h => .inl h,⟨fun i o ho=>?_,fun i i' o o' b ho r m u=>?_,c1.lt,c1.s0,c1.n0,c1.fr⟩⟩
 ·rw [kae] at ho;by_cases hi:id2=i
  ·subst hi;rw [qt rfl] at ho;injection ho with ho;subst ho;refine ⟨k1,⟨k0,b,cs,k2,k3,by simpa using k4,fun x l=>?_,fun i v x hv c=>?_⟩,k7⟩
   ·rcases List.mem_or_eq_of_mem_set l with l | rfl;exact k5 x l
    ·rfl
   ·rw [List.getElem?_set] at c;split at c
    ·rename_i s;subst s;split at c
     ·injection c with c;subst c;have t:=k6 j v _ hv l;have h0:=(hs.core.obj id _ g).2.1.1;refine .fz ?_;cases t with
      | row hK y h1 hv=>rw [hv (by rw [h0])];exact c2
     ·cases c
    ·exact k6 i v x hv c
  ·rw [qq hi] at ho;exact c1.obj i o ho
 ·have f:∀ {i:Nat} {o:AObj},kaa ((id2,AObj.box e2 (cells.set j (.fz (.lst size xs.length xs))))::kbd id st.heap) i=some o->∃ o',kaa (kbd id st.heap) i=some o':=fun {i o} h=>by
   rw [kae] at h;by_cases hi:id2=i;subst hi;exact ⟨_,p⟩
   ·rw [qq hi] at h;exact ⟨_,h⟩
  obtain ⟨o1,h1⟩:=f ho;obtain ⟨o2,p⟩:=f r;exact c1.inj i i' o1 o2 b h1 p m u
theorem kcs (e e2:TypeId) (size id2 j id:Nat) (cells:List AV) (u:Nat.ble 1 size=true:=by kernel_rfl) (g:kaa st.heap id2=some (.box e2 cells):=by kernel_rfl) (l:cells[j]?=some (.fz (.atom (.slice none 0 0))):=by kernel_rfl) (d:st.ids.contains id=false:=by kernel_rfl):
  LeSt st { st with heap:=(id2, .box e2 (cells.set j (.row id 0)))::(id, .frow e size [])::st.heap,ids:=id::st.ids }:=by
 have d:id∉st.ids:=by simpa using d
 intro F S0 N0 ψ S a w hs;have hadd:=hs.core.add (n:=0) (v := .slice none 0 0) (w':=w) (ob := .frow e size []) (kaf _) d (fun b q=>by cases q) ⟨ka2 _ _,qi u,[],by rw [kaj];exact ⟨by simp, .inl ⟨rfl,rfl⟩⟩,(fun x l=>by cases l),fun i x j v y h=>by simp at h⟩;have r:id≠id2:=fun h=>d (by rw [h];exact (hs.core.obj id2 _ g).1);have p:kaa ((id, .frow e size [])::st.heap) id2=some (.box e2 cells):=by rw [kae,qq r];exact g
 obtain ⟨k1,⟨k0,b,cs,k2,k3,k4,k5,k6⟩,k7⟩:=hadd.obj id2 _ p;refine ⟨ψ.set id 0 (.slice none 0 0),S,hs.defers,hs.size,fun k=>(hs.tmps k).keep (kay d _ _) (fun _ h=>qe _ h) (fun _ h=>h) (fun _ _ _=>rfl),⟨fun i o ho=>?_,fun i i' o o' b ho s m q=>?_,hadd.lt,hadd.s0,hadd.n0,hadd.fr⟩⟩
 ·rw [kae] at ho;by_cases hi:id2=i
  ·subst hi;rw [qt rfl] at ho;injection ho with ho;subst ho;refine ⟨k1,⟨k0,b,cs,k2,k3,by simpa using k4,fun x l=>?_,fun i v x hv c=>?_⟩,k7⟩
   ·rcases List.mem_or_eq_of_mem_set l with l | rfl;exact k5 x l
    ·rfl
   ·rw [List.getElem?_set] at c;split at c
    ·rename_i t;subst t;split at c;injection c with c;subst c;rw [(k6 j v _ hv l).atom];exact .row (qn ..) (qas _) rfl fun _=>(kaj _ _).symm
     ·cases c
    ·exact k6 i v x hv c
  ·rw [qq hi] at ho;exact hadd.obj i o ho
 ·have f:∀ {i:Nat} {o:AObj},kaa ((id2,AObj.box e2 (cells.set j (.row id 0)))::(id, .frow e size [])::st.heap) i=some o->∃ o',kaa ((id, .frow e size [])::st.heap) i=some o':=fun {i o} h=>by
   rw [kae] at h;by_cases hi:id2=i;subst hi;exact ⟨_,p⟩
   ·rw [qq hi] at h;exact ⟨_,h⟩
  obtain ⟨o1,h1⟩:=f ho;obtain ⟨o2,p⟩:=f s;exact hadd.inj i i' o1 o2 b h1 p m q
theorem LeSt.refl:LeSt st st:=fun F S0 N0 ψ S a w h=>⟨ψ,S,h⟩
theorem LeSt.trans {st' st'':St} (h:LeSt st st') (k:LeSt st' st''):LeSt st st'':=fun F S0 N0 ψ S a w hs=>by obtain ⟨ψ',S',b⟩:=h F S0 N0 ψ S a w hs;exact k F S0 N0 ψ' S' a w b
theorem NStep.eqv {c c':AV} (h:NStep P o st c) (e:c=c'):NStep P o st c':=e ▸ h
theorem krn {c:Code} {Q:Exit->St->Prop} (h:awp P c st fun e st'=>∃ st2,LeSt st' st2/\Q e st2):awp P c st Q:=fun F S0 N0 ψ S a w hs=>
 wp_mono (h F S0 N0 ψ S a w hs) fun e a' w' ⟨st',ψ',S',⟨st2,h0,h1⟩,b,d⟩=>by obtain ⟨ψ2,S2,f⟩:=h0 F S0 N0 ψ' S' a' w' b;exact ⟨st2,ψ2,S2,h1,f,d⟩
theorem kzy {c:Code} {Qa Q:Exit->St->Prop} (ha:awp P c st Qa) (a:∀ e st',Qa e st'->∃ st2,LeSt st' st2/\Q e st2):awp P c st Q:=krn (kru ha a)
theorem le_eq (t:Nat) (x y:AV) (b:st.get t=x) (h:x=y):LeSt st (st.put (some t) y):=by
 subst h;intro F S0 N0 ψ S a w hs;refine ⟨ψ,S,hs.defers,hs.size,fun k=>?_,hs.core⟩;simp only [St.put,St.get,kar];split;rename_i hk;subst hk;rw [<- b];exact hs.tmps t
 ·exact hs.tmps k
theorem k5g {σ β:Type} {step:σ->Option (σ ⊕ β)} (body:Code) (stOf:σ->St) {s0:σ} {b:β} {n:Nat} (Qb:β->Exit->St->Prop) (hl:kai step n s0=some b) (h0:LeSt st (stOf s0)) (hr:∀ s r,step s=some r->awp P body (stOf s) fun e st=>match r with | .inl s'=>e = .normal/\LeSt st (stOf s') | .inr b'=>(e ≠ .normal/\e ≠ .outgrown)/\Qb b' e st):awp P (.loop body) st (Qb b):=by
 exact k8g stOf hl h0 (fun s s' hs=>hr s _ hs) fun s hs=>kru (hr s _ hs) fun e st h=>⟨h.1.1,h.1.2,h.2⟩
end Go.Proofs.YtnlhjbnpjefjgabGreatDoor
