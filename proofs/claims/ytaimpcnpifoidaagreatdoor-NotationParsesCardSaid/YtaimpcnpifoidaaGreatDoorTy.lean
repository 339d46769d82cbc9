import Derived.Test.YtaimpcnpifoidaaGreatDoorOpx
set_option linter.all false
namespace Go.Proofs.YtaimpcnpifoidaaGreatDoor
open Go Go.RowKit
abbrev Res:=Option (AV×List (Nat×AObj)×List Nat)
def fresh (l:List Nat):Nat:=l.foldl Nat.max 0+1
def nres (st:St) (c:Option AV):Res:=match c with
 | some c=>some (c,st.heap,st.ids)
 | none=>none
def k28 (T:List (TypeId×TD)) (t:TypeId):Bool:=match kat T t with
 | some d=>match d.kind with
  | .bool=>true
  | _=>false
 | none=>false
def lenX (T:List (TypeId×TD)) (st:St) (x:Operand) (t:TypeId):Option AV:=match kat T t with
 | some d=>match d.kind,st.eval x with
  | .slice _,x=>match lenOf x with
   | some n=>some (.fz (.atom (.int .i64 n)))
   | none=>none
  | .str, .fz (.atom (.string s))=>some (.fz (.atom (.int .i64 s.size)))
  | _,_=>none
 | none=>none
def fldX (T:List (TypeId×TD)) (st:St) (s:TypeId) (x:Operand) (f:Nat):Option AV:=match kat T s with
 | some d=>match d.kind with
  | .st fs=>match fs[f]? with
   | some (ft,off)=>match kat T ft with
    | some df=>bif Nat.beq df.size 0 then none else kpn st off (st.eval x)
    | none=>none
   | none=>none
  | _=>none
 | none=>none
def litX (T:List (TypeId×TD)) (st:St) (t:TypeId) (n:Nat) (parts:Array (Nat×Operand)):Option AV:=match kat T t with
 | some d=>match d.kind with
  | .slice e=>match kat T e with
   | some de=>match krn de.size 0 (kfr st parts) with
    | some xs=>bif Nat.beq xs.length n && (Nat.ble 1 de.size && Nat.ble (n*de.size) 16777216) then some (.lim de.size n xs) else none
    | none=>none
   | none=>none
  | _=>none
 | none=>none
def boxX (e:TypeId) (st:St) (cells:List AV):Res:=bif cells.all AV.single && !st.ids.contains (fresh st.ids) then some (.ref (fresh st.ids) 0 0,(fresh st.ids, .box e cells)::st.heap,fresh st.ids::st.ids) else none
def kx5 (T:List (TypeId×TD)) (st:St) (t:TypeId) (x y:Operand):Res:=match kat T t,st.eval x with
 | some d, .ref id n off=>match kab st.heap id with
  | some (.box e cells)=>bif Nat.beq n 0 && (Nat.beq (st.eval y).cells.length d.size && ((st.eval y).cells.all AV.single && Nat.ble (off+(st.eval y).cells.length) cells.length)) then some (.any,(id, .box e (kjf cells off (st.eval y).cells))::st.heap,st.ids) else none
  | _=>none
 | _,_=>none
def k2a (T:List (TypeId×TD)) (o:Oper) (st:St):Option AV:=match o.op with
 | .move x=>some (st.eval x)
 | .assign x=>some (st.eval x)
 | .pick c x y=>match st.eval c with
  | .fz (.atom (.bool b))=>some (bif b then st.eval x else st.eval y)
  | _=>none
 | .binOp op t x y _=>match st.eval x,st.eval y with
  | .fz (.atom u), .fz (.atom v)=>match binV (k28 T t) op u v with
   | some r=>some (.fz (.atom r))
   | none=>none
  | _,_=>none
 | .unOp op _ x=>match st.eval x with
  | .fz (.atom u)=>match unV op u with
   | some r=>some (.fz (.atom r))
   | none=>none
  | _=>none
 | .load t x=>match kat T t,knu st (st.eval x) with
  | some d,some xs=>kt7 d xs
  | _,_=>none
 | .fieldAddr s x f=>fldX T st s x f
 | .extract x i=>match st.eval x with | .fz (.tup xs)=>(xs[i]?).map .fz | .tup xs=>xs[i]? | _=>none
 | .nilCheck x=>kpn st 0 (st.eval x)
 | .build t parts=>k61 T st t parts
 | .indexAddr t x y=>arrX T st t x y
 | .buildSlice t n parts=>litX T st t n parts
 | .call c=>match c.callee,c.args.toList,c.argTypes.toList with
  | .builtin .len,[x],[t]=>lenX T st x t
  | _,_,_=>none
 | .makeFunc (.func f) first cap=>bif first.isEmpty then some (.fn f (cap.toList.map st.eval)) else (bif cap.isEmpty then some (.mth f (first.toList.map st.eval)) else none)
 | _=>none
def kze (T:List (TypeId×TD)) (o:Oper) (st:St):Res:=match o.op with
 | .box e x=>boxX e st (st.eval x).cells
 | .alloc e=>match kat T e with
  | some d=>match zeroA d with
   | some cells=>boxX e st cells
   | none=>none
  | none=>none
 | .store t x y=>kx5 T st t x y
 | _=>nres st (k2a T o st)
section
variable {P:Program} {w w':World} {S S':Nat->Prop} {ψ:Env} {T:List (TypeId×TD)} {o:Oper} {a:Act} {st:St}
theorem kaet {c0:Option AV} {c:AV} {h:List (Nat×AObj)} {i:List Nat} (hr:nres st c0=some (c,h,i)) (hn:∀ x,c0=some x->NStep P o st x):kcx P o st c h i:=by
 cases c0 with
 | none=>cases hr
 | some x=>
  simp only [nres,ql,qak] at hr;obtain ⟨rfl,rfl,rfl⟩:=hr;exact (hn x rfl).step
theorem k31 {α:Type} {xs:Array α} {x:α} (h:xs.toList=[x]):xs=#[x]:=by apply Array.ext'; simpa using h
theorem kv8 (h:TOk P T) {c:AV} (a:k2a T o st=some c:=by kernel_rfl):NStep P o st c:=by
 unfold k2a at a;split at a;rename_i x ho;injection a with a;subst a;exact kae3 (.inl ho);rename_i x ho;injection a with a;subst a;exact kae3 (.inr ho)
 ·rename_i c x y ho;split at a;rename_i b g;injection a with a;subst a;exact kam2 ho g
  ·cases a
 ·rename_i op t x y yt ho;split at a
  ·rename_i u v m hv;split at a
   ·rename_i r hr;injection a with a;subst a;refine n_bin (k28 T t) (fun g=>?_) ho m hv hr;unfold k28 at g;split at g
    ·rename_i d hd;split at g;rename_i hk;obtain ⟨_,e,h1,h2⟩:=h.get hd;rw [hk] at h2;cases e <;> simp [kan] at h2;exact h1
     ·cases g
    ·cases g
   ·cases a
  ·cases a
 ·rename_i op t x ho;split at a
  ·rename_i u m;split at a;rename_i r hr;injection a with a;subst a;exact n_un ho m hr
   ·cases a
  ·cases a
 ·rename_i t x ho;split at a;rename_i d xs hd j;exact kafb ho (h.get hd) j a
  ·cases a
 ·rename_i s x f ho;unfold fldX at a;split at a
  ·rename_i d hd;split at a
   ·rename_i fs hk;split at a
    ·rename_i ft off w;split at a
     ·rename_i df p;cases g:Nat.beq df.size 0 with
      | true=>rw [g] at a;cases a
      | false=>
       rw [g] at a;exact kal2 ho (h.get hd) hk w (h.get p) (fun e=>by rw [e] at g;cases g) a
     ·cases a
    ·cases a
   ·cases a
  ·cases a
 rename_i x i ho;exact kafm ho a;rename_i x ho;exact kabk ho a;rename_i t parts ho;exact kal4 h ho a;rename_i t x y ho;exact kajc h ho a
 ·rename_i t n parts ho;unfold litX at a;split at a
  ·rename_i d hd;split at a
   ·rename_i e hk;split at a
    ·rename_i de q;split at a
     ·rename_i xs j;cases g:(Nat.beq xs.length n && (Nat.ble 1 de.size && Nat.ble (n*de.size) 16777216)) with
      | false=>rw [g] at a;cases a
      | true=>
       rw [g] at a;simp only [qf,ql] at a;subst a;simp only [q8] at g;exact n_lit ho (h.get hd) hk (h.get q) (qai g.2.1) (qx g.1) (qai g.2.2) j
     ·cases a
    ·cases a
   ·cases a
  ·cases a
 ·rename_i c ho;split at a
  ·rename_i x t h1 h2 h3;have l:o.op = .call { callee := .builtin .len,args:=#[x],argTypes:=#[t] }:=(by obtain ⟨cl,as_,ts⟩:=c;simp only at h1 h2 h3;rw [ho,h1,k31 h2,k31 h3]);unfold lenX at a;split at a
   ·rename_i d hd;split at a
    ·rename_i e hk;split at a;rename_i n hn;injection a with a;subst a;exact kabe l (h.get hd) hk hn
     ·cases a
    rename_i s hk hv;injection a with a;subst a;exact kafg l (h.get hd) hk hv
    ·cases a
   ·cases a
  ·cases a
 ·rename_i f first cap ho;cases g:first.isEmpty with
  | false=>
   rw [g] at a;cases k:cap.isEmpty with
   | false=>rw [k] at a;cases a
   | true=>
    rw [k] at a;have:cap=#[]:=(by simpa using k);subst this;simp only [qd,qf,ql] at a;subst a;exact n_mth ho
  | true=>
   rw [g] at a;have:first=#[]:=(by simpa using g);subst this;simp only [qf,ql] at a;subst a;exact kamc ho
 ·cases a
theorem k7r (f:TOk P T) {c:AV} {h:List (Nat×AObj)} {i:List Nat} (a:kze T o st=some (c,h,i)):kcx P o st c h i:=by
 unfold kze at a;split at a
 ·rename_i e x ho;unfold boxX at a;cases b:((st.eval x).cells.all AV.single && !st.ids.contains (Go.Proofs.YtaimpcnpifoidaaGreatDoor.fresh st.ids)) with
  | false=>rw [b] at a;cases a
  | true=>
   rw [b] at a;simp only [qf,ql,qak] at a;obtain ⟨rfl,rfl,rfl⟩:=a;simp only [q8,Bool.not_eq_true'] at b;exact e_box ho rfl b.1 b.2
 ·rename_i e ho;split at a
  ·rename_i d hd;split at a
   ·rename_i cells g;unfold boxX at a;cases b:(cells.all AV.single && !st.ids.contains (Go.Proofs.YtaimpcnpifoidaaGreatDoor.fresh st.ids)) with
    | false=>rw [b] at a;cases a
    | true=>
     rw [b] at a;simp only [qf,ql,qak] at a;obtain ⟨rfl,rfl,rfl⟩:=a;simp only [q8,Bool.not_eq_true'] at b;exact k89 ho (f.get hd) g b.2
   ·cases a
  ·cases a
 ·rename_i t x y ho;unfold kx5 at a;split at a
  ·rename_i d id n off hd j;split at a
   ·rename_i e cells k;cases b:(Nat.beq n 0 && (Nat.beq (st.eval y).cells.length d.size && ((st.eval y).cells.all AV.single && Nat.ble (off+(st.eval y).cells.length) cells.length))) with
    | false=>rw [b] at a;cases a
    | true=>
     rw [b] at a;simp only [qf,ql,qak] at a;obtain ⟨rfl,rfl,rfl⟩:=a;simp only [q8] at b;obtain ⟨b1,b2,b3,b4⟩:=b;obtain rfl:=qx b1;exact kaao ho (f.get hd) j k rfl (qx b2) b3 (qai b4)
   ·cases a
  ·cases a
 ·exact kaet a fun z g=>kv8 f g
def kv7 (st:St) (o:Oper):Bool:=match o.dst with
 | some t=>Nat.blt t st.n
 | none=>true
theorem ksp {st:St} {o:Oper} (h:kv7 st o=true):∀ t,o.dst=some t->t<st.n:=fun t ht=>by unfold kv7 at h;rw [ht] at h;exact qal (by simpa [Nat.blt_eq] using h)
end
inductive C0 where
 | keep
 | zr
 | sl (size:Nat)
 | px
inductive C1 where
 | one (c:C0)
 | ag (l:List C0)
 | drop
def co0F:C0->FV->FV
 | .sl size, .atom (.slice none 0 0)=>bif Nat.ble 1 size then .lst size 0 [] else .atom (.slice none 0 0)
 | .px, .atom (.pointer none) => .bx []
 | _,x=>x
def co0:C0->AV->AV
 | c, .fz x => .fz (co0F c x)
 | .sl _, .lim s n xs => .fz (.lst s n xs)
 | .zr, .row id _ => .row id 0
 | _,x=>x
def zipF:List C0->List FV->List FV
 | c::l,x::xs=>co0F c x::zipF l xs
 | _,xs=>xs
def zip0:List C0->List AV->List AV
 | c::l,x::xs=>co0 c x::zip0 l xs
 | _,xs=>xs
def co1:C1->AV->AV
 | .one c,x=>co0 c x
 | .ag l, .fz (.agg xs) => .fz (.agg (zipF l xs))
 | .ag l, .agg xs=>aggA (zip0 l xs)
 | .ag _,x=>x
 | .drop,_ => .any
def ok0 (ids:List Nat):AV->Bool
 | .fz _=>true
 | .ref id _ _=>ids.contains id
 | .row id _=>ids.contains id
 | .mp id=>ids.contains id
 | .opt id=>ids.contains id
 | .sdp id _=>ids.contains id
 | .win id _ _ _=>ids.contains id
 | .irow id _ _=>ids.contains id
 | .iref id _ _ _=>ids.contains id
 | .lim _ _ _=>true
 | .any=>true
 | _=>false
def ok1 (ids:List Nat):AV->Bool
 | .agg cs=>cs.all (ok0 ids)
 | .tup cs=>cs.all (ok0 ids)
 | .fn _ cs=>cs.all (ok0 ids)
 | .mth _ cs=>cs.all (ok0 ids)
 | x=>ok0 ids x
def kvt (st:St) (ids:List Nat):List (Nat×C1)->Option (List (Nat×AV))
 | []=>some []
 | (t,c)::l=>match ok1 ids (co1 c (st.get t)),kvt st ids l with
  | true,some r=>some ((t,co1 c (st.get t))::r)
  | _,_=>none
def kvp (st:St) (ids:List Nat):List (Nat×List C0)->Option (List (Nat×AObj))
 | []=>some []
 | (id,l)::r=>match kab st.heap id,kvp st ids r with
  | some (.box e cells),some r'=>bif ids.contains id && (zip0 l cells).all (ok1 ids) then some ((id, .box e (zip0 l cells))::r') else none
  | some (.frow e s xs),some r'=>bif ids.contains id then some ((id, .frow e s xs)::r') else none
  | some (.gho cs vs),some r'=>bif ids.contains id && vs.all (ok1 ids) then some ((id, .gho cs vs)::r') else none
  | some (.was ψ0 ids0 S0 w0),some r'=>bif ids.contains id && ids0.all ids.contains then some ((id, .was ψ0 ids0 S0 w0)::r') else none
  | some (.smap kv),some r'=>bif ids.contains id then some ((id, .smap kv)::r') else none
  | some (.tab g ov eo ei rows),some r'=>bif ids.contains id then some ((id, .tab g ov eo ei rows)::r') else none
  | some (.glb gs),some r'=>bif ids.contains id then some ((id, .glb gs)::r') else none
  | some (.sit s pos),some r'=>bif ids.contains id then some ((id, .sit s pos)::r') else none
  | some (.memo Φ h),some r'=>bif ids.contains id then some ((id, .memo Φ none)::r') else none
  | _,_=>none
def coSt (st:St) (ids:List Nat) (ts:List (Nat×C1)) (os:List (Nat×List C0)):Option St:=match ids.all st.ids.contains,kvt st ids ts,kvp st ids os with
 | true,some tmps,some heap=>some { n:=st.n,tmps:=tmps,heap:=heap,ids:=ids,dfr:=st.dfr }
 | _,_,_=>none
section
variable {P:Program} {F S0:Nat->Prop} {N0:Nat} {w w':World} {S S':Nat->Prop} {ψ:Env} {K K':Nat->Prop} {T:List (TypeId×TD)} {o:Oper} {a:Act} {st:St} {t:TypeId} {d:TD} {ids:List Nat}
theorem k9c {c:C0} {v:Value} {x:FV} (h:RF S w v x):RF S w v (co0F c x):=by
 unfold co0F;split
 ·rename_i size;cases b:Nat.ble 1 size with
  | false=>exact h
  | true=>
   rw [h.atom_eq];exact .lst (A:=none) (cap:=0) (xs:=[]) (fun _=>[]) rfl (qy _) (by omega) (qai b) (fun i x a=>by simp at a) (fun i x a=>by simp at a) (fun i x j v y a=>by simp at a)
 rw [h.atom_eq];exact .bn
 ·exact h
theorem kz1 {c:C0} {x:FV} (h:x.single=true):(co0F c x).single=true:=by
 unfold co0F;split;rename_i size;cases a:Nat.ble 1 size <;> rfl;rfl
 ·exact h
theorem kadi {c:C0} {v:Value} {x:AV} (h:RV ψ K S w v x):RV ψ K S w v (co0 c x):=by
 unfold co0;split;exact .fz (k9c h.inv)
 ·cases h with | lim h=>exact .fz h
 ·cases h with | row hK hn h1 hv=>exact .row hK (qz _) h1 fun h=>hv (by omega)
 ·exact h
theorem kacb {c:C0} {x:AV} (h:x.single=true):(co0 c x).single=true:=by
 unfold co0;split;exact kz1 h;rfl;rfl
 ·exact h
theorem k1e:∀ (l:List C0) (xs:List FV) (i:Nat) (y:FV),(zipF l xs)[i]?=some y->∃ c x,xs[i]?=some x/\(y=co0F c x\/y=x)
 | [],xs,i,y,h=>⟨.keep,y,by cases xs <;> exact h, .inr rfl⟩
 | c::l,[],i,y,h=>by simp [zipF] at h
 | c::l,x::xs,0,y,h=>by simp [zipF] at h;exact ⟨c,x,rfl, .inl h.symm⟩
 | c::l,x::xs,i+1,y,h=>by simp only [zipF,List.getElem?_cons_succ] at h ⊢;exact k1e l xs i y h
theorem k6y:∀ (l:List C0) (xs:List FV),(zipF l xs).length=xs.length
 | [],xs=>by cases xs <;> rfl
 | c::l,[]=>rfl
 | c::l,x::xs=>by simp [zipF,k6y l xs]
theorem k0w:∀ (l:List C0) (xs:List AV) (i:Nat) (y:AV),(zip0 l xs)[i]?=some y->∃ c x,xs[i]?=some x/\(y=co0 c x\/y=x)
 | [],xs,i,y,h=>⟨.keep,y,by cases xs <;> exact h, .inr rfl⟩
 | c::l,[],i,y,h=>by simp [zip0] at h
 | c::l,x::xs,0,y,h=>by simp [zip0] at h;exact ⟨c,x,rfl, .inl h.symm⟩
 | c::l,x::xs,i+1,y,h=>by simp only [zip0,List.getElem?_cons_succ] at h ⊢;exact k0w l xs i y h
theorem k04:∀ (l:List C0) (xs:List AV),(zip0 l xs).length=xs.length
 | [],xs=>by cases xs <;> rfl
 | c::l,[]=>rfl
 | c::l,x::xs=>by simp [zip0,k04 l xs]
theorem k9v {l:List C0} {cs:Array Value} {xs:List AV} (h1:∀ x∈xs,x.single=true) (hr:∀ (i:Nat) (v:Value) (x:AV),cs[i]?=some v->xs[i]?=some x->RV ψ K S w v x):
  (∀ x∈zip0 l xs,x.single=true)/\∀ (i:Nat) (v:Value) (x:AV),cs[i]?=some v->(zip0 l xs)[i]?=some x->RV ψ K S w v x:=by
 refine ⟨fun x a=>?_,fun i v x hv a=>?_⟩
 ·obtain ⟨i,hi⟩:=qbs.1 a;obtain ⟨c,y,b,d⟩:=k0w l xs i x hi;have:=h1 y (qw b);rcases d with rfl | rfl;exact kacb this
  ·exact this
 ·obtain ⟨c,y,b,d⟩:=k0w l xs i x a;have:=hr i v y hv b;rcases d with rfl | rfl;exact kadi this
  ·exact this
theorem ku6 {c:C1} {v:Value} {x:AV} (h:RV ψ K S w v x):RV ψ K S w v (co1 c x):=by
 unfold co1;split;exact kadi h
 ·rename_i l xs;have h:=h.inv;cases h with
  | agg hs h1 hr=>
   refine .fz (.agg (by rw [k6y];exact hs) (fun y a=>?_) fun i v y hv a=>?_)
   ·obtain ⟨i,hi⟩:=qbs.1 a;obtain ⟨c,z,b,d⟩:=k1e l xs i y hi;have:=h1 z (qw b);rcases d with rfl | rfl;exact kz1 this
    ·exact this
   ·obtain ⟨c,z,b,d⟩:=k1e l xs i y a;have:=hr i v z hv b;rcases d with rfl | rfl;exact k9c this
    ·exact this
 ·rename_i l xs;cases h with
  | agg hs h1 hr=>
   obtain ⟨z1,z2⟩:=k9v (l:=l) h1 hr;exact RV.aggA (by rw [k04];exact hs) z1 z2
 exact h
 ·exact .any
theorem RV.sub0 {v:Value} {x:AV} (h:RV ψ K S w v x) (ho:ok0 ids x=true):RV ψ (·∈ids) S w v x:=by
 cases h with
 | fz h=>exact .fz h
 | agg=>cases ho
 | tup=>cases ho
 | ref hK hn h1 hv=>exact .ref (by simpa [ok0] using ho) hn h1 hv
 | row hK hn h1 hv=>exact .row (by simpa [ok0] using ho) hn h1 hv
 | lim h=>exact .lim h
 | mp hK h1 hv=>exact .mp (by simpa [ok0] using ho) h1 hv
 | opt hK h1 hv=>exact .opt (by simpa [ok0] using ho) h1 hv
 | sdp hK hn h1 hv=>exact .sdp (by simpa [ok0] using ho) hn h1 hv
 | win hK hn h1 hv=>exact .win (by simpa [ok0] using ho) hn h1 hv
 | irow hK hn h1 hv=>exact .irow (by simpa [ok0] using ho) hn h1 hv
 | iref hK hn h1 hv=>exact .iref (by simpa [ok0] using ho) hn h1 hv
 | fn=>cases ho
 | mth=>cases ho
 | any=>exact .any
theorem RV.sub1 {v:Value} {x:AV} (h:RV ψ K S w v x) (ho:ok1 ids x=true):RV ψ (·∈ids) S w v x:=by
 cases h with
 | fz h=>exact .fz h
 | agg hs h1 hr=>exact .agg hs h1 fun i v x hv a=>(hr i v x hv a).sub0 (qs.1 ho x (qw a))
 | tup hs hr=>exact .tup hs fun i v x hv a=>(hr i v x hv a).sub0 (qs.1 ho x (qw a))
 | ref hK hn h1 hv=>exact .ref (by simpa [ok1,ok0] using ho) hn h1 hv
 | row hK hn h1 hv=>exact .row (by simpa [ok1,ok0] using ho) hn h1 hv
 | lim h=>exact .lim h
 | mp hK h1 hv=>exact .mp (by simpa [ok1,ok0] using ho) h1 hv
 | opt hK h1 hv=>exact .opt (by simpa [ok1,ok0] using ho) h1 hv
 | sdp hK hn h1 hv=>exact .sdp (by simpa [ok1,ok0] using ho) hn h1 hv
 | win hK hn h1 hv=>exact .win (by simpa [ok1,ok0] using ho) hn h1 hv
 | irow hK hn h1 hv=>exact .irow (by simpa [ok1,ok0] using ho) hn h1 hv
 | iref hK hn h1 hv=>exact .iref (by simpa [ok1,ok0] using ho) hn h1 hv
 | fn hs hr=>exact .fn hs fun i v x hv a=>(hr i v x hv a).sub0 (qs.1 ho x (qw a))
 | mth hs hr=>exact .mth hs fun i v x hv a=>(hr i v x hv a).sub0 (qs.1 ho x (qw a))
 | any=>exact .any
theorem kv6:∀ {ts:List (Nat×C1)} {r:List (Nat×AV)} (t:Nat),kvt st ids ts=some r->look .any r t = .any\/∃ c,look .any r t=co1 c (st.get t)/\ok1 ids (co1 c (st.get t))=true
 | [],r,t,h=>by simp only [kvt,ql] at h;subst h;exact .inl rfl
 | (k,c)::l,r,t,h=>by
  simp only [kvt] at h;split at h
  ·rename_i r' h1 h2;injection h with h;subst h;rw [kdt];by_cases hk:k=t;subst hk;rw [qj rfl];exact .inr ⟨c,rfl,h1⟩
   ·rw [qg hk];exact kv6 t h2
  ·cases h
theorem kg7:∀ {os:List (Nat×List C0)} {r:List (Nat×AObj)} (id:Nat) (ob:AObj),kvp st ids os=some r->kab r id=some ob->id∈ids /\
  ((∃ l e cells,kab st.heap id=some (.box e cells)/\ob = .box e (zip0 l cells)/\(zip0 l cells).all (ok1 ids)=true)\/(∃ e s xs,kab st.heap id=some (.frow e s xs)/\ob = .frow e s xs)\/(∃ cs vs,kab st.heap id=some (.gho cs vs)/\ob = .gho cs vs/\vs.all (ok1 ids)=true) \/
   (∃ ψ0 ids0 S0 w0,kab st.heap id=some (.was ψ0 ids0 S0 w0)/\ob = .was ψ0 ids0 S0 w0/\ids0.all ids.contains=true)\/(∃ kv,kab st.heap id=some (.smap kv)/\ob = .smap kv)\/(∃ g ov eo ei rows,kab st.heap id=some (.tab g ov eo ei rows)/\ob = .tab g ov eo ei rows)\/(∃ gs,kab st.heap id=some (.glb gs)/\ob = .glb gs)\/(∃ s pos,kab st.heap id=some (.sit s pos)/\ob = .sit s pos)\/∃ Φ h,kab st.heap id=some (.memo Φ h)/\ob = .memo Φ none)
 | [],r,id,ob,h,ho=>by simp only [kvp,ql] at h;subst h;cases ho
 | (k,l)::os,r,id,ob,h,ho=>by
  simp only [kvp] at h;split at h
  ·rename_i e cells r' h1 h2;cases a:(ids.contains k && (zip0 l cells).all (ok1 ids)) with
   | false=>rw [a] at h;cases h
   | true=>
    rw [a] at h;simp only [qf,ql] at h;subst h;rw [kae] at ho;simp only [q8] at a;by_cases hk:k=id;subst hk;rw [qj rfl] at ho;injection ho with ho;exact ⟨by simpa using a.1, .inl ⟨l,e,cells,h1,ho.symm,a.2⟩⟩
    ·rw [qg hk] at ho;exact kg7 id ob h2 ho
  ·rename_i e s xs r' h1 h2;cases a:ids.contains k with
   | false=>rw [a] at h;cases h
   | true=>
    rw [a] at h;simp only [qf,ql] at h;subst h;rw [kae] at ho;by_cases hk:k=id;subst hk;rw [qj rfl] at ho;injection ho with ho;exact ⟨by simpa using a, .inr (.inl ⟨e,s,xs,h1,ho.symm⟩)⟩
    ·rw [qg hk] at ho;exact kg7 id ob h2 ho
  ·rename_i cs vs r' h1 h2;cases a:(ids.contains k && vs.all (ok1 ids)) with
   | false=>rw [a] at h;cases h
   | true=>
    rw [a] at h;simp only [qf,ql] at h;subst h;rw [kae] at ho;simp only [q8] at a;by_cases hk:k=id;subst hk;rw [qj rfl] at ho;injection ho with ho;exact ⟨by simpa using a.1, .inr (.inr (.inl ⟨cs,vs,h1,ho.symm,a.2⟩))⟩
    ·rw [qg hk] at ho;exact kg7 id ob h2 ho
  ·rename_i ψ0 ids0 S0 w0 r' h1 h2;cases a:(ids.contains k && ids0.all ids.contains) with
   | false=>rw [a] at h;cases h
   | true=>
    rw [a] at h;simp only [qf,ql] at h;subst h;rw [kae] at ho;simp only [q8] at a;by_cases hk:k=id;subst hk;rw [qj rfl] at ho;injection ho with ho;exact ⟨by simpa using a.1, .inr (.inr (.inr (.inl ⟨ψ0,ids0,S0,w0,h1,ho.symm,a.2⟩)))⟩
    ·rw [qg hk] at ho;exact kg7 id ob h2 ho
  ·rename_i kv r' h1 h2;cases a:ids.contains k with
   | false=>rw [a] at h;cases h
   | true=>
    rw [a] at h;simp only [qf,ql] at h;subst h;rw [kae] at ho;by_cases hk:k=id;subst hk;rw [qj rfl] at ho;injection ho with ho;exact ⟨by simpa using a, .inr (.inr (.inr (.inr (.inl ⟨kv,h1,ho.symm⟩))))⟩
    ·rw [qg hk] at ho;exact kg7 id ob h2 ho
  ·rename_i g ov eo ei rows r' h1 h2;cases a:ids.contains k with
   | false=>rw [a] at h;cases h
   | true=>
    rw [a] at h;simp only [qf,ql] at h;subst h;rw [kae] at ho;by_cases hk:k=id;subst hk;rw [qj rfl] at ho;injection ho with ho;exact ⟨by simpa using a, .inr (.inr (.inr (.inr (.inr (.inl ⟨g,ov,eo,ei,rows,h1,ho.symm⟩)))))⟩
    ·rw [qg hk] at ho;exact kg7 id ob h2 ho
  ·rename_i gs r' h1 h2;cases a:ids.contains k with
   | false=>rw [a] at h;cases h
   | true=>
    rw [a] at h;simp only [qf,ql] at h;subst h;rw [kae] at ho;by_cases hk:k=id;subst hk;rw [qj rfl] at ho;injection ho with ho;exact ⟨by simpa using a, .inr (.inr (.inr (.inr (.inr (.inr (.inl ⟨gs,h1,ho.symm⟩))))))⟩
    ·rw [qg hk] at ho;exact kg7 id ob h2 ho
  ·rename_i s pos r' h1 h2;cases a:ids.contains k with
   | false=>rw [a] at h;cases h
   | true=>
    rw [a] at h;simp only [qf,ql] at h;subst h;rw [kae] at ho;by_cases hk:k=id;subst hk;rw [qj rfl] at ho;injection ho with ho;exact ⟨by simpa using a, .inr (.inr (.inr (.inr (.inr (.inr (.inr (.inl ⟨s,pos,h1,ho.symm⟩)))))))⟩
    ·rw [qg hk] at ho;exact kg7 id ob h2 ho
  ·rename_i Φ b r' h1 h2;cases a:ids.contains k with
   | false=>rw [a] at h;cases h
   | true=>
    rw [a] at h;simp only [qf,ql] at h;subst h;rw [kae] at ho;by_cases hk:k=id;subst hk;rw [qj rfl] at ho;injection ho with ho;exact ⟨by simpa using a, .inr (.inr (.inr (.inr (.inr (.inr (.inr (.inr ⟨Φ,b,h1,ho.symm⟩)))))))⟩
    ·rw [qg hk] at ho;exact kg7 id ob h2 ho
  ·cases h
theorem kaiy {st':St} {ts:List (Nat×C1)} {os:List (Nat×List C0)} (h:coSt st ids ts os=some st':=by kernel_rfl):LeSt st st':=by
 unfold coSt at h;split at h
 ·rename_i tmps heap h1 h2 h3;injection h with h;subst h;intro F S0 N0 ψ S a w hs;refine ⟨ψ,S,hs.defers,hs.size,fun t=>?_,⟨fun id ob ho=>?_,fun id id' o o' b ho j hne p=>?_,hs.core.lt,hs.core.s0,hs.core.n0,hs.core.fr⟩⟩
  ·rcases kv6 t h2 with h | ⟨c,h,hk⟩;show RV ψ _ S w _ (look .any tmps t);rw [h];exact .any
   ·show RV ψ _ S w _ (look .any tmps t);rw [h];exact (ku6 (hs.tmps t)).sub1 hk
  ·obtain ⟨hid,m⟩:=kg7 id ob h3 ho;rcases m with ⟨l,e,cells,d,rfl,f⟩ | ⟨e,s,xs,d,rfl⟩ | ⟨cs,vs,d,rfl,f⟩ | ⟨ψ0,ids0,S0,w0,d,rfl,f⟩ | ⟨kv,d,rfl⟩ | ⟨_,_,_,_,_,d,rfl⟩ | ⟨_,d,rfl⟩ | ⟨_,_,d,rfl⟩ | ⟨_,_,d,rfl⟩;obtain ⟨_,⟨k0,b,cs,k1,k2,k3,k4,k5⟩,k6⟩:=hs.core.obj id _ d;obtain ⟨z1,z2⟩:=k9v (l:=l) k4 k5;exact ⟨hid,⟨k0,b,cs,k1,k2,by rw [k04];exact k3,z1,fun i v x hv g=>(z2 i v x hv g).sub1 (qs.1 f x (qw g))⟩,k6⟩;obtain ⟨_,k,k6⟩:=hs.core.obj id _ d;exact ⟨hid,k,k6⟩;obtain ⟨_,⟨k0,k1,kn,k3⟩,k6⟩:=hs.core.obj id _ d;exact ⟨hid,⟨k0,k1,kn,fun i v x hv g=>(k3 i v x hv g).sub1 (qs.1 f x (qw g))⟩,k6⟩;obtain ⟨_,⟨k0,k1,kn,k2,k3,k4,k5⟩,k6⟩:=hs.core.obj id _ d;exact ⟨hid,⟨k0,k1,kn,k2,fun i hi=>by simpa using qs.1 f i hi,k4,k5⟩,k6⟩;obtain ⟨_,k,k6⟩:=hs.core.obj id _ d;exact ⟨hid,k,k6⟩;obtain ⟨_,k,k6⟩:=hs.core.obj id _ d;exact ⟨hid,k,k6⟩;obtain ⟨_,k,k6⟩:=hs.core.obj id _ d;exact ⟨hid,k,k6⟩;obtain ⟨_,k,k6⟩:=hs.core.obj id _ d;exact ⟨hid,k,k6⟩
   ·obtain ⟨_,⟨k0,b,es,cl,k1,k2,k3⟩,k6⟩:=hs.core.obj id _ d;exact ⟨hid,⟨k0,b,es,cl,k1,k2,k3.1,trivial⟩,k6⟩
  ·obtain ⟨_,m⟩:=kg7 id o h3 ho;obtain ⟨_,n⟩:=kg7 id' o' h3 j;have k1:∃ o,kab st.heap id=some o:=(by rcases m with ⟨l,_,cells,d,_⟩ | ⟨e,s,xs,d,_⟩ | ⟨cs,vs,d,_⟩ | ⟨_,_,_,_,d,_⟩ | ⟨_,d,_⟩ | ⟨_,_,_,_,_,d,_⟩ | ⟨_,d,_⟩ | ⟨_,_,d,_⟩ | ⟨_,_,d,_⟩ <;> exact ⟨_,d⟩);have k2:∃ o,kab st.heap id'=some o:=(by rcases n with ⟨l,_,cells,d,_⟩ | ⟨e,s,xs,d,_⟩ | ⟨cs,vs,d,_⟩ | ⟨_,_,_,_,d,_⟩ | ⟨_,d,_⟩ | ⟨_,_,_,_,_,d,_⟩ | ⟨_,d,_⟩ | ⟨_,_,d,_⟩ | ⟨_,_,d,_⟩ <;> exact ⟨_,d⟩);obtain ⟨o1,k1⟩:=k1;obtain ⟨o2,k2⟩:=k2;exact hs.core.inj id id' o1 o2 b k1 k2 hne p
 ·cases h
def kde (id:Nat):List (Nat×AObj)->List (Nat×AObj)
 | []=>[]
 | (k,v)::l=>bif Nat.beq k id then kde id l else (k,v)::kde id l
theorem ke4 (id:Nat):∀ {l:List (Nat×AObj)} {k:Nat} {ob:AObj},kab (kde id l) k=some ob->k≠id/\kab l k=some ob
 | [],k,ob,h=>by cases h
 | (j,v)::l,k,ob,h=>by
  simp only [kde] at h;cases a:Nat.beq j id with
  | true=>
   rw [a] at h;obtain rfl:=qx a;obtain ⟨h1,h2⟩:=ke4 j h;refine ⟨h1,?_⟩;rw [kae,qg (Ne.symm h1)];exact h2
  | false=>
   rw [a] at h;simp only [qd,kae] at h;rw [kae];by_cases hk:j=k;subst hk;rw [qj rfl] at h ⊢;exact ⟨(fun e=>by subst e;rw [Nat.beq_refl] at a;cases a),h⟩
   ·rw [qg hk] at h ⊢;exact ke4 id h
theorem k1w {id:Nat}:∀ {l:List (Nat×AObj)} {k:Nat} {ob:AObj},k≠id->kab l k=some ob->kab (kde id l) k=some ob
 | [],k,ob,_,h=>by cases h
 | (j,v)::l,k,ob,hne,h=>by
  simp only [kde];rw [kae] at h;by_cases a:j=k;subst a;rw [qj rfl] at h;rw [Nat.beq_eq_false hne];simp only [qd,kae];exact h
  ·rw [qg a] at h;have ih:=k1w hne h;cases b:Nat.beq j id with
   | true=>exact ih
   | false=>
    simp only [qd,kae];rw [qg a];exact ih
theorem kqx {heap:List (Nat×AObj)} {ids:List Nat} {id:Nat} {e:TypeId} {size:Nat} {xs:List FV} (h:Core F S0 N0 heap ids ψ S w) (ho:kab heap id=some (.frow e size xs)):
  Core F S0 N0 (kde id heap) ids ψ (fun b=>S b\/kby (ψ.val id)=some b) w/\RF (fun b=>S b\/kby (ψ.val id)=some b) w (ψ.val id) (.lst size xs.length xs):=by
 obtain ⟨hid,n,t⟩:=h.obj id _ ho;have p:=n;obtain ⟨h0,q,cs,f,z,hr⟩:=n;refine ⟨⟨fun k ob hk=>?_,fun k k' o o' b hk l hne a B=>?_,fun b a=>?_,fun b a=>?_,h.n0,h.fr⟩,?_⟩
 ·obtain ⟨hne,hk⟩:=ke4 id hk;obtain ⟨h1,h2,h3⟩:=h.obj k ob hk;refine ⟨h1,h2.keep Ext.refl (fun _ h=>h) (fun b a => .inl a) (fun _ _ _=>rfl) ⟨rfl,rfl⟩ (fun _ _=>rfl),fun b a=>⟨fun hs=>?_,(h3 b a).2⟩⟩;rcases hs with hs | hs;exact (h3 b a).1 hs
  ·exact h.inj k id ob _ b hk ho hne a (.of hs)
 obtain ⟨_,hk⟩:=ke4 id hk;obtain ⟨_,l⟩:=ke4 id l;exact h.inj k k' o o' b hk l hne a B
 ·rcases a with a | a;exact h.lt b a
  ·exact p.lt (.of a)
 ·rcases a with a | a;exact h.s0 b a
  ·exact (t b (.of a)).2.2
 ·rcases f.2 with ⟨hv,C⟩ | ⟨g,cap,cur,hv,_,G,D,r,H,E⟩;have:xs=[]:=qar C;subst this;rw [hv];exact .lst (A:=none) (cap:=0) (xs:=[]) (fun _=>[]) rfl (qy _) (by omega) q (fun i x c=>by simp at c) (fun i x c=>by simp at c) (fun i x j v y c=>by simp at c)
  ·rw [hv];have s:∀ i x,xs[i]?=some x->(i+1)*size<=cs.length:=fun i x c=>(by rw [f.1];exact qa7 _ (qo.1 c).1);refine .lst (fun i=>(cs.drop (i*size)).take size) rfl D (by unfold maxLen at r;exact r) q (fun i x c=>⟨g,0,rfl, .inr (by rfl),fun j u m=>?_⟩) (fun i x c=>?_) fun i x j v y c d I=>?_
   ·rw [qaj] at m;split at m
    ·rw [qat,<- E,qaj] at m;split at m;simp only [World.cell?,G,Nat.zero_add];simpa using m
     ·cases m
    ·cases m
   have:=s i x c;rw [qbn] at this;exact ⟨by rw [qah,qau];omega,z x (qw c)⟩
   ·rw [qaj] at d;split at d;rw [qat] at d;exact (hr i x j v y c d I).mono fun _ h => .inl h
    ·cases d
end
def kac (P:Program) (f:FuncId) (args:List FV) (r:FV):Prop:=
 (∃ fn, P.funcs[f]? = some fn /\ fn.body.isNone = false /\ (fn.name == "runtime.NumGoroutine") = false) /\
 ∀ (S:Nat->Prop) (w:World) (vs:Array Value),vs.size=args.length->(∀ (i:Nat) (v:Value) (x:FV),vs[i]?=some v->args[i]?=some x->RF S w v x) ->
  Calls P f vs w fun e w'=>∃ v,e = .returned v/\RF (fun b=>S b\/w.heap.size<=b) w' v r/\Grow w w'
def kaiv (st:St) (c:C1) (x:Operand):Option FV:=match co1 c (st.eval x) with
 | .fz y=>some y
 | _=>none
def kva (st:St):List C1->List Operand->Option (List FV)
 | [],[]=>some []
 | c::cs,x::xs=>match kaiv st c x,kva st cs xs with
  | some y,some ys=>some (y::ys)
  | _,_=>none
 | _,_=>none
section
variable {P:Program} {F S0:Nat->Prop} {N0:Nat} {w w':World} {S S':Nat->Prop} {ψ:Env} {K:Nat->Prop} {T:List (TypeId×TD)} {o:Oper} {a:Act} {st:St} {t:TypeId} {d:TD}
theorem k4o {ids:List Nat} (h:∀ t,RV ψ (·∈ids) S w (a.tmps.getD t undef) (st.get t)):∀ {cs:List C1} {xs:List Operand} {ys:List FV},kva st cs xs=some ys ->
  ys.length=xs.length/\∀ (i:Nat) (x:Operand) (y:FV),xs[i]?=some x->ys[i]?=some y->RF S w (a.eval x) y
 | [],[],ys,h=>by simp only [kva,ql] at h;subst h;exact ⟨rfl,fun i x y h=>by simp at h⟩
 | c::cs,x::xs,ys,b=>by
  simp only [kva] at b;split at b
  ·rename_i y ys' h1 h2;injection b with b;subst b;obtain ⟨e1,e2⟩:=k4o h h2;refine ⟨by simp [e1],fun i x' y' d e=>?_⟩;cases i with
   | zero=>
    simp at d e;subst d e;unfold kaiv at h1;have hv:=ku6 (c:=c) (Sim.eval_tmps h x);split at h1;rename_i z f;injection h1 with h1;subst h1;rw [f] at hv;exact hv.inv
    ·cases h1
   | succ i=>exact e2 i x' y' (by simpa using d) (by simpa using e)
  ·cases b
 | [],_::_,ys,h=>by cases h
 | _::_,[],ys,h=>by cases h
theorem kt3 {f : FuncId} {args : Array Operand} {ts : Array TypeId} (ho : o.op = .call { callee := .value (.func f), args := args, argTypes := ts }) (c : ∃ fn, P.funcs[f]? = some fn /\ fn.body.isNone = false /\ (fn.name == "runtime.NumGoroutine") = false) :
  (execOp a.eval o).run P w = .ok (.enter f (args.map a.eval)) w:=by
 obtain ⟨fn,h1,h2,h3⟩:=c;have b:fn.body≠none:=by intro h;rw [h] at h2;cases h2
 simp only [qae,ne_eq] at h3;simp [execOp,ho,resolve,Act.eval,Deferred.ofValue,invoke,callFunc,h1,b,h3]
theorem kaeu {f:FuncId} {args:Array Operand} {ts:Array TypeId} {cs:List C1} {ys:List FV} {r:FV} (ho:o.op = .call { callee := .value (.func f),args:=args,argTypes:=ts }) (hc:kva st cs args.toList=some ys) (hp:kac P f ys r):NStep P o st (.fz r):=by
 intro ψ S a w ht d;obtain ⟨e1,e2⟩:=k4o ht hc;unfold kis;rw [kt3 ho hp.1];refine (hp.2 S w (args.map a.eval) (by simp [e1]) fun i v x hv b=>?_).mono ?_;simp only [Array.getElem?_map,qm] at hv;obtain ⟨y,c,rfl⟩:=hv;exact e2 i y x (by simpa using c) b
 ·rintro e w' ⟨v,rfl,h1,h2⟩;exact ⟨v,rfl,h2, .fz h1⟩
def resX (T:List (TypeId×TD)) (st:St) (r:ResultVar) (c:C1):Option FV:=match r with
 | .tmp t=>match co1 c (st.get t) with
  | .fz y=>some y
  | _=>none
 | .cell x t=>match kat T t,knu st (st.get x) with
  | some d,some xs=>match kt7 d xs with
   | some z=>match co1 c z with
    | .fz y=>some y
    | _=>none
   | none=>none
  | _,_=>none
def kzm (T:List (TypeId×TD)) (st:St):List ResultVar->List C1->Option (List FV)
 | [],[]=>some []
 | r::rs,c::cs=>match resX T st r c,kzm T st rs cs with
  | some y,some ys=>some (y::ys)
  | _,_=>none
 | _,_=>none
def kabw (T:List (TypeId×TD)) (st:St) (rs:List ResultVar) (cs:List C1):Option FV:=match kzm T st rs cs with
 | some [y]=>some y
 | some ys=>some (.tup ys)
 | none=>none
def retX (T:List (TypeId×TD)) (st:St) (rs:List ResultVar) (cs:List C1):Option FV:=match st.dfr with
 | []=>kabw T st rs cs
 | _=>none
theorem k8m {T:List (TypeId×TD)} {st:St} {rs:List ResultVar} {cs:List C1} {y:FV} (h:retX T st rs cs=some y):st.dfr=[]/\kabw T st rs cs=some y:=by
 unfold retX at h;split at h;rename_i hd;exact ⟨hd,h⟩
 ·cases h
theorem k9g {v:Value} {x:AV} {xs:List AV} {c:AV} (hd:TdOk P t d) (hv:RV ψ (·∈st.ids) S w v x) (p:∀ id o,kab st.heap id=some o->ObR ψ (·∈st.ids) S w id o) (e:knu st x=some xs) (hc:kt7 d xs=some c):
  ∃ ad u,v = .pointer (some ad)/\(loadVar t ad).run P w = .ok u w/\RV ψ (·∈st.ids) S w u c:=by
 obtain ⟨b,off,hv,cs,h,hl,h1,hr⟩:=k1n hv p e;unfold kt7 at hc;cases hk:d.kind.agg with
 | false=>
  rw [hk] at hc;simp only [qd] at hc;cases xs with
  | nil=>cases hc
  | cons y ys=>
   simp only [List.head?_cons,ql] at hc;subst hc;have k:cs[0]?=some (cs[0]'(by simp at hl;omega)):=qc _;have f:w.cell? ⟨b,off,none⟩=some (cs[0]'(by simp at hl;omega)):=(by simpa using h 0 _ k);exact ⟨_,cs[0]'(by simp at hl;omega),hv,by simp [loadVar,hd.isAgg,hk,f],hr 0 _ y k rfl⟩
 | true=>
  rw [hk] at hc;simp only [qf] at hc;cases g:Nat.ble d.size xs.length with
  | false=>rw [g] at hc;cases hc
  | true=>
   rw [g] at hc;simp only [qf,ql] at hc;subst hc;have n:=qai g;have l:(cs.take d.size).length=d.size:=(by rw [qah];omega);have a:=run_loadCells_list (P:=P) w ⟨b,off,none⟩ (cs.take d.size) fun j v m=>by
    rw [qaj] at m;split at m;rw [kjj];exact h j v m
    ·cases m
   rw [l] at a;refine ⟨_, .agg (cs.take d.size).toArray,hv,by simp [loadVar,hd.isAgg,hk,hd.size,a],RV.aggA (by simp [hl]) (fun x e=>h1 x (List.mem_of_mem_take e)) fun i v x hv e=>?_⟩;simp only [List.getElem?_toArray] at hv;rw [qaj] at hv e;split at hv;rename_i hi;rw [qj hi] at e;exact hr i v x hv e
   ·cases hv
def kob (tmps:Array Value):ResultVar->Sem Value
 | .tmp t=>pure (tmps.getD t undef)
 | .cell x t=>do loadVar t (<- asAddr (tmps.getD x undef))
theorem k64 (g:TOk P T) (hs:Sim F S0 N0 st ψ S a w):∀ {rs:List ResultVar} {cs:List C1} {ys:List FV},kzm T st rs cs=some ys ->
  ∃ vs:List Value,(rs.mapM (kob a.tmps)).run P w = .ok vs w/\vs.length=ys.length/\∀ (i:Nat) (v:Value) (y:FV),vs[i]?=some v->ys[i]?=some y->RF S w v y
 | [],[],ys,h=>by simp only [kzm,ql] at h;subst h;exact ⟨[],by simp,rfl,fun i v y h=>by simp at h⟩
 | r::rs,c::cs,ys,h=>by
  simp only [kzm] at h;split at h
  ·rename_i y ys' h1 h2;injection h with h;subst h;obtain ⟨vs,k1,k2,k3⟩:=k64 g hs h2;have key:∃ v,(kob a.tmps r).run P w = .ok v w/\RF S w v y:=by
    unfold resX at h1;split at h1
    ·rename_i t;have hv:=ku6 (c:=c) (hs.tmps t);split at h1;rename_i z b;injection h1 with h1;subst h1;rw [b] at hv;exact ⟨_,rfl,hv.inv⟩
     ·cases h1
    ·rename_i x t;split at h1
     ·rename_i d xs hd j;split at h1
      ·rename_i z b;obtain ⟨ad,u,e1,e2,e3⟩:=k9g (g.get hd) (hs.tmps x) (fun id o ho=>(hs.core.obj id o ho).2.1) j b;have hv:=ku6 (c:=c) e3;split at h1;rename_i z' e;injection h1 with h1;subst h1;rw [e] at hv;refine ⟨u,?_,hv.inv⟩;simp only [kob,e1,asAddr,Sem.run_bind,Sem.run_pure,Result.andThen_ok,e2]
       ·cases h1
      ·cases h1
     ·cases h1
   obtain ⟨v,e1,e2⟩:=key;refine ⟨v::vs,?_,by simp [k2],fun i v' y' hv f=>?_⟩;rw [List.mapM_cons];simp only [Sem.run_bind,e1,Result.andThen_ok,k1,Sem.run_pure]
   ·cases i with
    | zero=>simp at hv f;subst hv f;exact e2
    | succ i=>exact k3 i v' y' (by simpa using hv) (by simpa using f)
  ·cases h
 | [],_::_,ys,h=>by cases h
 | _::_,[],ys,h=>by cases h
theorem kajt (d:TOk P T) (hs:Sim F S0 N0 st ψ S a w) {fn:Func} {cs:List C1} {y:FV} (h:retX T st fn.results.toList cs=some y):∃ v,(results fn a.tmps).run P w = .ok v w/\RF S w v y:=by
 replace h:=(k8m h).2;unfold kabw at h;have key:∀ ys,kzm T st fn.results.toList cs=some ys->∃ vs:List Value,(results fn a.tmps).run P w = .ok (if h:vs.length=1 then vs[0] else .tuple vs.toArray) w/\vs.length=ys.length/\∀ (i:Nat) (v:Value) (y:FV),vs[i]?=some v->ys[i]?=some y->RF S w v y:=fun ys b=>by
  obtain ⟨vs,k1,k2,k3⟩:=k64 d hs b;refine ⟨vs,?_,k2,k3⟩;unfold results;rw [Array.mapM_eq_mapM_toList];have c:∀ (g:ResultVar->Sem Value),(∀ x,g x=kob a.tmps x)->(fn.results.toList.mapM g).run P w = .ok vs w:=fun g c=>by rw [show g=kob a.tmps from funext c];exact k1
  simp only [Sem.run_bind,Sem.run_map];rw [c _ fun x=>by cases x <;> rfl];simp only [Result.andThen_ok,Sem.run_pure];simp
 split at h
 ·rename_i z e;injection h with h;subst h;obtain ⟨vs,k1,k2,k3⟩:=key _ e;have hl:vs.length=1:=by simpa using k2
  rw [dif_pos hl] at k1;exact ⟨_,k1,k3 0 _ _ (qc (by omega)) rfl⟩
 ·rename_i ys hne b;injection h with h;subst h;obtain ⟨vs,k1,k2,k3⟩:=key _ b;have hl:¬ vs.length=1:=fun hl=>by rw [k2] at hl;obtain ⟨z,rfl⟩:=List.length_eq_one_iff.1 hl;exact hne z rfl
  rw [dif_neg hl] at k1;exact ⟨_,k1, .tup (by simpa using k2) fun i v x hv f=>k3 i v x (by simpa using hv) f⟩
 ·cases h
def krb:Nat->List FV->List (Nat×AV)
 | _,[]=>[]
 | i,x::l=>(i, .fz x)::krb (i+1) l
def retQ (T:List (TypeId×TD)) (rs:List ResultVar) (cs:List C1) (r:FV):Exit->St->Prop
 | .normal,st=>retX T st rs cs=some r
 | .ret,st=>retX T st rs cs=some r
 | _,_=>False
theorem k1x:∀ (l:List FV) (i t:Nat),(look .any (krb i l) t = .any)\/∃ x,i<=t/\l[t - i]?=some x/\look .any (krb i l) t = .fz x
 | [],i,t => .inl rfl
 | x::l,i,t=>by
  simp only [krb,kdt];by_cases h:i=t;subst h;exact .inr ⟨x,qy _,by simp,by simp⟩
  ·rw [qg h];rcases k1x l (i+1) t with h1 | ⟨y,h1,h2,h3⟩;exact .inl h1
   ·exact .inr ⟨y,by omega,by rw [show t - i=(t - (i+1))+1 by omega];simpa using h2,h3⟩
theorem k80 (m : TOk P T) {f : FuncId} {fn : Func} {c : Code} {args : List FV} {r : FV} (cs : List C1) (l : P.funcs[f]? = some fn) (a : fn.body = some c) (hn : (fn.name == "runtime.NumGoroutine") = false) (i : Nat.ble args.length fn.ntmps = true)
  (h:awp P c { n:=fn.ntmps,tmps:=krb 0 args,heap:=[],ids:=[] } (retQ T fn.results.toList cs r)):kac P f args r:=by
 have i:=qai i;refine ⟨⟨fn,l,by rw [a];rfl,hn⟩,fun S w vs hs hr=>calls_of_wp l a ?_⟩;have j:Sim (fun b=>b<w.heap.size) S w.heap.size { n:=fn.ntmps,tmps:=krb 0 args,heap:=[],ids:=[] } ⟨fun _=>0,fun _=>undef⟩ (fun b=>S b/\b<w.heap.size) { tmps:=vs++Array.replicate (fn.ntmps - vs.size) undef,defers:=[] } w:=by
  refine ⟨rfl,by simp;omega,fun t=>?_,⟨(fun id o ho=>nomatch ho),(fun id id' o o' b ho=>nomatch ho),fun b a=>a.2,fun b a => .inl a.1,qy _,fun b a=>a⟩⟩;show RV _ _ _ w _ (look .any (krb 0 args) t);rcases k1x args 0 t with h | ⟨x,_,h1,h2⟩;rw [h];exact .any
  ·rw [h2];have d:t<vs.size:=(by rw [hs];have:=(qo.1 h1).1;omega);have:(vs++Array.replicate (fn.ntmps - vs.size) undef).getD t undef=vs[t]:=(by rw [qax,qbh d];simp [d]);rw [this];exact .fz (hr t _ x (by simp [d]) (by simpa using h1)).bound
 refine wp_mono (h _ _ _ _ _ _ w j) ?_;rintro e a' w' ⟨st',ψ',S',g,h2,h3⟩;have fin:retX T st' fn.results.toList cs=some r->a'.defers=[]/\∃ v,(results fn a'.tmps).run P w' = .ok v w'/\∃ v',Ending.returned v = .returned v'/\RF (fun b=>S b\/w.heap.size<=b) w' v' r/\Grow w w':=fun g=>by obtain ⟨v,e1,e2⟩:=kajt m h2 g;exact ⟨h2.defers.trans (k8m g).1,v,e1,v,rfl,e2.mono h2.core.s0,⟨h3.os,h3.tape,h3.output,h3.size,fun k hk=>h3.block k hk⟩⟩
 cases e with
 | normal=>exact fin g
 | ret=>exact fin g
 | _=>exact g.elim
end
def hadd (fs:List (Nat×Option Nat×AV)) (p:Nat->Bool) (base:List (Nat×AV)):List (Nat×AV):=match fs with
 | []=>base
 | (j,some d,c)::l=>(d,bif p j then c else .any)::hadd l p base
 | (_,none,_)::l=>hadd l p base
def hst (st:St) (fs:List (Nat×Option Nat×AV)) (p:Nat->Bool):St:={ st with tmps:=hadd fs p st.tmps }
section
variable {P:Program} {F S0:Nat->Prop} {N0:Nat} {w w':World} {S S':Nat->Prop} {ψ:Env} {K:Nat->Prop} {o:Oper} {a:Act} {st:St}
theorem knt {ops:Array Oper} {g:Bool} (hs:∀ t,RV ψ K S w (a.tmps.getD t undef) (st.get t)) (h:kdi ops st o=some g):Region.wanted o (yielded ops a.tmps)=g:=by
 unfold kdi at h;unfold Region.wanted;split at h;rename_i e;rw [e];injection h
 ·rename_i j want e;rw [e];split at h
  ·rename_i t ht;have hv:=hs t;split at h
   ·rename_i b f;rw [f] at hv;injection h with h;subst h;have c:a.tmps.getD t undef = .bool b:=hv.atom;rw [qax] at c;have d:a.tmps[t]?=some (.bool b):=by
     cases d:a.tmps[t]? with
     | none=>rw [d] at c;cases c
     | some u=>rw [d] at c;simp only [qa2] at c;rw [c]
    simp only [yielded,ht,qa,d];cases b <;> cases want <;> rfl
   rename_i xs f;rw [f] at hv;injection h with h;subst h;exact kz3 hv.inv ht
   ·cases h
  ·cases h
theorem ks1 {a:Act} {d:Option Nat} {v:Value} {n t:Nat} (hn:a.tmps.size=n) (hd:∀ t,d=some t->t<n):(a.put d v).tmps.getD t undef=if d=some t then v else a.tmps.getD t undef:=by
 cases d with
 | none=>simp [Act.put]
 | some d=>
  have b:=hd d rfl;by_cases h:d=t;subst h;simp [Act.put,hn,b]
  ·rw [qg (by simpa using h)];simp only [Act.put];rw [qax,Array.getElem?_setIfInBounds_ne h,<- qax]
end
abbrev w64 (n:Int):Int:=IntKind.i64.wrap n
abbrev wu8 (n:Int):Int:=IntKind.u8.wrap n
def eB (b:Bool):FV := .atom (.bool b)
def eS (s:BA):FV := .atom (.string s)
def eI (n:Int):FV := .atom (.int .i64 n)
def eU8 (n:Int):FV := .atom (.int .u8 n)
def eI32 (n:Int):FV := .atom (.int .i32 n)
def eL {α:Type} (size:Nat) (e:α->FV) (xs:List α):FV := .lst size xs.length (xs.map e)
def idx {α:Type} (xs:List α) (i:Int):Option α:=if 0<=i then xs[i.toNat]? else none
def byt (s:BA) (i:Int):Option Int:=if 0<=i then (s[i.toNat]?).map fun c=>(c.toNat:Int) else none
def app {α:Type} (bytes:Nat) (xs ys:List α):Option (List α):=if (xs.length+ys.length)*(bytes+1)<=140737488355328 then some (xs++ys) else none
def cat (s u:BA):Option BA:=if s.size+u.size<=9223372036854775807 then some (s++u) else none
section
variable {P:Program} {T:List (TypeId×TD)} {o:Oper} {st:St} {t:TypeId} {d:TD}
theorem ko4 {α:Type} {xs:List α} {i:Int} {x:α} (h:idx xs i=some x):0<=i/\xs[i.toNat]?=some x:=by
 unfold idx at h;split at h;exact ⟨by assumption,h⟩
 ·cases h
theorem kak5 {α:Type} {enc:α->FV} {xs:List α} {i:Int} {x:α} {X Y:Operand} {e:TypeId} {de:TD} {k:IntKind} {cs:List FV} (h:idx xs i=some x) (c:TOk P T) (ho:o.op = .indexAddr t X Y) (hd:kat T t=some d) (hk:d.kind = .slice e) (b:kat T e=some de)
  (f:ktc (st.eval X)=some (xs.map enc)) (a:∀ x,(enc x).cells.length=de.size) (g:st.eval Y = .fz (.atom (.int k i))) (hc:(enc x).cells=cs):NStep P o st (.fz (.fp cs)):=by
 obtain ⟨h0,h1⟩:=ko4 h;refine kaj3 ho (c.get hd) hk (c.get b) f (fun z j=>?_) g h0 (z:=enc x) (by rw [qp,h1];rfl) hc;obtain ⟨y,_,rfl⟩:=qa3.1 j;exact a y
theorem kank {s:BA} {i c:Int} {X Y:Operand} {k:IntKind} (h:byt s i=some c) (a:TOk P T) (ho:o.op = .index t X Y) (hd:kat T t=some d) (hk:d.kind = .str) (e:st.eval X = .fz (.atom (.string s))) (f:st.eval Y = .fz (.atom (.int k i))):
  NStep P o st (.fz (.atom (.int .u8 c))):=by
 unfold byt at h;split at h;rename_i h0;simp only [qm] at h;obtain ⟨b,g,rfl⟩:=h;exact kamy ho (a.get hd) hk e f h0 g
 ·cases h
theorem koq {s u r:BA} {X Y:Operand} {yt:TypeId} (h:cat s u=some r) (ho:o.op = .binOp .add t X Y yt:=by kernel_rfl) (a:st.eval X = .fz (.atom (.string s)):=by kernel_rfl) (b:st.eval Y = .fz (.atom (.string u)):=by kernel_rfl):NStep P o st (.fz (.atom (.string r))):=by
 unfold cat at h;split at h;injection h with h;subst h;exact kagb ho a b (by assumption)
 ·cases h
theorem kag5 {α:Type} {bytes:Nat} {xs ys r:List α} (h:app bytes xs ys=some r):r=xs++ys/\(xs.length+ys.length)*(bytes+1)<=140737488355328:=by
 unfold app at h;split at h;injection h with h;exact ⟨h.symm,by assumption⟩
 ·cases h
theorem k7n {α:Type} {enc:α->FV} {bytes:Nat} {xs ys r:List α} {X Y:Operand} {e:TypeId} {de:TD} {n m id:Nat} (h:app bytes xs ys=some r) (i:TOk P T) (ho:o.op = .call { callee := .builtin .append,args:=#[X,Y],argTypes:=#[t,t] }) (hd:kat T t=some d) (hk:d.kind = .slice e) (b:kat T e=some de)
  (j:Nat.ble 1 de.size=true) (c:de.zero.length=de.size) (f:de.bytes=bytes) (k:st.eval X = .row id n) (g:kab st.heap id=some (.frow e de.size (xs.map enc))) (hn:n=xs.length) (l:st.eval Y = .fz (.lst de.size m (ys.map enc))\/st.eval Y = .lim de.size m (ys.map enc)):
  kcx P o st (.row id r.length) ((id, .frow e de.size (r.map enc))::st.heap) st.ids:=by
 obtain ⟨rfl,a⟩:=kag5 h;subst f;have:=kagf (P:=P) (o:=o) (st:=st) (t:=t) (d:=d) (id:=id) (xs:=xs.map enc) (zs:=ys.map enc) ho (i.get hd) hk (i.get b) (qai j) c k g (by rw [hn];simp) l (by simpa using a);rw [<- List.map_append,qag] at this;exact this
theorem klr {t id n:Nat} {e:TypeId} {size:Nat} {xs:List FV} (f:st.get t = .row id n) (d:kab st.heap id=some (.frow e size xs)) (hn:n=xs.length):
  LeSt st { st with tmps:=(t, .fz (.lst size n xs))::st.tmps,heap:=kde id st.heap }:=by
 subst hn;intro F S0 N0 ψ S a w hs;obtain ⟨c1,c2⟩:=kqx hs.core d;have c:∀ k,RV ψ (·∈st.ids) (fun b=>S b\/kby (ψ.val id)=some b) w (a.tmps.getD k undef) (st.get k):=fun k=>(hs.tmps k).mono (fun _ h=>h) fun _ h => .inl h;refine ⟨ψ,_,hs.defers,hs.size,fun k=>?_,c1⟩;simp only [St.get,kdt];split
 ·rename_i hk;subst hk;have hv:=c t;rw [f] at hv;have h0:=(hs.core.obj id _ d).2.1.1;refine .fz ?_;generalize a.tmps.getD t undef=u at hv;cases hv with
  | row hK g h1 hv=>rw [hv (by rw [h0])];exact c2
 ·exact c k
theorem kh7 {id2 id n j:Nat} {e:TypeId} {size:Nat} {xs:List FV} {e2:TypeId} {cells:List AV} (d:kab st.heap id2=some (.box e2 cells)) (l:cells[j]?=some (.row id n)) (g:kab st.heap id=some (.frow e size xs)) (hn:n=xs.length):
  LeSt st { st with heap:=(id2, .box e2 (cells.set j (.fz (.lst size n xs))))::kde id st.heap }:=by
 subst hn;intro F S0 N0 ψ S a w hs;obtain ⟨c1,c2⟩:=kqx hs.core g;have hne:id2≠id:=fun h=>by rw [h,g] at d;cases d
 have h2:kab (kde id st.heap) id2=some (.box e2 cells):=k1w hne d;obtain ⟨k1,⟨k0,b,cs,k2,k3,k4,k5,k6⟩,k7⟩:=c1.obj id2 _ h2;refine ⟨ψ,_,hs.defers,hs.size,fun k=>(hs.tmps k).mono (fun _ h=>h) fun _ h => .inl h,⟨fun i o ho=>?_,fun i i' o o' b ho p m s=>?_,c1.lt,c1.s0,c1.n0,c1.fr⟩⟩
 ·rw [kae] at ho;by_cases hi:id2=i
  ·subst hi;rw [qj rfl] at ho;injection ho with ho;subst ho;refine ⟨k1,⟨k0,b,cs,k2,k3,by simpa using k4,fun x l=>?_,fun i v x hv c=>?_⟩,k7⟩
   ·rcases List.mem_or_eq_of_mem_set l with l | rfl;exact k5 x l
    ·rfl
   ·rw [List.getElem?_set] at c;split at c
    ·rename_i q;subst q;split at c
     ·injection c with c;subst c;have r:=k6 j v _ hv l;have h0:=(hs.core.obj id _ g).2.1.1;refine .fz ?_;cases r with
      | row hK t h1 hv=>rw [hv (by rw [h0])];exact c2
     ·cases c
    ·exact k6 i v x hv c
  ·rw [qg hi] at ho;exact c1.obj i o ho
 ·have f:∀ {i:Nat} {o:AObj},kab ((id2,AObj.box e2 (cells.set j (.fz (.lst size xs.length xs))))::kde id st.heap) i=some o->∃ o',kab (kde id st.heap) i=some o':=fun {i o} h=>by
   rw [kae] at h;by_cases hi:id2=i;subst hi;exact ⟨_,h2⟩
   ·rw [qg hi] at h;exact ⟨_,h⟩
  obtain ⟨o1,h1⟩:=f ho;obtain ⟨o2,h2⟩:=f p;exact c1.inj i i' o1 o2 b h1 h2 m s
theorem kd6 {e e2:TypeId} {size id2 j id:Nat} {cells:List AV} (r:Nat.ble 1 size=true:=by kernel_rfl) (d:kab st.heap id2=some (.box e2 cells):=by kernel_rfl) (g:cells[j]?=some (.fz (.atom (.slice none 0 0))):=by kernel_rfl) (hid:st.ids.contains id=false:=by kernel_rfl):
  LeSt st { st with heap:=(id2, .box e2 (cells.set j (.row id 0)))::(id, .frow e size [])::st.heap,ids:=id::st.ids }:=by
 have hid:id∉st.ids:=by simpa using hid
 intro F S0 N0 ψ S a w hs;have hadd:=hs.core.add (n:=0) (v := .slice none 0 0) (w':=w) (ob := .frow e size []) (kai _) hid (fun b m=>by cases m) ⟨kes _ _,qai r,[],by rw [kbp];exact ⟨by simp, .inl ⟨rfl,rfl⟩⟩,(fun x g=>by cases g),fun i x j v y h=>by simp at h⟩;have hne:id≠id2:=fun h=>hid (by rw [h];exact (hs.core.obj id2 _ d).1);have h2:kab ((id, .frow e size [])::st.heap) id2=some (.box e2 cells):=by rw [kae,qg hne];exact d
 obtain ⟨k1,⟨k0,b,cs,k2,k3,k4,k5,k6⟩,k7⟩:=hadd.obj id2 _ h2;refine ⟨ψ.set id 0 (.slice none 0 0),S,hs.defers,hs.size,fun k=>(hs.tmps k).keep (ker hid _ _) (fun _ h=>qn _ h) (fun _ h=>h) (fun _ _ _=>rfl),⟨fun i o ho=>?_,fun i i' o o' b ho p l m=>?_,hadd.lt,hadd.s0,hadd.n0,hadd.fr⟩⟩
 ·rw [kae] at ho;by_cases hi:id2=i
  ·subst hi;rw [qj rfl] at ho;injection ho with ho;subst ho;refine ⟨k1,⟨k0,b,cs,k2,k3,by simpa using k4,fun x g=>?_,fun i v x hv c=>?_⟩,k7⟩
   ·rcases List.mem_or_eq_of_mem_set g with g | rfl;exact k5 x g
    ·rfl
   ·rw [List.getElem?_set] at c;split at c
    ·rename_i q;subst q;split at c;injection c with c;subst c;rw [(k6 j v _ hv g).atom];exact .row (qt ..) (qz _) rfl fun _=>(kbp _ _).symm
     ·cases c
    ·exact k6 i v x hv c
  ·rw [qg hi] at ho;exact hadd.obj i o ho
 ·have f:∀ {i:Nat} {o:AObj},kab ((id2,AObj.box e2 (cells.set j (.row id 0)))::(id, .frow e size [])::st.heap) i=some o->∃ o',kab ((id, .frow e size [])::st.heap) i=some o':=fun {i o} h=>by
   rw [kae] at h;by_cases hi:id2=i;subst hi;exact ⟨_,h2⟩
   ·rw [qg hi] at h;exact ⟨_,h⟩
  obtain ⟨o1,h1⟩:=f ho;obtain ⟨o2,h2⟩:=f p;exact hadd.inj i i' o1 o2 b h1 h2 l m
theorem LeSt.refl:LeSt st st:=fun F S0 N0 ψ S a w h=>⟨ψ,S,h⟩
theorem LeSt.trans {st' st'':St} (h:LeSt st st') (k:LeSt st' st''):LeSt st st'':=fun F S0 N0 ψ S a w hs=>by obtain ⟨ψ',S',b⟩:=h F S0 N0 ψ S a w hs;exact k F S0 N0 ψ' S' a w b
theorem NStep.eqv {c c':AV} (h:NStep P o st c) (e:c=c'):NStep P o st c':=e ▸ h
theorem kwe {c:Code} {Q:Exit->St->Prop} (h:awp P c st fun e st'=>∃ st2,LeSt st' st2/\Q e st2):awp P c st Q:=fun F S0 N0 ψ S a w hs=>
 wp_mono (h F S0 N0 ψ S a w hs) fun e a' w' ⟨st',ψ',S',⟨st2,h0,h1⟩,h2,h3⟩=>by obtain ⟨ψ2,S2,b⟩:=h0 F S0 N0 ψ' S' a' w' h2;exact ⟨st2,ψ2,S2,h1,b,h3⟩
theorem kaf7 {c:Code} {Qa Q:Exit->St->Prop} (ha:awp P c st Qa) (a:∀ e st',Qa e st'->∃ st2,LeSt st' st2/\Q e st2):awp P c st Q:=kwe (kv4 ha a)
theorem kr6 {t:Nat} {x y:AV} (b:st.get t=x) (h:x=y):LeSt st (st.put (some t) y):=by
 subst h;intro F S0 N0 ψ S a w hs;refine ⟨ψ,S,hs.defers,hs.size,fun k=>?_,hs.core⟩;simp only [St.put,St.get,kdt];split;rename_i hk;subst hk;rw [<- b];exact hs.tmps t
 ·exact hs.tmps k
theorem kadh {σ β:Type} {step:σ->Option (σ ⊕ β)} {body:Code} (stOf:σ->St) {s0:σ} {b:β} {n:Nat} {Qb:β->Exit->St->Prop} (hl:kaa step n s0=some b) (h0:LeSt st (stOf s0))
  (hr:∀ s r,step s=some r->awp P body (stOf s) fun e st=>match r with | .inl s'=>e = .normal/\LeSt st (stOf s') | .inr b'=>(e ≠ .normal/\e ≠ .outgrown)/\Qb b' e st):awp P (.loop body) st (Qb b):=by
 exact kagu stOf hl h0 (fun s s' hs=>hr s _ hs) fun s hs=>kv4 (hr s _ hs) fun e st h=>⟨h.1.1,h.1.2,h.2⟩
end
end Go.Proofs.YtaimpcnpifoidaaGreatDoor
