import Derived.Test.YtchjomeomabamaaGreatDoorOpx
import Derived.Test.YtchjomeomabamaaGreatDoorSim
import Derived.Lib.AppendIntMem
import Derived.Lib.ItoaLen
import Derived.Lib.Slices
import Derived.Lib.Hide
import Derived.Laws.IdiomStrings
import Derived.OwnWalk
import Derived.WalkKit
import Derived.BigCall
import Derived.ChangeMaps5
import Derived.Lib.Bytealg
set_option linter.all false
namespace Go.Proofs.YtchjomeomabamaaGreatDoor
open Go Go.RowKit
abbrev Res:=Option (AV×List (Nat×AObj)×List Nat)
def fresh (l:List Nat):Nat:=l.foldl Nat.max 0+1
def nres (st:St) (c:Option AV):Res:=match c with
 | some c=>some (c,st.heap,st.ids)
 | none=>none
def knl (T:List (TypeId×TD)) (t:TypeId):Bool:=match kad T t with
 | some d=>match d.kind with
  | .bool=>true
  | _=>false
 | none=>false
def lenX (T:List (TypeId×TD)) (st:St) (x:Operand) (t:TypeId):Option AV:=match kad T t with
 | some d=>match d.kind,st.eval x with
  | .slice _,x=>match lenOf x with
   | some n=>some (.fz (.atom (.int .i64 n)))
   | none=>none
  | .str, .fz (.atom (.string s))=>some (.fz (.atom (.int .i64 s.size)))
  | _,_=>none
 | none=>none
def fldX (T:List (TypeId×TD)) (st:St) (s:TypeId) (x:Operand) (f:Nat):Option AV:=match kad T s with
 | some d=>match d.kind with
  | .st fs=>match fs[f]? with
   | some (ft,off)=>match kad T ft with
    | some df=>bif Nat.beq df.size 0 then none else kn0 st off (st.eval x)
    | none=>none
   | none=>none
  | _=>none
 | none=>none
def litX (T:List (TypeId×TD)) (st:St) (t:TypeId) (n:Nat) (parts:Array (Nat×Operand)):Option AV:=match kad T t with
 | some d=>match d.kind with
  | .slice e=>match kad T e with
   | some de=>match km0 de.size 0 (kd1 st parts) with
    | some xs=>bif Nat.beq xs.length n && (Nat.ble 1 de.size && Nat.ble (n*de.size) 16777216) then some (.lim de.size n xs) else none
    | none=>none
   | none=>none
  | _=>none
 | none=>none
def boxX (e:TypeId) (st:St) (cells:List AV):Res:=bif cells.all AV.single && !st.ids.contains (fresh st.ids) then some (.ref (fresh st.ids) 0 0,(fresh st.ids, .box e cells)::st.heap,fresh st.ids::st.ids) else none
def kt7 (T:List (TypeId×TD)) (st:St) (t:TypeId) (x y:Operand):Res:=match kad T t,st.eval x with
 | some d, .ref id n off=>match kaa st.heap id with
  | some (.box e cells)=>bif Nat.beq n 0 && (Nat.beq (st.eval y).cells.length d.size && ((st.eval y).cells.all AV.single && Nat.ble (off+(st.eval y).cells.length) cells.length)) then some (.any,(id, .box e (kc5 cells off (st.eval y).cells))::st.heap,st.ids) else none
  | _=>none
 | _,_=>none
def kw9 (T:List (TypeId×TD)) (o:Oper) (st:St):Option AV:=match o.op with
 | .move x=>some (st.eval x)
 | .assign x=>some (st.eval x)
 | .pick c x y=>match st.eval c with
  | .fz (.atom (.bool b))=>some (bif b then st.eval x else st.eval y)
  | _=>none
 | .binOp op t x y _=>match st.eval x,st.eval y with
  | .fz (.atom u), .fz (.atom v)=>match binV (knl T t) op u v with
   | some r=>some (.fz (.atom r))
   | none=>none
  | _,_=>none
 | .unOp op _ x=>match st.eval x with
  | .fz (.atom u)=>match unV op u with
   | some r=>some (.fz (.atom r))
   | none=>none
  | _=>none
 | .load t x=>match kad T t,kmj st (st.eval x) with
  | some d,some xs=>kl7 d xs
  | _,_=>none
 | .fieldAddr s x f=>fldX T st s x f
 | .extract x i=>match st.eval x with | .fz (.tup xs)=>(xs[i]?).map .fz | .tup xs=>xs[i]? | _=>none
 | .nilCheck x=>kn0 st 0 (st.eval x)
 | .build t parts=>k2j T st t parts
 | .indexAddr t x y=>arrX T st t x y
 | .buildSlice t n parts=>litX T st t n parts
 | .call c=>match c.callee,c.args.toList,c.argTypes.toList with
  | .builtin .len,[x],[t]=>lenX T st x t
  | _,_,_=>none
 | .makeFunc (.func f) first cap=>bif first.isEmpty then some (.fn f (cap.toList.map st.eval)) else (bif cap.isEmpty then some (.mth f (first.toList.map st.eval)) else none)
 | _=>none
def kuq (T:List (TypeId×TD)) (o:Oper) (st:St):Res:=match o.op with
 | .box e x=>boxX e st (st.eval x).cells
 | .alloc e=>match kad T e with
  | some d=>match kqq d with
   | some cells=>boxX e st cells
   | none=>none
  | none=>none
 | .store t x y=>kt7 T st t x y
 | _=>nres st (kw9 T o st)
variable {P:Program} {w w':World} {S S':Nat->Prop} {ψ:Env} {T:List (TypeId×TD)} {o:Oper} {a:Act} {st:St}
theorem k8s {c0:Option AV} {c:AV} {h:List (Nat×AObj)} {i:List Nat} (hr:nres st c0=some (c,h,i)) (hn:∀ x,c0=some x->NStep P o st x):kau P o st c h i:=by
 cases c0 with
 | none=>cases hr
 | some x=>
  simp only [nres,qc,qq] at hr;obtain ⟨rfl,rfl,rfl⟩:=hr;exact (hn x rfl).step
theorem kmd {α:Type} {xs:Array α} {x:α} (h:xs.toList=[x]):xs=#[x]:=by apply qbs;simpa using h
theorem kjq (c:AV) (h:TOk P T:=by exact kak) (a:kw9 T o st=some c:=by kernel_rfl):NStep P o st c:=by
 unfold kw9 at a;split at a;rename_i x ho;injection a with a;subst a;exact kxg (.inl ho);rename_i x ho;injection a with a;subst a;exact kxg (.inr ho)
 ·rename_i c x y ho;split at a;rename_i b g;injection a with a;subst a;exact k7z ho g
  ·cases a
 ·rename_i op t x y yt ho;split at a
  ·rename_i u v hu hv;split at a
   ·rename_i r hr;injection a with a;subst a;refine kab9 (knl T t) (fun g=>?_) ho hu hv hr;unfold knl at g;split at g
    ·rename_i d j;split at g;rename_i hk;obtain ⟨_,e,h1,m⟩:=h.get j;rw [hk] at m;cases e <;> simp [kh8] at m;exact h1
     ·cases g
    ·cases g
   ·cases a
  ·cases a
 ·rename_i op t x ho;split at a
  ·rename_i u hu;split at a;rename_i r hr;injection a with a;subst a;exact n_un ho hu hr
   ·cases a
  ·cases a
 ·rename_i t x ho;split at a;rename_i d xs j k;exact kaf0 ho (h.get j) k a
  ·cases a
 ·rename_i s x f ho;unfold fldX at a;split at a
  ·rename_i d j;split at a
   ·rename_i fs hk;split at a
    ·rename_i ft off hf;split at a
     ·rename_i df q;cases g:Nat.beq df.size 0 with
      | true=>rw [g] at a;cases a
      | false=>
       rw [g] at a;exact kac3 ho (h.get j) hk hf (h.get q) (fun e=>by rw [e] at g;cases g) a
     ·cases a
    ·cases a
   ·cases a
  ·cases a
 rename_i x i ho;exact kzg ho a;rename_i x ho;exact k5p ho a;rename_i t parts ho;exact k39 h ho a;rename_i t x y ho;exact n_arr h ho a
 ·rename_i t n parts ho;unfold litX at a;split at a
  ·rename_i d j;split at a
   ·rename_i e hk;split at a
    ·rename_i de w;split at a
     ·rename_i xs k;cases g:(Nat.beq xs.length n && (Nat.ble 1 de.size && Nat.ble (n*de.size) 16777216)) with
      | false=>rw [g] at a;cases a
      | true=>
       rw [g] at a;simp only [qe,qc] at a;subst a;simp only [qv] at g;exact kabo ho (h.get j) hk (h.get w) (qt g.2.1) (qk g.1) (qt g.2.2) k
     ·cases a
    ·cases a
   ·cases a
  ·cases a
 ·rename_i c ho;split at a
  ·rename_i x t h1 m z;have p:o.op = .call { callee := .builtin .len,args:=#[x],argTypes:=#[t] }:=(by obtain ⟨cl,as_,ts⟩:=c;simp only at h1 m z;rw [ho,h1,kmd m,kmd z]);unfold lenX at a;split at a
   ·rename_i d j;split at a
    ·rename_i e hk;split at a;rename_i n hn;injection a with a;subst a;exact kxr p (h.get j) hk hn
     ·cases a
    rename_i s hk hv;injection a with a;subst a;exact kzl p (h.get j) hk hv
    ·cases a
   ·cases a
  ·cases a
 ·rename_i f first cap ho
  cases g:first.isEmpty with
  | false=>
   rw [g] at a;cases l:cap.isEmpty with
   | false=>rw [l] at a;cases a
   | true=>
    rw [l] at a;have:cap=#[]:=(by simpa using l);subst this;simp only [qd,qe,qc] at a;subst a;exact kabk ho
  | true=>
   rw [g] at a;have:first=#[]:=by simpa using g
   subst this;simp only [qe,qc] at a;subst a;exact k80 ho
 ·cases a
theorem k2h (f:TOk P T) {c:AV} {h:List (Nat×AObj)} {i:List Nat} (a:kuq T o st=some (c,h,i)):kau P o st c h i:=by
 unfold kuq at a;split at a
 ·rename_i e x ho;unfold boxX at a;cases b:((st.eval x).cells.all AV.single && !st.ids.contains (Go.Proofs.YtchjomeomabamaaGreatDoor.fresh st.ids)) with
  | false=>rw [b] at a;cases a
  | true=>
   rw [b] at a;simp only [qe,qc,qq] at a;obtain ⟨rfl,rfl,rfl⟩:=a;simp only [qv,Bool.not_eq_true'] at b;exact kabp ho rfl b.1 b.2
 ·rename_i e ho;split at a
  ·rename_i d g;split at a
   ·rename_i cells j;unfold boxX at a;cases b:(cells.all AV.single && !st.ids.contains (Go.Proofs.YtchjomeomabamaaGreatDoor.fresh st.ids)) with
    | false=>rw [b] at a;cases a
    | true=>
     rw [b] at a;simp only [qe,qc,qq] at a;obtain ⟨rfl,rfl,rfl⟩:=a;simp only [qv,Bool.not_eq_true'] at b;exact kyf ho (f.get g) j b.2
   ·cases a
  ·cases a
 ·rename_i t x y ho;unfold kt7 at a;split at a
  ·rename_i d id n off g k;split at a
   ·rename_i e cells l;cases b:(Nat.beq n 0 && (Nat.beq (st.eval y).cells.length d.size && ((st.eval y).cells.all AV.single && Nat.ble (off+(st.eval y).cells.length) cells.length))) with
    | false=>rw [b] at a;cases a
    | true=>
     rw [b] at a;simp only [qe,qc,qq] at a;obtain ⟨rfl,rfl,rfl⟩:=a;simp only [qv] at b;obtain ⟨b1,b2,b3,b4⟩:=b;obtain rfl:=qk b1;exact k4a ho (f.get g) k l rfl (qk b2) b3 (qt b4)
   ·cases a
  ·cases a
 ·exact k8s a fun z j=>kjq _ (h:=f) (a:=j)
def kul (st:St) (o:Oper):Bool:=match o.dst with
 | some t=>Nat.blt t st.n
 | none=>true
theorem kpr {st:St} {o:Oper} (h:kul st o=true):∀ t,o.dst=some t->t<st.n:=fun t ht=>by unfold kul at h;rw [ht] at h;exact qbr (by simpa [Nat.blt_eq] using h)
inductive C0 where
 | keep
 | zr
 | sl (size:Nat)
 | px
inductive C1 where
 | one (c:C0)
 | ag (l:List C0)
 | drop
def co0F:C0->FV->FV
 | .sl size, .atom (.slice none 0 0)=>bif Nat.ble 1 size then .lst size 0 [] else .atom (.slice none 0 0)
 | .px, .atom (.pointer none) => .bx []
 | _,x=>x
def co0:C0->AV->AV
 | c, .fz x => .fz (co0F c x)
 | .sl _, .lim s n xs => .fz (.lst s n xs)
 | .zr, .row id _ => .row id 0
 | _,x=>x
def zipF:List C0->List FV->List FV
 | c::l,x::xs=>co0F c x::zipF l xs
 | _,xs=>xs
def zip0:List C0->List AV->List AV
 | c::l,x::xs=>co0 c x::zip0 l xs
 | _,xs=>xs
def co1:C1->AV->AV
 | .one c,x=>co0 c x
 | .ag l, .fz (.agg xs) => .fz (.agg (zipF l xs))
 | .ag l, .agg xs=>aggA (zip0 l xs)
 | .ag _,x=>x
 | .drop,_ => .any
def ok0 (ids:List Nat):AV->Bool
 | .fz _=>true
 | .ref id _ _=>ids.contains id
 | .row id _=>ids.contains id
 | .mp id=>ids.contains id
 | .opt id=>ids.contains id
 | .sdp id _=>ids.contains id
 | .win id _ _ _=>ids.contains id
 | .irow id _ _=>ids.contains id
 | .iref id _ _ _=>ids.contains id
 | .lim _ _ _=>true
 | .any=>true
 | _=>false
def ok1 (ids:List Nat):AV->Bool
 | .agg cs=>cs.all (ok0 ids)
 | .tup cs=>cs.all (ok0 ids)
 | .fn _ cs=>cs.all (ok0 ids)
 | .mth _ cs=>cs.all (ok0 ids)
 | x=>ok0 ids x
def kr5 (st:St) (ids:List Nat):List (Nat×C1)->Option (List (Nat×AV))
 | []=>some []
 | (t,c)::l=>match ok1 ids (co1 c (st.get t)),kr5 st ids l with
  | true,some r=>some ((t,co1 c (st.get t))::r)
  | _,_=>none
def kr4 (st:St) (ids:List Nat):List (Nat×List C0)->Option (List (Nat×AObj))
 | []=>some []
 | (id,l)::r=>match kaa st.heap id,kr4 st ids r with
  | some (.box e cells),some r'=>bif ids.contains id && (zip0 l cells).all (ok1 ids) then some ((id, .box e (zip0 l cells))::r') else none
  | some (.frow e s xs),some r'=>bif ids.contains id then some ((id, .frow e s xs)::r') else none
  | some (.gho cs vs),some r'=>bif ids.contains id && vs.all (ok1 ids) then some ((id, .gho cs vs)::r') else none
  | some (.was ψ0 ids0 S0 w0),some r'=>bif ids.contains id && ids0.all ids.contains then some ((id, .was ψ0 ids0 S0 w0)::r') else none
  | some (.smap kv),some r'=>bif ids.contains id then some ((id, .smap kv)::r') else none
  | some (.tab g ov eo ei rows),some r'=>bif ids.contains id then some ((id, .tab g ov eo ei rows)::r') else none
  | some (.glb gs),some r'=>bif ids.contains id then some ((id, .glb gs)::r') else none
  | some (.sit s pos),some r'=>bif ids.contains id then some ((id, .sit s pos)::r') else none
  | some (.memo Φ h),some r'=>bif ids.contains id then some ((id, .memo Φ none)::r') else none
  | some (.xo (.imap kv)),some r'=>bif ids.contains id then some ((id, .xo (.imap kv))::r') else none
  | _,_=>none
def coSt (st:St) (ids:List Nat) (ts:List (Nat×C1)) (os:List (Nat×List C0)):Option St:=match ids.all st.ids.contains,kr5 st ids ts,kr4 st ids os with
 | true,some tmps,some heap=>some { n:=st.n,tmps:=tmps,heap:=heap,ids:=ids,dfr:=st.dfr }
 | _,_,_=>none
variable {F S0:Nat->Prop} {N0:Nat} {K K':Nat->Prop} {t:TypeId} {d:TD} {ids:List Nat}
theorem k4g {c:C0} {v:Value} {x:FV} (h:RF S w v x):RF S w v (co0F c x):=by
 unfold co0F;split
 ·rename_i size;cases b:Nat.ble 1 size with
  | false=>exact h
  | true=>
   rw [h.atom_eq];exact .lst (A:=none) (cap:=0) (xs:=[]) (fun _=>[]) rfl (qx _) (by omega) (qt b) (fun i x a=>by simp at a) (fun i x a=>by simp at a) (fun i x j v y a=>by simp at a)
 rw [h.atom_eq];exact .bn
 ·exact h
theorem kvt {c:C0} {x:FV} (h:x.single=true):(co0F c x).single=true:=by
 unfold co0F;split;rename_i size;cases a:Nat.ble 1 size <;> rfl;rfl
 ·exact h
theorem k8n {c:C0} {v:Value} {x:AV} (h:RV ψ K S w v x):RV ψ K S w v (co0 c x):=by
 unfold co0;split;exact .fz (k4g h.inv)
 ·cases h with | lim h=>exact .fz h
 ·cases h with | row hK hn h1 hv=>exact .row hK (qau _) h1 fun h=>hv (by omega)
 ·exact h
theorem k5f {c:C0} {x:AV} (h:x.single=true):(co0 c x).single=true:=by
 unfold co0;split;exact kvt h;rfl;rfl
 ·exact h
theorem kwa:∀ (l:List C0) (xs:List FV) (i:Nat) (y:FV),(zipF l xs)[i]?=some y->∃ c x,xs[i]?=some x/\(y=co0F c x\/y=x)
 | [],xs,i,y,h=>⟨.keep,y,by cases xs <;> exact h, .inr rfl⟩
 | c::l,[],i,y,h=>by simp [zipF] at h
 | c::l,x::xs,0,y,h=>by simp [zipF] at h;exact ⟨c,x,rfl, .inl h.symm⟩
 | c::l,x::xs,i+1,y,h=>by simp only [zipF,List.getElem?_cons_succ] at h ⊢;exact kwa l xs i y h
theorem k1y:∀ (l:List C0) (xs:List FV),(zipF l xs).length=xs.length
 | [],xs=>by cases xs <;> rfl
 | c::l,[]=>rfl
 | c::l,x::xs=>by simp [zipF,k1y l xs]
theorem kv0:∀ (l:List C0) (xs:List AV) (i:Nat) (y:AV),(zip0 l xs)[i]?=some y->∃ c x,xs[i]?=some x/\(y=co0 c x\/y=x)
 | [],xs,i,y,h=>⟨.keep,y,by cases xs <;> exact h, .inr rfl⟩
 | c::l,[],i,y,h=>by simp [zip0] at h
 | c::l,x::xs,0,y,h=>by simp [zip0] at h;exact ⟨c,x,rfl, .inl h.symm⟩
 | c::l,x::xs,i+1,y,h=>by simp only [zip0,List.getElem?_cons_succ] at h ⊢;exact kv0 l xs i y h
theorem kv8:∀ (l:List C0) (xs:List AV),(zip0 l xs).length=xs.length
 | [],xs=>by cases xs <;> rfl
 | c::l,[]=>rfl
 | c::l,x::xs=>by simp [zip0,kv8 l xs]
theorem k48 (l:List C0) {cs:Array Value} {xs:List AV} (h1:∀ x∈xs,x.single=true) (hr:∀ (i:Nat) (v:Value) (x:AV),cs[i]?=some v->xs[i]?=some x->RV ψ K S w v x):
  (∀ x∈zip0 l xs,x.single=true)/\∀ (i:Nat) (v:Value) (x:AV),cs[i]?=some v->(zip0 l xs)[i]?=some x->RV ψ K S w v x:=by
 refine ⟨fun x a=>?_,fun i v x hv a=>?_⟩
 ·obtain ⟨i,hi⟩:=qap.1 a;obtain ⟨c,y,hy,b⟩:=kv0 l xs i x hi;have:=h1 y (qo hy);rcases b with rfl | rfl;exact k5f this
  ·exact this
 ·obtain ⟨c,y,hy,b⟩:=kv0 l xs i x a;have:=hr i v y hv hy;rcases b with rfl | rfl;exact k8n this
  ·exact this
theorem krs (c:C1) {v:Value} {x:AV} (h:RV ψ K S w v x):RV ψ K S w v (co1 c x):=by
 unfold co1;split;exact k8n h
 ·rename_i l xs;have h:=h.inv;cases h with
  | agg hs h1 hr=>
   refine .fz (.agg (by rw [k1y];exact hs) (fun y hy=>?_) fun i v y hv hy=>?_)
   ·obtain ⟨i,hi⟩:=qap.1 hy;obtain ⟨c,z,a,b⟩:=kwa l xs i y hi;have:=h1 z (qo a);rcases b with rfl | rfl;exact kvt this
    ·exact this
   ·obtain ⟨c,z,a,b⟩:=kwa l xs i y hy;have:=hr i v z hv a;rcases b with rfl | rfl;exact k4g this
    ·exact this
 ·rename_i l xs;cases h with
  | agg hs h1 hr=>
   obtain ⟨z1,z2⟩:=k48 l h1 hr;exact RV.aggA (by rw [kv8];exact hs) z1 z2
 exact h
 ·exact .any
theorem RV.sub0 {v:Value} {x:AV} (h:RV ψ K S w v x) (ho:ok0 ids x=true):RV ψ (·∈ids) S w v x:=by
 cases h with
 | fz h=>exact .fz h
 | agg=>cases ho
 | tup=>cases ho
 | ref hK hn h1 hv=>exact .ref (by simpa [ok0] using ho) hn h1 hv
 | row hK hn h1 hv=>exact .row (by simpa [ok0] using ho) hn h1 hv
 | lim h=>exact .lim h
 | mp hK h1 hv=>exact .mp (by simpa [ok0] using ho) h1 hv
 | opt hK h1 hv=>exact .opt (by simpa [ok0] using ho) h1 hv
 | sdp hK hn h1 hv=>exact .sdp (by simpa [ok0] using ho) hn h1 hv
 | win hK hn h1 hv=>exact .win (by simpa [ok0] using ho) hn h1 hv
 | irow hK hn h1 hv=>exact .irow (by simpa [ok0] using ho) hn h1 hv
 | iref hK hn h1 hv=>exact .iref (by simpa [ok0] using ho) hn h1 hv
 | bsl=>cases ho
 | fn=>cases ho
 | mth=>cases ho
 | any=>exact .any
theorem RV.sub1 {v:Value} {x:AV} (h:RV ψ K S w v x) (ho:ok1 ids x=true):RV ψ (·∈ids) S w v x:=by
 cases h with
 | fz h=>exact .fz h
 | agg hs h1 hr=>exact .agg hs h1 fun i v x hv a=>(hr i v x hv a).sub0 (qs.1 ho x (qo a))
 | tup hs hr=>exact .tup hs fun i v x hv a=>(hr i v x hv a).sub0 (qs.1 ho x (qo a))
 | ref hK hn h1 hv=>exact .ref (by simpa [ok1,ok0] using ho) hn h1 hv
 | row hK hn h1 hv=>exact .row (by simpa [ok1,ok0] using ho) hn h1 hv
 | lim h=>exact .lim h
 | mp hK h1 hv=>exact .mp (by simpa [ok1,ok0] using ho) h1 hv
 | opt hK h1 hv=>exact .opt (by simpa [ok1,ok0] using ho) h1 hv
 | sdp hK hn h1 hv=>exact .sdp (by simpa [ok1,ok0] using ho) hn h1 hv
 | win hK hn h1 hv=>exact .win (by simpa [ok1,ok0] using ho) hn h1 hv
 | irow hK hn h1 hv=>exact .irow (by simpa [ok1,ok0] using ho) hn h1 hv
 | iref hK hn h1 hv=>exact .iref (by simpa [ok1,ok0] using ho) hn h1 hv
 | bsl=>cases ho
 | fn hs hr=>exact .fn hs fun i v x hv a=>(hr i v x hv a).sub0 (qs.1 ho x (qo a))
 | mth hs hr=>exact .mth hs fun i v x hv a=>(hr i v x hv a).sub0 (qs.1 ho x (qo a))
 | any=>exact .any
theorem ksg:∀ {ts:List (Nat×C1)} {r:List (Nat×AV)} (t:Nat),kr5 st ids ts=some r->look .any r t = .any\/∃ c,look .any r t=co1 c (st.get t)/\ok1 ids (co1 c (st.get t))=true
 | [],r,t,h=>by simp only [kr5,qc] at h;subst h;exact .inl rfl
 | (k,c)::l,r,t,h=>by
  simp only [kr5] at h;split at h
  ·rename_i r' h1 a;injection h with h;subst h;rw [kbj];by_cases hk:k=t;subst hk;rw [qp rfl];exact .inr ⟨c,rfl,h1⟩
   ·rw [ql hk];exact ksg t a
  ·cases h
theorem kfn:∀ {os:List (Nat×List C0)} {r:List (Nat×AObj)} (id:Nat) (ob:AObj),kr4 st ids os=some r->kaa r id=some ob->id∈ids /\
  ((∃ l e cells,kaa st.heap id=some (.box e cells)/\ob = .box e (zip0 l cells)/\(zip0 l cells).all (ok1 ids)=true)\/(∃ e s xs,kaa st.heap id=some (.frow e s xs)/\ob = .frow e s xs)\/(∃ cs vs,kaa st.heap id=some (.gho cs vs)/\ob = .gho cs vs/\vs.all (ok1 ids)=true) \/
   (∃ ψ0 ids0 S0 w0,kaa st.heap id=some (.was ψ0 ids0 S0 w0)/\ob = .was ψ0 ids0 S0 w0/\ids0.all ids.contains=true)\/(∃ kv,kaa st.heap id=some (.smap kv)/\ob = .smap kv)\/(∃ g ov eo ei rows,kaa st.heap id=some (.tab g ov eo ei rows)/\ob = .tab g ov eo ei rows)\/(∃ gs,kaa st.heap id=some (.glb gs)/\ob = .glb gs)\/(∃ s pos,kaa st.heap id=some (.sit s pos)/\ob = .sit s pos)\/(∃ Φ h,kaa st.heap id=some (.memo Φ h)/\ob = .memo Φ none)\/∃ kv,kaa st.heap id=some (.xo (.imap kv))/\ob = .xo (.imap kv))
 | [],r,id,ob,h,ho=>by simp only [kr4,qc] at h;subst h;cases ho
 | (k,l)::os,r,id,ob,h,ho=>by
  simp only [kr4] at h;split at h
  ·rename_i e cells r' h1 b;cases a:(ids.contains k && (zip0 l cells).all (ok1 ids)) with
   | false=>rw [a] at h;cases h
   | true=>
    rw [a] at h;simp only [qe,qc] at h;subst h;rw [kae] at ho;simp only [qv] at a;by_cases hk:k=id;subst hk;rw [qp rfl] at ho;injection ho with ho;exact ⟨by simpa using a.1, .inl ⟨l,e,cells,h1,ho.symm,a.2⟩⟩
    ·rw [ql hk] at ho;exact kfn id ob b ho
  ·rename_i e s xs r' h1 b;cases a:ids.contains k with
   | false=>rw [a] at h;cases h
   | true=>
    rw [a] at h;simp only [qe,qc] at h;subst h;rw [kae] at ho;by_cases hk:k=id;subst hk;rw [qp rfl] at ho;injection ho with ho;exact ⟨by simpa using a, .inr (.inl ⟨e,s,xs,h1,ho.symm⟩)⟩
    ·rw [ql hk] at ho;exact kfn id ob b ho
  ·rename_i cs vs r' h1 b;cases a:(ids.contains k && vs.all (ok1 ids)) with
   | false=>rw [a] at h;cases h
   | true=>
    rw [a] at h;simp only [qe,qc] at h;subst h;rw [kae] at ho;simp only [qv] at a;by_cases hk:k=id;subst hk;rw [qp rfl] at ho;injection ho with ho;exact ⟨by simpa using a.1, .inr (.inr (.inl ⟨cs,vs,h1,ho.symm,a.2⟩))⟩
    ·rw [ql hk] at ho;exact kfn id ob b ho
  ·rename_i ψ0 ids0 S0 w0 r' h1 b;cases a:(ids.contains k && ids0.all ids.contains) with
   | false=>rw [a] at h;cases h
   | true=>
    rw [a] at h;simp only [qe,qc] at h;subst h;rw [kae] at ho;simp only [qv] at a;by_cases hk:k=id;subst hk;rw [qp rfl] at ho;injection ho with ho;exact ⟨by simpa using a.1, .inr (.inr (.inr (.inl ⟨ψ0,ids0,S0,w0,h1,ho.symm,a.2⟩)))⟩
    ·rw [ql hk] at ho;exact kfn id ob b ho
  ·rename_i kv r' h1 b;cases a:ids.contains k with
   | false=>rw [a] at h;cases h
   | true=>
    rw [a] at h;simp only [qe,qc] at h;subst h;rw [kae] at ho;by_cases hk:k=id;subst hk;rw [qp rfl] at ho;injection ho with ho;exact ⟨by simpa using a, .inr (.inr (.inr (.inr (.inl ⟨kv,h1,ho.symm⟩))))⟩
    ·rw [ql hk] at ho;exact kfn id ob b ho
  ·rename_i g ov eo ei rows r' h1 b;cases a:ids.contains k with
   | false=>rw [a] at h;cases h
   | true=>
    rw [a] at h;simp only [qe,qc] at h;subst h;rw [kae] at ho;by_cases hk:k=id;subst hk;rw [qp rfl] at ho;injection ho with ho;exact ⟨by simpa using a, .inr (.inr (.inr (.inr (.inr (.inl ⟨g,ov,eo,ei,rows,h1,ho.symm⟩)))))⟩
    ·rw [ql hk] at ho;exact kfn id ob b ho
  ·rename_i gs r' h1 b;cases a:ids.contains k with
   | false=>rw [a] at h;cases h
   | true=>
    rw [a] at h;simp only [qe,qc] at h;subst h;rw [kae] at ho;by_cases hk:k=id;subst hk;rw [qp rfl] at ho;injection ho with ho;exact ⟨by simpa using a, .inr (.inr (.inr (.inr (.inr (.inr (.inl ⟨gs,h1,ho.symm⟩))))))⟩
    ·rw [ql hk] at ho;exact kfn id ob b ho
  ·rename_i s pos r' h1 b;cases a:ids.contains k with
   | false=>rw [a] at h;cases h
   | true=>
    rw [a] at h;simp only [qe,qc] at h;subst h;rw [kae] at ho;by_cases hk:k=id;subst hk;rw [qp rfl] at ho;injection ho with ho;exact ⟨by simpa using a, .inr (.inr (.inr (.inr (.inr (.inr (.inr (.inl ⟨s,pos,h1,ho.symm⟩)))))))⟩
    ·rw [ql hk] at ho;exact kfn id ob b ho
  ·rename_i Φ c r' h1 b;cases a:ids.contains k with
   | false=>rw [a] at h;cases h
   | true=>
    rw [a] at h;simp only [qe,qc] at h;subst h;rw [kae] at ho;by_cases hk:k=id;subst hk;rw [qp rfl] at ho;injection ho with ho;exact ⟨by simpa using a, .inr (.inr (.inr (.inr (.inr (.inr (.inr (.inr (.inl ⟨Φ,c,h1,ho.symm⟩))))))))⟩
    ·rw [ql hk] at ho;exact kfn id ob b ho
  ·rename_i kv r' h1 b;cases a:ids.contains k with
   | false=>rw [a] at h;cases h
   | true=>
    rw [a] at h;simp only [qe,qc] at h;subst h;rw [kae] at ho;by_cases hk:k=id;subst hk;rw [qp rfl] at ho;injection ho with ho;exact ⟨by simpa using a, .inr (.inr (.inr (.inr (.inr (.inr (.inr (.inr (.inr ⟨kv,h1,ho.symm⟩))))))))⟩
    ·rw [ql hk] at ho;exact kfn id ob b ho
  ·cases h
theorem le_co {st':St} {ts:List (Nat×C1)} {os:List (Nat×List C0)} (h:coSt st ids ts os=some st'):LeSt st st':=by
 unfold coSt at h;split at h
 ·rename_i tmps heap h1 u m;injection h with h;subst h;intro F S0 N0 ψ S a w hs;refine ⟨ψ,S,hs.defers,hs.size,fun t=>?_,⟨fun id ob ho=>?_,fun id id' o o' b ho n p y=>?_,hs.core.lt,hs.core.s0,hs.core.n0,hs.core.fr⟩⟩
  ·rcases ksg t u with h | ⟨c,h,hk⟩;show RV ψ _ S w _ (look .any tmps t);rw [h];exact .any
   ·show RV ψ _ S w _ (look .any tmps t);rw [h];exact (krs _ (hs.tmps t)).sub1 hk
  ·obtain ⟨f,q⟩:=kfn id ob m ho;rcases q with ⟨l,e,cells,d,rfl,g⟩ | ⟨e,s,xs,d,rfl⟩ | ⟨cs,vs,d,rfl,g⟩ | ⟨ψ0,ids0,S0,w0,d,rfl,g⟩ | ⟨kv,d,rfl⟩ | ⟨_,_,_,_,_,d,rfl⟩ | ⟨_,d,rfl⟩ | ⟨_,_,d,rfl⟩ | ⟨_,_,d,rfl⟩ | ⟨_,d,rfl⟩;obtain ⟨_,⟨k0,b,cs,k1,k2,k3,k4,k5⟩,k6⟩:=hs.core.obj id _ d;obtain ⟨z1,z2⟩:=k48 l k4 k5;exact ⟨f,⟨k0,b,cs,k1,k2,by rw [kv8];exact k3,z1,fun i v x hv j=>(z2 i v x hv j).sub1 (qs.1 g x (qo j))⟩,k6⟩;obtain ⟨_,k,k6⟩:=hs.core.obj id _ d;exact ⟨f,k,k6⟩;obtain ⟨_,⟨k0,k1,kn,k3⟩,k6⟩:=hs.core.obj id _ d;exact ⟨f,⟨k0,k1,kn,fun i v x hv j=>(k3 i v x hv j).sub1 (qs.1 g x (qo j))⟩,k6⟩;obtain ⟨_,⟨k0,k1,kn,k2,k3,k4,k5⟩,k6⟩:=hs.core.obj id _ d;exact ⟨f,⟨k0,k1,kn,k2,fun i hi=>by simpa using qs.1 g i hi,k4,k5⟩,k6⟩;obtain ⟨_,k,k6⟩:=hs.core.obj id _ d;exact ⟨f,k,k6⟩;obtain ⟨_,k,k6⟩:=hs.core.obj id _ d;exact ⟨f,k,k6⟩;obtain ⟨_,k,k6⟩:=hs.core.obj id _ d;exact ⟨f,k,k6⟩;obtain ⟨_,k,k6⟩:=hs.core.obj id _ d;exact ⟨f,k,k6⟩;obtain ⟨_,⟨k0,b,es,cl,k1,k2,k3⟩,k6⟩:=hs.core.obj id _ d;exact ⟨f,⟨k0,b,es,cl,k1,k2,k3.1,trivial⟩,k6⟩
   ·obtain ⟨_,k,k6⟩:=hs.core.obj id _ d;exact ⟨f,k,k6⟩
  ·obtain ⟨_,q⟩:=kfn id o m ho;obtain ⟨_,r⟩:=kfn id' o' m n;have k1:∃ o,kaa st.heap id=some o:=(by rcases q with ⟨l,_,cells,d,_⟩ | ⟨e,s,xs,d,_⟩ | ⟨cs,vs,d,_⟩ | ⟨_,_,_,_,d,_⟩ | ⟨_,d,_⟩ | ⟨_,_,_,_,_,d,_⟩ | ⟨_,d,_⟩ | ⟨_,_,d,_⟩ | ⟨_,_,d,_⟩ | ⟨_,d,_⟩ <;> exact ⟨_,d⟩);have k2:∃ o,kaa st.heap id'=some o:=(by rcases r with ⟨l,_,cells,d,_⟩ | ⟨e,s,xs,d,_⟩ | ⟨cs,vs,d,_⟩ | ⟨_,_,_,_,d,_⟩ | ⟨_,d,_⟩ | ⟨_,_,_,_,_,d,_⟩ | ⟨_,d,_⟩ | ⟨_,_,d,_⟩ | ⟨_,_,d,_⟩ | ⟨_,d,_⟩ <;> exact ⟨_,d⟩);obtain ⟨o1,k1⟩:=k1;obtain ⟨o2,k2⟩:=k2;exact hs.core.inj id id' o1 o2 b k1 k2 p y
 ·cases h
def kdz (id:Nat):List (Nat×AObj)->List (Nat×AObj)
 | []=>[]
 | (k,v)::l=>bif Nat.beq k id then kdz id l else (k,v)::kdz id l
theorem kh9 (id:Nat):∀ {l:List (Nat×AObj)} {k:Nat} {ob:AObj},kaa (kdz id l) k=some ob->k≠id/\kaa l k=some ob
 | [],k,ob,h=>by cases h
 | (j,v)::l,k,ob,h=>by
  simp only [kdz] at h;cases a:Nat.beq j id with
  | true=>
   rw [a] at h;obtain rfl:=qk a;obtain ⟨h1,b⟩:=kh9 j h;refine ⟨h1,?_⟩;rw [kae,ql (Ne.symm h1)];exact b
  | false=>
   rw [a] at h;simp only [qd,kae] at h;rw [kae];by_cases hk:j=k;subst hk;rw [qp rfl] at h ⊢;exact ⟨(fun e=>by subst e;rw [Nat.beq_refl] at a;cases a),h⟩
   ·rw [ql hk] at h ⊢;exact kh9 id h
theorem kxz {id:Nat}:∀ {l:List (Nat×AObj)} {k:Nat} {ob:AObj},k≠id->kaa l k=some ob->kaa (kdz id l) k=some ob
 | [],k,ob,_,h=>by cases h
 | (j,v)::l,k,ob,a,h=>by
  simp only [kdz];rw [kae] at h;by_cases b:j=k;subst b;rw [qp rfl] at h;rw [Nat.beq_eq_false a];simp only [qd,kae];exact h
  ·rw [ql b] at h;have ih:=kxz a h;cases c:Nat.beq j id with
   | true=>exact ih
   | false=>
    simp only [qd,kae];rw [ql b];exact ih
theorem knt {heap:List (Nat×AObj)} {ids:List Nat} {id:Nat} {e:TypeId} {size:Nat} {xs:List FV} (h:Core F S0 N0 heap ids ψ S w) (ho:kaa heap id=some (.frow e size xs)):
  Core F S0 N0 (kdz id heap) ids ψ (fun b=>S b\/ka3 (ψ.val id)=some b) w/\RF (fun b=>S b\/ka3 (ψ.val id)=some b) w (ψ.val id) (.lst size xs.length xs):=by
 obtain ⟨H,n,t⟩:=h.obj id _ ho;have p:=n;obtain ⟨h0,q,cs,f,z,hr⟩:=n;refine ⟨⟨fun k ob hk=>?_,fun k k' o o' b hk l m a B=>?_,fun b a=>?_,fun b a=>?_,h.n0,h.fr⟩,?_⟩
 ·obtain ⟨m,hk⟩:=kh9 id hk;obtain ⟨h1,I,G⟩:=h.obj k ob hk;refine ⟨h1,I.keep Ext.refl (fun _ h=>h) (fun b a => .inl a) (fun _ _ _=>rfl) ⟨rfl,rfl⟩ (fun _ _=>rfl),fun b a=>⟨fun hs=>?_,(G b a).2⟩⟩;rcases hs with hs | hs;exact (G b a).1 hs
  ·exact h.inj k id ob _ b hk ho m a (.of hs)
 obtain ⟨_,hk⟩:=kh9 id hk;obtain ⟨_,l⟩:=kh9 id l;exact h.inj k k' o o' b hk l m a B
 ·rcases a with a | a;exact h.lt b a
  ·exact p.lt (.of a)
 ·rcases a with a | a;exact h.s0 b a
  ·exact (t b (.of a)).2.2
 ·rcases f.2 with ⟨hv,C⟩ | ⟨g,cap,cur,hv,_,J,D,r,K,E⟩;have:xs=[]:=qaz C;subst this;rw [hv];exact .lst (A:=none) (cap:=0) (xs:=[]) (fun _=>[]) rfl (qx _) (by omega) q (fun i x c=>by simp at c) (fun i x c=>by simp at c) (fun i x j v y c=>by simp at c)
  ·rw [hv];have s:∀ i x,xs[i]?=some x->(i+1)*size<=cs.length:=fun i x c=>(by rw [f.1];exact qbk _ (qf.1 c).1);refine .lst (fun i=>(cs.drop (i*size)).take size) rfl D (by unfold maxLen at r;exact r) q (fun i x c=>⟨g,0,rfl, .inr (by rfl),fun j u hu=>?_⟩) (fun i x c=>?_) fun i x j v y c d hy=>?_
   ·rw [qaf] at hu;split at hu
    ·rw [qao,<- E,qaf] at hu;split at hu;simp only [World.cell?,J,Nat.zero_add];simpa using hu
     ·cases hu
    ·cases hu
   have:=s i x c;rw [qbg] at this;exact ⟨by rw [qai,qa1];omega,z x (qo c)⟩
   ·rw [qaf] at d;split at d;rw [qao] at d;exact (hr i x j v y c d hy).mono fun _ h => .inl h
    ·cases d
def PCall (P:Program) (f:FuncId) (args:List FV) (r:FV):Prop:=
 (∃ fn, P.funcs[f]? = some fn /\ fn.body.isNone = false /\ (fn.name == "runtime.NumGoroutine") = false) /\
 ∀ (S:Nat->Prop) (w:World) (vs:Array Value),vs.size=args.length->(∀ (i:Nat) (v:Value) (x:FV),vs[i]?=some v->args[i]?=some x->RF S w v x) ->
  Calls P f vs w fun e w'=>∃ v,e = .returned v/\RF (fun b=>S b\/w.heap.size<=b) w' v r/\Grow w w'
def kabl (st:St) (c:C1) (x:Operand):Option FV:=match co1 c (st.eval x) with
 | .fz y=>some y
 | _=>none
def kro (st:St):List C1->List Operand->Option (List FV)
 | [],[]=>some []
 | c::cs,x::xs=>match kabl st c x,kro st cs xs with
  | some y,some ys=>some (y::ys)
  | _,_=>none
 | _,_=>none
theorem kzz {ids:List Nat} (h:∀ t,RV ψ (·∈ids) S w (a.tmps.getD t undef) (st.get t)):∀ {cs:List C1} {xs:List Operand} {ys:List FV},kro st cs xs=some ys ->
  ys.length=xs.length/\∀ (i:Nat) (x:Operand) (y:FV),xs[i]?=some x->ys[i]?=some y->RF S w (a.eval x) y
 | [],[],ys,h=>by simp only [kro,qc] at h;subst h;exact ⟨rfl,fun i x y h=>by simp at h⟩
 | c::cs,x::xs,ys,b=>by
  simp only [kro] at b;split at b
  ·rename_i y ys' h1 e;injection b with b;subst b;obtain ⟨e1,e2⟩:=kzz h e;refine ⟨by simp [e1],fun i x' y' d hy=>?_⟩;cases i with
   | zero=>
    simp at d hy;subst d hy;unfold kabl at h1;have hv:=krs c (Sim.eval_tmps h x);split at h1;rename_i z f;injection h1 with h1;subst h1;rw [f] at hv;exact hv.inv
    ·cases h1
   | succ i=>exact e2 i x' y' (by simpa using d) (by simpa using hy)
  ·cases b
 | [],_::_,ys,h=>by cases h
 | _::_,[],ys,h=>by cases h
theorem kqz {f : FuncId} {args : Array Operand} {ts : Array TypeId} (ho : o.op = .call { callee := .value (.func f), args := args, argTypes := ts }) (hf : ∃ fn, P.funcs[f]? = some fn /\ fn.body.isNone = false /\ (fn.name == "runtime.NumGoroutine") = false) :
  (execOp a.eval o).run P w = .ok (.enter f (args.map a.eval)) w:=by
 obtain ⟨fn,h1,c,d⟩:=hf;have b:fn.body≠none:=by intro h;rw [h] at c;cases c
 simp only [qa2,ne_eq] at d;simp [execOp,ho,resolve,Act.eval,Deferred.ofValue,invoke,callFunc,h1,b,d]
theorem k8t {f:FuncId} {args:Array Operand} {ts:Array TypeId} {cs:List C1} {ys:List FV} {r:FV} (ho:o.op = .call { callee := .value (.func f),args:=args,argTypes:=ts }) (hc:kro st cs args.toList=some ys) (hp:PCall P f ys r):NStep P o st (.fz r):=by
 intro ψ S a w ht d;obtain ⟨e1,e2⟩:=kzz ht hc;unfold keg;rw [kqz ho hp.1];refine (hp.2 S w (args.map a.eval) (by simp [e1]) fun i v x hv b=>?_).mono ?_;simp only [Array.getElem?_map,qu] at hv;obtain ⟨y,hy,rfl⟩:=hv;exact e2 i y x (by simpa using hy) b
 ·rintro e w' ⟨v,rfl,h1,c⟩;exact ⟨v,rfl,c, .fz h1⟩
def resX (T:List (TypeId×TD)) (st:St) (r:ResultVar) (c:C1):Option FV:=match r with
 | .tmp t=>match co1 c (st.get t) with
  | .fz y=>some y
  | _=>none
 | .cell x t=>match kad T t,kmj st (st.get x) with
  | some d,some xs=>match kl7 d xs with
   | some z=>match co1 c z with
    | .fz y=>some y
    | _=>none
   | none=>none
  | _,_=>none
def kvc (T:List (TypeId×TD)) (st:St):List ResultVar->List C1->Option (List FV)
 | [],[]=>some []
 | r::rs,c::cs=>match resX T st r c,kvc T st rs cs with
  | some y,some ys=>some (y::ys)
  | _,_=>none
 | _,_=>none
def k5o (T:List (TypeId×TD)) (st:St) (rs:List ResultVar) (cs:List C1):Option FV:=match kvc T st rs cs with
 | some [y]=>some y
 | some ys=>some (.tup ys)
 | none=>none
def retX (T:List (TypeId×TD)) (st:St) (rs:List ResultVar) (cs:List C1):Option FV:=match st.dfr with
 | []=>k5o T st rs cs
 | _=>none
theorem k2o {T:List (TypeId×TD)} {st:St} {rs:List ResultVar} {cs:List C1} {y:FV} (h:retX T st rs cs=some y):st.dfr=[]/\k5o T st rs cs=some y:=by
 unfold retX at h;split at h;rename_i a;exact ⟨a,h⟩
 ·cases h
theorem k4x {v:Value} {x:AV} {xs:List AV} {c:AV} (n:TdOk P t d) (hv:RV ψ (·∈st.ids) S w v x) (q:∀ id o,kaa st.heap id=some o->ObR ψ (·∈st.ids) S w id o) (e:kmj st x=some xs) (hc:kl7 d xs=some c):
  ∃ ad u,v = .pointer (some ad)/\(loadVar t ad).run P w = .ok u w/\RV ψ (·∈st.ids) S w u c:=by
 obtain ⟨b,off,hv,cs,h,hl,h1,hr⟩:=ksr hv q e;unfold kl7 at hc;cases hk:d.kind.agg with
 | false=>
  rw [hk] at hc;simp only [qd] at hc;cases xs with
  | nil=>cases hc
  | cons y ys=>
   simp only [List.head?_cons,qc] at hc;subst hc;have k:cs[0]?=some (cs[0]'(by simp at hl;omega)):=qa _;have f:w.cell? ⟨b,off,none⟩=some (cs[0]'(by simp at hl;omega)):=(by simpa using h 0 _ k);exact ⟨_,cs[0]'(by simp at hl;omega),hv,by simp [loadVar,n.isAgg,hk,f],hr 0 _ y k rfl⟩
 | true=>
  rw [hk] at hc;simp only [qe] at hc;cases g:Nat.ble d.size xs.length with
  | false=>rw [g] at hc;cases hc
  | true=>
   rw [g] at hc;simp only [qe,qc] at hc;subst hc;have p:=qt g;have l:(cs.take d.size).length=d.size:=(by rw [qai];omega);have a:=run_loadCells_list (P:=P) w ⟨b,off,none⟩ (cs.take d.size) fun j v m=>by
    rw [qaf] at m;split at m;rw [kcq];exact h j v m
    ·cases m
   rw [l] at a;refine ⟨_, .agg (cs.take d.size).toArray,hv,by simp [loadVar,n.isAgg,hk,n.size,a],RV.aggA (by simp [hl]) (fun x e=>h1 x (qa7 e)) fun i v x hv e=>?_⟩;simp only [List.getElem?_toArray] at hv;rw [qaf] at hv e;split at hv;rename_i hi;rw [qp hi] at e;exact hr i v x hv e
   ·cases hv
def ki8 (tmps:Array Value):ResultVar->Sem Value
 | .tmp t=>pure (tmps.getD t undef)
 | .cell x t=>do loadVar t (<- asAddr (tmps.getD x undef))
theorem k2b (f:TOk P T) (hs:Sim F S0 N0 st ψ S a w):∀ {rs:List ResultVar} {cs:List C1} {ys:List FV},kvc T st rs cs=some ys ->
  ∃ vs:List Value,(rs.mapM (ki8 a.tmps)).run P w = .ok vs w/\vs.length=ys.length/\∀ (i:Nat) (v:Value) (y:FV),vs[i]?=some v->ys[i]?=some y->RF S w v y
 | [],[],ys,h=>by simp only [kvc,qc] at h;subst h;exact ⟨[],by simp,rfl,fun i v y h=>by simp at h⟩
 | r::rs,c::cs,ys,h=>by
  simp only [kvc] at h;split at h
  ·rename_i y ys' h1 g;injection h with h;subst h;obtain ⟨vs,k1,k2,k3⟩:=k2b f hs g;have key:∃ v,(ki8 a.tmps r).run P w = .ok v w/\RF S w v y:=by
    unfold resX at h1;split at h1
    ·rename_i t;have hv:=krs c (hs.tmps t);split at h1;rename_i z b;injection h1 with h1;subst h1;rw [b] at hv;exact ⟨_,rfl,hv.inv⟩
     ·cases h1
    ·rename_i x t;split at h1
     ·rename_i d xs j k;split at h1
      ·rename_i z b;obtain ⟨ad,u,e1,e2,e3⟩:=k4x (f.get j) (hs.tmps x) (fun id o ho=>(hs.core.obj id o ho).2.1) k b;have hv:=krs c e3;split at h1;rename_i z' e;injection h1 with h1;subst h1;rw [e] at hv;refine ⟨u,?_,hv.inv⟩;simp only [ki8,e1,asAddr,Sem.run_bind,Sem.run_pure,Result.andThen_ok,e2]
       ·cases h1
      ·cases h1
     ·cases h1
   obtain ⟨v,e1,e2⟩:=key;refine ⟨v::vs,?_,by simp [k2],fun i v' y' hv hy=>?_⟩;rw [List.mapM_cons];simp only [Sem.run_bind,e1,Result.andThen_ok,k1,Sem.run_pure]
   ·cases i with
    | zero=>simp at hv hy;subst hv hy;exact e2
    | succ i=>exact k3 i v' y' (by simpa using hv) (by simpa using hy)
  ·cases h
 | [],_::_,ys,h=>by cases h
 | _::_,[],ys,h=>by cases h
theorem kads (d:TOk P T) (hs:Sim F S0 N0 st ψ S a w) {fn:Func} {cs:List C1} {y:FV} (h:retX T st fn.results.toList cs=some y):∃ v,(results fn a.tmps).run P w = .ok v w/\RF S w v y:=by
 replace h:=(k2o h).2;unfold k5o at h;have key:∀ ys,kvc T st fn.results.toList cs=some ys->∃ vs:List Value,(results fn a.tmps).run P w = .ok (if h:vs.length=1 then vs[0] else .tuple vs.toArray) w/\vs.length=ys.length/\∀ (i:Nat) (v:Value) (y:FV),vs[i]?=some v->ys[i]?=some y->RF S w v y:=fun ys hy=>by
  obtain ⟨vs,k1,k2,k3⟩:=k2b d hs hy;refine ⟨vs,?_,k2,k3⟩;unfold results;rw [Array.mapM_eq_mapM_toList];have b:∀ (g:ResultVar->Sem Value),(∀ x,g x=ki8 a.tmps x)->(fn.results.toList.mapM g).run P w = .ok vs w:=fun g b=>by rw [show g=ki8 a.tmps from funext b];exact k1
  simp only [Sem.run_bind,Sem.run_map];rw [b _ fun x=>by cases x <;> rfl];simp only [Result.andThen_ok,Sem.run_pure];simp
 split at h
 ·rename_i z e;injection h with h;subst h;obtain ⟨vs,k1,k2,k3⟩:=key _ e;have hl:vs.length=1:=by simpa using k2
  rw [dif_pos hl] at k1;exact ⟨_,k1,k3 0 _ _ (qa (by omega)) rfl⟩
 ·rename_i ys c hy;injection h with h;subst h;obtain ⟨vs,k1,k2,k3⟩:=key _ hy;have hl:¬ vs.length=1:=fun hl=>by rw [k2] at hl;obtain ⟨z,rfl⟩:=List.length_eq_one_iff.1 hl;exact c z rfl
  rw [dif_neg hl] at k1;exact ⟨_,k1, .tup (by simpa using k2) fun i v x hv f=>k3 i v x (by simpa using hv) f⟩
 ·cases h
def kog:Nat->List FV->List (Nat×AV)
 | _,[]=>[]
 | i,x::l=>(i, .fz x)::kog (i+1) l
def retQ (T:List (TypeId×TD)) (rs:List ResultVar) (cs:List C1) (r:FV):Exit->St->Prop
 | .normal,st=>retX T st rs cs=some r
 | .ret,st=>retX T st rs cs=some r
 | _,_=>False
theorem kxk:∀ (l:List FV) (i t:Nat),(look .any (kog i l) t = .any)\/∃ x,i<=t/\l[t - i]?=some x/\look .any (kog i l) t = .fz x
 | [],i,t => .inl rfl
 | x::l,i,t=>by
  simp only [kog,kbj];by_cases h:i=t;subst h;exact .inr ⟨x,qx _,by simp,by simp⟩
  ·rw [ql h];rcases kxk l (i+1) t with h1 | ⟨y,h1,a,b⟩;exact .inl h1
   ·exact .inr ⟨y,by omega,by rw [show t - i=(t - (i+1))+1 by omega];simpa using a,b⟩
theorem k3l (p : TOk P T) {f : FuncId} {fn : Func} {c : Code} {args : List FV} {r : FV} (cs : List C1) (hf : P.funcs[f]? = some fn) (a : fn.body = some c) (hn : (fn.name == "runtime.NumGoroutine") = false) (i : Nat.ble args.length fn.ntmps = true)
  (h:awp P c { n:=fn.ntmps,tmps:=kog 0 args,heap:=[],ids:=[] } (retQ T fn.results.toList cs r)):PCall P f args r:=by
 have i:=qt i;refine ⟨⟨fn,hf,by rw [a];rfl,hn⟩,fun S w vs hs hr=>calls_of_wp hf a ?_⟩;have j:Sim (fun b=>b<w.heap.size) S w.heap.size { n:=fn.ntmps,tmps:=kog 0 args,heap:=[],ids:=[] } ⟨fun _=>0,fun _=>undef⟩ (fun b=>S b/\b<w.heap.size) { tmps:=vs++Array.replicate (fn.ntmps - vs.size) undef,defers:=[] } w:=by
  refine ⟨rfl,by simp;omega,fun t=>?_,⟨(fun id o ho=>nomatch ho),(fun id id' o o' b ho=>nomatch ho),fun b a=>a.2,fun b a => .inl a.1,qx _,fun b a=>a⟩⟩;show RV _ _ _ w _ (look .any (kog 0 args) t);rcases kxk args 0 t with h | ⟨x,_,h1,l⟩;rw [h];exact .any
  ·rw [l];have d:t<vs.size:=(by rw [hs];have:=(qf.1 h1).1;omega);have:(vs++Array.replicate (fn.ntmps - vs.size) undef).getD t undef=vs[t]:=(by rw [qa5,qbq d];simp [d]);rw [this];exact .fz (hr t _ x (by simp [d]) (by simpa using h1)).bound
 refine wp_mono (h _ _ _ _ _ _ w j) ?_;rintro e a' w' ⟨st',ψ',S',g,l,m⟩;have fin:retX T st' fn.results.toList cs=some r->a'.defers=[]/\∃ v,(results fn a'.tmps).run P w' = .ok v w'/\∃ v',Ending.returned v = .returned v'/\RF (fun b=>S b\/w.heap.size<=b) w' v' r/\Grow w w':=fun g=>by obtain ⟨v,e1,e2⟩:=kads p l g;exact ⟨l.defers.trans (k2o g).1,v,e1,v,rfl,e2.mono l.core.s0,⟨m.os,m.tape,m.output,m.size,fun k hk=>m.block k hk⟩⟩
 cases e with
 | normal=>exact fin g
 | ret=>exact fin g
 | _=>exact g.elim
def hadd (fs:List (Nat×Option Nat×AV)) (p:Nat->Bool) (base:List (Nat×AV)):List (Nat×AV):=match fs with
 | []=>base
 | (j,some d,c)::l=>(d,bif p j then c else .any)::hadd l p base
 | (_,none,_)::l=>hadd l p base
def hst (st:St) (fs:List (Nat×Option Nat×AV)) (p:Nat->Bool):St:={ st with tmps:=hadd fs p st.tmps }
theorem kk3 (st:St) {ops:Array Oper} {g:Bool} (hs:∀ t,RV ψ K S w (a.tmps.getD t undef) (st.get t)) (h:kb2 ops st o=some g):Region.wanted o (yielded ops a.tmps)=g:=by
 unfold kb2 at h;unfold Region.wanted;split at h;rename_i d;rw [d];injection h
 ·rename_i j want d;rw [d];split at h
  ·rename_i t ht;have hv:=hs t;split at h
   ·rename_i b e;rw [e] at hv;injection h with h;subst h;have hu:a.tmps.getD t undef = .bool b:=hv.atom;rw [qa5] at hu;have c:a.tmps[t]?=some (.bool b):=by
     cases c:a.tmps[t]? with
     | none=>rw [c] at hu;cases hu
     | some u=>rw [c] at hu;simp only [qah] at hu;rw [hu]
    simp only [yielded,ht,qb,c];cases b <;> cases want <;> rfl
   rename_i xs e;rw [e] at hv;injection h with h;subst h;exact kvs hv.inv ht
   ·cases h
  ·cases h
theorem ksh {a:Act} (d:Option Nat) {v:Value} (n t:Nat) (hn:a.tmps.size=n) (c:∀ t,d=some t->t<n):(a.put d v).tmps.getD t undef=if d=some t then v else a.tmps.getD t undef:=by
 cases d with
 | none=>simp [Act.put]
 | some d=>
  have b:=c d rfl;by_cases h:d=t;subst h;simp [Act.put,hn,b]
  ·rw [ql (by simpa using h)];simp only [Act.put];rw [qa5,Array.getElem?_setIfInBounds_ne h,<- qa5]
abbrev w64 (n:Int):Int:=IntKind.i64.wrap n
def eB (b:Bool):FV := .atom (.bool b)
def eS (s:BA):FV := .atom (.string s)
def eI (n:Int):FV := .atom (.int .i64 n)
def eU8 (n:Int):FV := .atom (.int .u8 n)
def eL {α:Type} (size:Nat) (e:α->FV) (xs:List α):FV := .lst size xs.length (xs.map e)
def idx {α:Type} (xs:List α) (i:Int):Option α:=if 0<=i then xs[i.toNat]? else none
def byt (s:BA) (i:Int):Option Int:=if 0<=i then (s[i.toNat]?).map fun c=>(c.toNat:Int) else none
def app {α:Type} (bytes:Nat) (xs ys:List α):Option (List α):=if (xs.length+ys.length)*(bytes+1)<=140737488355328 then some (xs++ys) else none
theorem ksv {α:Type} {xs:List α} {i:Int} {x:α} (h:idx xs i=some x):0<=i/\xs[i.toNat]?=some x:=by
 unfold idx at h;split at h;exact ⟨by assumption,h⟩
 ·cases h
theorem kaci {α:Type} (enc:α->FV) {xs:List α} {i:Int} {x:α} {X Y:Operand} {e:TypeId} {de:TD} {k:IntKind} {cs:List FV} (h:idx xs i=some x) (c:TOk P T) (ho:o.op = .indexAddr t X Y) (f:kad T t=some d) (hk:d.kind = .slice e) (b:kad T e=some de) (g:kpy (st.eval X)=some (xs.map enc)) (a:∀ x,(enc x).cells.length=de.size) (hy:st.eval Y = .fz (.atom (.int k i))) (hc:(enc x).cells=cs):NStep P o st (.fz (.fp cs)):=by
 obtain ⟨h0,h1⟩:=ksv h;refine k4n ho (c.get f) hk (c.get b) g (fun z j=>?_) hy h0 (z:=enc x) (by rw [qr,h1];rfl) hc;obtain ⟨y,_,rfl⟩:=qad.1 j;exact a y
theorem kagn {s:BA} {i c:Int} {X Y:Operand} {k:IntKind} (h:byt s i=some c) (a:TOk P T) (ho:o.op = .index t X Y) (e:kad T t=some d) (hk:d.kind = .str) (f:st.eval X = .fz (.atom (.string s))) (hy:st.eval Y = .fz (.atom (.int k i))):
  NStep P o st (.fz (.atom (.int .u8 c))):=by
 unfold byt at h;split at h;rename_i h0;simp only [qu] at h;obtain ⟨b,g,rfl⟩:=h;exact k8b ho (a.get e) hk f hy h0 g
 ·cases h
theorem k22 {α:Type} {bytes:Nat} {xs ys r:List α} (h:app bytes xs ys=some r):r=xs++ys/\(xs.length+ys.length)*(bytes+1)<=140737488355328:=by
 unfold app at h;split at h;injection h with h;exact ⟨h.symm,by assumption⟩
 ·cases h
theorem k1j {α:Type} (enc:α->FV) {bytes:Nat} {xs ys r:List α} {X Y:Operand} {e:TypeId} {de:TD} {n m id:Nat} (h:app bytes xs ys=some r) (i:TOk P T) (ho:o.op = .call { callee := .builtin .append,args:=#[X,Y],argTypes:=#[t,t] }) (j:kad T t=some d) (hk:d.kind = .slice e) (b:kad T e=some de) (k:Nat.ble 1 de.size=true) (c:de.zero.length=de.size) (f:de.bytes=bytes) (l:st.eval X = .row id n) (g:kaa st.heap id=some (.frow e de.size (xs.map enc))) (hn:n=xs.length) (hy:st.eval Y = .fz (.lst de.size m (ys.map enc))\/st.eval Y = .lim de.size m (ys.map enc)):
  kau P o st (.row id r.length) ((id, .frow e de.size (r.map enc))::st.heap) st.ids:=by
 obtain ⟨rfl,a⟩:=k22 h;subst f;have:=k9y (id:=id) (d:=d) (t:=t) (st:=st) (o:=o) (P:=P) (xs.map enc) (ys.map enc) ho (i.get j) hk (i.get b) (qt k) c l g (by rw [hn];simp) hy (by simpa using a);rw [<- qaw,qaa] at this;exact this
theorem kjm (t id n:Nat) (e:TypeId) (size:Nat) (xs:List FV) (f:st.get t = .row id n:=by kernel_rfl) (d:kaa st.heap id=some (.frow e size xs):=by kernel_rfl) (hn:n=xs.length:=by simp):
  LeSt st { st with tmps:=(t, .fz (.lst size n xs))::st.tmps,heap:=kdz id st.heap }:=by
 subst hn;intro F S0 N0 ψ S a w hs;obtain ⟨c1,c2⟩:=knt hs.core d;have c:∀ k,RV ψ (·∈st.ids) (fun b=>S b\/ka3 (ψ.val id)=some b) w (a.tmps.getD k undef) (st.get k):=fun k=>(hs.tmps k).mono (fun _ h=>h) fun _ h => .inl h;refine ⟨ψ,_,hs.defers,hs.size,fun k=>?_,c1⟩;simp only [St.get,kbj];split
 ·rename_i hk;subst hk;have hv:=c t;rw [f] at hv;have h0:=(hs.core.obj id _ d).2.1.1;refine .fz ?_;generalize a.tmps.getD t undef=u at hv;cases hv with
  | row hK g h1 hv=>rw [hv (by rw [h0])];exact c2
 ·exact c k
theorem khj (id2 id n j:Nat) (e:TypeId) (size:Nat) (xs:List FV) (e2:TypeId) (cells:List AV) (d:kaa st.heap id2=some (.box e2 cells):=by kernel_rfl) (l:cells[j]?=some (.row id n):=by kernel_rfl) (g:kaa st.heap id=some (.frow e size xs):=by kernel_rfl) (hn:n=xs.length:=by simp):
  LeSt st { st with heap:=(id2, .box e2 (cells.set j (.fz (.lst size n xs))))::kdz id st.heap }:=by
 subst hn;intro F S0 N0 ψ S a w hs;obtain ⟨c1,c2⟩:=knt hs.core g;have q:id2≠id:=fun h=>by rw [h,g] at d;cases d
 have p:kaa (kdz id st.heap) id2=some (.box e2 cells):=kxz q d;obtain ⟨k1,⟨k0,b,cs,k2,k3,k4,k5,k6⟩,k7⟩:=c1.obj id2 _ p;refine ⟨ψ,_,hs.defers,hs.size,fun k=>(hs.tmps k).mono (fun _ h=>h) fun _ h => .inl h,⟨fun i o ho=>?_,fun i i' o o' b ho r m u=>?_,c1.lt,c1.s0,c1.n0,c1.fr⟩⟩
 ·rw [kae] at ho;by_cases hi:id2=i
  ·subst hi;rw [qp rfl] at ho;injection ho with ho;subst ho;refine ⟨k1,⟨k0,b,cs,k2,k3,by simpa using k4,fun x l=>?_,fun i v x hv c=>?_⟩,k7⟩
   ·rcases List.mem_or_eq_of_mem_set l with l | rfl;exact k5 x l
    ·rfl
   ·rw [List.getElem?_set] at c;split at c
    ·rename_i s;subst s;split at c
     ·injection c with c;subst c;have t:=k6 j v _ hv l;have h0:=(hs.core.obj id _ g).2.1.1;refine .fz ?_;cases t with
      | row hK y h1 hv=>rw [hv (by rw [h0])];exact c2
     ·cases c
    ·exact k6 i v x hv c
  ·rw [ql hi] at ho;exact c1.obj i o ho
 ·have f:∀ {i:Nat} {o:AObj},kaa ((id2,AObj.box e2 (cells.set j (.fz (.lst size xs.length xs))))::kdz id st.heap) i=some o->∃ o',kaa (kdz id st.heap) i=some o':=fun {i o} h=>by
   rw [kae] at h;by_cases hi:id2=i;subst hi;exact ⟨_,p⟩
   ·rw [ql hi] at h;exact ⟨_,h⟩
  obtain ⟨o1,h1⟩:=f ho;obtain ⟨o2,p⟩:=f r;exact c1.inj i i' o1 o2 b h1 p m u
theorem ke6 (e e2:TypeId) (size id2 j id:Nat) (cells:List AV) (u:Nat.ble 1 size=true:=by kernel_rfl) (g:kaa st.heap id2=some (.box e2 cells):=by kernel_rfl) (l:cells[j]?=some (.fz (.atom (.slice none 0 0))):=by kernel_rfl) (d:st.ids.contains id=false:=by kernel_rfl):
  LeSt st { st with heap:=(id2, .box e2 (cells.set j (.row id 0)))::(id, .frow e size [])::st.heap,ids:=id::st.ids }:=by
 have d:id∉st.ids:=by simpa using d
 intro F S0 N0 ψ S a w hs;have hadd:=hs.core.add (n:=0) (v := .slice none 0 0) (w':=w) (ob := .frow e size []) (kag _) d (fun b q=>by cases q) ⟨kct _ _,qt u,[],by rw [kav];exact ⟨by simp, .inl ⟨rfl,rfl⟩⟩,(fun x l=>by cases l),fun i x j v y h=>by simp at h⟩;have r:id≠id2:=fun h=>d (by rw [h];exact (hs.core.obj id2 _ g).1);have p:kaa ((id, .frow e size [])::st.heap) id2=some (.box e2 cells):=by rw [kae,ql r];exact g
 obtain ⟨k1,⟨k0,b,cs,k2,k3,k4,k5,k6⟩,k7⟩:=hadd.obj id2 _ p;refine ⟨ψ.set id 0 (.slice none 0 0),S,hs.defers,hs.size,fun k=>(hs.tmps k).keep (kdw d _ _) (fun _ h=>qj _ h) (fun _ h=>h) (fun _ _ _=>rfl),⟨fun i o ho=>?_,fun i i' o o' b ho s m q=>?_,hadd.lt,hadd.s0,hadd.n0,hadd.fr⟩⟩
 ·rw [kae] at ho;by_cases hi:id2=i
  ·subst hi;rw [qp rfl] at ho;injection ho with ho;subst ho;refine ⟨k1,⟨k0,b,cs,k2,k3,by simpa using k4,fun x l=>?_,fun i v x hv c=>?_⟩,k7⟩
   ·rcases List.mem_or_eq_of_mem_set l with l | rfl;exact k5 x l
    ·rfl
   ·rw [List.getElem?_set] at c;split at c
    ·rename_i t;subst t;split at c;injection c with c;subst c;rw [(k6 j v _ hv l).atom];exact .row (qn ..) (qau _) rfl fun _=>(kav _ _).symm
     ·cases c
    ·exact k6 i v x hv c
  ·rw [ql hi] at ho;exact hadd.obj i o ho
 ·have f:∀ {i:Nat} {o:AObj},kaa ((id2,AObj.box e2 (cells.set j (.row id 0)))::(id, .frow e size [])::st.heap) i=some o->∃ o',kaa ((id, .frow e size [])::st.heap) i=some o':=fun {i o} h=>by
   rw [kae] at h;by_cases hi:id2=i;subst hi;exact ⟨_,p⟩
   ·rw [ql hi] at h;exact ⟨_,h⟩
  obtain ⟨o1,h1⟩:=f ho;obtain ⟨o2,p⟩:=f s;exact hadd.inj i i' o1 o2 b h1 p m q
theorem LeSt.refl:LeSt st st:=fun F S0 N0 ψ S a w h=>⟨ψ,S,h⟩
theorem LeSt.trans {st' st'':St} (h:LeSt st st') (k:LeSt st' st''):LeSt st st'':=fun F S0 N0 ψ S a w hs=>by obtain ⟨ψ',S',b⟩:=h F S0 N0 ψ S a w hs;exact k F S0 N0 ψ' S' a w b
theorem NStep.eqv {c c':AV} (h:NStep P o st c) (e:c=c'):NStep P o st c':=e ▸ h
theorem ks5 {c:Code} {Q:Exit->St->Prop} (h:awp P c st fun e st'=>∃ st2,LeSt st' st2/\Q e st2):awp P c st Q:=fun F S0 N0 ψ S a w hs=>
 wp_mono (h F S0 N0 ψ S a w hs) fun e a' w' ⟨st',ψ',S',⟨st2,h0,h1⟩,b,d⟩=>by obtain ⟨ψ2,S2,f⟩:=h0 F S0 N0 ψ' S' a' w' b;exact ⟨st2,ψ2,S2,h1,f,d⟩
theorem k9i {c:Code} {Qa Q:Exit->St->Prop} (ha:awp P c st Qa) (a:∀ e st',Qa e st'->∃ st2,LeSt st' st2/\Q e st2):awp P c st Q:=ks5 (kws ha a)
theorem kabh (t:Nat) (x y:AV) (h:x=y) (b:st.get t=x:=by kernel_rfl):LeSt st (st.put (some t) y):=by
 subst h;intro F S0 N0 ψ S a w hs;refine ⟨ψ,S,hs.defers,hs.size,fun k=>?_,hs.core⟩;simp only [St.put,St.get,kbj];split;rename_i hk;subst hk;rw [<- b];exact hs.tmps t
 ·exact hs.tmps k
theorem k6r {σ β:Type} {step:σ->Option (σ ⊕ β)} (body:Code) (stOf:σ->St) {s0:σ} {b:β} {n:Nat} (Qb:β->Exit->St->Prop) (hl:kab step n s0=some b) (h0:LeSt st (stOf s0)) (hr:∀ s r,step s=some r->awp P body (stOf s) fun e st=>match r with | .inl s'=>e = .normal/\LeSt st (stOf s') | .inr b'=>(e ≠ .normal/\e ≠ .outgrown)/\Qb b' e st):awp P (.loop body) st (Qb b):=by
 exact kaao stOf hl h0 (fun s s' hs=>hr s _ hs) fun s hs=>kws (hr s _ hs) fun e st h=>⟨h.1.1,h.1.2,h.2⟩
inductive Va where
 | mk (type num:Int) (text:BA) (items:List Va)
namespace Va
def type:Va->Int | mk t _ _ _=>t
def num:Va->Int | mk _ n _ _=>n
def text:Va->BA | mk _ _ s _=>s
def items:Va->List Va | mk _ _ _ l=>l
theorem ind {P:Va->Prop} (h:∀ t n s l,(∀ v∈l,P v)->P (mk t n s l)) (v:Va):P v:=
 Va.rec (motive_1:=P) (motive_2:=fun l=>∀ t∈l,P t) (fun t n s l ih=>h t n s l ih) (fun _ h=>nomatch h)
  (fun t l h1 a x b=>(qam.1 b).elim (fun e=>e ▸ h1) (a x)) v
end Va
structure Sy where
 name:BA
 type:Int
structure Ru where
 symbol:Int
 kind:Int
 input:Int
 const:Va
 op:BA
 args:List Int
structure La where
 name:BA
 inputs:List Int
 symbols:List Sy
 rules:List Ru
def ksb (s:BA):Prop:=s.size<=9223372036854775807
section
variable {S S':Nat->Prop} {w w':World}
inductive RepVa (S:Nat->Prop) (w:World):List Value->Va->Prop where
 | mk (t n:Int) (s:BA) (kids:List Va) (A:Option Addr) (cap:Nat) (css:Nat->List Value) (ht:kgm t) (hn:kgm n) (hs:ksb s) (hc:kids.length<=cap) (hm:cap<=9223372036854775807)
  (hA:∀ (i:Nat) (x:Va),kids[i]?=some x->∃ b o,A=some ⟨b,o,none⟩/\S b/\At w b (o+i*4) (css i))
  (hk:∀ (i:Nat) (x:Va),kids[i]?=some x->RepVa S w (css i) x):RepVa S w [.int .i64 t, .int .i64 n, .string s, .slice A kids.length cap] (.mk t n s kids)
abbrev Vas (S:Nat->Prop) (w:World) (v:Value) (l:List Va):Prop:=RepSl S w 4 (RepVa S w) v l
theorem RepVa.len {cs:List Value} {t:Va} (h:RepVa S w cs t):cs.length=4:=by cases h;rfl
theorem RepVa.form {cs:List Value} {t n:Int} {s:BA} {l:List Va} (h:RepVa S w cs (.mk t n s l)):∃ v,cs=[.int .i64 t, .int .i64 n, .string s,v]/\kgm t/\kgm n/\ksb s/\Vas S w v l:=by
 cases h with
 | mk _ _ _ _ A cap css ht hn hs hc hm hA hk=>
  refine ⟨_,rfl,ht,hn,hs,A,cap,rfl,hc,hm,fun i x a=>?_⟩;obtain ⟨b,o,h1,c,d⟩:=hA i x a;exact ⟨b,o,css i,h1,c,d,(hk i x a).len,hk i x a⟩
theorem RepVa.of {v:Value} {t n:Int} {s:BA} {l:List Va} (ht:kgm t) (hn:kgm n) (hs:ksb s) (h:Vas S w v l):RepVa S w [.int .i64 t, .int .i64 n, .string s,v] (.mk t n s l):=by
 obtain ⟨A,cap,rfl,hc,hm,c⟩:=h;have:∀ i:Nat,∃ cs:List Value,∀ x:Va,l[i]?=some x->(∃ b o,A=some ⟨b,o,none⟩/\S b/\At w b (o+i*4) cs)/\RepVa S w cs x:=fun i=>by
  cases hi:l[i]? with
  | none=>exact ⟨[],fun x h=>by cases h⟩
  | some x=>
   obtain ⟨b,o,cs,h1,d,e,_,f⟩:=c i x hi;exact ⟨cs,fun y hy=>by cases hy;exact ⟨⟨b,o,h1,d,e⟩,f⟩⟩
 obtain ⟨css,a⟩:=Classical.axiomOfChoice this;exact .mk t n s l A cap css ht hn hs hc hm (fun i x hi=>(a i x hi).1) (fun i x hi=>(a i x hi).2)
section
variable {T:Type} {size:Nat} {R:(Nat->Prop)->World->List Value->T->Prop} {v:Value} {l:List T}
theorem RepSl.shape {Q:List Value->T->Prop} (h:RepSl S w size Q v l):∃ A cap,v = .slice A l.length cap/\l.length<=cap/\cap<=9223372036854775807:=let ⟨A,cap,hv,h1,a,_⟩:=h;⟨A,cap,hv,h1,a⟩
theorem RepSl.get {Q:List Value->T->Prop} {A:Option Addr} {n cap:Nat} (h:RepSl S w size Q (.slice A n cap) l) {k:Nat} (hk:k<l.length):
  ∃ b o cs,A=some ⟨b,o,none⟩/\S b/\At w b (o+k*size) cs/\cs.length=size/\Q cs l[k]:=by
 obtain ⟨A0,cap0,hv,_,_,a⟩:=h;injection hv with h1 c d;subst h1;exact a k _ (qa hk)
end
def k0t (S:Nat->Prop) (w:World) (cs:List Value) (x:Sy):Prop:=cs=[.string x.name, .int .i64 x.type]/\ksb x.name/\kgm x.type
def k0n (S:Nat->Prop) (w:World) (cs:List Value) (x:Ru):Prop:=
 ∃ c0 c1 c2 c3 v,cs=[.int .i64 x.symbol, .int .i64 x.kind, .int .i64 x.input,c0,c1,c2,c3, .string x.op,v]/\kgm x.symbol/\kgm x.kind/\kgm x.input/\ksb x.op/\RepVa S w [c0,c1,c2,c3] x.const/\Ints S w v x.args
abbrev Sys (S:Nat->Prop) (w:World) (v:Value) (l:List Sy):Prop:=RepSl S w 2 (k0t S w) v l
abbrev Rus (S:Nat->Prop) (w:World) (v:Value) (l:List Ru):Prop:=RepSl S w 9 (k0n S w) v l
def kab2 (S:Nat->Prop) (w:World) (cs:List Value) (x:La):Prop:=
 ∃ v1 v2 v3,cs=[.string x.name,v1,v2,v3]/\ksb x.name/\Ints S w v1 x.inputs/\Sys S w v2 x.symbols/\Rus S w v3 x.rules
def LaV (S:Nat->Prop) (w:World) (v:Value) (x:La):Prop:=∃ cs:List Value,v = .agg cs.toArray/\kab2 S w cs x
end
def keyL (r:Int) (xs:List Int):List UInt8:=Lib.itoa r++xs.flatMap fun a=>32::Lib.itoa a
theorem k9l {r:Int} (r0 : -9223372036854775808<=r) (r1:r<=9223372036854775807):∀ {xs:List Int},(∀ x∈xs,kgm x)->(keyL r xs).length<=21+22*xs.length:=by
 intro xs h;have hr:=Lib.itoa_length_le r r0 r1;have:∀ l:List Int,(∀ x∈l,kgm x)->(l.flatMap fun a=>(32:UInt8)::Lib.itoa a).length<=22*l.length:=by
  intro l
  induction l with
  | nil=>intro _;simp
  | cons a l ih=>
   intro h;have ha:=h a (qn ..);have h1:=Lib.itoa_length_le a ha.1 ha.2;have b:=ih fun x c=>h x (qj _ c);simp only [List.flatMap_cons,qag,qbd] at b ⊢;omega
 have:=this xs h;simp only [keyL,qag];omega
theorem k64 (r:Int) {xs:List Int} {k:Nat} (hk:k<xs.length):keyL r (xs.take (k+1))=keyL r (xs.take k)++32::Lib.itoa xs[k]:=by simp only [keyL,qac hk,List.flatMap_append,List.flatMap_cons,List.flatMap_nil,qbw,qa8]
theorem k3f (u:Nat):0<(Lib.decDigits u).length:=by rw [Lib.decDigits];split <;> simp
theorem kad9 (n:Int):0<(Lib.itoa n).length:=by
 unfold Lib.itoa;split;simp
 ·exact k3f _
theorem k91:(Tryz.prog.info? 5).map (fun i=>(i.zero,i.size,i.bytes))=some (some (.int .u8 0),1,1):=by kernel_rfl
theorem kacq {S:Nat->Prop} {w:World} {v:Value} {xs:List Int} (h:Ints S w v xs):∀ x∈xs,kgm x:=fun x a=>by obtain ⟨k,hk,rfl⟩:=List.getElem_of_mem a;obtain ⟨A,cap,rfl,_,_⟩:=RepSl.shape h;obtain ⟨b,o,cs,_,_,_,_,h1⟩:=RepSl.get h hk;exact h1.2
set_option maxHeartbeats 6400000 in
set_option maxRecDepth 100000 in
theorem kadq (r : Int) (xs : List Int) (sv : Value) (w : World) (hs : Ints Any w sv xs) (r0 : -9223372036854775808 <= r) (r1 : r <= 9223372036854775807) (hn : xs.length <= 1000000) (htab : Lib.TabIs Tryz.prog w "internal/strconv.uint64pow10" .u64 Lib.pow10Tab) :
  Calls Tryz.prog 133 #[.int .i64 r,sv] w fun e w'=>e = .returned (.string ⟨(keyL r xs).toArray⟩)/\Below w.heap.size w w':=by
 obtain ⟨i0,hi,hz0,hz1,hz2⟩:=info_parts k91;have HT:=Lib.hid (Lib.tabBelow_of_tabIs htab);have HX:=Lib.hid (kacq hs);have HS:=Lib.hid ((Ints.bound hs).mono (S':=Lt w.heap.size) fun b hb=>hb.2);obtain ⟨A,cap,rfl,hc1,hc2⟩:=RepSl.shape hs;clear hs htab
 go_enter Tryz.func133,Tryz.ntmps133
 go_wp2_with (go_at_call 189;refine (kle w.heap.size 0 r r0 r1 (.slice none 0 0) [] w (World.ownsRow_nil _ _ _ _) (qx _) HT.out).mono ?_;rintro e w1 ⟨v1,rfl,hown1,hnx1,-⟩;refine Hid.out ?_)
 refine Lib.hid ?_;rw [Nat.zero_add,List.nil_append] at hown1;have HO1:=Lib.hid hown1;have HN1:=Lib.hid hnx1;clear hown1 hnx1
 go_wp2_with fail
 go_loopw [5,12] (fun v i wr=>∃ k:Nat,k<=xs.length/\i = .int .i64 k/\Hid (wr.ownsRow w.heap.size 5 1 v (keyL r (xs.take k)).length (Lib.byteCells (keyL r (xs.take k))))/\Hid (Below w.heap.size w wr)) (fun _ i _=>xs.length - (intOf i).toNat)
 case atStart=>exact ⟨0,by omega,by simp,Lib.hid (by simpa [keyL] using HO1.out),Lib.hid HN1.out⟩
 case round=>
  obtain ⟨k,hk,rfl,HO,HB⟩:=hrel;have hz:w.heap.size<=wr.heap.size:=HB.out.size;by_cases hlt:k<xs.length
  ·obtain ⟨A',cap',hv,_,_,hg⟩:=Ints.form (HS.out.keep (Same.of_below HB.out fun b hb=>hb));injection hv with hv1 hv2 hv3;subst hv1 hv3;obtain ⟨⟨x0,x1⟩,b,o,rfl,hbl,hcell⟩:=hg k hlt;have HL:=Lib.hid (k9l r0 r1 (xs:=xs.take k) fun x hx=>HX.out x (qa7 hx));have HK:=Lib.hid (k64 r hlt);clear hg hv2;have hlen:(keyL r (xs.take k)).length<=22000021:=by have:=HL.out;rw [qai] at this;omega
   go_wp2_with (at_builtin;refine wpList_append_own _ rfl _ _ 212 rfl w.heap.size 5 i0 (.int .u8 0) 1 1 Tryz.underlying212 hi hz0 hz1 hz2 rfl (by decide) _ _ _ rfl (HO.out.alloc _) ⟨wr.heap.size,0,none⟩ 1 1 [Value.int .u8 32] rfl rfl (by intro j u' hj;match j,hj with | 0,hj=>simp at hj;subst hj;simp [Addr.add]) (by intro u' hu'; simp at hu'; subst hu'; rfl) (by unfold maxLen;omega) (by omega) (by simp;omega) ?_)
   intro v2 w2 hown2 hgrow _;have HN2:=Lib.hid ((HB.out.alloc hz _).grown hgrow (by simp;omega) (fun k hk=>(HO.out.lt k hk).1));have HO2:=Lib.hid hown2;clear hown2 hgrow
   go_wp2_with (go_at_call 189;refine (kle w.heap.size _ _ x0 x1 v2 _ w2 HO2.out (by have:=HN2.out.size;omega) (HT.out.on HN2.out)).mono ?_;rintro e w3 ⟨v3,rfl,hown3,hnx3,-⟩;refine Hid.out ?_)
   refine Lib.hid ?_;have HO3:=Lib.hid hown3;have HN3:=Lib.hid hnx3;clear hown3 hnx3
   go_wp2_with fail
   go_roundw
   case rel=>
    refine ⟨k+1,by omega,by go_num,Lib.hid ?_,Lib.hid (HN2.out.trans HN3.out)⟩;have h:=HO3.out;have e1:Lib.byteCells (keyL r (xs.take k))++[Value.int .u8 32]++Lib.byteCells (Lib.itoa xs[k])=Lib.byteCells (keyL r (xs.take (k+1))):=(by rw [HK.out];simp [Lib.byteCells]);have e2:(keyL r (xs.take k)).length+1+(Lib.itoa xs[k]).length=(keyL r (xs.take (k+1))).length:=(by rw [HK.out];simp;omega);rw [e1,e2] at h;exact h
   case measure=>simp [intOf];omega
  ·have h0:k=xs.length:=(by omega);subst h0;have HO':=HO.out;rw [qal] at HO';obtain ⟨l,hl⟩:∃ l,l=keyL r xs:=⟨_,rfl⟩;rw [<- hl] at HO';have HL:=Lib.hid hl;clear hl HO;have HO:=Lib.hid HO';clear HO';have hpos:0<l.length:=(by rw [HL.out,keyL,qag];have:=kad9 r;omega);rcases HO.out.2 with ⟨-,h0⟩ | ⟨g,cap,cur,rfl,-,-,-,-,-,-⟩;omega
   ·have hcv:=run_convert_bytes_back (P:=Tryz.prog) wr 212 9 5 ⟨g,0,none⟩ cap l Tryz.underlying212 Tryz.underlying5 Tryz.underlying9 (fun j hj=>HO.out.cells (g:=g) rfl j _ (by simp [Lib.byteCells,hj]))
    go_wp2
    go_ret
    have hl:=HL.out;subst hl;exact ⟨rfl,HB.out⟩
inductive Tm where
 | mk (rule:Int) (args:List Tm)
namespace Tm
def rule:Tm->Int | mk r _=>r
def args:Tm->List Tm | mk _ l=>l
theorem ind {P:Tm->Prop} (h:∀ r l,(∀ t∈l,P t)->P (mk r l)) (t:Tm):P t:=
 Tm.rec (motive_1:=P) (motive_2:=fun l=>∀ t∈l,P t) (fun r l ih=>h r l ih) (fun _ h=>nomatch h)
  (fun t l h1 a x b=>(qam.1 b).elim (fun e=>e ▸ h1) (a x)) t
mutual
def size:Tm->Nat
 | mk _ l=>sizeL l+1
def sizeL:List Tm->Nat
 | []=>0
 | t::l=>t.size+sizeL l
end
mutual
def depth:Tm->Nat
 | mk _ l=>depthL l+1
def depthL:List Tm->Nat
 | []=>0
 | t::l=>max t.depth (depthL l)
end
mutual
def pre (g:Tm->Int):Tm->List Int
 | mk r l=>g (mk r l)::preL g l
def preL (g:Tm->Int):List Tm->List Int
 | []=>[]
 | t::l=>t.pre g++preL g l
end
def nargs (t:Tm):Int:=(t.args.length:Int)
def rules (t:Tm):List Int:=t.pre rule
def arities (t:Tm):List Int:=t.pre nargs
theorem sizeL_snoc (l:List Tm) (t:Tm):sizeL (l++[t])=sizeL l+t.size:=by
 induction l with
 | nil=>simp [sizeL]
 | cons x l ih=>simp only [qbp,sizeL,ih];omega
theorem depthL_snoc (l:List Tm) (t:Tm):depthL (l++[t])=max (depthL l) t.depth:=by
 induction l with
 | nil=>simp [depthL]
 | cons x l ih=>simp only [qbp,depthL,ih];omega
theorem size_pos (t:Tm):1<=t.size:=by cases t;simp [size]
theorem sizeL_mem {l:List Tm} {t:Tm} (h:t∈l):t.size<=sizeL l:=by
 induction l with
 | nil=>cases h
 | cons x l ih=>
  simp only [sizeL];rcases qam.1 h with rfl | h;omega
  ·have:=ih h;omega
theorem pre_length (g:Tm->Int) (t:Tm):(t.pre g).length=t.size:=by
 induction t using Tm.ind with
 | h r l ih=>
  simp only [pre,size,qbd];have:∀ m:List Tm,(∀ t∈m,(t.pre g).length=t.size)->(preL g m).length=sizeL m:=fun m=>by
   induction m with
   | nil=>simp [preL,sizeL]
   | cons x m ihm=>
    intro h;simp only [preL,sizeL,qag];rw [h x (by simp),ihm fun t ht=>h t (by simp [ht])]
  rw [this l ih]
theorem rules_length (t:Tm):t.rules.length=t.size:=pre_length _ t
theorem arities_length (t:Tm):t.arities.length=t.size:=pre_length _ t
end Tm
variable {S S':Nat->Prop} {w w':World}
inductive RepTm (S:Nat->Prop) (w:World):List Value->Tm->Prop where
 | mk (r:Int) (kids:List Tm) (A:Option Addr) (cap:Nat) (css:Nat->List Value) (hr:kgm r) (hc:kids.length<=cap) (hm:cap<=9223372036854775807)
  (hA:∀ (i:Nat) (x:Tm),kids[i]?=some x->∃ b o,A=some ⟨b,o,none⟩/\S b/\At w b (o+i*2) (css i))
  (hk:∀ (i:Nat) (x:Tm),kids[i]?=some x->RepTm S w (css i) x):RepTm S w [.int .i64 r, .slice A kids.length cap] (.mk r kids)
abbrev Tms (S:Nat->Prop) (w:World) (v:Value) (l:List Tm):Prop:=RepSl S w 2 (RepTm S w) v l
theorem RepTm.len {cs:List Value} {t:Tm} (h:RepTm S w cs t):cs.length=2:=by cases h;rfl
theorem RepTm.form {cs:List Value} {r:Int} {l:List Tm} (h:RepTm S w cs (.mk r l)):∃ s,cs=[.int .i64 r,s]/\kgm r/\Tms S w s l:=by
 cases h with
 | mk _ _ A cap css hr hc hm hA hk=>
  refine ⟨_,rfl,hr,A,cap,rfl,hc,hm,fun i x a=>?_⟩;obtain ⟨b,o,h1,c,d⟩:=hA i x a;exact ⟨b,o,css i,h1,c,d,(hk i x a).len,hk i x a⟩
theorem RepTm.of {s:Value} {r:Int} {l:List Tm} (hr:kgm r) (h:Tms S w s l):RepTm S w [.int .i64 r,s] (.mk r l):=by
 obtain ⟨A,cap,rfl,hc,hm,c⟩:=h;have:∀ i:Nat,∃ cs:List Value,∀ x:Tm,l[i]?=some x->(∃ b o,A=some ⟨b,o,none⟩/\S b/\At w b (o+i*2) cs)/\RepTm S w cs x:=fun i=>by
  cases hi:l[i]? with
  | none=>exact ⟨[],fun x h=>by cases h⟩
  | some x=>
   obtain ⟨b,o,cs,h1,d,e,_,f⟩:=c i x hi;exact ⟨cs,fun y hy=>by cases hy;exact ⟨⟨b,o,h1,d,e⟩,f⟩⟩
 obtain ⟨css,a⟩:=Classical.axiomOfChoice this;exact .mk r l A cap css hr hc hm (fun i x hi=>(a i x hi).1) (fun i x hi=>(a i x hi).2)
mutual
def eVaR:Va->FV
 | .mk t n s l => .agg [eI t,eI n,eS s, .lst 4 l.length (ksp l)]
def ksp:List Va->List FV
 | []=>[]
 | x::l=>eVaR x::ksp l
end
def eVa (x:Va):FV := .agg [eI x.type,eI x.num,eS x.text,eL 4 eVaR x.items]
theorem kwd:∀ l:List Va,ksp l=l.map eVaR
 | []=>by simp [ksp]
 | x::l=>by simp [ksp,kwd l]
theorem k4r (x:Va):eVaR x=eVa x:=by cases x;simp [eVaR,eVa,kwd,eL,Va.type,Va.num,Va.text,Va.items]
theorem k6c (x:Va):(eVaR x).cells=(eVa x).cells:=by rw [k4r]
theorem k9q (x:Va):(eVaR x).cells.length=4:=by rw [k4r];rfl
mutual
def eTmR:Tm->FV
 | .mk r l => .agg [eI r, .lst 2 l.length (ks0 l)]
def ks0:List Tm->List FV
 | []=>[]
 | x::l=>eTmR x::ks0 l
end
def eTm (x:Tm):FV := .agg [eI x.rule,eL 2 eTmR x.args]
theorem kv6:∀ l:List Tm,ks0 l=l.map eTmR
 | []=>by simp [ks0]
 | x::l=>by simp [ks0,kv6 l]
theorem kmh (x:Tm):eTmR x=eTm x:=by cases x;simp [eTmR,eTm,kv6,eL,Tm.rule,Tm.args]
theorem k5e (x:Tm):(eTmR x).cells=(eTm x).cells:=by rw [kmh]
theorem k96 (x:Tm):(eTmR x).cells.length=2:=by rw [kmh];rfl
def eSy (x:Sy):FV := .agg [eS x.name,eI x.type]
def eRu (x:Ru):FV := .agg [eI x.symbol,eI x.kind,eI x.input,eI x.const.type,eI x.const.num,eS x.const.text,eL 4 eVaR x.const.items,eS x.op,eL 1 eI x.args]
def eLa (x:La):FV := .agg [eS x.name,eL 1 eI x.inputs,eL 2 eSy x.symbols,eL 9 eRu x.rules]
open Go Go.RowKit Go.ChangeShapes Go.WideShapes Go.ChangeAt Go.ChangeMaps
section
variable {T:Type} {P:Program} {H:Type} {enc:TypeId×Value->H} {w:World} {base:Nat} {spare:Nat->Bool} {held:Bool}
theorem ks4 {R:List Value->T->Prop} (ec:T->FV) (size:Nat) {v:Value} {xs:List T} (h:RepSl Any w size R v xs) (f:∀ cs x,x∈xs->R cs x->(ec x).cells.length=size/\(∀ y∈(ec x).cells,y.single=true)/\∀ (j:Nat) (u:Value) (y:FV),cs[j]?=some u->(ec x).cells[j]?=some y->RF Any w u y) (g:0<size:=by omega):RF Any w v (eL size ec xs):=by
 obtain ⟨A,cap,rfl,h1,k,l⟩:=h;have e:∀ i:Nat,∃ cs:List Value,∀ x,xs[i]?=some x->∃ b o,A=some ⟨b,o,none⟩/\At w b (o+i*size) cs/\cs.length=size/\R cs x:=fun i=>by
  cases d:xs[i]? with
  | none=>exact ⟨[],fun x h=>by cases h⟩
  | some x=>
   obtain ⟨b,o,cs,e1,_,e2,e3,e4⟩:=l i x d;exact ⟨cs,fun y hy=>by injection hy with hy;subst hy;exact ⟨b,o,e1,e2,e3,e4⟩⟩
 obtain ⟨css,c⟩:=Classical.axiomOfChoice e;refine .lst css (by simp) h1 k g (fun i x d=>?_) (fun i x d=>?_) fun i x j v y d hv hy=>?_;simp only [qr,qu] at d;obtain ⟨z,a,rfl⟩:=d;obtain ⟨b,o,e1,e2,_⟩:=c i z a;exact ⟨b,o,e1,trivial,e2⟩;simp only [qr,qu] at d;obtain ⟨z,a,rfl⟩:=d;obtain ⟨b,o,e1,e2,e3,e4⟩:=c i z a;obtain ⟨g1,g2,_⟩:=f _ z (qo a) e4;exact ⟨e3,g1,g2⟩
 ·simp only [qr,qu] at d;obtain ⟨z,a,rfl⟩:=d;obtain ⟨b,o,e1,e2,e3,e4⟩:=c i z a;exact (f _ z (qo a) e4).2.2 j v y hv hy
theorem kafo {x:Value} {cs:List Value} (a:cs=[x]) (b:x.oneCell'=true):(FV.atom x).cells.length=1/\(∀ y∈(FV.atom x).cells,y.single=true)/\∀ (j:Nat) (u:Value) (y:FV),cs[j]?=some u->(FV.atom x).cells[j]?=some y->RF Any w u y:=by
 subst a;refine ⟨rfl,fun y hy=>?_,fun j u y hu hy=>?_⟩;simp [FV.cells] at hy;subst hy;exact b
 ·cases j with
  | zero=>
   simp [FV.cells] at hu hy;subst hu hy;exact .atom b
  | succ j=>simp at hu
theorem in_sl (R:List Value->T->Prop) (ec:T->FV) (size:Nat) {r:Reach} {b0:Nat} {t e:TypeId} {v:Value} {d:DataW H} {p:List MemPlace} (ht:P.underlying t=some (.slice e)) (hC:P.cellsOf e=size) (k:0<size) (hv:Value.okWide P w r b0 t v) (h:DataW.Trod enc P w base spare held t v d p) (f:∀ n cs' y,DataW.trod enc P w base spare held n e cs'=some y->∃ z,R cs' z) (l:∀ cs x,R cs x->(ec x).cells.length=size/\(∀ y∈(ec x).cells,y.single=true)/\∀ (j:Nat) (u:Value) (y:FV),cs[j]?=some u->(ec x).cells[j]?=some y->RF Any w u y):
  ∃ xs:List T,RF Any w v (eL size ec xs)/\xs.length<=9223372036854775807/\∀ x∈xs,∃ cs,R cs x:=by
 obtain ⟨a,len,cap,rfl⟩:=okWide_slice ht hv;obtain ⟨fuel,hf⟩:=h;obtain ⟨v',xs,hc,c⟩:=kpd R _ ht hC hf (fun n cs' y _ hy=>f n cs' y hy) (d:=k);have:v' = .slice a len cap:=by simpa [Value.cells] using hc.symm
 subst this;refine ⟨xs,ks4 _ _ c (fun cs x _ g=>l cs x g) (g:=k),?_,fun x g=>?_⟩;obtain ⟨A,cap',h0,h1,m,_⟩:=c;omega
 ·obtain ⟨A,cap',h0,h1,m,q⟩:=c;obtain ⟨i,hi⟩:=qap.1 g;obtain ⟨b,o,cs,_,_,_,_,s⟩:=q i x hi;exact ⟨cs,s⟩
end
def ior (k:IntKind) (a b:Int):Int:=k.wrap (BitVec.ofInt k.bits a ||| BitVec.ofInt k.bits b).toNat
def imin (a b:Int):Int:=if b<a then b else a
def imax (a b:Int):Int:=if a<b then b else a
def quo (k:IntKind) (a b:Int):Option Int:=if b=0 then none else some (k.wrap (a.tdiv b))
def rem (k:IntKind) (a b:Int):Option Int:=if b=0 then none else some (a.tmod b)
def cutS (s:BA) (lo hi:Int):Option BA:=if 0<=lo/\lo<=hi/\hi<=(s.size:Int) then some (s.extract lo.toNat hi.toNat) else none
def cutL {α:Type} (xs:List α) (lo hi:Int):Option (List α):=if 0<=lo/\lo<=hi/\hi<=(xs.length:Int) then some ((xs.take hi.toNat).drop lo.toNat) else none
variable {P:Program} {F S0:Nat->Prop} {N0:Nat} {ψ:Env} {K:Nat->Prop} {T:List (TypeId×TD)} {o:Oper} {a:Act} {st:St} {t:TypeId} {d:TD}
theorem kabt {x y:Operand} {ts:Array TypeId} {k k':IntKind} {m n:Int} (ho:o.op = .call { callee := .builtin .min,args:=#[x,y],argTypes:=ts }) (c:st.eval x = .fz (.atom (.int k m))) (hy:st.eval y = .fz (.atom (.int k' n))):NStep P o st (.fz (.atom (.int k (imin m n)))):=by intro ψ S a w ht _;have h1:=Sim.eval_tmps ht x;rw [c] at h1;have b:=Sim.eval_tmps ht y;rw [hy] at b;refine kaf w (.int k (imin m n)) ?_ ⟨kag _, .fz (.atom rfl)⟩;simp [execOp,ho,resolve,invoke,builtin,h1.atom,b.atom,Builtin.min_,Builtin.min2,imin]
theorem kab0 {x y:Operand} {ts:Array TypeId} {k k':IntKind} {m n:Int} (ho:o.op = .call { callee := .builtin .max,args:=#[x,y],argTypes:=ts }) (c:st.eval x = .fz (.atom (.int k m))) (hy:st.eval y = .fz (.atom (.int k' n))):NStep P o st (.fz (.atom (.int k (imax m n)))):=by intro ψ S a w ht _;have h1:=Sim.eval_tmps ht x;rw [c] at h1;have b:=Sim.eval_tmps ht y;rw [hy] at b;refine kaf w (.int k (imax m n)) ?_ ⟨kag _, .fz (.atom rfl)⟩;simp [execOp,ho,resolve,invoke,builtin,h1.atom,b.atom,Builtin.max_,Builtin.max2,imax]
def kpx (st:St):Option Operand->Option (Option Int)
 | none=>some none
 | some x=>match st.eval x with
  | .fz (.atom (.int _ n))=>some (some n)
  | _=>none
theorem kol {ids:List Nat} (ht:∀ t,RV ψ (·∈ids) S w (a.tmps.getD t undef) (st.get t)) {x:Option Operand} {r:Option Int} (h:kpx st x=some r):(x=none/\r=none)\/∃ y k n,x=some y/\r=some n/\a.eval y = .int k n:=by
 unfold kpx at h;split at h;injection h with h;exact .inl ⟨rfl,h.symm⟩
 ·rename_i y;split at h;rename_i k n hk;injection h with h;have h1:=Sim.eval_tmps ht y;rw [hk] at h1;exact .inr ⟨y,k,n,rfl,h.symm,h1.atom⟩
  ·cases h
theorem k7a (x:Operand) (lo hi:Option Operand) (l h:Option Int) (s:BA) {r:BA} (hc:cutS s (l.getD 0) (h.getD s.size)=some r) (e:TOk P T) (ho:o.op = .slice t x lo hi none:=by kernel_rfl) (f:kad T t=some d:=by kernel_rfl) (hk:d.kind = .str:=by kernel_rfl) (g:st.eval x = .fz (.atom (.string s)):=by kernel_rfl) (hl:kpx st lo=some l:=by kernel_rfl) (i:kpx st hi=some h:=by kernel_rfl):
  NStep P o st (.fz (.atom (.string r))):=by
 intro ψ S a w ht m;have h1:=Sim.eval_tmps ht x;rw [g] at h1;have bl:=kol ht hl;have bh:=kol ht i;unfold cutS at hc;split at hc
 ·rename_i b;injection hc with hc;subst hc;refine kaf w (.string (s.extract (l.getD 0).toNat (h.getD s.size).toNat)) ?_ ⟨kag _, .fz (.atom rfl)⟩;have hu:=(e.get f).str hk;have e1:(Instr.sliceBounds false s.size s.size (lo.map a.eval) (hi.map a.eval) none).run P w = .ok ((l.getD 0).toNat,(h.getD s.size).toNat,s.size) w:=by
   unfold Instr.sliceBounds;rcases bh with ⟨rfl,rfl⟩ | ⟨y,k,n,rfl,rfl,hy⟩
   ·rcases bl with ⟨rfl,rfl⟩ | ⟨y',k',n',rfl,rfl,c⟩;simp
    ·simp only [qah,Option.getD_none] at b ⊢;simp [Instr.sliceBound,c,asIntOf,b.1,b.2.1]
   ·rcases bl with ⟨rfl,rfl⟩ | ⟨y',k',n',rfl,rfl,c⟩;simp only [qah,Option.getD_none] at b ⊢;simp [Instr.sliceBound,hy,asIntOf,b.2.1,b.2.2]
    ·simp only [qah] at b ⊢;have:0<=n:=(by omega);have j:n'<=(n.toNat:Int):=(by omega);simp [Instr.sliceBound,hy,c,asIntOf,b.1,b.2.2,this,j];intro hc;exfalso;omega
  simp [execOp,ho,Instr.sliceAt,Instr.slice,run_underlying hu,h1.atom,e1]
 ·cases hc
theorem RF.take {v:Value} {size n k:Nat} {A:Option Addr} {cap:Nat} {xs:List FV} (h:RF S w (.slice A n cap) (.lst size n xs)) (lo hi:Nat) (h1:lo<=hi) (f:hi<=n):∃ A',A'=(if cap=lo then A else A.map (·.add (lo*size)))/\RF S w (.slice A' (hi - lo) (cap - lo)) (.lst size (hi - lo) ((xs.take hi).drop lo)):=by
 obtain ⟨A0,cap0,css,hv,hn,hc,hm,hs,ha,hl,hr⟩:=h.lst_inv;injection hv with e1 _ e3;subst e1 e3;have c:(xs.take hi).length=hi:=by rw [qai];omega
 have get:∀ (i:Nat) (x:FV),((xs.take hi).drop lo)[i]?=some x->xs[lo+i]?=some x:=fun i x a=>by
  rw [qao,qaf] at a;split at a;exact a
  ·cases a
 refine ⟨_,rfl, .lst (fun i=>css (lo+i)) (by rw [qa1,c]) (by omega) (by omega) hs (fun i x a=>?_) (fun i x a=>hl _ x (get i x a)) fun i x j v y a hv hy=>hr _ x j v y (get i x a) hv hy⟩;obtain ⟨b,o,hA,hS,d⟩:=ha _ x (get i x a);have e:=(qf.1 (get i x a)).1;refine ⟨b,o+lo*size,?_,hS,by rw [Nat.add_assoc,<- qbg];exact d⟩;rw [ql (by omega),hA];simp only [qax,kcq]
theorem ktx (t:TypeId) (d:TD) {α:Type} (enc:α->FV) (x:Operand) (lo hi:Option Operand) (l h:Option Int) (xs:List α) {r:List α} (size:Nat) (e:TypeId) (de:TD) (hc:cutL xs (l.getD 0) (h.getD xs.length)=some r) (p:TOk P T:=by exact kak) (ho:o.op = .slice t x lo hi none:=by kernel_rfl) (s:kad T t=some d:=by kernel_rfl) (hk:d.kind = .slice e:=by kernel_rfl) (f:kad T e=some de:=by kernel_rfl) (g:de.size=size:=by kernel_rfl) (u:st.eval x = .fz (eL size enc xs):=by kernel_rfl) (hl:kpx st lo=some l:=by kernel_rfl) (z:kpx st hi=some h:=by kernel_rfl):NStep P o st (.fz (eL size enc r)):=by
 intro ψ S a w ht F;have h1:=Sim.eval_tmps ht x;rw [u] at h1;have bl:=kol ht hl;have bh:=kol ht z;unfold cutL at hc;split at hc
 ·rename_i b;injection hc with hc;subst hc;have h1:=h1.inv;obtain ⟨A,cap,css,hv,hn,B,hm,hs,ha,C,hr⟩:=h1.lst_inv;rw [hv] at h1;obtain ⟨A',i,j⟩:=h1.take (v := .nilFunc) (k:=0) (l.getD 0).toNat (h.getD xs.length).toNat (by omega) (by omega);refine kaf w (.slice A' ((h.getD xs.length).toNat - (l.getD 0).toNat) (cap - (l.getD 0).toNat)) ?_ ⟨kag _,(RV.fz ?_).here⟩
  ·have hu:=(p.get s).slice hk;have e1:(Instr.sliceBounds true xs.length cap (lo.map a.eval) (hi.map a.eval) none).run P w = .ok ((l.getD 0).toNat,(h.getD xs.length).toNat,cap) w:=by
    unfold Instr.sliceBounds;have q:(xs.length:Int)<=(cap:Int):=(by omega);rcases bh with ⟨rfl,rfl⟩ | ⟨y,k,n,rfl,rfl,hy⟩
    ·rcases bl with ⟨rfl,rfl⟩ | ⟨y',k',n',rfl,rfl,c⟩;simp
     ·simp only [qah,Option.getD_none] at b ⊢;simp [Instr.sliceBound,c,asIntOf,b.1,b.2.1]
    ·rcases bl with ⟨rfl,rfl⟩ | ⟨y',k',n',rfl,rfl,c⟩;simp only [qah,Option.getD_none] at b ⊢;have:n<=(cap:Int):=(by omega);simp [Instr.sliceBound,hy,asIntOf,b.2.1,this]
     ·simp only [qah] at b ⊢;have:0<=n:=(by omega);have D:n'<=(n.toNat:Int):=(by omega);have E:n<=(cap:Int):=(by omega);simp [Instr.sliceBound,hy,c,asIntOf,b.1,this,D,E];intro hc;exfalso;omega
   have m:(sizeOf e).run P w = .ok size w:=(by rw [(p.get f).size,g]);simp [execOp,ho,Instr.sliceAt,Instr.slice,run_underlying hu,hv,e1,m,i]
  ·have:((xs.take (h.getD xs.length).toNat).drop (l.getD 0).toNat).length=(h.getD xs.length).toNat - (l.getD 0).toNat:=(by rw [qa1,qai];omega);unfold eL;rw [this,List.map_drop,List.map_take];exact j
 ·cases hc
def zipS:List (Nat×AV)->List AV->List (Nat×AV)
 | (t,_)::l,v::vs=>(t,v)::zipS l vs
 | _,_=>[]
theorem k2t {v:Nat->Value} {K:Nat->Prop}:∀ {l:List (Nat×AV)} {vs:List AV} (t:Nat),(∀ (i:Nat) (k:Nat×AV) (x:AV),l[i]?=some k->vs[i]?=some x->RV ψ K S w (v k.1) x)->RV ψ K S w (v t) (look .any (zipS l vs) t)
 | [],vs,t,h=>by cases vs <;> exact .any
 | (k,y)::l,[],t,h => .any
 | (k,y)::l,x::vs,t,h=>by
  simp only [zipS,kbj];split;rename_i hk;subst hk;exact h 0 _ x rfl rfl
  ·exact k2t t fun i k x hk a=>h (i+1) k x (by simpa using hk) (by simpa using a)
def argT:Nat->List AV->List (Nat×AV)
 | _,[]=>[]
 | i,x::l=>(i,x)::argT (i+1) l
theorem kpj:∀ (l:List AV) (i t:Nat),look .any (argT i l) t = .any\/∃ x,i<=t/\l[t - i]?=some x/\look .any (argT i l) t=x
 | [],i,t => .inl rfl
 | x::l,i,t=>by
  simp only [argT,kbj];by_cases h:i=t;subst h;exact .inr ⟨x,qx _,by simp,by simp⟩
  ·rw [ql h];rcases kpj l (i+1) t with h1 | ⟨y,h1,a,b⟩;exact .inl h1
   ·exact .inr ⟨y,by omega,by rw [show t - i=(t - (i+1))+1 by omega];simpa using a,b⟩
def inlQ (P:Program) (ops:Array Oper) (l:List Oper) (dst:Option Nat) (n:Nat) (D:List Deferred) (g:Nat) (cs:List Value) (keep:List (Nat×AV)) (rs:List ResultVar) (Q:Exit->St->Prop):Exit->St->Prop:=fun e st'=>
 (e = .normal\/e = .ret)/\st'.dfr=[]/\∃ vs r,kaa st'.heap g=some (.gho cs vs)/\((rs=[]/\r = .any)\/∃ z,rs=[.tmp z]/\st'.get z=r) /\
  awpL P ops l (({ n:=n,tmps:=zipS keep vs,heap:=kdz g st'.heap,ids:=st'.ids,dfr:=D }:St).put dst r) Q
theorem kaal {f:FuncId} {fn:Func} {c:Code} {ops:Array Oper} {l:List Oper} {Q:Exit->St->Prop} {x:Operand} {args:Array Operand} {ts:Array TypeId} {cap:List AV} {n g:Nat} {as_:List AV} (ho:o.op = .call { callee := .value x,args:=args,argTypes:=ts })
  (G : st.eval x = .fn f cap) (hg : kb2 ops st o = some true) (hd : ∀ t, o.dst = some t -> t < st.n) (hf : P.funcs[f]? = some fn) (R : fn.body = some c) (hn : (fn.name == "runtime.NumGoroutine") = false) (T : fn.ntmps = n) (has : args.toList.map st.eval ++ cap = as_) (H : Nat.ble as_.length n = true) (j : st.ids.contains g = false)
  (h:∀ cs,awp P c { n:=n,tmps:=argT 0 as_,heap:=(g, .gho cs (st.tmps.map fun p=>st.get p.1))::st.heap,ids:=g::st.ids } (inlQ P ops l o.dst st.n st.dfr g cs st.tmps fn.results.toList Q)):
  awpL P ops (o::l) st Q:=by
 have H:=qt H;have j:g∉st.ids:=by simpa using j
 intro F S0 N0 ψ S a w hs;unfold wpList;rw [kiy hs hg];refine .inl ?_;have A:=hs.eval x;rw [G] at A;obtain ⟨caps,hcx,U,V⟩:∃ caps:Array Value,a.eval x = .func (.func f) #[] caps/\caps.size=cap.length/\∀ (i:Nat) (v:Value) (y:AV),caps[i]?=some v->cap[i]?=some y->RV ψ (·∈st.ids) S w v y:=by
  generalize a.eval x=u at A;cases A with
  | fn h hr=>exact ⟨_,rfl,h,hr⟩
 have X:fn.body≠none:=by rw [R];simp
 simp only [qa2,ne_eq] at hn;have I:(execOp a.eval o).run P w = .ok (.enter f (args.map a.eval++caps)) w:=by simp [execOp,ho,resolve,hcx,Deferred.ofValue,invoke,callFunc,hf,X,hn]
 unfold Oper.wp;rw [I];show Calls P f (args.map a.eval++caps) w _;refine calls_of_wp hf R ?_
 -- the values of the caller's frame
 have B:=hs.core.add (n:=0) (v := .nilFunc) (w':=w) (ob := .gho (st.tmps.map fun p=>a.tmps.getD p.1 undef) (st.tmps.map fun p=>st.get p.1)) (kag _) j (fun b R=>by cases R)
  ⟨kct _ _,by rw [kav];rfl,by rw [kav];rfl,fun i v x hv G=>by simp only [qr,qu] at hv G;obtain ⟨p,hp,rfl⟩:=hv;obtain ⟨q,s,rfl⟩:=G;rw [hp] at s;injection s with s;subst s;exact (hs.tmps p.1).keep (kdw j _ _) (fun _ h=>qj _ h) (fun _ h=>h) (fun _ _ _=>rfl)⟩
 have J:(args.map a.eval++caps).size=as_.length:=by rw [<- has];simp [U]
 have K:∀ (i:Nat) (v:Value) (y:AV),(args.map a.eval++caps)[i]?=some v->as_[i]?=some y->RV ψ (·∈st.ids) S w v y:=fun i v y hv hy=>by
  rw [<- has] at hy;by_cases hi:i<args.size;rw [qbq (by simpa using hi)] at hv;rw [qy (by simpa using hi)] at hy;simp only [Array.getElem?_map,qu,qr,qa4] at hv hy;obtain ⟨p,hp,rfl⟩:=hv;obtain ⟨q,s,rfl⟩:=hy;rw [hp] at s;injection s with s;subst s;exact hs.eval p
  ·rw [Array.getElem?_append_right (by simpa using hi)] at hv;rw [qak (by simpa using hi)] at hy;exact V _ v y (by simpa using hv) (by simpa using hy)
 have L:Sim F S0 N0 { n:=n,tmps:=argT 0 as_,heap:=(g, .gho (st.tmps.map fun p=>a.tmps.getD p.1 undef) (st.tmps.map fun p=>st.get p.1))::st.heap,ids:=g::st.ids } (ψ.set g 0 .nilFunc) S
   { tmps:=(args.map a.eval++caps)++Array.replicate (fn.ntmps - (args.map a.eval++caps).size) undef,defers:=[] } w:=by
  refine ⟨rfl,by rw [Array.size_append,J,Array.size_replicate,T];show _=n;omega,fun t=>?_,B⟩;show RV _ _ _ w _ (look .any (argT 0 as_) t);rcases kpj as_ 0 t with h | ⟨y,_,h1,m⟩;rw [h];exact .any
  ·rw [m];have h1:as_[t]?=some y:=(by simpa using h1);have C:t<(args.map a.eval++caps).size:=(by rw [J];exact (qf.1 h1).1);have Y:((args.map a.eval++caps)++Array.replicate (fn.ntmps - (args.map a.eval++caps).size) undef).getD t undef=(args.map a.eval++caps)[t]:=(by rw [qa5,qbq C,qby C];rfl);rw [Y];exact (K t _ y (qby C) h1).keep (kdw j _ _) (fun _ h=>qj _ h) (fun _ h=>h) (fun _ _ _=>rfl)
 refine wp_mono (h _ F S0 N0 _ S _ w L) ?_;rintro e a' w' ⟨st',ψ',S',⟨he,Z,vs,r,aa,ab,D⟩,m,h3⟩;have fin:a'.defers=[]/\∃ v,(results fn a'.tmps).run P w' = .ok v w'/\wpList P ops (PostA F S0 N0 w Q) l (a.put o.dst v) w':=by
  refine ⟨m.defers.trans Z,?_⟩;have M:∃ v,(results fn a'.tmps).run P w' = .ok v w'/\RV ψ' (·∈st'.ids) S' w' v r:=by
   rcases ab with ⟨hz,rfl⟩ | ⟨z,hz,ac⟩;refine ⟨.tuple #[],?_, .any⟩;have:fn.results=#[]:=(by apply qbs;simpa using hz);simp [results,this]
   ·refine ⟨a'.tmps.getD z undef,?_,by rw [<- ac];exact m.tmps z⟩;have:fn.results=#[.tmp z]:=(by apply qbs;simpa using hz);simp [results,this]
  obtain ⟨v,ad,ae⟩:=M;refine ⟨v,ad,?_⟩;obtain ⟨_,⟨_,_,_,af⟩,_⟩:=m.core.obj g _ aa;have N:Core F S0 N0 (kdz g st'.heap) st'.ids ψ' S' w':=by refine ⟨fun i ob ho=>m.core.obj i ob (kh9 g ho).2,fun i i' ob ob' b ho ag=>m.core.inj i i' ob ob' b (kh9 g ho).2 (kh9 g ag).2,m.core.lt,m.core.s0,m.core.n0,m.core.fr⟩
  have E:Sim F S0 N0 { n:=st.n,tmps:=zipS st.tmps vs,heap:=kdz g st'.heap,ids:=st'.ids,dfr:=st.dfr } ψ' S' a w':=by refine ⟨hs.defers,hs.size,fun t=>?_,N⟩;exact k2t (v:=fun t=>a.tmps.getD t undef) t fun i k x hk G=>af i _ x (by rw [qr,hk];rfl) G
  have O:=E.put (st':={ n:=st.n,tmps:=zipS st.tmps vs,heap:=kdz g st'.heap,ids:=st'.ids,dfr:=st.dfr }) (d:=o.dst) rfl rfl rfl N ae Ext.refl (fun _ h=>h) (fun _ h=>h) (fun _ _ _=>rfl) hd;exact kcu (fun e a'' w'' k=>k.pre h3) _ _ _ (D F S0 N0 ψ' S' _ w' O)
 rcases he with rfl | rfl <;> exact fin
namespace RE
open Go Go.RowKit
structure Tr (M:Nat->Prop) (w w':World):Prop where
 os:w'.os=w.os
 tape:w'.tape=w.tape
 output:w'.output=w.output
 size:w.heap.size<=w'.heap.size
 block:∀ b,b<w.heap.size->¬ M b->w'.heap[b]?=w.heap[b]?
inductive Gd (M:Nat->Prop) where
 | det (c:Value)
 | rel (G:Value->World->Prop) (h:∀ v w w',G v w->Tr M w w'->G v w')
 | relE (G:Value->World->Prop) (h:∀ v w w',G v w->Below w.heap.size w w'->G v w')
def Gd.holds {M:Nat->Prop}:Gd M->Value->World->Prop
 | .det c,v,_=>v=c
 | .rel G _,v,w=>G v w
 | .relE G _,v,w=>G v w
variable {P:Program}
variable {M:Nat->Prop} {e:Nat} {D:World->Prop} {gs:List (Gd M)} {l:List Oper} {xs:Nat->Value} {a0:Act}
structure kae0 {M:Nat->Prop} (e:Nat) (D:World->Prop) (gs:List (Gd M)) (l:List Oper) (C:World->Prop) (a0:Act) (listed:Array Bool) (a:Act) (w:World):Prop where
 inC:C w
 inD:listed.getD e false=false->D w
 defers:a.defers=a0.defers
 size:a.tmps.size=a0.tmps.size
 lsize:listed.size=l.length
 closed:∀ k o,listed.getD k false=true->l[k]?=some o->∀ e∈o.after,Region.binds .any e=true->listed.getD e.on false=true
 vals:∃ xs:Nat->Value,∀ j g,gs[j]?=some g->listed.getD j false=true->g.holds (xs j) w/\∀ o d,l[j]?=some o->o.dst=some d->a.tmps[d]?=some (xs j)
 rest:∀ t,(∀ j o,listed.getD j false=true->l[j]?=some o->o.dst≠some t)->a.tmps[t]?=a0.tmps[t]?
end RE
def kkz (P:Program) (o:Oper) (st:St) (m:Nat) (om:AObj) (c:AV) (om':AObj):Prop:=
 ∀ F S0 N0 ψ S a w,(∀ t,RV ψ (·∈st.ids) S w (a.tmps.getD t undef) (st.get t))->Core F S0 N0 [(m,om)] st.ids ψ S w->keg P o a w fun v w'=>∃ n u,Core F S0 N0 [(m,om')] st.ids (ψ.set m n u) S w'/\RV (ψ.set m n u) (·∈st.ids) S w' v c/\Fr F w w' /\
  (ψ.len m<n\/(ψ.len m=n/\u=ψ.val m))/\(∀ b,Blk u b->Blk (ψ.val m) b\/w.heap.size<=b)
variable {F S0:Nat->Prop} {N0:Nat} {w w':World} {S S':Nat->Prop} {ψ ψ':Env} {K K':Nat->Prop} {o:Oper} {a:Act} {st:St} {T:List (TypeId×TD)} {t:TypeId} {d:TD}
def k63 (st:St) (id n:Nat):List Nat->Prop
 | []=>True
 | t::ts=>st.get t = .row id n/\k63 st id n ts
def k04 (x:AV) (base:List (Nat×AV)):List Nat->List (Nat×AV)
 | []=>base
 | t::ts=>(t,x)::k04 x base ts
theorem krg (id n:Nat) (e:TypeId) (size:Nat) (xs:List FV) (ts:List Nat) (f:k63 st id n ts) (d:kaa st.heap id=some (.frow e size xs):=by kernel_rfl) (hn:n=xs.length:=by simp):
  LeSt st { st with tmps:=k04 (.fz (.lst size n xs)) st.tmps ts,heap:=kdz id st.heap }:=by
 subst hn;intro F S0 N0 ψ S a w hs;obtain ⟨c1,c2⟩:=knt hs.core d;have c:∀ k,RV ψ (·∈st.ids) (fun b=>S b\/ka3 (ψ.val id)=some b) w (a.tmps.getD k undef) (st.get k):=fun k=>(hs.tmps k).mono (fun _ h=>h) fun _ h => .inl h;have h0:=(hs.core.obj id _ d).2.1.1;refine ⟨ψ,_,hs.defers,hs.size,fun k=>?_,c1⟩;show RV ψ (·∈st.ids) _ w (a.tmps.getD k undef) (look .any (k04 (.fz (.lst size xs.length xs)) st.tmps ts) k)
 induction ts with
 | nil=>exact c k
 | cons t ts ih=>
  simp only [k04,kbj];split
  ·rename_i hk;subst hk;have hv:=c t;rw [f.1] at hv;refine .fz ?_;generalize a.tmps.getD t undef=u at hv;cases hv with
   | row hK g h1 hv=>rw [hv (by rw [h0])];exact c2
  ·exact ih f.2
theorem kkx (st':St) (ids:List Nat) (ts:List (Nat×C1)) {c:AV} (hn:NStep P o st' c) (h:coSt st ids ts []=some st':=by kernel_rfl):NStep P o st c:=by
 unfold coSt at h;cases hi:ids.all st.ids.contains with
 | false=>rw [hi] at h;simp at h
 | true=>
  cases h1:kr5 st ids ts with
  | none=>rw [hi,h1] at h;simp at h
  | some r=>
   rw [hi,h1] at h;simp only [kr4,qc] at h;subst h;have d:∀ id,id∈ids->id∈st.ids:=fun id e=>(by simpa using qs.1 hi id e);intro ψ S a w ht g;refine kos ?_ (hn ψ S a w (fun t=>?_) (fun id ob ho=>by cases ho));rintro v w' ⟨k1,k2⟩;exact ⟨k1,k2.mono d fun _ h=>h⟩
   ·show RV ψ (·∈ids) S w _ (look .any r t);rcases ksg t h1 with b | ⟨c',b,f⟩;rw [b];exact .any
    ·rw [b];rw [b] at *
     exact (krs _ (ht t)).sub1 f
theorem ku5 {e:TypeId} {size:Nat} (xs:List FV) {v:Value} {cs:List Value} (d:w.ownsRow 0 e size v xs.length cs) (m:ElR size xs) (hr:RowR S w size xs cs) (f:0<size:=by omega):RF (fun b=>S b\/ka3 v=some b) w v (.lst size xs.length xs):=by
 rcases d.2 with ⟨hv,n⟩ | ⟨g,cap,cur,hv,_,q,o,k,r,p⟩;have:xs=[]:=qaz n;subst this;rw [hv];exact .lst (A:=none) (cap:=0) (xs:=[]) (fun _=>[]) rfl (qx _) (by omega) f (fun i x a=>by simp at a) (fun i x a=>by simp at a) (fun i x j v y a=>by simp at a)
 ·rw [hv];have l:∀ i x,xs[i]?=some x->(i+1)*size<=cs.length:=fun i x a=>by rw [d.1];exact qbk _ (qf.1 a).1
  refine .lst (fun i=>(cs.drop (i*size)).take size) rfl o (by unfold maxLen at k;exact k) f (fun i x a=>⟨g,0,rfl, .inr (by rfl),fun j u hu=>?_⟩) (fun i x a=>?_) fun i x j v y a c hy=>?_
  ·rw [qaf] at hu;split at hu
   ·rw [qao,<- p,qaf] at hu;split at hu;simp only [World.cell?,q,Nat.zero_add];simpa using hu
    ·cases hu
   ·cases hu
  have:=l i x a;rw [qbg] at this;exact ⟨by rw [qai,qa1];omega,m x (qo a)⟩
  ·rw [qaf] at c;split at c;rw [qao] at c;exact (hr i x j v y a c hy).mono fun _ h => .inl h
   ·cases c
theorem k60 (f:FuncId) (fn:Func) (ts:Array TypeId) (X Y:Operand) (s:BA) (c:Int) (ho:o.op = .call { callee := .value (.func f),args:=#[X,Y],argTypes:=ts }) (hf:P.funcs[f]?=some fn) (b: (fn.name == "runtime.NumGoroutine") = false := by kernel_rfl) (e: fn.body.isNone = true := by kernel_rfl) (hn: Extern.findNext fn = none := by kernel_rfl) (g: Extern.find fn = some Extern.BytealgIndexByte.indexByte := by kernel_rfl) (h: st.eval X = .fz (eS s) := by kernel_rfl) (hy: st.eval Y = .fz (eU8 c) := by kernel_rfl): NStep P o st (.fz (eI (Lib.indexByte s.data.toList c.toNat.toUInt8))) := by
 intro ψ S a w ht i;have h1:=Sim.eval_tmps ht X;rw [h] at h1;have h1:=h1.atom;have d:=Sim.eval_tmps ht Y;rw [hy] at d;have d:=d.atom;refine kaf w (.int .i64 (Lib.indexByte s.data.toList c.toNat.toUInt8)) ?_ ⟨kag _, .fz (.atom rfl)⟩;have h0:a.eval (.func f) = .func (.func f) #[] #[]:=rfl;simp [execOp,ho,resolve,h0,Deferred.ofValue,invoke,run_callFunc_extern hf b e hn g,h1,d,Lib.run_indexByteString]
end Go.Proofs.YtchjomeomabamaaGreatDoor
