import Derived.Test.YtpnnpkmjohkgiaaGreatDoorFun
set_option linter.all false
namespace Go.Proofs.YtpnnpkmjohkgiaaGreatDoor
open Go Go.RowKit
def PCall (P:Program) (f:FuncId) (args:List FV) (r:FV):Prop:=
 (∃ fn, P.funcs[f]? = some fn /\ fn.body.isNone = false /\ (fn.name == "runtime.NumGoroutine") = false) /\
 ∀ (S:Nat->Prop) (w:World) (vs:Array Value),vs.size=args.length->(∀ (i:Nat) (v:Value) (x:FV),vs[i]?=some v->args[i]?=some x->RF S w v x) ->
  Calls P f vs w fun e w'=>∃ v,e = .returned v/\RF (fun b=>S b\/w.heap.size<=b) w' v r/\Grow w w'
def k3g (st:St) (c:C1) (x:Operand):Option FV:=match co1 c (st.eval x) with
 | .fz y=>some y
 | _=>none
def klr (st:St):List C1->List Operand->Option (List FV)
 | [],[]=>some []
 | c::cs,x::xs=>match k3g st c x,klr st cs xs with
  | some y,some ys=>some (y::ys)
  | _,_=>none
 | _,_=>none
section
variable {P:Program} {F S0:Nat->Prop} {N0:Nat} {w w':World} {S S':Nat->Prop} {ψ:Env} {K:Nat->Prop} {T:List (TypeId×TD)} {o:Oper} {a:Act} {st:St} {t:TypeId} {d:TD}
theorem ksa {ids:List Nat} (h:∀ t,RV ψ (·∈ids) S w (a.tmps.getD t undef) (st.get t)):∀ {cs:List C1} {xs:List Operand} {ys:List FV},klr st cs xs=some ys ->
  ys.length=xs.length/\∀ (i:Nat) (x:Operand) (y:FV),xs[i]?=some x->ys[i]?=some y->RF S w (a.eval x) y
 | [],[],ys,h=>by simp only [klr,qc] at h;subst h;exact ⟨rfl,fun i x y h=>by simp at h⟩
 | c::cs,x::xs,ys,b=>by
  simp only [klr] at b;split at b
  ·rename_i y ys' h1 e;injection b with b;subst b;obtain ⟨e1,e2⟩:=ksa h e;refine ⟨by simp [e1],fun i x' y' d hy=>?_⟩;cases i with
   | zero=>
    simp at d hy;subst d hy;unfold k3g at h1;have hv:=klw (c:=c) (Sim.eval_tmps h x);split at h1;rename_i z f;injection h1 with h1;subst h1;rw [f] at hv;exact hv.inv
    ·cases h1
   | succ i=>exact e2 i x' y' (by simpa using d) (by simpa using hy)
  ·cases b
 | [],_::_,ys,h=>by cases h
 | _::_,[],ys,h=>by cases h
theorem kzb {f : FuncId} {args : Array Operand} {ts : Array TypeId} (e : o.op = .call { callee := .value (.func f), args := args, argTypes := ts }) (g : ∃ fn, P.funcs[f]? = some fn /\ fn.body.isNone = false /\ (fn.name == "runtime.NumGoroutine") = false) :
  (execOp a.eval o).run P w = .ok (.enter f (args.map a.eval)) w:=by
 obtain ⟨fn,h1,c,d⟩:=g;have b:fn.body≠none:=by intro h;rw [h] at c;cases c
 simp only [qar,ne_eq] at d;simp [execOp,e,resolve,Act.eval,Deferred.ofValue,invoke,callFunc,h1,b,d]
theorem kz8 {f:FuncId} {args:Array Operand} {ts:Array TypeId} {cs:List C1} {ys:List FV} {r:FV} (b:o.op = .call { callee := .value (.func f),args:=args,argTypes:=ts }) (hc:klr st cs args.toList=some ys) (hp:PCall P f ys r):NStep P o st (.fz r):=by
 intro ψ S a w ht g;obtain ⟨e1,e2⟩:=ksa ht hc;unfold kdi;rw [kzb b hp.1];refine (hp.2 S w (args.map a.eval) (by simp [e1]) fun i v x hv c=>?_).mono ?_;simp only [Array.getElem?_map,qr] at hv;obtain ⟨y,hy,rfl⟩:=hv;exact e2 i y x (by simpa using hy) c
 ·rintro e w' ⟨v,rfl,h1,d⟩;exact ⟨v,rfl,d, .fz h1⟩
def resX (T:List (TypeId×TD)) (st:St) (r:ResultVar) (c:C1):Option FV:=match r with
 | .tmp t=>match co1 c (st.get t) with
  | .fz y=>some y
  | _=>none
 | .cell x t=>match kab T t,kh4 st (st.get x) with
  | some d,some xs=>match kht d xs with
   | some z=>match co1 c z with
    | .fz y=>some y
    | _=>none
   | none=>none
  | _,_=>none
def koq (T:List (TypeId×TD)) (st:St):List ResultVar->List C1->Option (List FV)
 | [],[]=>some []
 | r::rs,c::cs=>match resX T st r c,koq T st rs cs with
  | some y,some ys=>some (y::ys)
  | _,_=>none
 | _,_=>none
def kws (T:List (TypeId×TD)) (st:St) (rs:List ResultVar) (cs:List C1):Option FV:=match koq T st rs cs with
 | some [y]=>some y
 | some ys=>some (.tup ys)
 | none=>none
def retX (T:List (TypeId×TD)) (st:St) (rs:List ResultVar) (cs:List C1):Option FV:=match st.dfr with
 | []=>kws T st rs cs
 | _=>none
theorem kud {T:List (TypeId×TD)} {st:St} {rs:List ResultVar} {cs:List C1} {y:FV} (h:retX T st rs cs=some y):st.dfr=[]/\kws T st rs cs=some y:=by
 unfold retX at h;split at h;rename_i a;exact ⟨a,h⟩
 ·cases h
theorem kvv {v:Value} {x:AV} {xs:List AV} {c:AV} (n:TdOk P t d) (hv:RV ψ (·∈st.ids) S w v x) (q:∀ id o,kaa st.heap id=some o->ObR ψ (·∈st.ids) S w id o) (e:kh4 st x=some xs) (hc:kht d xs=some c):
  ∃ ad u,v = .pointer (some ad)/\(loadVar t ad).run P w = .ok u w/\RV ψ (·∈st.ids) S w u c:=by
 obtain ⟨b,off,hv,cs,h,hl,h1,hr⟩:=kmq hv q e;unfold kht at hc;cases hk:d.kind.agg with
 | false=>
  rw [hk] at hc;simp only [qe] at hc;cases xs with
  | nil=>cases hc
  | cons y ys=>
   simp only [List.head?_cons,qc] at hc;subst hc;have k:cs[0]?=some (cs[0]'(by simp at hl;omega)):=qa _;have f:w.cell? ⟨b,off,none⟩=some (cs[0]'(by simp at hl;omega)):=(by simpa using h 0 _ k);exact ⟨_,cs[0]'(by simp at hl;omega),hv,by simp [loadVar,n.isAgg,hk,f],hr 0 _ y k rfl⟩
 | true=>
  rw [hk] at hc;simp only [qd] at hc;cases g:Nat.ble d.size xs.length with
  | false=>rw [g] at hc;cases hc
  | true=>
   rw [g] at hc;simp only [qd,qc] at hc;subst hc;have p:=qn g;have l:(cs.take d.size).length=d.size:=(by rw [qam];omega);have a:=run_loadCells_list (P:=P) w ⟨b,off,none⟩ (cs.take d.size) fun j v m=>by
    rw [qw] at m;split at m;rw [kb2];exact h j v m
    ·cases m
   rw [l] at a;refine ⟨_, .agg (cs.take d.size).toArray,hv,by simp [loadVar,n.isAgg,hk,n.size,a],RV.aggA (by simp [hl]) (fun x e=>h1 x (qa4 e)) fun i v x hv e=>?_⟩;simp only [List.getElem?_toArray] at hv;rw [qw] at hv e;split at hv;rename_i hi;rw [qq hi] at e;exact hr i v x hv e
   ·cases hv
def kfh (tmps:Array Value):ResultVar->Sem Value
 | .tmp t=>pure (tmps.getD t undef)
 | .cell x t=>do loadVar t (<- asAddr (tmps.getD x undef))
theorem kt1 (f:TOk P T) (hs:Sim F S0 N0 st ψ S a w):∀ {rs:List ResultVar} {cs:List C1} {ys:List FV},koq T st rs cs=some ys ->
  ∃ vs:List Value,(rs.mapM (kfh a.tmps)).run P w = .ok vs w/\vs.length=ys.length/\∀ (i:Nat) (v:Value) (y:FV),vs[i]?=some v->ys[i]?=some y->RF S w v y
 | [],[],ys,h=>by simp only [koq,qc] at h;subst h;exact ⟨[],by simp,rfl,fun i v y h=>by simp at h⟩
 | r::rs,c::cs,ys,h=>by
  simp only [koq] at h;split at h
  ·rename_i y ys' h1 g;injection h with h;subst h;obtain ⟨vs,k1,k2,k3⟩:=kt1 f hs g;have key:∃ v,(kfh a.tmps r).run P w = .ok v w/\RF S w v y:=by
    unfold resX at h1;split at h1
    ·rename_i t;have hv:=klw (c:=c) (hs.tmps t);split at h1;rename_i z b;injection h1 with h1;subst h1;rw [b] at hv;exact ⟨_,rfl,hv.inv⟩
     ·cases h1
    ·rename_i x t;split at h1
     ·rename_i d xs j k;split at h1
      ·rename_i z b;obtain ⟨ad,u,e1,e2,e3⟩:=kvv (f.get j) (hs.tmps x) (fun id o l=>(hs.core.obj id o l).2.1) k b;have hv:=klw (c:=c) e3;split at h1;rename_i z' e;injection h1 with h1;subst h1;rw [e] at hv;refine ⟨u,?_,hv.inv⟩;simp only [kfh,e1,asAddr,Sem.run_bind,Sem.run_pure,Result.andThen_ok,e2]
       ·cases h1
      ·cases h1
     ·cases h1
   obtain ⟨v,e1,e2⟩:=key;refine ⟨v::vs,?_,by simp [k2],fun i v' y' hv hy=>?_⟩;rw [List.mapM_cons];simp only [Sem.run_bind,e1,Result.andThen_ok,k1,Sem.run_pure]
   ·cases i with
    | zero=>simp at hv hy;subst hv hy;exact e2
    | succ i=>exact k3 i v' y' (by simpa using hv) (by simpa using hy)
  ·cases h
 | [],_::_,ys,h=>by cases h
 | _::_,[],ys,h=>by cases h
theorem k5l (d:TOk P T) (hs:Sim F S0 N0 st ψ S a w) {fn:Func} {cs:List C1} {y:FV} (h:retX T st fn.results.toList cs=some y):∃ v,(results fn a.tmps).run P w = .ok v w/\RF S w v y:=by
 replace h:=(kud h).2;unfold kws at h;have key:∀ ys,koq T st fn.results.toList cs=some ys->∃ vs:List Value,(results fn a.tmps).run P w = .ok (if h:vs.length=1 then vs[0] else .tuple vs.toArray) w/\vs.length=ys.length/\∀ (i:Nat) (v:Value) (y:FV),vs[i]?=some v->ys[i]?=some y->RF S w v y:=fun ys hy=>by
  obtain ⟨vs,k1,k2,k3⟩:=kt1 d hs hy;refine ⟨vs,?_,k2,k3⟩;unfold results;rw [Array.mapM_eq_mapM_toList];have b:∀ (g:ResultVar->Sem Value),(∀ x,g x=kfh a.tmps x)->(fn.results.toList.mapM g).run P w = .ok vs w:=fun g b=>by rw [show g=kfh a.tmps from funext b];exact k1
  simp only [Sem.run_bind,Sem.run_map];rw [b _ fun x=>by cases x <;> rfl];simp only [Result.andThen_ok,Sem.run_pure];simp
 split at h
 ·rename_i z e;injection h with h;subst h;obtain ⟨vs,k1,k2,k3⟩:=key _ e;have hl:vs.length=1:=by simpa using k2
  rw [dif_pos hl] at k1;exact ⟨_,k1,k3 0 _ _ (qa (by omega)) rfl⟩
 ·rename_i ys c hy;injection h with h;subst h;obtain ⟨vs,k1,k2,k3⟩:=key _ hy;have hl:¬ vs.length=1:=fun hl=>by rw [k2] at hl;obtain ⟨z,rfl⟩:=List.length_eq_one_iff.1 hl;exact c z rfl
  rw [dif_neg hl] at k1;exact ⟨_,k1, .tup (by simpa using k2) fun i v x hv f=>k3 i v x (by simpa using hv) f⟩
 ·cases h
def kjf:Nat->List FV->List (Nat×AV)
 | _,[]=>[]
 | i,x::l=>(i, .fz x)::kjf (i+1) l
def retQ (T:List (TypeId×TD)) (rs:List ResultVar) (cs:List C1) (r:FV):Exit->St->Prop
 | .normal,st=>retX T st rs cs=some r
 | .ret,st=>retX T st rs cs=some r
 | _,_=>False
theorem kqb:∀ (l:List FV) (i t:Nat),(look .any (kjf i l) t = .any)\/∃ x,i<=t/\l[t - i]?=some x/\look .any (kjf i l) t = .fz x
 | [],i,t => .inl rfl
 | x::l,i,t=>by
  simp only [kjf,kbd];by_cases h:i=t;subst h;exact .inr ⟨x,qy _,by simp,by simp⟩
  ·rw [ql h];rcases kqb l (i+1) t with h1 | ⟨y,h1,a,b⟩;exact .inl h1
   ·exact .inr ⟨y,by omega,by rw [show t - i=(t - (i+1))+1 by omega];simpa using a,b⟩
theorem ku1 (s : TOk P T) {f : FuncId} {fn : Func} {c : Code} {args : List FV} {r : FV} (cs : List C1) (q : P.funcs[f]? = some fn) (a : fn.body = some c) (hn : (fn.name == "runtime.NumGoroutine") = false) (i : Nat.ble args.length fn.ntmps = true)
  (h:awp P c { n:=fn.ntmps,tmps:=kjf 0 args,heap:=[],ids:=[] } (retQ T fn.results.toList cs r)):PCall P f args r:=by
 have i:=qn i;refine ⟨⟨fn,q,by rw [a];rfl,hn⟩,fun S w vs hs hr=>calls_of_wp q a ?_⟩;have j:Sim (fun b=>b<w.heap.size) S w.heap.size { n:=fn.ntmps,tmps:=kjf 0 args,heap:=[],ids:=[] } ⟨fun _=>0,fun _=>undef⟩ (fun b=>S b/\b<w.heap.size) { tmps:=vs++Array.replicate (fn.ntmps - vs.size) undef,defers:=[] } w:=by
  refine ⟨rfl,by simp;omega,fun t=>?_,⟨(fun id o p=>nomatch p),(fun id id' o o' b p=>nomatch p),fun b a=>a.2,fun b a => .inl a.1,qy _,fun b a=>a⟩⟩;show RV _ _ _ w _ (look .any (kjf 0 args) t);rcases kqb args 0 t with h | ⟨x,_,h1,l⟩;rw [h];exact .any
  ·rw [l];have d:t<vs.size:=(by rw [hs];have:=(qg.1 h1).1;omega);have:(vs++Array.replicate (fn.ntmps - vs.size) undef).getD t undef=vs[t]:=(by rw [qal,qa8 d];simp [d]);rw [this];exact .fz (hr t _ x (by simp [d]) (by simpa using h1)).bound
 refine wp_mono (h _ _ _ _ _ _ w j) ?_;rintro e a' w' ⟨st',ψ',S',g,l,m⟩;have fin:retX T st' fn.results.toList cs=some r->a'.defers=[]/\∃ v,(results fn a'.tmps).run P w' = .ok v w'/\∃ v',Ending.returned v = .returned v'/\RF (fun b=>S b\/w.heap.size<=b) w' v' r/\Grow w w':=fun g=>by obtain ⟨v,e1,e2⟩:=k5l s l g;exact ⟨l.defers.trans (kud g).1,v,e1,v,rfl,e2.mono l.core.s0,⟨m.os,m.tape,m.output,m.size,fun k hk=>m.block k hk⟩⟩
 cases e with
 | normal=>exact fin g
 | ret=>exact fin g
 | _=>exact g.elim
end
def hadd (fs:List (Nat×Option Nat×AV)) (p:Nat->Bool) (base:List (Nat×AV)):List (Nat×AV):=match fs with
 | []=>base
 | (j,some d,c)::l=>(d,bif p j then c else .any)::hadd l p base
 | (_,none,_)::l=>hadd l p base
def hst (st:St) (fs:List (Nat×Option Nat×AV)) (p:Nat->Bool):St:={ st with tmps:=hadd fs p st.tmps }
section
variable {P:Program} {F S0:Nat->Prop} {N0:Nat} {w w':World} {S S':Nat->Prop} {ψ:Env} {K:Nat->Prop} {o:Oper} {a:Act} {st:St}
theorem kfv {ops:Array Oper} {g:Bool} (hs:∀ t,RV ψ K S w (a.tmps.getD t undef) (st.get t)) (h:kbm ops st o=some g):Region.wanted o (yielded ops a.tmps)=g:=by
 unfold kbm at h;unfold Region.wanted;split at h;rename_i e;rw [e];injection h
 ·rename_i j want e;rw [e];split at h
  ·rename_i t ht;have hv:=hs t;split at h
   ·rename_i b f;rw [f] at hv;injection h with h;subst h;have c:a.tmps.getD t undef = .bool b:=hv.atom;rw [qal] at c;have d:a.tmps[t]?=some (.bool b):=by
     cases d:a.tmps[t]? with
     | none=>rw [d] at c;cases c
     | some u=>rw [d] at c;simp only [qaf] at c;rw [c]
    simp only [yielded,ht,qb,d];cases b <;> cases want <;> rfl
   rename_i xs f;rw [f] at hv;injection h with h;subst h;exact ko1 hv.inv ht
   ·cases h
  ·cases h
theorem kj5 {a:Act} {d:Option Nat} {v:Value} {n t:Nat} (hn:a.tmps.size=n) (c:∀ t,d=some t->t<n):(a.put d v).tmps.getD t undef=if d=some t then v else a.tmps.getD t undef:=by
 cases d with
 | none=>simp [Act.put]
 | some d=>
  have b:=c d rfl;by_cases h:d=t;subst h;simp [Act.put,hn,b]
  ·rw [ql (by simpa using h)];simp only [Act.put];rw [qal,Array.getElem?_setIfInBounds_ne h,<- qal]
end
abbrev w64 (n:Int):Int:=IntKind.i64.wrap n
def eB (b:Bool):FV := .atom (.bool b)
def eS (s:BA):FV := .atom (.string s)
def eI (n:Int):FV := .atom (.int .i64 n)
def eU8 (n:Int):FV := .atom (.int .u8 n)
def eL {α:Type} (size:Nat) (e:α->FV) (xs:List α):FV := .lst size xs.length (xs.map e)
def idx {α:Type} (xs:List α) (i:Int):Option α:=if 0<=i then xs[i.toNat]? else none
def byt (s:BA) (i:Int):Option Int:=if 0<=i then (s[i.toNat]?).map fun c=>(c.toNat:Int) else none
def app {α:Type} (bytes:Nat) (xs ys:List α):Option (List α):=if (xs.length+ys.length)*(bytes+1)<=140737488355328 then some (xs++ys) else none
section
variable {P:Program} {T:List (TypeId×TD)} {o:Oper} {st:St} {t:TypeId} {d:TD}
theorem kmt {α:Type} {xs:List α} {i:Int} {x:α} (h:idx xs i=some x):0<=i/\xs[i.toNat]?=some x:=by
 unfold idx at h;split at h;exact ⟨by assumption,h⟩
 ·cases h
theorem k4b {α:Type} {enc:α->FV} {xs:List α} {i:Int} {x:α} {X Y:Operand} {e:TypeId} {de:TD} {k:IntKind} {cs:List FV} (h:idx xs i=some x) (c:TOk P T) (f:o.op = .indexAddr t X Y) (g:kab T t=some d) (hk:d.kind = .slice e) (b:kab T e=some de)
  (j:kkf (st.eval X)=some (xs.map enc)) (a:∀ x,(enc x).cells.length=de.size) (hy:st.eval Y = .fz (.atom (.int k i))) (hc:(enc x).cells=cs):NStep P o st (.fz (.fp cs)):=by
 obtain ⟨h0,h1⟩:=kmt h;refine kvm f (c.get g) hk (c.get b) j (fun z l=>?_) hy h0 (z:=enc x) (by rw [qv,h1];rfl) hc;obtain ⟨y,_,rfl⟩:=qau.1 l;exact a y
theorem k8d {s:BA} {i c:Int} {X Y:Operand} {k:IntKind} (h:byt s i=some c) (a:TOk P T) (e:o.op = .index t X Y) (f:kab T t=some d) (hk:d.kind = .str) (g:st.eval X = .fz (.atom (.string s))) (hy:st.eval Y = .fz (.atom (.int k i))):
  NStep P o st (.fz (.atom (.int .u8 c))):=by
 unfold byt at h;split at h;rename_i h0;simp only [qr] at h;obtain ⟨b,j,rfl⟩:=h;exact kzv e (a.get f) hk g hy h0 j
 ·cases h
theorem kum {α:Type} {bytes:Nat} {xs ys r:List α} (h:app bytes xs ys=some r):r=xs++ys/\(xs.length+ys.length)*(bytes+1)<=140737488355328:=by
 unfold app at h;split at h;injection h with h;exact ⟨h.symm,by assumption⟩
 ·cases h
theorem k1a {α:Type} {enc:α->FV} {bytes:Nat} {xs ys r:List α} {X Y:Operand} {e:TypeId} {de:TD} {n m id:Nat} (h:app bytes xs ys=some r) (i:TOk P T) (j:o.op = .call { callee := .builtin .append,args:=#[X,Y],argTypes:=#[t,t] }) (k:kab T t=some d) (hk:d.kind = .slice e) (b:kab T e=some de)
  (l:Nat.ble 1 de.size=true) (c:de.zero.length=de.size) (f:de.bytes=bytes) (p:st.eval X = .row id n) (g:kaa st.heap id=some (.frow e de.size (xs.map enc))) (hn:n=xs.length) (hy:st.eval Y = .fz (.lst de.size m (ys.map enc))\/st.eval Y = .lim de.size m (ys.map enc)):
  kaq P o st (.row id r.length) ((id, .frow e de.size (r.map enc))::st.heap) st.ids:=by
 obtain ⟨rfl,a⟩:=kum h;subst f;have:=k1f (P:=P) (o:=o) (st:=st) (t:=t) (d:=d) (id:=id) (xs:=xs.map enc) (zs:=ys.map enc) j (i.get k) hk (i.get b) (qn l) c p g (by rw [hn];simp) hy (by simpa using a);rw [<- List.map_append,qat] at this;exact this
theorem knm {t id n:Nat} {e:TypeId} {size:Nat} {xs:List FV} (f:st.get t = .row id n) (d:kaa st.heap id=some (.frow e size xs)) (hn:n=xs.length):
  LeSt st { st with tmps:=(t, .fz (.lst size n xs))::st.tmps,heap:=kdn id st.heap }:=by
 subst hn;intro F S0 N0 ψ S a w hs;obtain ⟨c1,c2⟩:=klp hs.core d;have c:∀ k,RV ψ (·∈st.ids) (fun b=>S b\/ka1 (ψ.val id)=some b) w (a.tmps.getD k undef) (st.get k):=fun k=>(hs.tmps k).mono (fun _ h=>h) fun _ h => .inl h;refine ⟨ψ,_,hs.defers,hs.size,fun k=>?_,c1⟩;simp only [St.get,kbd];split
 ·rename_i hk;subst hk;have hv:=c t;rw [f] at hv;have h0:=(hs.core.obj id _ d).2.1.1;refine .fz ?_;generalize a.tmps.getD t undef=u at hv;cases hv with
  | row hK g h1 hv=>rw [hv (by rw [h0])];exact c2
 ·exact c k
theorem ksj {id2 id n j:Nat} {e:TypeId} {size:Nat} {xs:List FV} {e2:TypeId} {cells:List AV} (d:kaa st.heap id2=some (.box e2 cells)) (m:cells[j]?=some (.row id n)) (l:kaa st.heap id=some (.frow e size xs)) (hn:n=xs.length):
  LeSt st { st with heap:=(id2, .box e2 (cells.set j (.fz (.lst size n xs))))::kdn id st.heap }:=by
 subst hn;intro F S0 N0 ψ S a w hs;obtain ⟨c1,c2⟩:=klp hs.core l;have r:id2≠id:=fun h=>by rw [h,l] at d;cases d
 have q:kaa (kdn id st.heap) id2=some (.box e2 cells):=kqp r d;obtain ⟨k1,⟨k0,b,cs,k2,k3,k4,k5,k6⟩,k7⟩:=c1.obj id2 _ q;refine ⟨ψ,_,hs.defers,hs.size,fun k=>(hs.tmps k).mono (fun _ h=>h) fun _ h => .inl h,⟨fun i o g=>?_,fun i i' o o' b g s p y=>?_,c1.lt,c1.s0,c1.n0,c1.fr⟩⟩
 ·rw [kaf] at g;by_cases hi:id2=i
  ·subst hi;rw [qq rfl] at g;injection g with g;subst g;refine ⟨k1,⟨k0,b,cs,k2,k3,by simpa using k4,fun x m=>?_,fun i v x hv c=>?_⟩,k7⟩
   ·rcases List.mem_or_eq_of_mem_set m with m | rfl;exact k5 x m
    ·rfl
   ·rw [List.getElem?_set] at c;split at c
    ·rename_i t;subst t;split at c
     ·injection c with c;subst c;have u:=k6 j v _ hv m;have h0:=(hs.core.obj id _ l).2.1.1;refine .fz ?_;cases u with
      | row hK z h1 hv=>rw [hv (by rw [h0])];exact c2
     ·cases c
    ·exact k6 i v x hv c
  ·rw [ql hi] at g;exact c1.obj i o g
 ·have f:∀ {i:Nat} {o:AObj},kaa ((id2,AObj.box e2 (cells.set j (.fz (.lst size xs.length xs))))::kdn id st.heap) i=some o->∃ o',kaa (kdn id st.heap) i=some o':=fun {i o} h=>by
   rw [kaf] at h;by_cases hi:id2=i;subst hi;exact ⟨_,q⟩
   ·rw [ql hi] at h;exact ⟨_,h⟩
  obtain ⟨o1,h1⟩:=f g;obtain ⟨o2,q⟩:=f s;exact c1.inj i i' o1 o2 b h1 q p y
theorem kqx {e e2:TypeId} {size id2 j id:Nat} {cells:List AV} (z:Nat.ble 1 size=true:=by kernel_rfl) (l:kaa st.heap id2=some (.box e2 cells):=by kernel_rfl) (m:cells[j]?=some (.fz (.atom (.slice none 0 0))):=by kernel_rfl) (d:st.ids.contains id=false:=by kernel_rfl):
  LeSt st { st with heap:=(id2, .box e2 (cells.set j (.row id 0)))::(id, .frow e size [])::st.heap,ids:=id::st.ids }:=by
 have d:id∉st.ids:=by simpa using d
 intro F S0 N0 ψ S a w hs;have hadd:=hs.core.add (n:=0) (v := .slice none 0 0) (w':=w) (ob := .frow e size []) (kag _) d (fun b r=>by cases r) ⟨kcs _ _,qn z,[],by rw [kat];exact ⟨by simp, .inl ⟨rfl,rfl⟩⟩,(fun x m=>by cases m),fun i x j v y h=>by simp at h⟩;have s:id≠id2:=fun h=>d (by rw [h];exact (hs.core.obj id2 _ l).1);have q:kaa ((id, .frow e size [])::st.heap) id2=some (.box e2 cells):=by rw [kaf,ql s];exact l
 obtain ⟨k1,⟨k0,b,cs,k2,k3,k4,k5,k6⟩,k7⟩:=hadd.obj id2 _ q;refine ⟨ψ.set id 0 (.slice none 0 0),S,hs.defers,hs.size,fun k=>(hs.tmps k).keep (kcw d _ _) (fun _ h=>qu _ h) (fun _ h=>h) (fun _ _ _=>rfl),⟨fun i o g=>?_,fun i i' o o' b g t p r=>?_,hadd.lt,hadd.s0,hadd.n0,hadd.fr⟩⟩
 ·rw [kaf] at g;by_cases hi:id2=i
  ·subst hi;rw [qq rfl] at g;injection g with g;subst g;refine ⟨k1,⟨k0,b,cs,k2,k3,by simpa using k4,fun x m=>?_,fun i v x hv c=>?_⟩,k7⟩
   ·rcases List.mem_or_eq_of_mem_set m with m | rfl;exact k5 x m
    ·rfl
   ·rw [List.getElem?_set] at c;split at c
    ·rename_i u;subst u;split at c;injection c with c;subst c;rw [(k6 j v _ hv m).atom];exact .row (q9 ..) (qag _) rfl fun _=>(kat _ _).symm
     ·cases c
    ·exact k6 i v x hv c
  ·rw [ql hi] at g;exact hadd.obj i o g
 ·have f:∀ {i:Nat} {o:AObj},kaa ((id2,AObj.box e2 (cells.set j (.row id 0)))::(id, .frow e size [])::st.heap) i=some o->∃ o',kaa ((id, .frow e size [])::st.heap) i=some o':=fun {i o} h=>by
   rw [kaf] at h;by_cases hi:id2=i;subst hi;exact ⟨_,q⟩
   ·rw [ql hi] at h;exact ⟨_,h⟩
  obtain ⟨o1,h1⟩:=f g;obtain ⟨o2,q⟩:=f t;exact hadd.inj i i' o1 o2 b h1 q p r
theorem LeSt.refl:LeSt st st:=fun F S0 N0 ψ S a w h=>⟨ψ,S,h⟩
theorem LeSt.trans {st' st'':St} (h:LeSt st st') (k:LeSt st' st''):LeSt st st'':=fun F S0 N0 ψ S a w hs=>by obtain ⟨ψ',S',b⟩:=h F S0 N0 ψ S a w hs;exact k F S0 N0 ψ' S' a w b
theorem kmz {c:Code} {Q:Exit->St->Prop} (h:awp P c st fun e st'=>∃ st2,LeSt st' st2/\Q e st2):awp P c st Q:=fun F S0 N0 ψ S a w hs=>
 wp_mono (h F S0 N0 ψ S a w hs) fun e a' w' ⟨st',ψ',S',⟨st2,h0,h1⟩,b,d⟩=>by obtain ⟨ψ2,S2,f⟩:=h0 F S0 N0 ψ' S' a' w' b;exact ⟨st2,ψ2,S2,h1,f,d⟩
theorem k0y {c:Code} {Qa Q:Exit->St->Prop} (ha:awp P c st Qa) (a:∀ e st',Qa e st'->∃ st2,LeSt st' st2/\Q e st2):awp P c st Q:=kmz (kpr ha a)
theorem kyg {σ β:Type} {step:σ->Option (σ ⊕ β)} {body:Code} (stOf:σ->St) {s0:σ} {b:β} {n:Nat} {Qb:β->Exit->St->Prop} (hl:kac step n s0=some b) (h0:LeSt st (stOf s0))
  (hr:∀ s r,step s=some r->awp P body (stOf s) fun e st=>match r with | .inl s'=>e = .normal/\LeSt st (stOf s') | .inr b'=>(e ≠ .normal/\e ≠ .outgrown)/\Qb b' e st):awp P (.loop body) st (Qb b):=by
 exact k18 stOf hl h0 (fun s s' hs=>hr s _ hs) fun s hs=>kpr (hr s _ hs) fun e st h=>⟨h.1.1,h.1.2,h.2⟩
end
end Go.Proofs.YtpnnpkmjohkgiaaGreatDoor
