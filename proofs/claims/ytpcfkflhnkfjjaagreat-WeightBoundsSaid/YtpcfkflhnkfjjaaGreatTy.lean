import Derived.Test.YtpcfkflhnkfjjaaGreatFun
set_option linter.all false
namespace Go.Proofs.YtpcfkflhnkfjjaaGreat
open Go Go.RowKit
def kac (P:Program) (f:FuncId) (args:List FV) (r:FV):Prop:=
 (∃ fn, P.funcs[f]? = some fn /\ fn.body.isNone = false /\ (fn.name == "runtime.NumGoroutine") = false) /\
 ∀ (S:Nat->Prop) (w:World) (vs:Array Value),vs.size=args.length->(∀ (i:Nat) (v:Value) (x:FV),vs[i]?=some v->args[i]?=some x->RF S w v x) ->
  Calls P f vs w fun e w'=>∃ v,e = .returned v/\RF (fun b=>S b\/w.heap.size<=b) w' v r/\Grow w w'
def k7m (st:St) (c:C1) (x:Operand):Option FV:=match co1 c (st.eval x) with
 | .fz y=>some y
 | _=>none
def kpz (st:St):List C1->List Operand->Option (List FV)
 | [],[]=>some []
 | c::cs,x::xs=>match k7m st c x,kpz st cs xs with
  | some y,some ys=>some (y::ys)
  | _,_=>none
 | _,_=>none
section
variable {P:Program} {F S0:Nat->Prop} {N0:Nat} {w w':World} {S S':Nat->Prop} {ψ:Env} {K:Nat->Prop} {T:List (TypeId×TD)} {o:Oper} {a:Act} {st:St} {t:TypeId} {d:TD}
theorem kxh {ids:List Nat} (h:∀ t,RV ψ (·∈ids) S w (a.tmps.getD t undef) (st.get t)):∀ {cs:List C1} {xs:List Operand} {ys:List FV},kpz st cs xs=some ys ->
  ys.length=xs.length/\∀ (i:Nat) (x:Operand) (y:FV),xs[i]?=some x->ys[i]?=some y->RF S w (a.eval x) y
 | [],[],ys,h=>by simp only [kpz,ql] at h;subst h;exact ⟨rfl,fun i x y h=>by simp at h⟩
 | c::cs,x::xs,ys,b=>by
  simp only [kpz] at b;split at b
  ·rename_i y ys' h1 f;injection b with b;subst b;obtain ⟨e1,e2⟩:=kxh h f;refine ⟨by simp [e1],fun i x' y' d e=>?_⟩;cases i with
   | zero=>
    simp at d e;subst d e;unfold k7m at h1;have hv:=kns (c:=c) (Sim.eval_tmps h x);split at h1;rename_i z g;injection h1 with h1;subst h1;rw [g] at hv;exact hv.inv
    ·cases h1
   | succ i=>exact e2 i x' y' (by simpa using d) (by simpa using e)
  ·cases b
 | [],_::_,ys,h=>by cases h
 | _::_,[],ys,h=>by cases h
theorem kw7 {f : FuncId} {args : Array Operand} {ts : Array TypeId} (ho : o.op = .call { callee := .value (.func f), args := args, argTypes := ts }) (hf : ∃ fn, P.funcs[f]? = some fn /\ fn.body.isNone = false /\ (fn.name == "runtime.NumGoroutine") = false) :
  (execOp a.eval o).run P w = .ok (.enter f (args.map a.eval)) w:=by
 obtain ⟨fn,h1,c,d⟩:=hf;have b:fn.body≠none:=by intro h;rw [h] at c;cases c
 simp only [qat,ne_eq] at d;simp [execOp,ho,resolve,Act.eval,Deferred.ofValue,invoke,callFunc,h1,b,d]
theorem k42 {f:FuncId} {args:Array Operand} {ts:Array TypeId} {cs:List C1} {ys:List FV} {r:FV} (ho:o.op = .call { callee := .value (.func f),args:=args,argTypes:=ts }) (hc:kpz st cs args.toList=some ys) (hp:kac P f ys r):NStep P o st (.fz r):=by
 intro ψ S a w ht g;obtain ⟨e1,e2⟩:=kxh ht hc;unfold kh2;rw [kw7 ho hp.1];refine (hp.2 S w (args.map a.eval) (by simp [e1]) fun i v x hv b=>?_).mono ?_;simp only [Array.getElem?_map,qt] at hv;obtain ⟨y,c,rfl⟩:=hv;exact e2 i y x (by simpa using c) b
 ·rintro e w' ⟨v,rfl,h1,d⟩;exact ⟨v,rfl,d, .fz h1⟩
def resX (T:List (TypeId×TD)) (st:St) (r:ResultVar) (c:C1):Option FV:=match r with
 | .tmp t=>match co1 c (st.get t) with
  | .fz y=>some y
  | _=>none
 | .cell x t=>match kak T t,kkr st (st.get x) with
  | some d,some xs=>match kqw d xs with
   | some z=>match co1 c z with
    | .fz y=>some y
    | _=>none
   | none=>none
  | _,_=>none
def ktc (T:List (TypeId×TD)) (st:St):List ResultVar->List C1->Option (List FV)
 | [],[]=>some []
 | r::rs,c::cs=>match resX T st r c,ktc T st rs cs with
  | some y,some ys=>some (y::ys)
  | _,_=>none
 | _,_=>none
def k1z (T:List (TypeId×TD)) (st:St) (rs:List ResultVar) (cs:List C1):Option FV:=match ktc T st rs cs with
 | some [y]=>some y
 | some ys=>some (.tup ys)
 | none=>none
def retX (T:List (TypeId×TD)) (st:St) (rs:List ResultVar) (cs:List C1):Option FV:=match st.dfr with
 | []=>k1z T st rs cs
 | _=>none
theorem kzf {T:List (TypeId×TD)} {st:St} {rs:List ResultVar} {cs:List C1} {y:FV} (h:retX T st rs cs=some y):st.dfr=[]/\k1z T st rs cs=some y:=by
 unfold retX at h;split at h;rename_i a;exact ⟨a,h⟩
 ·cases h
theorem k08 {v:Value} {x:AV} {xs:List AV} {c:AV} (n:TdOk P t d) (hv:RV ψ (·∈st.ids) S w v x) (q:∀ id o,kae st.heap id=some o->ObR ψ (·∈st.ids) S w id o) (e:kkr st x=some xs) (hc:kqw d xs=some c):
  ∃ ad u,v = .pointer (some ad)/\(loadVar t ad).run P w = .ok u w/\RV ψ (·∈st.ids) S w u c:=by
 obtain ⟨b,off,hv,cs,h,hl,h1,hr⟩:=ku9 hv q e;unfold kqw at hc;cases hk:d.kind.agg with
 | false=>
  rw [hk] at hc;simp only [qc] at hc;cases xs with
  | nil=>cases hc
  | cons y ys=>
   simp only [List.head?_cons,ql] at hc;subst hc;have k:cs[0]?=some (cs[0]'(by simp at hl;omega)):=qb _;have f:w.cell? ⟨b,off,none⟩=some (cs[0]'(by simp at hl;omega)):=(by simpa using h 0 _ k);exact ⟨_,cs[0]'(by simp at hl;omega),hv,by simp [loadVar,n.isAgg,hk,f],hr 0 _ y k rfl⟩
 | true=>
  rw [hk] at hc;simp only [qf] at hc;cases g:Nat.ble d.size xs.length with
  | false=>rw [g] at hc;cases hc
  | true=>
   rw [g] at hc;simp only [qf,ql] at hc;subst hc;have p:=qal g;have l:(cs.take d.size).length=d.size:=(by rw [qak];omega);have a:=run_loadCells_list (P:=P) w ⟨b,off,none⟩ (cs.take d.size) fun j v m=>by
    rw [qag] at m;split at m;rw [kfj];exact h j v m
    ·cases m
   rw [l] at a;refine ⟨_, .agg (cs.take d.size).toArray,hv,by simp [loadVar,n.isAgg,hk,n.size,a],RV.aggA (by simp [hl]) (fun x e=>h1 x (List.mem_of_mem_take e)) fun i v x hv e=>?_⟩;simp only [List.getElem?_toArray] at hv;rw [qag] at hv e;split at hv;rename_i hi;rw [qn hi] at e;exact hr i v x hv e
   ·cases hv
def kka (tmps:Array Value):ResultVar->Sem Value
 | .tmp t=>pure (tmps.getD t undef)
 | .cell x t=>do loadVar t (<- asAddr (tmps.getD x undef))
theorem ky1 (g:TOk P T) (hs:Sim F S0 N0 st ψ S a w):∀ {rs:List ResultVar} {cs:List C1} {ys:List FV},ktc T st rs cs=some ys ->
  ∃ vs:List Value,(rs.mapM (kka a.tmps)).run P w = .ok vs w/\vs.length=ys.length/\∀ (i:Nat) (v:Value) (y:FV),vs[i]?=some v->ys[i]?=some y->RF S w v y
 | [],[],ys,h=>by simp only [ktc,ql] at h;subst h;exact ⟨[],by simp,rfl,fun i v y h=>by simp at h⟩
 | r::rs,c::cs,ys,h=>by
  simp only [ktc] at h;split at h
  ·rename_i y ys' h1 j;injection h with h;subst h;obtain ⟨vs,k1,k2,k3⟩:=ky1 g hs j;have key:∃ v,(kka a.tmps r).run P w = .ok v w/\RF S w v y:=by
    unfold resX at h1;split at h1
    ·rename_i t;have hv:=kns (c:=c) (hs.tmps t);split at h1;rename_i z b;injection h1 with h1;subst h1;rw [b] at hv;exact ⟨_,rfl,hv.inv⟩
     ·cases h1
    ·rename_i x t;split at h1
     ·rename_i d xs k l;split at h1
      ·rename_i z b;obtain ⟨ad,u,e1,e2,e3⟩:=k08 (g.get k) (hs.tmps x) (fun id o ho=>(hs.core.obj id o ho).2.1) l b;have hv:=kns (c:=c) e3;split at h1;rename_i z' e;injection h1 with h1;subst h1;rw [e] at hv;refine ⟨u,?_,hv.inv⟩;simp only [kka,e1,asAddr,Sem.run_bind,Sem.run_pure,Result.andThen_ok,e2]
       ·cases h1
      ·cases h1
     ·cases h1
   obtain ⟨v,e1,e2⟩:=key;refine ⟨v::vs,?_,by simp [k2],fun i v' y' hv f=>?_⟩;rw [List.mapM_cons];simp only [Sem.run_bind,e1,Result.andThen_ok,k1,Sem.run_pure]
   ·cases i with
    | zero=>simp at hv f;subst hv f;exact e2
    | succ i=>exact k3 i v' y' (by simpa using hv) (by simpa using f)
  ·cases h
 | [],_::_,ys,h=>by cases h
 | _::_,[],ys,h=>by cases h
theorem k9q (e:TOk P T) (hs:Sim F S0 N0 st ψ S a w) {fn:Func} {cs:List C1} {y:FV} (h:retX T st fn.results.toList cs=some y):∃ v,(results fn a.tmps).run P w = .ok v w/\RF S w v y:=by
 replace h:=(kzf h).2;unfold k1z at h;have key:∀ ys,ktc T st fn.results.toList cs=some ys->∃ vs:List Value,(results fn a.tmps).run P w = .ok (if h:vs.length=1 then vs[0] else .tuple vs.toArray) w/\vs.length=ys.length/\∀ (i:Nat) (v:Value) (y:FV),vs[i]?=some v->ys[i]?=some y->RF S w v y:=fun ys b=>by
  obtain ⟨vs,k1,k2,k3⟩:=ky1 e hs b;refine ⟨vs,?_,k2,k3⟩;unfold results;rw [Array.mapM_eq_mapM_toList];have c:∀ (g:ResultVar->Sem Value),(∀ x,g x=kka a.tmps x)->(fn.results.toList.mapM g).run P w = .ok vs w:=fun g c=>by rw [show g=kka a.tmps from funext c];exact k1
  simp only [Sem.run_bind,Sem.run_map];rw [c _ fun x=>by cases x <;> rfl];simp only [Result.andThen_ok,Sem.run_pure];simp
 split at h
 ·rename_i z f;injection h with h;subst h;obtain ⟨vs,k1,k2,k3⟩:=key _ f;have hl:vs.length=1:=by simpa using k2
  rw [dif_pos hl] at k1;exact ⟨_,k1,k3 0 _ _ (qb (by omega)) rfl⟩
 ·rename_i ys d b;injection h with h;subst h;obtain ⟨vs,k1,k2,k3⟩:=key _ b;have hl:¬ vs.length=1:=fun hl=>by rw [k2] at hl;obtain ⟨z,rfl⟩:=List.length_eq_one_iff.1 hl;exact d z rfl
  rw [dif_neg hl] at k1;exact ⟨_,k1, .tup (by simpa using k2) fun i v x hv j=>k3 i v x (by simpa using hv) j⟩
 ·cases h
def kmu:Nat->List FV->List (Nat×AV)
 | _,[]=>[]
 | i,x::l=>(i, .fz x)::kmu (i+1) l
def retQ (T:List (TypeId×TD)) (rs:List ResultVar) (cs:List C1) (r:FV):Exit->St->Prop
 | .normal,st=>retX T st rs cs=some r
 | .ret,st=>retX T st rs cs=some r
 | _,_=>False
theorem kva:∀ (l:List FV) (i t:Nat),(look .any (kmu i l) t = .any)\/∃ x,i<=t/\l[t - i]?=some x/\look .any (kmu i l) t = .fz x
 | [],i,t => .inl rfl
 | x::l,i,t=>by
  simp only [kmu,kcd];by_cases h:i=t;subst h;exact .inr ⟨x,qx _,by simp,by simp⟩
  ·rw [qk h];rcases kva l (i+1) t with h1 | ⟨y,h1,a,b⟩;exact .inl h1
   ·exact .inr ⟨y,by omega,by rw [show t - i=(t - (i+1))+1 by omega];simpa using a,b⟩
theorem k0a (p : TOk P T) {f : FuncId} {fn : Func} {c : Code} {args : List FV} {r : FV} (cs : List C1) (hf : P.funcs[f]? = some fn) (a : fn.body = some c) (hn : (fn.name == "runtime.NumGoroutine") = false) (i : Nat.ble args.length fn.ntmps = true)
  (h:awp P c { n:=fn.ntmps,tmps:=kmu 0 args,heap:=[],ids:=[] } (retQ T fn.results.toList cs r)):kac P f args r:=by
 have i:=qal i;refine ⟨⟨fn,hf,by rw [a];rfl,hn⟩,fun S w vs hs hr=>calls_of_wp hf a ?_⟩;have j:Sim (fun b=>b<w.heap.size) S w.heap.size { n:=fn.ntmps,tmps:=kmu 0 args,heap:=[],ids:=[] } ⟨fun _=>0,fun _=>undef⟩ (fun b=>S b/\b<w.heap.size) { tmps:=vs++Array.replicate (fn.ntmps - vs.size) undef,defers:=[] } w:=by
  refine ⟨rfl,by simp;omega,fun t=>?_,⟨(fun id o ho=>nomatch ho),(fun id id' o o' b ho=>nomatch ho),fun b a=>a.2,fun b a => .inl a.1,qx _,fun b a=>a⟩⟩;show RV _ _ _ w _ (look .any (kmu 0 args) t);rcases kva args 0 t with h | ⟨x,_,h1,l⟩;rw [h];exact .any
  ·rw [l];have d:t<vs.size:=(by rw [hs];have:=(qj.1 h1).1;omega);have:(vs++Array.replicate (fn.ntmps - vs.size) undef).getD t undef=vs[t]:=(by rw [qay,Array.getElem?_append_left d];simp [d]);rw [this];exact .fz (hr t _ x (by simp [d]) (by simpa using h1)).bound
 refine wp_mono (h _ _ _ _ _ _ w j) ?_;rintro e a' w' ⟨st',ψ',S',g,l,m⟩;have fin:retX T st' fn.results.toList cs=some r->a'.defers=[]/\∃ v,(results fn a'.tmps).run P w' = .ok v w'/\∃ v',Ending.returned v = .returned v'/\RF (fun b=>S b\/w.heap.size<=b) w' v' r/\Grow w w':=fun g=>by obtain ⟨v,e1,e2⟩:=k9q p l g;exact ⟨l.defers.trans (kzf g).1,v,e1,v,rfl,e2.mono l.core.s0,⟨m.os,m.tape,m.output,m.size,fun k hk=>m.block k hk⟩⟩
 cases e with
 | normal=>exact fin g
 | ret=>exact fin g
 | _=>exact g.elim
end
def hadd (fs:List (Nat×Option Nat×AV)) (p:Nat->Bool) (base:List (Nat×AV)):List (Nat×AV):=match fs with
 | []=>base
 | (j,some d,c)::l=>(d,bif p j then c else .any)::hadd l p base
 | (_,none,_)::l=>hadd l p base
def hst (st:St) (fs:List (Nat×Option Nat×AV)) (p:Nat->Bool):St:={ st with tmps:=hadd fs p st.tmps }
section
variable {P:Program} {F S0:Nat->Prop} {N0:Nat} {w w':World} {S S':Nat->Prop} {ψ:Env} {K:Nat->Prop} {o:Oper} {a:Act} {st:St}
theorem kv0 {ops:Array Oper} {g:Bool} (hs:∀ t,RV ψ K S w (a.tmps.getD t undef) (st.get t)) (h:kcz ops st o=some g):Region.wanted o (yielded ops a.tmps)=g:=by
 unfold kcz at h;unfold Region.wanted;split at h;rename_i e;rw [e];injection h
 ·rename_i j want e;rw [e];split at h
  ·rename_i t ht;have hv:=hs t;split at h
   ·rename_i b f;rw [f] at hv;injection h with h;subst h;have c:a.tmps.getD t undef = .bool b:=hv.atom;rw [qay] at c;have d:a.tmps[t]?=some (.bool b):=by
     cases d:a.tmps[t]? with
     | none=>rw [d] at c;cases c
     | some u=>rw [d] at c;simp only [qw] at c;rw [c]
    simp only [yielded,ht,qa,d];cases b <;> cases want <;> rfl
   rename_i xs f;rw [f] at hv;injection h with h;subst h;exact ktr hv.inv ht
   ·cases h
  ·cases h
theorem k5o {a:Act} {d:Option Nat} {v:Value} {n t:Nat} (hn:a.tmps.size=n) (c:∀ t,d=some t->t<n):(a.put d v).tmps.getD t undef=if d=some t then v else a.tmps.getD t undef:=by
 cases d with
 | none=>simp [Act.put]
 | some d=>
  have b:=c d rfl;by_cases h:d=t;subst h;simp [Act.put,hn,b]
  ·rw [qk (by simpa using h)];simp only [Act.put];rw [qay,Array.getElem?_setIfInBounds_ne h,<- qay]
end
abbrev w64 (n:Int):Int:=IntKind.i64.wrap n
abbrev wu64 (n:Int):Int:=IntKind.u64.wrap n
def eB (b:Bool):FV := .atom (.bool b)
def eS (s:BA):FV := .atom (.string s)
def eI (n:Int):FV := .atom (.int .i64 n)
def eU8 (n:Int):FV := .atom (.int .u8 n)
def eU64 (n:Int):FV := .atom (.int .u64 n)
def eL {α:Type} (size:Nat) (e:α->FV) (xs:List α):FV := .lst size xs.length (xs.map e)
def idx {α:Type} (xs:List α) (i:Int):Option α:=if 0<=i then xs[i.toNat]? else none
def byt (s:BA) (i:Int):Option Int:=if 0<=i then (s[i.toNat]?).map fun c=>(c.toNat:Int) else none
def app {α:Type} (bytes:Nat) (xs ys:List α):Option (List α):=if (xs.length+ys.length)*(bytes+1)<=140737488355328 then some (xs++ys) else none
section
variable {P:Program} {T:List (TypeId×TD)} {o:Oper} {st:St} {t:TypeId} {d:TD}
theorem kq3 {α:Type} {xs:List α} {i:Int} {x:α} (h:idx xs i=some x):0<=i/\xs[i.toNat]?=some x:=by
 unfold idx at h;split at h;exact ⟨by assumption,h⟩
 ·cases h
theorem k8n {α:Type} {enc:α->FV} {xs:List α} {i:Int} {x:α} {X Y:Operand} {e:TypeId} {de:TD} {k:IntKind} {cs:List FV} (h:idx xs i=some x) (c:TOk P T) (ho:o.op = .indexAddr t X Y) (f:kak T t=some d) (hk:d.kind = .slice e) (b:kak T e=some de)
  (g:kn1 (st.eval X)=some (xs.map enc)) (a:∀ x,(enc x).cells.length=de.size) (j:st.eval Y = .fz (.atom (.int k i))) (hc:(enc x).cells=cs):NStep P o st (.fz (.fp cs)):=by
 obtain ⟨h0,h1⟩:=kq3 h;refine k9a ho (c.get f) hk (c.get b) g (fun z l=>?_) j h0 (z:=enc x) (by rw [qp,h1];rfl) hc;obtain ⟨y,_,rfl⟩:=qae.1 l;exact a y
theorem kabh {s:BA} {i c:Int} {X Y:Operand} {k:IntKind} (h:byt s i=some c) (a:TOk P T) (ho:o.op = .index t X Y) (e:kak T t=some d) (hk:d.kind = .str) (f:st.eval X = .fz (.atom (.string s))) (g:st.eval Y = .fz (.atom (.int k i))):
  NStep P o st (.fz (.atom (.int .u8 c))):=by
 unfold byt at h;split at h;rename_i h0;simp only [qt] at h;obtain ⟨b,j,rfl⟩:=h;exact kabe ho (a.get e) hk f g h0 j
 ·cases h
theorem kzs {α:Type} {bytes:Nat} {xs ys r:List α} (h:app bytes xs ys=some r):r=xs++ys/\(xs.length+ys.length)*(bytes+1)<=140737488355328:=by
 unfold app at h;split at h;injection h with h;exact ⟨h.symm,by assumption⟩
 ·cases h
theorem kt2 {α:Type} {enc:α->FV} {bytes:Nat} {xs ys r:List α} {X Y:Operand} {e:TypeId} {de:TD} {n m id:Nat} (h:app bytes xs ys=some r) (i:TOk P T) (ho:o.op = .call { callee := .builtin .append,args:=#[X,Y],argTypes:=#[t,t] }) (j:kak T t=some d) (hk:d.kind = .slice e) (b:kak T e=some de)
  (k:Nat.ble 1 de.size=true) (c:de.zero.length=de.size) (f:de.bytes=bytes) (l:st.eval X = .row id n) (g:kae st.heap id=some (.frow e de.size (xs.map enc))) (hn:n=xs.length) (p:st.eval Y = .fz (.lst de.size m (ys.map enc))\/st.eval Y = .lim de.size m (ys.map enc)):
  StepA P o st (.row id r.length) ((id, .frow e de.size (r.map enc))::st.heap) st.ids:=by
 obtain ⟨rfl,a⟩:=kzs h;subst f;have:=k50 (P:=P) (o:=o) (st:=st) (t:=t) (d:=d) (id:=id) (xs:=xs.map enc) (zs:=ys.map enc) ho (i.get j) hk (i.get b) (qal k) c l g (by rw [hn];simp) p (by simpa using a);rw [<- qa5,qu] at this;exact this
theorem khf {t id n:Nat} {e:TypeId} {size:Nat} {xs:List FV} (f:st.get t = .row id n) (d:kae st.heap id=some (.frow e size xs)) (hn:n=xs.length):
  LeSt st { st with tmps:=(t, .fz (.lst size n xs))::st.tmps,heap:=kci id st.heap }:=by
 subst hn;intro F S0 N0 ψ S a w hs;obtain ⟨c1,c2⟩:=kke hs.core d;have c:∀ k,RV ψ (·∈st.ids) (fun b=>S b\/ka1 (ψ.val id)=some b) w (a.tmps.getD k undef) (st.get k):=fun k=>(hs.tmps k).mono (fun _ h=>h) fun _ h => .inl h;refine ⟨ψ,_,hs.defers,hs.size,fun k=>?_,c1⟩;simp only [St.get,kcd];split
 ·rename_i hk;subst hk;have hv:=c t;rw [f] at hv;have h0:=(hs.core.obj id _ d).2.1.1;refine .fz ?_;generalize a.tmps.getD t undef=u at hv;cases hv with
  | row hK g h1 hv=>rw [hv (by rw [h0])];exact c2
 ·exact c k
theorem kmy {id2 id n j:Nat} {e:TypeId} {size:Nat} {xs:List FV} {e2:TypeId} {cells:List AV} (d:kae st.heap id2=some (.box e2 cells)) (l:cells[j]?=some (.row id n)) (g:kae st.heap id=some (.frow e size xs)) (hn:n=xs.length):
  LeSt st { st with heap:=(id2, .box e2 (cells.set j (.fz (.lst size n xs))))::kci id st.heap }:=by
 subst hn;intro F S0 N0 ψ S a w hs;obtain ⟨c1,c2⟩:=kke hs.core g;have q:id2≠id:=fun h=>by rw [h,g] at d;cases d
 have p:kae (kci id st.heap) id2=some (.box e2 cells):=kvs q d;obtain ⟨k1,⟨k0,b,cs,k2,k3,k4,k5,k6⟩,k7⟩:=c1.obj id2 _ p;refine ⟨ψ,_,hs.defers,hs.size,fun k=>(hs.tmps k).mono (fun _ h=>h) fun _ h => .inl h,⟨fun i o ho=>?_,fun i i' o o' b ho r m u=>?_,c1.lt,c1.s0,c1.n0,c1.fr⟩⟩
 ·rw [kah] at ho;by_cases hi:id2=i
  ·subst hi;rw [qn rfl] at ho;injection ho with ho;subst ho;refine ⟨k1,⟨k0,b,cs,k2,k3,by simpa using k4,fun x l=>?_,fun i v x hv c=>?_⟩,k7⟩
   ·rcases List.mem_or_eq_of_mem_set l with l | rfl;exact k5 x l
    ·rfl
   ·rw [List.getElem?_set] at c;split at c
    ·rename_i s;subst s;split at c
     ·injection c with c;subst c;have t:=k6 j v _ hv l;have h0:=(hs.core.obj id _ g).2.1.1;refine .fz ?_;cases t with
      | row hK y h1 hv=>rw [hv (by rw [h0])];exact c2
     ·cases c
    ·exact k6 i v x hv c
  ·rw [qk hi] at ho;exact c1.obj i o ho
 ·have f:∀ {i:Nat} {o:AObj},kae ((id2,AObj.box e2 (cells.set j (.fz (.lst size xs.length xs))))::kci id st.heap) i=some o->∃ o',kae (kci id st.heap) i=some o':=fun {i o} h=>by
   rw [kah] at h;by_cases hi:id2=i;subst hi;exact ⟨_,p⟩
   ·rw [qk hi] at h;exact ⟨_,h⟩
  obtain ⟨o1,h1⟩:=f ho;obtain ⟨o2,p⟩:=f r;exact c1.inj i i' o1 o2 b h1 p m u
theorem khe {e e2:TypeId} {size id2 j id:Nat} {cells:List AV} (u:Nat.ble 1 size=true:=by kernel_rfl) (g:kae st.heap id2=some (.box e2 cells):=by kernel_rfl) (l:cells[j]?=some (.fz (.atom (.slice none 0 0))):=by kernel_rfl) (d:st.ids.contains id=false:=by kernel_rfl):
  LeSt st { st with heap:=(id2, .box e2 (cells.set j (.row id 0)))::(id, .frow e size [])::st.heap,ids:=id::st.ids }:=by
 have d:id∉st.ids:=by simpa using d
 intro F S0 N0 ψ S a w hs;have hadd:=hs.core.add (n:=0) (v := .slice none 0 0) (w':=w) (ob := .frow e size []) (kaj _) d (fun b q=>by cases q) ⟨keq _ _,qal u,[],by rw [kbb];exact ⟨by simp, .inl ⟨rfl,rfl⟩⟩,(fun x l=>by cases l),fun i x j v y h=>by simp at h⟩;have r:id≠id2:=fun h=>d (by rw [h];exact (hs.core.obj id2 _ g).1);have p:kae ((id, .frow e size [])::st.heap) id2=some (.box e2 cells):=by rw [kah,qk r];exact g
 obtain ⟨k1,⟨k0,b,cs,k2,k3,k4,k5,k6⟩,k7⟩:=hadd.obj id2 _ p;refine ⟨ψ.set id 0 (.slice none 0 0),S,hs.defers,hs.size,fun k=>(hs.tmps k).keep (kfq d _ _) (fun _ h=>qo _ h) (fun _ h=>h) (fun _ _ _=>rfl),⟨fun i o ho=>?_,fun i i' o o' b ho s m q=>?_,hadd.lt,hadd.s0,hadd.n0,hadd.fr⟩⟩
 ·rw [kah] at ho;by_cases hi:id2=i
  ·subst hi;rw [qn rfl] at ho;injection ho with ho;subst ho;refine ⟨k1,⟨k0,b,cs,k2,k3,by simpa using k4,fun x l=>?_,fun i v x hv c=>?_⟩,k7⟩
   ·rcases List.mem_or_eq_of_mem_set l with l | rfl;exact k5 x l
    ·rfl
   ·rw [List.getElem?_set] at c;split at c
    ·rename_i t;subst t;split at c;injection c with c;subst c;rw [(k6 j v _ hv l).atom];exact .row (qs ..) (qaj _) rfl fun _=>(kbb _ _).symm
     ·cases c
    ·exact k6 i v x hv c
  ·rw [qk hi] at ho;exact hadd.obj i o ho
 ·have f:∀ {i:Nat} {o:AObj},kae ((id2,AObj.box e2 (cells.set j (.row id 0)))::(id, .frow e size [])::st.heap) i=some o->∃ o',kae ((id, .frow e size [])::st.heap) i=some o':=fun {i o} h=>by
   rw [kah] at h;by_cases hi:id2=i;subst hi;exact ⟨_,p⟩
   ·rw [qk hi] at h;exact ⟨_,h⟩
  obtain ⟨o1,h1⟩:=f ho;obtain ⟨o2,p⟩:=f s;exact hadd.inj i i' o1 o2 b h1 p m q
theorem LeSt.refl:LeSt st st:=fun F S0 N0 ψ S a w h=>⟨ψ,S,h⟩
theorem LeSt.trans {st' st'':St} (h:LeSt st st') (k:LeSt st' st''):LeSt st st'':=fun F S0 N0 ψ S a w hs=>by obtain ⟨ψ',S',b⟩:=h F S0 N0 ψ S a w hs;exact k F S0 N0 ψ' S' a w b
theorem NStep.eqv {c c':AV} (h:NStep P o st c) (e:c=c'):NStep P o st c':=e ▸ h
theorem kq8 {c:Code} {Q:Exit->St->Prop} (h:awp P c st fun e st'=>∃ st2,LeSt st' st2/\Q e st2):awp P c st Q:=fun F S0 N0 ψ S a w hs=>
 wp_mono (h F S0 N0 ψ S a w hs) fun e a' w' ⟨st',ψ',S',⟨st2,h0,h1⟩,b,d⟩=>by obtain ⟨ψ2,S2,f⟩:=h0 F S0 N0 ψ' S' a' w' b;exact ⟨st2,ψ2,S2,h1,f,d⟩
theorem k5l {c:Code} {Qa Q:Exit->St->Prop} (ha:awp P c st Qa) (a:∀ e st',Qa e st'->∃ st2,LeSt st' st2/\Q e st2):awp P c st Q:=kq8 (kum ha a)
theorem k7k {t:Nat} {x y:AV} (b:st.get t=x) (h:x=y):LeSt st (st.put (some t) y):=by
 subst h;intro F S0 N0 ψ S a w hs;refine ⟨ψ,S,hs.defers,hs.size,fun k=>?_,hs.core⟩;simp only [St.put,St.get,kcd];split;rename_i hk;subst hk;rw [<- b];exact hs.tmps t
 ·exact hs.tmps k
theorem k22 {σ β:Type} {step:σ->Option (σ ⊕ β)} {body:Code} (stOf:σ->St) {s0:σ} {b:β} {n:Nat} {Qb:β->Exit->St->Prop} (hl:kab step n s0=some b) (h0:LeSt st (stOf s0))
  (hr:∀ s r,step s=some r->awp P body (stOf s) fun e st=>match r with | .inl s'=>e = .normal/\LeSt st (stOf s') | .inr b'=>(e ≠ .normal/\e ≠ .outgrown)/\Qb b' e st):awp P (.loop body) st (Qb b):=by
 exact k6r stOf hl h0 (fun s s' hs=>hr s _ hs) fun s hs=>kum (hr s _ hs) fun e st h=>⟨h.1.1,h.1.2,h.2⟩
end
end Go.Proofs.YtpcfkflhnkfjjaaGreat
