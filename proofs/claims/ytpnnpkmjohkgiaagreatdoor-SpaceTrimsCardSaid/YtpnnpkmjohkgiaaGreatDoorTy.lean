import Derived.Test.YtpnnpkmjohkgiaaGreatDoorFun
set_option linter.all false
namespace Go.Proofs.YtpnnpkmjohkgiaaGreatDoor
open Go Go.RowKit
def PCall (P:Program) (f:FuncId) (args:List FV) (r:FV):Prop:=
 (∃ fn, P.funcs[f]? = some fn /\ fn.body.isNone = false /\ (fn.name == "runtime.NumGoroutine") = false) /\
 ∀ (S:Nat->Prop) (w:World) (vs:Array Value),vs.size=args.length->(∀ (i:Nat) (v:Value) (x:FV),vs[i]?=some v->args[i]?=some x->RF S w v x) ->
  Calls P f vs w fun e w'=>∃ v,e = .returned v/\RF (fun b=>S b\/w.heap.size<=b) w' v r/\Grow w w'
def kxg (st:St) (c:C1) (x:Operand):Option FV:=match co1 c (st.eval x) with
 | .fz y=>some y
 | _=>none
def kh7 (st:St):List C1->List Operand->Option (List FV)
 | [],[]=>some []
 | c::cs,x::xs=>match kxg st c x,kh7 st cs xs with
  | some y,some ys=>some (y::ys)
  | _,_=>none
 | _,_=>none
section
variable {P:Program} {F S0:Nat->Prop} {N0:Nat} {w w':World} {S S':Nat->Prop} {ψ:Env} {K:Nat->Prop} {T:List (TypeId×TD)} {o:Oper} {a:Act} {st:St} {t:TypeId} {d:TD}
theorem knq {ids:List Nat} (h:∀ t,RV ψ (·∈ids) S w (a.tmps.getD t undef) (st.get t)):∀ {cs:List C1} {xs:List Operand} {ys:List FV},kh7 st cs xs=some ys ->
  ys.length=xs.length/\∀ (i:Nat) (x:Operand) (y:FV),xs[i]?=some x->ys[i]?=some y->RF S w (a.eval x) y
 | [],[],ys,h=>by simp only [kh7,qb] at h;subst h;exact ⟨rfl,fun i x y h=>by simp at h⟩
 | c::cs,x::xs,ys,b=>by
  simp only [kh7] at b;split at b
  ·rename_i y ys' h1 e;injection b with b;subst b;obtain ⟨e1,e2⟩:=knq h e;refine ⟨by simp [e1],fun i x' y' d hy=>?_⟩;cases i with
   | zero=>
    simp at d hy;subst d hy;unfold kxg at h1;have hv:=kjk (c:=c) (Sim.eval_tmps h x);split at h1;rename_i z f;injection h1 with h1;subst h1;rw [f] at hv;exact hv.inv
    ·cases h1
   | succ i=>exact e2 i x' y' (by simpa using d) (by simpa using hy)
  ·cases b
 | [],_::_,ys,h=>by cases h
 | _::_,[],ys,h=>by cases h
theorem kt1 {f : FuncId} {args : Array Operand} {ts : Array TypeId} (ho : o.op = .call { callee := .value (.func f), args := args, argTypes := ts }) (hf : ∃ fn, P.funcs[f]? = some fn /\ fn.body.isNone = false /\ (fn.name == "runtime.NumGoroutine") = false) :
  (execOp a.eval o).run P w = .ok (.enter f (args.map a.eval)) w:=by
 obtain ⟨fn,h1,c,d⟩:=hf;have b:fn.body≠none:=by intro h;rw [h] at c;cases c
 simp only [beq_eq_false_iff_ne,ne_eq] at d;simp [execOp,ho,resolve,Act.eval,Deferred.ofValue,invoke,callFunc,h1,b,d]
theorem kuq {f:FuncId} {args:Array Operand} {ts:Array TypeId} {cs:List C1} {ys:List FV} {r:FV} (ho:o.op = .call { callee := .value (.func f),args:=args,argTypes:=ts }) (hc:kh7 st cs args.toList=some ys) (hp:PCall P f ys r):NStep P o st (.fz r):=by
 intro ψ S a w ht d;obtain ⟨e1,e2⟩:=knq ht hc;unfold kcv;rw [kt1 ho hp.1];refine (hp.2 S w (args.map a.eval) (by simp [e1]) fun i v x hv b=>?_).mono ?_;simp only [Array.getElem?_map,qp] at hv;obtain ⟨y,hy,rfl⟩:=hv;exact e2 i y x (by simpa using hy) b
 ·rintro e w' ⟨v,rfl,h1,c⟩;exact ⟨v,rfl,c, .fz h1⟩
def resX (T:List (TypeId×TD)) (st:St) (r:ResultVar) (c:C1):Option FV:=match r with
 | .tmp t=>match co1 c (st.get t) with
  | .fz y=>some y
  | _=>none
 | .cell x t=>match kad T t,kft st (st.get x) with
  | some d,some xs=>match kfj d xs with
   | some z=>match co1 c z with
    | .fz y=>some y
    | _=>none
   | none=>none
  | _,_=>none
def kkq (T:List (TypeId×TD)) (st:St):List ResultVar->List C1->Option (List FV)
 | [],[]=>some []
 | r::rs,c::cs=>match resX T st r c,kkq T st rs cs with
  | some y,some ys=>some (y::ys)
  | _,_=>none
 | _,_=>none
def krq (T:List (TypeId×TD)) (st:St) (rs:List ResultVar) (cs:List C1):Option FV:=match kkq T st rs cs with
 | some [y]=>some y
 | some ys=>some (.tup ys)
 | none=>none
def retX (T:List (TypeId×TD)) (st:St) (rs:List ResultVar) (cs:List C1):Option FV:=match st.dfr with
 | []=>krq T st rs cs
 | _=>none
theorem kpl {T:List (TypeId×TD)} {st:St} {rs:List ResultVar} {cs:List C1} {y:FV} (h:retX T st rs cs=some y):st.dfr=[]/\krq T st rs cs=some y:=by
 unfold retX at h;split at h;rename_i a;exact ⟨a,h⟩
 ·cases h
theorem kqx {v:Value} {x:AV} {xs:List AV} {c:AV} (n:TdOk P t d) (hv:RV ψ (·∈st.ids) S w v x) (q:∀ id o,kab st.heap id=some o->ObR ψ (·∈st.ids) S w id o) (e:kft st x=some xs) (hc:kfj d xs=some c):
  ∃ ad u,v = .pointer (some ad)/\(loadVar t ad).run P w = .ok u w/\RV ψ (·∈st.ids) S w u c:=by
 obtain ⟨b,off,hv,cs,h,hl,h1,hr⟩:=kiv hv q e;unfold kfj at hc;cases hk:d.kind.agg with
 | false=>
  rw [hk] at hc;simp only [qg] at hc;cases xs with
  | nil=>cases hc
  | cons y ys=>
   simp only [List.head?_cons,qb] at hc;subst hc;have k:cs[0]?=some (cs[0]'(by simp at hl;omega)):=qa _;have f:w.cell? ⟨b,off,none⟩=some (cs[0]'(by simp at hl;omega)):=(by simpa using h 0 _ k);exact ⟨_,cs[0]'(by simp at hl;omega),hv,by simp [loadVar,n.isAgg,hk,f],hr 0 _ y k rfl⟩
 | true=>
  rw [hk] at hc;simp only [qe] at hc;cases g:Nat.ble d.size xs.length with
  | false=>rw [g] at hc;cases hc
  | true=>
   rw [g] at hc;simp only [qe,qb] at hc;subst hc;have p:=qk g;have l:(cs.take d.size).length=d.size:=(by rw [qam];omega);have a:=run_loadCells_list (P:=P) w ⟨b,off,none⟩ (cs.take d.size) fun j v m=>by
    rw [qw] at m;split at m;rw [kbl];exact h j v m
    ·cases m
   rw [l] at a;refine ⟨_, .agg (cs.take d.size).toArray,hv,by simp [loadVar,n.isAgg,hk,n.size,a],RV.aggA (by simp [hl]) (fun x e=>h1 x (qa5 e)) fun i v x hv e=>?_⟩;simp only [List.getElem?_toArray] at hv;rw [qw] at hv e;split at hv;rename_i hi;rw [qq hi] at e;exact hr i v x hv e
   ·cases hv
def kds (tmps:Array Value):ResultVar->Sem Value
 | .tmp t=>pure (tmps.getD t undef)
 | .cell x t=>do loadVar t (<- asAddr (tmps.getD x undef))
theorem kpc (f:TOk P T) (hs:Sim F S0 N0 st ψ S a w):∀ {rs:List ResultVar} {cs:List C1} {ys:List FV},kkq T st rs cs=some ys ->
  ∃ vs:List Value,(rs.mapM (kds a.tmps)).run P w = .ok vs w/\vs.length=ys.length/\∀ (i:Nat) (v:Value) (y:FV),vs[i]?=some v->ys[i]?=some y->RF S w v y
 | [],[],ys,h=>by simp only [kkq,qb] at h;subst h;exact ⟨[],by simp,rfl,fun i v y h=>by simp at h⟩
 | r::rs,c::cs,ys,h=>by
  simp only [kkq] at h;split at h
  ·rename_i y ys' h1 g;injection h with h;subst h;obtain ⟨vs,k1,k2,k3⟩:=kpc f hs g;have key:∃ v,(kds a.tmps r).run P w = .ok v w/\RF S w v y:=by
    unfold resX at h1;split at h1
    ·rename_i t;have hv:=kjk (c:=c) (hs.tmps t);split at h1;rename_i z b;injection h1 with h1;subst h1;rw [b] at hv;exact ⟨_,rfl,hv.inv⟩
     ·cases h1
    ·rename_i x t;split at h1
     ·rename_i d xs j k;split at h1
      ·rename_i z b;obtain ⟨ad,u,e1,e2,e3⟩:=kqx (f.get j) (hs.tmps x) (fun id o ho=>(hs.core.obj id o ho).2.1) k b;have hv:=kjk (c:=c) e3;split at h1;rename_i z' e;injection h1 with h1;subst h1;rw [e] at hv;refine ⟨u,?_,hv.inv⟩;simp only [kds,e1,asAddr,Sem.run_bind,Sem.run_pure,Result.andThen_ok,e2]
       ·cases h1
      ·cases h1
     ·cases h1
   obtain ⟨v,e1,e2⟩:=key;refine ⟨v::vs,?_,by simp [k2],fun i v' y' hv hy=>?_⟩;rw [List.mapM_cons];simp only [Sem.run_bind,e1,Result.andThen_ok,k1,Sem.run_pure]
   ·cases i with
    | zero=>simp at hv hy;subst hv hy;exact e2
    | succ i=>exact k3 i v' y' (by simpa using hv) (by simpa using hy)
  ·cases h
 | [],_::_,ys,h=>by cases h
 | _::_,[],ys,h=>by cases h
theorem kzn (d:TOk P T) (hs:Sim F S0 N0 st ψ S a w) {fn:Func} {cs:List C1} {y:FV} (h:retX T st fn.results.toList cs=some y):∃ v,(results fn a.tmps).run P w = .ok v w/\RF S w v y:=by
 replace h:=(kpl h).2;unfold krq at h;have key:∀ ys,kkq T st fn.results.toList cs=some ys->∃ vs:List Value,(results fn a.tmps).run P w = .ok (if h:vs.length=1 then vs[0] else .tuple vs.toArray) w/\vs.length=ys.length/\∀ (i:Nat) (v:Value) (y:FV),vs[i]?=some v->ys[i]?=some y->RF S w v y:=fun ys hy=>by
  obtain ⟨vs,k1,k2,k3⟩:=kpc d hs hy;refine ⟨vs,?_,k2,k3⟩;unfold results;rw [Array.mapM_eq_mapM_toList];have b:∀ (g:ResultVar->Sem Value),(∀ x,g x=kds a.tmps x)->(fn.results.toList.mapM g).run P w = .ok vs w:=fun g b=>by rw [show g=kds a.tmps from funext b];exact k1
  simp only [Sem.run_bind,Sem.run_map];rw [b _ fun x=>by cases x <;> rfl];simp only [Result.andThen_ok,Sem.run_pure];simp
 split at h
 ·rename_i z e;injection h with h;subst h;obtain ⟨vs,k1,k2,k3⟩:=key _ e;have hl:vs.length=1:=by simpa using k2
  rw [dif_pos hl] at k1;exact ⟨_,k1,k3 0 _ _ (qa (by omega)) rfl⟩
 ·rename_i ys c hy;injection h with h;subst h;obtain ⟨vs,k1,k2,k3⟩:=key _ hy;have hl:¬ vs.length=1:=fun hl=>by rw [k2] at hl;obtain ⟨z,rfl⟩:=List.length_eq_one_iff.1 hl;exact c z rfl
  rw [dif_neg hl] at k1;exact ⟨_,k1, .tup (by simpa using k2) fun i v x hv f=>k3 i v x (by simpa using hv) f⟩
 ·cases h
def kgn:Nat->List FV->List (Nat×AV)
 | _,[]=>[]
 | i,x::l=>(i, .fz x)::kgn (i+1) l
def retQ (T:List (TypeId×TD)) (rs:List ResultVar) (cs:List C1) (r:FV):Exit->St->Prop
 | .normal,st=>retX T st rs cs=some r
 | .ret,st=>retX T st rs cs=some r
 | _,_=>False
theorem kl4:∀ (l:List FV) (i t:Nat),(look .any (kgn i l) t = .any)\/∃ x,i<=t/\l[t - i]?=some x/\look .any (kgn i l) t = .fz x
 | [],i,t => .inl rfl
 | x::l,i,t=>by
  simp only [kgn,ka5];by_cases h:i=t;subst h;exact .inr ⟨x,qt _,by simp,by simp⟩
  ·rw [qh h];rcases kl4 l (i+1) t with h1 | ⟨y,h1,a,b⟩;exact .inl h1
   ·exact .inr ⟨y,by omega,by rw [show t - i=(t - (i+1))+1 by omega];simpa using a,b⟩
theorem kp7 (p : TOk P T) {f : FuncId} {fn : Func} {c : Code} {args : List FV} {r : FV} (cs : List C1) (hf : P.funcs[f]? = some fn) (a : fn.body = some c) (hn : (fn.name == "runtime.NumGoroutine") = false) (i : Nat.ble args.length fn.ntmps = true)
  (h:awp P c { n:=fn.ntmps,tmps:=kgn 0 args,heap:=[],ids:=[] } (retQ T fn.results.toList cs r)):PCall P f args r:=by
 have i:=qk i;refine ⟨⟨fn,hf,by rw [a];rfl,hn⟩,fun S w vs hs hr=>calls_of_wp hf a ?_⟩;have j:Sim (fun b=>b<w.heap.size) S w.heap.size { n:=fn.ntmps,tmps:=kgn 0 args,heap:=[],ids:=[] } ⟨fun _=>0,fun _=>undef⟩ (fun b=>S b/\b<w.heap.size) { tmps:=vs++Array.replicate (fn.ntmps - vs.size) undef,defers:=[] } w:=by
  refine ⟨rfl,by simp;omega,fun t=>?_,⟨(fun id o ho=>nomatch ho),(fun id id' o o' b ho=>nomatch ho),fun b a=>a.2,fun b a => .inl a.1,qt _,fun b a=>a⟩⟩;show RV _ _ _ w _ (look .any (kgn 0 args) t);rcases kl4 args 0 t with h | ⟨x,_,h1,l⟩;rw [h];exact .any
  ·rw [l];have d:t<vs.size:=(by rw [hs];have:=(qd.1 h1).1;omega);have:(vs++Array.replicate (fn.ntmps - vs.size) undef).getD t undef=vs[t]:=(by rw [qap,qa7 d];simp [d]);rw [this];exact .fz (hr t _ x (by simp [d]) (by simpa using h1)).bound
 refine wp_mono (h _ _ _ _ _ _ w j) ?_;rintro e a' w' ⟨st',ψ',S',g,l,m⟩;have fin:retX T st' fn.results.toList cs=some r->a'.defers=[]/\∃ v,(results fn a'.tmps).run P w' = .ok v w'/\∃ v',Ending.returned v = .returned v'/\RF (fun b=>S b\/w.heap.size<=b) w' v' r/\Grow w w':=fun g=>by obtain ⟨v,e1,e2⟩:=kzn p l g;exact ⟨l.defers.trans (kpl g).1,v,e1,v,rfl,e2.mono l.core.s0,⟨m.os,m.tape,m.output,m.size,fun k hk=>m.block k hk⟩⟩
 cases e with
 | normal=>exact fin g
 | ret=>exact fin g
 | _=>exact g.elim
end
def hadd (fs:List (Nat×Option Nat×AV)) (p:Nat->Bool) (base:List (Nat×AV)):List (Nat×AV):=match fs with
 | []=>base
 | (j,some d,c)::l=>(d,bif p j then c else .any)::hadd l p base
 | (_,none,_)::l=>hadd l p base
def hst (st:St) (fs:List (Nat×Option Nat×AV)) (p:Nat->Bool):St:={ st with tmps:=hadd fs p st.tmps }
section
variable {P:Program} {F S0:Nat->Prop} {N0:Nat} {w w':World} {S S':Nat->Prop} {ψ:Env} {K:Nat->Prop} {o:Oper} {a:Act} {st:St}
theorem kec {ops:Array Oper} {g:Bool} (hs:∀ t,RV ψ K S w (a.tmps.getD t undef) (st.get t)) (h:ka8 ops st o=some g):Region.wanted o (yielded ops a.tmps)=g:=by
 unfold ka8 at h;unfold Region.wanted;split at h;rename_i e;rw [e];injection h
 ·rename_i j want e;rw [e];split at h
  ·rename_i t ht;have hv:=hs t;split at h
   ·rename_i b f;rw [f] at hv;injection h with h;subst h;have c:a.tmps.getD t undef = .bool b:=hv.atom;rw [qap] at c;have d:a.tmps[t]?=some (.bool b):=by
     cases d:a.tmps[t]? with
     | none=>rw [d] at c;cases c
     | some u=>rw [d] at c;simp only [qai] at c;rw [c]
    simp only [yielded,ht,qc,d];cases b <;> cases want <;> rfl
   rename_i xs f;rw [f] at hv;injection h with h;subst h;exact kk3 hv.inv ht
   ·cases h
  ·cases h
theorem kha {a:Act} {d:Option Nat} {v:Value} {n t:Nat} (hn:a.tmps.size=n) (c:∀ t,d=some t->t<n):(a.put d v).tmps.getD t undef=if d=some t then v else a.tmps.getD t undef:=by
 cases d with
 | none=>simp [Act.put]
 | some d=>
  have b:=c d rfl;by_cases h:d=t;subst h;simp [Act.put,hn,b]
  ·rw [qh (by simpa using h)];simp only [Act.put];rw [qap,Array.getElem?_setIfInBounds_ne h,<- qap]
end
abbrev w64 (n:Int):Int:=IntKind.i64.wrap n
def eB (b:Bool):FV := .atom (.bool b)
def eI (n:Int):FV := .atom (.int .i64 n)
def eL {α:Type} (size:Nat) (e:α->FV) (xs:List α):FV := .lst size xs.length (xs.map e)
def idx {α:Type} (xs:List α) (i:Int):Option α:=if 0<=i then xs[i.toNat]? else none
def app {α:Type} (bytes:Nat) (xs ys:List α):Option (List α):=if (xs.length+ys.length)*(bytes+1)<=140737488355328 then some (xs++ys) else none
section
variable {P:Program} {T:List (TypeId×TD)} {o:Oper} {st:St} {t:TypeId} {d:TD}
theorem kiy {α:Type} {xs:List α} {i:Int} {x:α} (h:idx xs i=some x):0<=i/\xs[i.toNat]?=some x:=by
 unfold idx at h;split at h;exact ⟨by assumption,h⟩
 ·cases h
theorem kya {α:Type} {enc:α->FV} {xs:List α} {i:Int} {x:α} {X Y:Operand} {e:TypeId} {de:TD} {k:IntKind} {cs:List FV} (h:idx xs i=some x) (c:TOk P T) (ho:o.op = .indexAddr t X Y) (f:kad T t=some d) (hk:d.kind = .slice e) (b:kad T e=some de)
  (g:khf (st.eval X)=some (xs.map enc)) (a:∀ x,(enc x).cells.length=de.size) (hy:st.eval Y = .fz (.atom (.int k i))) (hc:(enc x).cells=cs):NStep P o st (.fz (.fp cs)):=by
 obtain ⟨h0,h1⟩:=kiy h;refine kqo ho (c.get f) hk (c.get b) g (fun z j=>?_) hy h0 (z:=enc x) (by rw [qr,h1];rfl) hc;obtain ⟨y,_,rfl⟩:=qaf.1 j;exact a y
theorem kwv {α:Type} {bytes:Nat} {xs ys r:List α} (h:app bytes xs ys=some r):r=xs++ys/\(xs.length+ys.length)*(bytes+1)<=140737488355328:=by
 unfold app at h;split at h;injection h with h;exact ⟨h.symm,by assumption⟩
 ·cases h
theorem kvh {α:Type} {enc:α->FV} {bytes:Nat} {xs ys r:List α} {X Y:Operand} {e:TypeId} {de:TD} {n m id:Nat} (h:app bytes xs ys=some r) (i:TOk P T) (ho:o.op = .call { callee := .builtin .append,args:=#[X,Y],argTypes:=#[t,t] }) (j:kad T t=some d) (hk:d.kind = .slice e) (b:kad T e=some de)
  (k:Nat.ble 1 de.size=true) (c:de.zero.length=de.size) (f:de.bytes=bytes) (l:st.eval X = .row id n) (g:kab st.heap id=some (.frow e de.size (xs.map enc))) (hn:n=xs.length) (hy:st.eval Y = .fz (.lst de.size m (ys.map enc))\/st.eval Y = .lim de.size m (ys.map enc)):
  StepA P o st (.row id r.length) ((id, .frow e de.size (r.map enc))::st.heap) st.ids:=by
 obtain ⟨rfl,a⟩:=kwv h;subst f;have:=kvm (P:=P) (o:=o) (st:=st) (t:=t) (d:=d) (id:=id) (xs:=xs.map enc) (zs:=ys.map enc) ho (i.get j) hk (i.get b) (qk k) c l g (by rw [hn];simp) hy (by simpa using a);rw [<- qa0,qaj] at this;exact this
theorem kjo {t id n:Nat} {e:TypeId} {size:Nat} {xs:List FV} (f:st.get t = .row id n) (d:kab st.heap id=some (.frow e size xs)) (hn:n=xs.length):
  LeSt st { st with tmps:=(t, .fz (.lst size n xs))::st.tmps,heap:=kb6 id st.heap }:=by
 subst hn;intro F S0 N0 ψ S a w hs;obtain ⟨c1,c2⟩:=kh6 hs.core d;have c:∀ k,RV ψ (·∈st.ids) (fun b=>S b\/kav (ψ.val id)=some b) w (a.tmps.getD k undef) (st.get k):=fun k=>(hs.tmps k).mono (fun _ h=>h) fun _ h => .inl h;refine ⟨ψ,_,hs.defers,hs.size,fun k=>?_,c1⟩;simp only [St.get,ka5];split
 ·rename_i hk;subst hk;have hv:=c t;rw [f] at hv;have h0:=(hs.core.obj id _ d).2.1.1;refine .fz ?_;generalize a.tmps.getD t undef=u at hv;cases hv with
  | row hK g h1 hv=>rw [hv (by rw [h0])];exact c2
 ·exact c k
theorem kff {id2 id n j:Nat} {e:TypeId} {size:Nat} {xs:List FV} {e2:TypeId} {cells:List AV} (d:kab st.heap id2=some (.box e2 cells)) (l:cells[j]?=some (.row id n)) (g:kab st.heap id=some (.frow e size xs)) (hn:n=xs.length):
  LeSt st { st with heap:=(id2, .box e2 (cells.set j (.fz (.lst size n xs))))::kb6 id st.heap }:=by
 subst hn;intro F S0 N0 ψ S a w hs;obtain ⟨c1,c2⟩:=kh6 hs.core g;have q:id2≠id:=fun h=>by rw [h,g] at d;cases d
 have p:kab (kb6 id st.heap) id2=some (.box e2 cells):=kmf q d;obtain ⟨k1,⟨k0,b,cs,k2,k3,k4,k5,k6⟩,k7⟩:=c1.obj id2 _ p;refine ⟨ψ,_,hs.defers,hs.size,fun k=>(hs.tmps k).mono (fun _ h=>h) fun _ h => .inl h,⟨fun i o ho=>?_,fun i i' o o' b ho r m u=>?_,c1.lt,c1.s0,c1.n0,c1.fr⟩⟩
 ·rw [kae] at ho;by_cases hi:id2=i
  ·subst hi;rw [qq rfl] at ho;injection ho with ho;subst ho;refine ⟨k1,⟨k0,b,cs,k2,k3,by simpa using k4,fun x l=>?_,fun i v x hv c=>?_⟩,k7⟩
   ·rcases List.mem_or_eq_of_mem_set l with l | rfl;exact k5 x l
    ·rfl
   ·rw [List.getElem?_set] at c;split at c
    ·rename_i s;subst s;split at c
     ·injection c with c;subst c;have t:=k6 j v _ hv l;have h0:=(hs.core.obj id _ g).2.1.1;refine .fz ?_;cases t with
      | row hK y h1 hv=>rw [hv (by rw [h0])];exact c2
     ·cases c
    ·exact k6 i v x hv c
  ·rw [qh hi] at ho;exact c1.obj i o ho
 ·have f:∀ {i:Nat} {o:AObj},kab ((id2,AObj.box e2 (cells.set j (.fz (.lst size xs.length xs))))::kb6 id st.heap) i=some o->∃ o',kab (kb6 id st.heap) i=some o':=fun {i o} h=>by
   rw [kae] at h;by_cases hi:id2=i;subst hi;exact ⟨_,p⟩
   ·rw [qh hi] at h;exact ⟨_,h⟩
  obtain ⟨o1,h1⟩:=f ho;obtain ⟨o2,p⟩:=f r;exact c1.inj i i' o1 o2 b h1 p m u
theorem kem {e e2:TypeId} {size id2 j id:Nat} {cells:List AV} (u:Nat.ble 1 size=true:=by kernel_rfl) (g:kab st.heap id2=some (.box e2 cells):=by kernel_rfl) (l:cells[j]?=some (.fz (.atom (.slice none 0 0))):=by kernel_rfl) (d:st.ids.contains id=false:=by kernel_rfl):
  LeSt st { st with heap:=(id2, .box e2 (cells.set j (.row id 0)))::(id, .frow e size [])::st.heap,ids:=id::st.ids }:=by
 have d:id∉st.ids:=by simpa using d
 intro F S0 N0 ψ S a w hs;have hadd:=hs.core.add (n:=0) (v := .slice none 0 0) (w':=w) (ob := .frow e size []) (kag _) d (fun b q=>by cases q) ⟨kbz _ _,qk u,[],by rw [kar];exact ⟨by simp, .inl ⟨rfl,rfl⟩⟩,(fun x l=>by cases l),fun i x j v y h=>by simp at h⟩;have r:id≠id2:=fun h=>d (by rw [h];exact (hs.core.obj id2 _ g).1);have p:kab ((id, .frow e size [])::st.heap) id2=some (.box e2 cells):=by rw [kae,qh r];exact g
 obtain ⟨k1,⟨k0,b,cs,k2,k3,k4,k5,k6⟩,k7⟩:=hadd.obj id2 _ p;refine ⟨ψ.set id 0 (.slice none 0 0),S,hs.defers,hs.size,fun k=>(hs.tmps k).keep (kb2 d _ _) (fun _ h=>qs _ h) (fun _ h=>h) (fun _ _ _=>rfl),⟨fun i o ho=>?_,fun i i' o o' b ho s m q=>?_,hadd.lt,hadd.s0,hadd.n0,hadd.fr⟩⟩
 ·rw [kae] at ho;by_cases hi:id2=i
  ·subst hi;rw [qq rfl] at ho;injection ho with ho;subst ho;refine ⟨k1,⟨k0,b,cs,k2,k3,by simpa using k4,fun x l=>?_,fun i v x hv c=>?_⟩,k7⟩
   ·rcases List.mem_or_eq_of_mem_set l with l | rfl;exact k5 x l
    ·rfl
   ·rw [List.getElem?_set] at c;split at c
    ·rename_i t;subst t;split at c;injection c with c;subst c;rw [(k6 j v _ hv l).atom];exact .row (qv ..) (qar _) rfl fun _=>(kar _ _).symm
     ·cases c
    ·exact k6 i v x hv c
  ·rw [qh hi] at ho;exact hadd.obj i o ho
 ·have f:∀ {i:Nat} {o:AObj},kab ((id2,AObj.box e2 (cells.set j (.row id 0)))::(id, .frow e size [])::st.heap) i=some o->∃ o',kab ((id, .frow e size [])::st.heap) i=some o':=fun {i o} h=>by
   rw [kae] at h;by_cases hi:id2=i;subst hi;exact ⟨_,p⟩
   ·rw [qh hi] at h;exact ⟨_,h⟩
  obtain ⟨o1,h1⟩:=f ho;obtain ⟨o2,p⟩:=f s;exact hadd.inj i i' o1 o2 b h1 p m q
theorem LeSt.refl:LeSt st st:=fun F S0 N0 ψ S a w h=>⟨ψ,S,h⟩
theorem LeSt.trans {st' st'':St} (h:LeSt st st') (k:LeSt st' st''):LeSt st st'':=fun F S0 N0 ψ S a w hs=>by obtain ⟨ψ',S',b⟩:=h F S0 N0 ψ S a w hs;exact k F S0 N0 ψ' S' a w b
theorem ki1 {c:Code} {Q:Exit->St->Prop} (h:awp P c st fun e st'=>∃ st2,LeSt st' st2/\Q e st2):awp P c st Q:=fun F S0 N0 ψ S a w hs=>
 wp_mono (h F S0 N0 ψ S a w hs) fun e a' w' ⟨st',ψ',S',⟨st2,h0,h1⟩,b,d⟩=>by obtain ⟨ψ2,S2,f⟩:=h0 F S0 N0 ψ' S' a' w' b;exact ⟨st2,ψ2,S2,h1,f,d⟩
theorem ku8 {c:Code} {Qa Q:Exit->St->Prop} (ha:awp P c st Qa) (a:∀ e st',Qa e st'->∃ st2,LeSt st' st2/\Q e st2):awp P c st Q:=ki1 (klm ha a)
theorem ktd {σ β:Type} {step:σ->Option (σ ⊕ β)} {body:Code} (stOf:σ->St) {s0:σ} {b:β} {n:Nat} {Qb:β->Exit->St->Prop} (hl:kah step n s0=some b) (h0:LeSt st (stOf s0))
  (hr:∀ s r,step s=some r->awp P body (stOf s) fun e st=>match r with | .inl s'=>e = .normal/\LeSt st (stOf s') | .inr b'=>(e ≠ .normal/\e ≠ .outgrown)/\Qb b' e st):awp P (.loop body) st (Qb b):=by
 exact kwc stOf hl h0 (fun s s' hs=>hr s _ hs) fun s hs=>klm (hr s _ hs) fun e st h=>⟨h.1.1,h.1.2,h.2⟩
end
end Go.Proofs.YtpnnpkmjohkgiaaGreatDoor
