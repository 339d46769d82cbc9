import Derived.Test.YtaimpcnpifoidaaGreatDoorFun
set_option linter.unusedVariables false
set_option linter.unusedSimpArgs false
namespace Go.Proofs.YtaimpcnpifoidaaGreatDoor
open Go Go.RowKit
def kae (P:Program) (f:FuncId) (args:List FV) (r:FV):Prop:=
 (∃ fn, P.funcs[f]? = some fn ∧ fn.body.isNone = false ∧ (fn.name == "runtime.NumGoroutine") = false) ∧
 ∀ (S:Nat→Prop) (w:World) (vs:Array Value),vs.size=args.length→(∀ (i:Nat) (v:Value) (x:FV),vs[i]?=some v→args[i]?=some x→RF S w v x) →
  Calls P f vs w fun e w'=>∃ v,e = .returned v∧RF (fun b=>S b∨w.heap.size≤b) w' v r∧Grow w w'
def kagy (st:St) (c:C1) (x:Operand):Option FV:=match co1 c (st.eval x) with
 | .fz y=>some y
 | _=>none
def ks7 (st:St):List C1→List Operand→Option (List FV)
 | [],[]=>some []
 | c::cs,x::xs=>match kagy st c x,ks7 st cs xs with
  | some y,some ys=>some (y::ys)
  | _,_=>none
 | _,_=>none
section
variable {P:Program} {F S0:Nat→Prop} {N0:Nat} {w w':World} {S S':Nat→Prop} {ψ:Env} {K:Nat→Prop} {T:List (TypeId×TD)} {o:Oper} {a:Act} {st:St} {t:TypeId} {d:TD}
theorem k2f {ids:List Nat} (h:∀ t,RV ψ (·∈ids) S w (a.tmps.getD t undef) (st.get t)):∀ {cs:List C1} {xs:List Operand} {ys:List FV},ks7 st cs xs=some ys →
  ys.length=xs.length∧∀ (i:Nat) (x:Operand) (y:FV),xs[i]?=some x→ys[i]?=some y→RF S w (a.eval x) y
 | [],[],ys,h=>by simp only [ks7,qh] at h;subst h;exact ⟨rfl,fun i x y h=>by simp at h⟩
 | c::cs,x::xs,ys,hh=>by
  simp only [ks7] at hh
  split at hh
  ·rename_i y ys' h1 h2
   injection hh with hh
   subst hh
   obtain ⟨e1,e2⟩:=k2f h h2
   refine ⟨by simp [e1],fun i x' y' hx hy=>?_⟩
   cases i with
   | zero=>
    simp at hx hy
    subst hx hy
    unfold kagy at h1
    have hv:=ksz (c:=c) (Sim.eval_tmps h x)
    split at h1
    ·rename_i z hz
     injection h1 with h1
     subst h1
     rw [hz] at hv
     exact hv.inv
    ·cases h1
   | succ i=>exact e2 i x' y' (by simpa using hx) (by simpa using hy)
  ·cases hh
 | [],_::_,ys,h=>by cases h
 | _::_,[],ys,h=>by cases h
theorem kr3 {f : FuncId} {args : Array Operand} {ts : Array TypeId} (ho : o.op = .call { callee := .value (.func f), args := args, argTypes := ts }) (hf : ∃ fn, P.funcs[f]? = some fn ∧ fn.body.isNone = false ∧ (fn.name == "runtime.NumGoroutine") = false) :
  (execOp a.eval o).run P w = .ok (.enter f (args.map a.eval)) w:=by
 obtain ⟨fn,h1,h2,h3⟩:=hf
 have h2':fn.body≠none:=by intro h;rw [h] at h2;cases h2
 simp only [qy,ne_eq] at h3
 simp [execOp,ho,resolve,Act.eval,Deferred.ofValue,invoke,callFunc,h1,h2',h3]
theorem kaaz {f:FuncId} {args:Array Operand} {ts:Array TypeId} {cs:List C1} {ys:List FV} {r:FV} (ho:o.op = .call { callee := .value (.func f),args:=args,argTypes:=ts }) (hc:ks7 st cs args.toList=some ys) (hp:kae P f ys r):NStep P o st (.fz r):=by
 intro ψ S a w ht hO
 obtain ⟨e1,e2⟩:=k2f ht hc
 unfold khr
 rw [kr3 ho hp.1]
 refine (hp.2 S w (args.map a.eval) (by simp [e1]) fun i v x hv hx=>?_).mono ?_
 ·simp only [Array.getElem?_map,qj] at hv
  obtain ⟨y,hy,rfl⟩:=hv
  exact e2 i y x (by simpa using hy) hx
 ·rintro e w' ⟨v,rfl,h1,h2⟩
  exact ⟨v,rfl,h2, .fz h1⟩
def resX (T:List (TypeId×TD)) (st:St) (r:ResultVar) (c:C1):Option FV:=match r with
 | .tmp t=>match co1 c (st.get t) with
  | .fz y=>some y
  | _=>none
 | .cell x t=>match ka3 T t,kl8 st (st.get x) with
  | some d,some xs=>match kr5 d xs with
   | some z=>match co1 c z with
    | .fz y=>some y
    | _=>none
   | none=>none
  | _,_=>none
def kwh (T:List (TypeId×TD)) (st:St):List ResultVar→List C1→Option (List FV)
 | [],[]=>some []
 | r::rs,c::cs=>match resX T st r c,kwh T st rs cs with
  | some y,some ys=>some (y::ys)
  | _,_=>none
 | _,_=>none
def k8r (T:List (TypeId×TD)) (st:St) (rs:List ResultVar) (cs:List C1):Option FV:=match kwh T st rs cs with
 | some [y]=>some y
 | some ys=>some (.tup ys)
 | none=>none
def retX (T:List (TypeId×TD)) (st:St) (rs:List ResultVar) (cs:List C1):Option FV:=match st.dfr with
 | []=>k8r T st rs cs
 | _=>none
theorem k4a {T:List (TypeId×TD)} {st:St} {rs:List ResultVar} {cs:List C1} {y:FV} (h:retX T st rs cs=some y):st.dfr=[]∧k8r T st rs cs=some y:=by
 unfold retX at h
 split at h
 ·rename_i hd;exact ⟨hd,h⟩
 ·cases h
theorem k7o {v:Value} {x:AV} {xs:List AV} {c:AV} (hd:TdOk P t d) (hv:RV ψ (·∈st.ids) S w v x) (hO:∀ id o,kab st.heap id=some o→ObR ψ (·∈st.ids) S w id o) (hx:kl8 st x=some xs) (hc:kr5 d xs=some c):
  ∃ ad u,v = .pointer (some ad)∧(loadVar t ad).run P w = .ok u w∧RV ψ (·∈st.ids) S w u c:=by
 obtain ⟨b,off,hv,cs,hat,hl,h1,hr⟩:=kzb hv hO hx
 unfold kr5 at hc
 cases hk:d.kind.agg with
 | false=>
  rw [hk] at hc
  simp only [qb] at hc
  cases xs with
  | nil=>cases hc
  | cons y ys=>
   simp only [List.head?_cons,qh] at hc
   subst hc
   have hc0:cs[0]?=some (cs[0]'(by simp at hl;omega)):=List.getElem?_eq_getElem _
   have hcell:w.cell? ⟨b,off,none⟩=some (cs[0]'(by simp at hl;omega)):=by simpa using hat 0 _ hc0
   exact ⟨_,cs[0]'(by simp at hl;omega),hv,by simp [loadVar,hd.isAgg,hk,hcell],hr 0 _ y hc0 rfl⟩
 | true=>
  rw [hk] at hc
  simp only [qd] at hc
  cases hle:Nat.ble d.size xs.length with
  | false=>rw [hle] at hc;cases hc
  | true=>
   rw [hle] at hc
   simp only [qd,qh] at hc
   subst hc
   have hle':=qac hle
   have hlen:(cs.take d.size).length=d.size:=by rw [qai];omega
   have hload:=run_loadCells_list (P:=P) w ⟨b,off,none⟩ (cs.take d.size) fun j v hj=>by
    rw [List.getElem?_take] at hj
    split at hj
    ·rw [kks];exact hat j v hj
    ·cases hj
   rw [hlen] at hload
   refine ⟨_, .agg (cs.take d.size).toArray,hv,by simp [loadVar,hd.isAgg,hk,hd.size,hload],RV.aggA (by simp [hl]) (fun x hx=>h1 x (List.mem_of_mem_take hx)) fun i v x hv hx=>?_⟩
   simp only [List.getElem?_toArray] at hv
   rw [List.getElem?_take] at hv hx
   split at hv
   ·rename_i hi;rw [if_pos hi] at hx;exact hr i v x hv hx
   ·cases hv
def kmt (tmps:Array Value):ResultVar→Sem Value
 | .tmp t=>pure (tmps.getD t undef)
 | .cell x t=>do loadVar t (← asAddr (tmps.getD x undef))
theorem k3g (hT:TOk P T) (hs:Sim F S0 N0 st ψ S a w):∀ {rs:List ResultVar} {cs:List C1} {ys:List FV},kwh T st rs cs=some ys →
  ∃ vs:List Value,(rs.mapM (kmt a.tmps)).run P w = .ok vs w∧vs.length=ys.length∧∀ (i:Nat) (v:Value) (y:FV),vs[i]?=some v→ys[i]?=some y→RF S w v y
 | [],[],ys,h=>by simp only [kwh,qh] at h;subst h;exact ⟨[],by simp,rfl,fun i v y h=>by simp at h⟩
 | r::rs,c::cs,ys,h=>by
  simp only [kwh] at h
  split at h
  ·rename_i y ys' h1 h2
   injection h with h
   subst h
   obtain ⟨vs,k1,k2,k3⟩:=k3g hT hs h2
   have key:∃ v,(kmt a.tmps r).run P w = .ok v w∧RF S w v y:=by
    unfold resX at h1
    split at h1
    ·rename_i t
     have hv:=ksz (c:=c) (hs.tmps t)
     split at h1
     ·rename_i z hz
      injection h1 with h1
      subst h1
      rw [hz] at hv
      exact ⟨_,rfl,hv.inv⟩
     ·cases h1
    ·rename_i x t
     split at h1
     ·rename_i d xs hd hx
      split at h1
      ·rename_i z hz
       obtain ⟨ad,u,e1,e2,e3⟩:=k7o (hT.get hd) (hs.tmps x) (fun id o ho=>(hs.core.obj id o ho).2.1) hx hz
       have hv:=ksz (c:=c) e3
       split at h1
       ·rename_i z' hz'
        injection h1 with h1
        subst h1
        rw [hz'] at hv
        refine ⟨u,?_,hv.inv⟩
        simp only [kmt,e1,asAddr,Sem.run_bind,Sem.run_pure,Result.andThen_ok,e2]
       ·cases h1
      ·cases h1
     ·cases h1
   obtain ⟨v,e1,e2⟩:=key
   refine ⟨v::vs,?_,by simp [k2],fun i v' y' hv hy=>?_⟩
   ·rw [List.mapM_cons]
    simp only [Sem.run_bind,e1,Result.andThen_ok,k1,Sem.run_pure]
   ·cases i with
    | zero=>simp at hv hy;subst hv hy;exact e2
    | succ i=>exact k3 i v' y' (by simpa using hv) (by simpa using hy)
  ·cases h
 | [],_::_,ys,h=>by cases h
 | _::_,[],ys,h=>by cases h
theorem kah1 (hT:TOk P T) (hs:Sim F S0 N0 st ψ S a w) {fn:Func} {cs:List C1} {y:FV} (h:retX T st fn.results.toList cs=some y):∃ v,(results fn a.tmps).run P w = .ok v w∧RF S w v y:=by
 replace h:=(k4a h).2
 unfold k8r at h
 have key:∀ ys,kwh T st fn.results.toList cs=some ys→∃ vs:List Value,(results fn a.tmps).run P w = .ok (if h:vs.length=1 then vs[0] else .tuple vs.toArray) w∧vs.length=ys.length∧∀ (i:Nat) (v:Value) (y:FV),vs[i]?=some v→ys[i]?=some y→RF S w v y:=fun ys hy=>by
  obtain ⟨vs,k1,k2,k3⟩:=k3g hT hs hy
  refine ⟨vs,?_,k2,k3⟩
  unfold results
  rw [Array.mapM_eq_mapM_toList]
  have hg:∀ (g:ResultVar→Sem Value),(∀ x,g x=kmt a.tmps x)→(fn.results.toList.mapM g).run P w = .ok vs w:=fun g hg=>by rw [show g=kmt a.tmps from funext hg];exact k1
  simp only [Sem.run_bind,Sem.run_map]
  rw [hg _ fun x=>by cases x <;> rfl]
  simp only [Result.andThen_ok,Sem.run_pure]
  simp
 split at h
 ·rename_i z hz
  injection h with h
  subst h
  obtain ⟨vs,k1,k2,k3⟩:=key _ hz
  have hl:vs.length=1:=by simpa using k2
  rw [dif_pos hl] at k1
  exact ⟨_,k1,k3 0 _ _ (List.getElem?_eq_getElem (by omega)) rfl⟩
 ·rename_i ys hne hy
  injection h with h
  subst h
  obtain ⟨vs,k1,k2,k3⟩:=key _ hy
  have hl:¬ vs.length=1:=fun hl=>by
   rw [k2] at hl
   obtain ⟨z,rfl⟩:=List.length_eq_one_iff.1 hl
   exact hne z rfl
  rw [dif_neg hl] at k1
  exact ⟨_,k1, .tup (by simpa using k2) fun i v x hv hx=>k3 i v x (by simpa using hv) hx⟩
 ·cases h
def ko8:Nat→List FV→List (Nat×AV)
 | _,[]=>[]
 | i,x::l=>(i, .fz x)::ko8 (i+1) l
def retQ (T:List (TypeId×TD)) (rs:List ResultVar) (cs:List C1) (r:FV):Exit→St→Prop
 | .normal,st=>retX T st rs cs=some r
 | .ret,st=>retX T st rs cs=some r
 | _,_=>False
theorem kzc:∀ (l:List FV) (i t:Nat),(look .any (ko8 i l) t = .any)∨∃ x,i≤t∧l[t - i]?=some x∧look .any (ko8 i l) t = .fz x
 | [],i,t => .inl rfl
 | x::l,i,t=>by
  simp only [ko8,kdg]
  by_cases h:i=t
  ·subst h
   exact .inr ⟨x,qw _,by simp,by simp⟩
  ·rw [if_neg h]
   rcases kzc l (i+1) t with h1 | ⟨y,h1,h2,h3⟩
   ·exact .inl h1
   ·exact .inr ⟨y,by omega,by rw [show t - i=(t - (i+1))+1 by omega];simpa using h2,h3⟩
theorem k54 (hT : TOk P T) {f : FuncId} {fn : Func} {c : Code} {args : List FV} {r : FV} (cs : List C1) (hf : P.funcs[f]? = some fn) (hb : fn.body = some c) (hn : (fn.name == "runtime.NumGoroutine") = false) (hle : Nat.ble args.length fn.ntmps = true)
  (h:awp P c { n:=fn.ntmps,tmps:=ko8 0 args,heap:=[],ids:=[] } (retQ T fn.results.toList cs r)):kae P f args r:=by
 have hle:=qac hle
 refine ⟨⟨fn,hf,by rw [hb];rfl,hn⟩,fun S w vs hs hr=>calls_of_wp hf hb ?_⟩
 have hsim:Sim (fun b=>b<w.heap.size) S w.heap.size { n:=fn.ntmps,tmps:=ko8 0 args,heap:=[],ids:=[] } ⟨fun _=>0,fun _=>undef⟩ (fun b=>S b∧b<w.heap.size) { tmps:=vs++Array.replicate (fn.ntmps - vs.size) undef,defers:=[] } w:=by
  refine ⟨rfl,by simp;omega,fun t=>?_,⟨(fun id o ho=>nomatch ho),(fun id id' o o' b ho=>nomatch ho),fun b hb=>hb.2,fun b hb => .inl hb.1,qw _,fun b hb=>hb⟩⟩
  show RV _ _ _ w _ (look .any (ko8 0 args) t)
  rcases kzc args 0 t with h | ⟨x,_,h1,h2⟩
  ·rw [h];exact .any
  ·rw [h2]
   have hlt:t<vs.size:=by rw [hs];have:=(List.getElem?_eq_some_iff.1 h1).1;omega
   have:(vs++Array.replicate (fn.ntmps - vs.size) undef).getD t undef=vs[t]:=by
    rw [qaj,Array.getElem?_append_left hlt]
    simp [hlt]
   rw [this]
   exact .fz (hr t _ x (by simp [hlt]) (by simpa using h1)).bound
 refine wp_mono (h _ _ _ _ _ _ w hsim) ?_
 rintro e a' w' ⟨st',ψ',S',hq,h2,h3⟩
 have fin:retX T st' fn.results.toList cs=some r→a'.defers=[]∧∃ v,(results fn a'.tmps).run P w' = .ok v w'∧∃ v',Ending.returned v = .returned v'∧RF (fun b=>S b∨w.heap.size≤b) w' v' r∧Grow w w':=fun hq=>by
  obtain ⟨v,e1,e2⟩:=kah1 hT h2 hq
  exact ⟨h2.defers.trans (k4a hq).1,v,e1,v,rfl,e2.mono h2.core.s0,⟨h3.os,h3.tape,h3.output,h3.size,fun k hk=>h3.block k hk⟩⟩
 cases e with
 | normal=>exact fin hq
 | ret=>exact fin hq
 | _=>exact hq.elim
end
end Go.Proofs.YtaimpcnpifoidaaGreatDoor
set_option linter.unusedVariables false
set_option linter.unusedSimpArgs false
namespace Go.Proofs.YtaimpcnpifoidaaGreatDoor
open Go Go.RowKit
def hadd (fs:List (Nat×Option Nat×AV)) (p:Nat→Bool) (base:List (Nat×AV)):List (Nat×AV):=match fs with
 | []=>base
 | (j,some d,c)::l=>(d,bif p j then c else .any)::hadd l p base
 | (_,none,_)::l=>hadd l p base
def hst (st:St) (fs:List (Nat×Option Nat×AV)) (p:Nat→Bool):St:={ st with tmps:=hadd fs p st.tmps }
section
variable {P:Program} {F S0:Nat→Prop} {N0:Nat} {w w':World} {S S':Nat→Prop} {ψ:Env} {K:Nat→Prop} {o:Oper} {a:Act} {st:St}
theorem kz1 {ops:Array Oper} {g:Bool} (hs:∀ t,RV ψ K S w (a.tmps.getD t undef) (st.get t)) (h:kdv ops st o=some g):Region.wanted o (yielded ops a.tmps)=g:=by
 unfold kdv at h
 unfold Region.wanted
 split at h
 ·rename_i hg
  rw [hg];injection h
 ·rename_i j want hg
  rw [hg]
  split at h
  ·rename_i t ht
   have hv:=hs t
   split at h
   ·rename_i b hb
    rw [hb] at hv
    injection h with h
    subst h
    have hu:a.tmps.getD t undef = .bool b:=hv.atom
    rw [qaj] at hu
    have hq:a.tmps[t]?=some (.bool b):=by
     cases hq:a.tmps[t]? with
     | none=>rw [hq] at hu;cases hu
     | some u=>rw [hq] at hu;simp only [qap] at hu;rw [hu]
    simp only [yielded,ht,qa,hq]
    cases b <;> cases want <;> rfl
   ·rename_i xs hb
    rw [hb] at hv
    injection h with h
    subst h
    exact kxi hv.inv ht
   ·cases h
  ·cases h
theorem ktl {a:Act} {d:Option Nat} {v:Value} {n t:Nat} (hn:a.tmps.size=n) (hd:∀ t,d=some t→t<n):(a.put d v).tmps.getD t undef=if d=some t then v else a.tmps.getD t undef:=by
 cases d with
 | none=>simp [Act.put]
 | some d=>
  have hlt:=hd d rfl
  by_cases h:d=t
  ·subst h
   simp [Act.put,hn,hlt]
  ·rw [if_neg (by simpa using h)]
   simp only [Act.put]
   rw [qaj,Array.getElem?_setIfInBounds_ne h,← qaj]
end
end Go.Proofs.YtaimpcnpifoidaaGreatDoor
set_option linter.unusedVariables false
set_option linter.unusedSimpArgs false
namespace Go.Proofs.YtaimpcnpifoidaaGreatDoor
open Go Go.RowKit
abbrev w64 (n:Int):Int:=IntKind.i64.wrap n
abbrev wu8 (n:Int):Int:=IntKind.u8.wrap n
def eB (b:Bool):FV := .atom (.bool b)
def eS (s:BA):FV := .atom (.string s)
def eI (n:Int):FV := .atom (.int .i64 n)
def eU8 (n:Int):FV := .atom (.int .u8 n)
def eI32 (n:Int):FV := .atom (.int .i32 n)
def eL {α:Type} (size:Nat) (e:α→FV) (xs:List α):FV := .lst size xs.length (xs.map e)
def idx {α:Type} (xs:List α) (i:Int):Option α:=if 0≤i then xs[i.toNat]? else none
def byt (s:BA) (i:Int):Option Int:=if 0≤i then (s[i.toNat]?).map fun c=>(c.toNat:Int) else none
def app {α:Type} (bytes:Nat) (xs ys:List α):Option (List α):=if (xs.length+ys.length)*(bytes+1)≤140737488355328 then some (xs++ys) else none
def cat (s u:BA):Option BA:=if s.size+u.size≤9223372036854775807 then some (s++u) else none
section
variable {P:Program} {T:List (TypeId×TD)} {o:Oper} {st:St} {t:TypeId} {d:TD}
theorem kuv {α:Type} {xs:List α} {i:Int} {x:α} (h:idx xs i=some x):0≤i∧xs[i.toNat]?=some x:=by
 unfold idx at h
 split at h
 ·exact ⟨by assumption,h⟩
 ·cases h
theorem kaiq {α:Type} {enc:α→FV} {xs:List α} {i:Int} {x:α} {X Y:Operand} {e:TypeId} {de:TD} {k:IntKind} {cs:List FV} (h:idx xs i=some x) (hT:TOk P T) (ho:o.op = .indexAddr t X Y) (hd:ka3 T t=some d) (hk:d.kind = .slice e) (hde:ka3 T e=some de)
  (hx:ksm (st.eval X)=some (xs.map enc)) (hlen:∀ x,(enc x).cells.length=de.size) (hy:st.eval Y = .fz (.atom (.int k i))) (hc:(enc x).cells=cs):NStep P o st (.fz (.fp cs)):=by
 obtain ⟨h0,h1⟩:=kuv h
 refine kahx ho (hT.get hd) hk (hT.get hde) hx (fun z hz=>?_) hy h0 (z:=enc x) (by rw [List.getElem?_map,h1];rfl) hc
 obtain ⟨y,_,rfl⟩:=qao.1 hz
 exact hlen y
theorem kaj0 {s:BA} {i c:Int} {X Y:Operand} {k:IntKind} (h:byt s i=some c) (hT:TOk P T) (ho:o.op = .index t X Y) (hd:ka3 T t=some d) (hk:d.kind = .str) (hx:st.eval X = .fz (.atom (.string s))) (hy:st.eval Y = .fz (.atom (.int k i))):
  NStep P o st (.fz (.atom (.int .u8 c))):=by
 unfold byt at h
 split at h
 ·rename_i h0
  simp only [qj] at h
  obtain ⟨b,hb,rfl⟩:=h
  exact kak1 ho (hT.get hd) hk hx hy h0 hb
 ·cases h
theorem kqh {s u r:BA} {X Y:Operand} {yt:TypeId} (h:cat s u=some r) (ho:o.op = .binOp .add t X Y yt:=by kernel_rfl) (hx:st.eval X = .fz (.atom (.string s)):=by kernel_rfl) (hy:st.eval Y = .fz (.atom (.string u)):=by kernel_rfl):NStep P o st (.fz (.atom (.string r))):=by
 unfold cat at h
 split at h
 ·injection h with h
  subst h
  exact kafm ho hx hy (by assumption)
 ·cases h
theorem kadc {α:Type} {bytes:Nat} {xs ys r:List α} (h:app bytes xs ys=some r):r=xs++ys∧(xs.length+ys.length)*(bytes+1)≤140737488355328:=by
 unfold app at h
 split at h
 ·injection h with h;exact ⟨h.symm,by assumption⟩
 ·cases h
theorem k5o {α:Type} {enc:α→FV} {bytes:Nat} {xs ys r:List α} {X Y:Operand} {e:TypeId} {de:TD} {n m id:Nat} (h:app bytes xs ys=some r) (hT:TOk P T) (ho:o.op = .call { callee := .builtin .append,args:=#[X,Y],argTypes:=#[t,t] }) (hd:ka3 T t=some d) (hk:d.kind = .slice e) (hde:ka3 T e=some de)
  (hz:Nat.ble 1 de.size=true) (hzl:de.zero.length=de.size) (hby:de.bytes=bytes) (hx:st.eval X = .row id n) (hob:kab st.heap id=some (.frow e de.size (xs.map enc))) (hn:n=xs.length) (hy:st.eval Y = .fz (.lst de.size m (ys.map enc))∨st.eval Y = .lim de.size m (ys.map enc)):
  kdf P o st (.row id r.length) ((id, .frow e de.size (r.map enc))::st.heap) st.ids:=by
 obtain ⟨rfl,hlen⟩:=kadc h
 subst hby
 have:=kads (P:=P) (o:=o) (st:=st) (t:=t) (d:=d) (id:=id) (xs:=xs.map enc) (zs:=ys.map enc) ho (hT.get hd) hk (hT.get hde) (qac hz) hzl hx hob (by rw [hn];simp) hy (by simpa using hlen)
 rw [← List.map_append,qan] at this
 exact this
theorem kpc {t id n:Nat} {e:TypeId} {size:Nat} {xs:List FV} (hx:st.get t = .row id n) (hob:kab st.heap id=some (.frow e size xs)) (hn:n=xs.length):
  LeSt st { st with tmps:=(t, .fz (.lst size n xs))::st.tmps,heap:=kc2 id st.heap }:=by
 subst hn
 intro F S0 N0 ψ S a w hs
 obtain ⟨c1,c2⟩:=ko3 hs.core hob
 have hold:∀ k,RV ψ (·∈st.ids) (fun b=>S b∨kb1 (ψ.val id)=some b) w (a.tmps.getD k undef) (st.get k):=fun k=>(hs.tmps k).mono (fun _ h=>h) fun _ h => .inl h
 refine ⟨ψ,_,hs.defers,hs.size,fun k=>?_,c1⟩
 simp only [St.get,kdg]
 split
 ·rename_i hk
  subst hk
  have hv:=hold t
  rw [hx] at hv
  have h0:=(hs.core.obj id _ hob).2.1.1
  refine .fz ?_
  generalize a.tmps.getD t undef=u at hv
  cases hv with
  | row hK hn' h1 hv=>rw [hv (by rw [h0])];exact c2
 ·exact hold k
theorem kjs {id2 id n j:Nat} {e:TypeId} {size:Nat} {xs:List FV} {e2:TypeId} {cells:List AV} (hob2:kab st.heap id2=some (.box e2 cells)) (hx:cells[j]?=some (.row id n)) (hob:kab st.heap id=some (.frow e size xs)) (hn:n=xs.length):
  LeSt st { st with heap:=(id2, .box e2 (cells.set j (.fz (.lst size n xs))))::kc2 id st.heap }:=by
 subst hn
 intro F S0 N0 ψ S a w hs
 obtain ⟨c1,c2⟩:=ko3 hs.core hob
 have hne:id2≠id:=fun h=>by rw [h,hob] at hob2;cases hob2
 have h2:kab (kc2 id st.heap) id2=some (.box e2 cells):=kz7 hne hob2
 obtain ⟨k1,⟨k0,b,cs,k2,k3,k4,k5,k6⟩,k7⟩:=c1.obj id2 _ h2
 refine ⟨ψ,_,hs.defers,hs.size,fun k=>(hs.tmps k).mono (fun _ h=>h) fun _ h => .inl h,⟨fun i o ho=>?_,fun i i' o o' b ho ho' hne' hb=>?_,c1.lt,c1.s0,c1.n0,c1.fr⟩⟩
 ·rw [kai] at ho
  by_cases hi:id2=i
  ·subst hi
   rw [if_pos rfl] at ho
   injection ho with ho
   subst ho
   refine ⟨k1,⟨k0,b,cs,k2,k3,by simpa using k4,fun x hx=>?_,fun i v x hv hx'=>?_⟩,k7⟩
   ·rcases List.mem_or_eq_of_mem_set hx with hx | rfl
    ·exact k5 x hx
    ·rfl
   ·rw [List.getElem?_set] at hx'
    split at hx'
    ·rename_i hij
     subst hij
     split at hx'
     ·injection hx' with hx'
      subst hx'
      have hv':=k6 j v _ hv hx
      have h0:=(hs.core.obj id _ hob).2.1.1
      refine .fz ?_
      cases hv' with
      | row hK hn' h1 hv=>rw [hv (by rw [h0])];exact c2
     ·cases hx'
    ·exact k6 i v x hv hx'
  ·rw [if_neg hi] at ho
   exact c1.obj i o ho
 ·have f:∀ {i:Nat} {o:AObj},kab ((id2,AObj.box e2 (cells.set j (.fz (.lst size xs.length xs))))::kc2 id st.heap) i=some o→∃ o',kab (kc2 id st.heap) i=some o':=fun {i o} h=>by
   rw [kai] at h
   by_cases hi:id2=i
   ·subst hi;exact ⟨_,h2⟩
   ·rw [if_neg hi] at h;exact ⟨_,h⟩
  obtain ⟨o1,h1⟩:=f ho
  obtain ⟨o2,h2⟩:=f ho'
  exact c1.inj i i' o1 o2 b h1 h2 hne' hb
theorem ket {e e2:TypeId} {size id2 j id:Nat} {cells:List AV} (hz:Nat.ble 1 size=true:=by kernel_rfl) (hob2:kab st.heap id2=some (.box e2 cells):=by kernel_rfl) (hx:cells[j]?=some (.fz (.atom (.slice none 0 0))):=by kernel_rfl) (hid:st.ids.contains id=false:=by kernel_rfl):
  LeSt st { st with heap:=(id2, .box e2 (cells.set j (.row id 0)))::(id, .frow e size [])::st.heap,ids:=id::st.ids }:=by
 have hid:id∉st.ids:=by simpa using hid
 intro F S0 N0 ψ S a w hs
 have hadd:=hs.core.add (n:=0) (v := .slice none 0 0) (w':=w) (ob := .frow e size []) (kaj _) hid (fun b hb=>by cases hb) ⟨ke1 _ _,qac hz,[],by rw [kbn];exact ⟨by simp, .inl ⟨rfl,rfl⟩⟩,(fun x hx=>by cases hx),fun i x j v y h=>by simp at h⟩
 have hne:id≠id2:=fun h=>hid (by rw [h];exact (hs.core.obj id2 _ hob2).1)
 have h2:kab ((id, .frow e size [])::st.heap) id2=some (.box e2 cells):=by rw [kai,if_neg hne];exact hob2
 obtain ⟨k1,⟨k0,b,cs,k2,k3,k4,k5,k6⟩,k7⟩:=hadd.obj id2 _ h2
 refine ⟨ψ.set id 0 (.slice none 0 0),S,hs.defers,hs.size,fun k=>(hs.tmps k).keep (keo hid _ _) (fun _ h=>qk _ h) (fun _ h=>h) (fun _ _ _=>rfl),⟨fun i o ho=>?_,fun i i' o o' b ho ho' hne' hb=>?_,hadd.lt,hadd.s0,hadd.n0,hadd.fr⟩⟩
 ·rw [kai] at ho
  by_cases hi:id2=i
  ·subst hi
   rw [if_pos rfl] at ho
   injection ho with ho
   subst ho
   refine ⟨k1,⟨k0,b,cs,k2,k3,by simpa using k4,fun x hx=>?_,fun i v x hv hx'=>?_⟩,k7⟩
   ·rcases List.mem_or_eq_of_mem_set hx with hx | rfl
    ·exact k5 x hx
    ·rfl
   ·rw [List.getElem?_set] at hx'
    split at hx'
    ·rename_i hij
     subst hij
     split at hx'
     ·injection hx' with hx'
      subst hx'
      rw [(k6 j v _ hv hx).atom]
      exact .row (qo ..) (qx _) rfl fun _=>(kbn _ _).symm
     ·cases hx'
    ·exact k6 i v x hv hx'
  ·rw [if_neg hi] at ho
   exact hadd.obj i o ho
 ·have f:∀ {i:Nat} {o:AObj},kab ((id2,AObj.box e2 (cells.set j (.row id 0)))::(id, .frow e size [])::st.heap) i=some o→∃ o',kab ((id, .frow e size [])::st.heap) i=some o':=fun {i o} h=>by
   rw [kai] at h
   by_cases hi:id2=i
   ·subst hi;exact ⟨_,h2⟩
   ·rw [if_neg hi] at h;exact ⟨_,h⟩
  obtain ⟨o1,h1⟩:=f ho
  obtain ⟨o2,h2⟩:=f ho'
  exact hadd.inj i i' o1 o2 b h1 h2 hne' hb
theorem LeSt.refl:LeSt st st:=fun F S0 N0 ψ S a w h=>⟨ψ,S,h⟩
theorem LeSt.trans {st' st'':St} (h:LeSt st st') (k:LeSt st' st''):LeSt st st'':=fun F S0 N0 ψ S a w hs=>by
 obtain ⟨ψ',S',h'⟩:=h F S0 N0 ψ S a w hs
 exact k F S0 N0 ψ' S' a w h'
theorem NStep.eqv {c c':AV} (h:NStep P o st c) (e:c=c'):NStep P o st c':=e ▸ h
theorem kui {c:Code} {Q:Exit→St→Prop} (h:awp P c st fun e st'=>∃ st2,LeSt st' st2∧Q e st2):awp P c st Q:=fun F S0 N0 ψ S a w hs=>
 wp_mono (h F S0 N0 ψ S a w hs) fun e a' w' ⟨st',ψ',S',⟨st2,h0,h1⟩,h2,h3⟩=>by
  obtain ⟨ψ2,S2,h4⟩:=h0 F S0 N0 ψ' S' a' w' h2
  exact ⟨st2,ψ2,S2,h1,h4,h3⟩
theorem kad9 {c:Code} {Qa Q:Exit→St→Prop} (ha:awp P c st Qa) (hq:∀ e st',Qa e st'→∃ st2,LeSt st' st2∧Q e st2):awp P c st Q:=kui (kuc ha hq)
theorem kt0 {t:Nat} {x y:AV} (hx:st.get t=x) (h:x=y):LeSt st (st.put (some t) y):=by
 subst h
 intro F S0 N0 ψ S a w hs
 refine ⟨ψ,S,hs.defers,hs.size,fun k=>?_,hs.core⟩
 simp only [St.put,St.get,kdg]
 split
 ·rename_i hk;subst hk;rw [← hx];exact hs.tmps t
 ·exact hs.tmps k
theorem kabr {σ β:Type} {step:σ→Option (σ ⊕ β)} {body:Code} (stOf:σ→St) {s0:σ} {b:β} {n:Nat} {Qb:β→Exit→St→Prop} (hl:kaa step n s0=some b) (h0:LeSt st (stOf s0))
  (hr:∀ s r,step s=some r→awp P body (stOf s) fun e st=>match r with | .inl s'=>e = .normal∧LeSt st (stOf s') | .inr b'=>(e ≠ .normal∧e ≠ .outgrown)∧Qb b' e st):awp P (.loop body) st (Qb b):=by
 exact kadu stOf hl h0 (fun s s' hs=>hr s _ hs) fun s hs=>kuc (hr s _ hs) fun e st h=>⟨h.1.1,h.1.2,h.2⟩
end
end Go.Proofs.YtaimpcnpifoidaaGreatDoor
