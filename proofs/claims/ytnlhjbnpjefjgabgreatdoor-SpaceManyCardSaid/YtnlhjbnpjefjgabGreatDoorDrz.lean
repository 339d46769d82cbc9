import Derived.Test.YtnlhjbnpjefjgabGreatDoorOpo
import Derived.Recover
set_option linter.all false
set_option linter.unusedSectionVars false
namespace Go.Proofs.YtnlhjbnpjefjgabGreatDoor
open Go Go.RowKit
variable [Dr]
def ksu:List FV->Option (List Value)
 | []=>some []
 | .atom v::l=>match ksu l with
  | some r=>some (v::r)
  | none=>none
 | _::_=>none
def toV:AV->Option Value
 | .fz (.atom v)=>bif v.oneCell' then some v else none
 | .fz (.agg xs)=>match ksu xs with
  | some l=>bif l.all (·.oneCell') then some (.agg l.toArray) else none
  | none=>none
 | _=>none
def ofV:Value->Option FV
 | .agg cs=>bif cs.toList.all (·.oneCell') then some (.agg (cs.toList.map .atom)) else none
 | .tuple _=>none
 | v=>some (.atom v)
variable {P:Program} {w w':World} {S S':Nat->Prop} {ψ:Env} {K:Nat->Prop} {T:List (TypeId×TD)} {o:Oper} {a:Act} {st:St} {t:TypeId} {d:TD}
theorem kyb:∀ {xs:List FV} {l:List Value},ksu xs=some l->xs=l.map .atom
 | [],l,h=>by simp only [ksu,qb] at h;subst h;rfl
 | .atom v::xs,l,h=>by
  simp only [ksu] at h;split at h;rename_i r hr;injection h with h;subst h;rw [kyb hr];rfl
  ·cases h
 | .agg _::_,l,h=>by cases h
 | .tup _::_,l,h=>by cases h
 | .lst _ _ _::_,l,h=>by cases h
 | .fp _::_,l,h=>by cases h
 | .bx _::_,l,h=>by cases h
theorem kadi {u v:Value} {x:AV} (h:RV ψ K S w u x) (a:toV x=some v):u=v:=by
 unfold toV at a;split at a
 ·rename_i v';cases c:v'.oneCell' with
  | false=>rw [c] at a;cases a
  | true=>rw [c] at a;injection a with a;subst a;exact h.atom
 ·rename_i xs;split at a
  ·rename_i l hl;cases c:l.all (·.oneCell') with
   | false=>rw [c] at a;cases a
   | true=>
    rw [c] at a;injection a with a;subst a;have h:=h.inv;cases h with
    | @agg cs _ h h1 hr=>
     rw [kyb hl] at hr h;congr 1;apply qbh;apply List.ext_getElem?;intro i;simp only [qal];rcases qbe i cs.size with hi | hi;have b:i<l.length:=(by simp at h;omega);have:=hr i cs[i] (.atom l[i]) (by simp [hi]) (by simp [b]);rw [qa8 hi,this.atom_eq];simp [b]
     ·have b:l.length<=i:=(by simp at h;omega);simp [hi,b]
  ·cases a
 ·cases a
theorem kac4 {v:Value} {x:FV} (h:ofV v=some x):RF S w v x:=by
 unfold ofV at h;split at h
 ·rename_i cs;cases b:cs.toList.all (·.oneCell') with
  | false=>rw [b] at h;cases h
  | true=>
   rw [b] at h;injection h with h;subst h;refine .agg (by simp) ?_ ?_;intro x a;simp only [qx] at a;obtain ⟨v,hv,rfl⟩:=a;exact qk.1 b v hv
   ·intro i v x hv a;simp only [qg,qs,qal] at a;obtain ⟨u,hu,rfl⟩:=a;rw [hv] at hu;injection hu with hu;subst hu;exact .atom (qk.1 b v (by rw [Array.mem_toList_iff];exact Array.mem_of_getElem? hv))
 cases h
 ·rename_i c d;injection h with h;subst h;refine .atom ?_;cases v <;> first | rfl | exact absurd rfl (c _) | exact absurd rfl (d _)
theorem kab6 {x:Operand} {v:Value} (ho:o.op = .makeInterface t x) (g:TdOk P t d) (hk:∀ h:d.kind = .ifc,False) (i:toV (st.eval x)=some v):NStep P o st (.fz (.atom (.iface t v))):=by
 intro ψ S a w ht k;have hv:=kadi (Sim.eval_tmps ht x) i;obtain ⟨_,e,h1,f⟩:=g;refine kad w (.iface t v) ?_ ⟨kaf _, .fz (.atom rfl)⟩;have c:∀ ms,e ≠ .interface ms:=fun ms j=>by subst j;cases b:d.kind <;> rw [b] at f <;> first | exact hk b | exact f
 simp only [execOp,ho,hv,Instr.makeInterface,Sem.run_bind,Result.andThen_ok,run_underlying h1];cases e <;> first | exact absurd rfl (c _) | rfl
theorem k53 {x:Operand} {xt:TypeId} {v:Value} {y:FV} (ho:o.op = .typeAssert x xt t true) (j:TdOk P t d) (hk:∀ h:d.kind = .ifc,False) (k:st.eval x = .fz (.atom (.iface t v))) (hy:ofV v=some y):
  NStep P o st (.fz (.tup [y, .atom (.bool true)])):=by
 intro ψ S a w ht m;have hv:=Sim.eval_tmps ht x;rw [k] at hv;have hv:=hv.atom;obtain ⟨_,e,h1,g⟩:=j;have f:∀ ms,e ≠ .interface ms:=fun ms l=>by subst l;cases b:d.kind <;> rw [b] at g <;> first | exact hk b | exact g
 refine kad w (.tuple #[v, .bool true]) ?_ ⟨kaf _, .fz (.tup rfl ?_)⟩
 ·simp only [execOp,ho,hv,Instr.typeAssert,Sem.run_bind,Result.andThen_ok,run_underlying h1];cases e <;> first | exact absurd rfl (f _) | simp
 ·intro i u z hu c
  match i with
  | 0=>simp at hu c;subst hu c;exact kac4 hy
  | 1=>simp at hu c;subst hu c;exact .atom rfl
  | i+2=>simp at c
theorem k2j {op:BinOp} {x y:Operand} {u v:Value} (h:(∃ s z,u = .iface s z)\/∃ c,y = .const c) (hv:v = .nilIface) (hu:(∃ s z,u = .iface s z)\/u = .nilIface):(eqGuard op t x y u v).run P w = .ok () w:=by
 unfold eqGuard;subst hv;rcases hu with ⟨s,z,rfl⟩ | rfl;cases op <;> simp
 ·rcases h with ⟨s,z,h⟩ | ⟨c,rfl⟩;cases h
  ·cases op <;> simp
theorem TdOk.ifc (h:TdOk P t d) (hk:d.kind = .ifc):∃ ms,P.underlying t=some (.interface ms):=by obtain ⟨_,e,h1,a⟩:=h;rw [hk] at a;cases e <;> simp [kdd] at a;exact ⟨_,h1⟩
theorem kn4 {x:Operand} {yt:TypeId} {u:Value} (neg r:Bool) (ho:o.op = .binOp (if neg then .neq else .eql) t x (.const .nilIface) yt) (f:TdOk P t d) (hk:d.kind = .ifc) (g:st.eval x = .fz (.atom u)) (hu:(r=false/\∃ s z,u = .iface s z)\/(r=true/\u = .nilIface)):
  NStep P o st (.fz (.atom (.bool (bif neg then !r else r)))):=by
 obtain ⟨ms,b⟩:=f.ifc hk;intro ψ S a w ht j;have hv:=Sim.eval_tmps ht x;rw [g] at hv;have hv:=hv.atom;have i:∀ d:Nat,(Op.equalIn (d+1) t u .nilIface).run P w = .ok r w:=fun d=>by rcases hu with ⟨rfl,s,z,rfl⟩ | ⟨rfl,rfl⟩ <;> simp [Op.equalIn,run_underlying b]
 have c:∀ op,(eqGuard op t x (.const .nilIface) u .nilIface).run P w = .ok () w:=fun op=>k2j (.inr ⟨_,rfl⟩) rfl (hu.elim (fun h => .inl h.2) fun h => .inr h.2);refine kad w (.bool (bif neg then !r else r)) ?_ ⟨kaf _, .fz (.atom rfl)⟩;have hc:a.eval (.const .nilIface) = .nilIface:=rfl;have e:(binOp .eql t u .nilIface).run P w = .ok (.bool r) w/\(binOp .neq t u .nilIface).run P w = .ok (.bool !r) w:=by rcases hu with ⟨hr,s,z,rfl⟩ | ⟨hr,rfl⟩ <;> subst hr <;> constructor <;> (simp only [binOp];simp [Op.equal,Op.maxDepth,i 9999])
 cases neg;simp [execOp,ho,hv,hc,c,e.1]
 ·simp [execOp,ho,hv,hc,c,e.2]
end Go.Proofs.YtnlhjbnpjefjgabGreatDoor
set_option linter.all false
set_option linter.unusedSectionVars false
namespace Go.Proofs.YtnlhjbnpjefjgabGreatDoor
open Go Go.RowKit
variable [Dr]
def dfn (f:FuncId) (cs:List Value):Deferred:={ target := .fn (.func f) cs.toArray,args:=#[] }
def kkn (fn:Func):Option (Nat×Nat×Code):=match fn.body with
 | some (.seq (.region _ os false) c)=>match os.toList with
  | [o1,o2]=>match o1.op,o1.dst,o1.guard with
   | .call c1,some t1,none=>match o2.op,o2.dst,o2.guard with
    | .assign (.tmp t),some t2,none=>match c1.callee,c1.args.toList with
     | .builtin .recover,[]=>bif Nat.beq t t1 && (Nat.blt t1 fn.ntmps && (Nat.blt t2 fn.ntmps && fn.results.isEmpty)) then some (t1,t2,c) else none
     | _,_=>none
    | _,_,_=>none
   | _,_,_=>none
  | [o1]=>match o1.op,o1.dst,o1.guard with
   | .call c1,some t1,none=>match c1.callee,c1.args.toList with
    | .builtin .recover,[]=>bif Nat.blt t1 fn.ntmps && fn.results.isEmpty then some (t1,t1,c) else none
    | _,_=>none
   | _,_,_=>none
  | _=>none
 | _=>none
def recV:Exit->Option Value
 | .normal=>some .nilIface
 | .ret=>some .nilIface
 | .panic [⟨v,false,false⟩]=>bif v.oneCell' then some v else none
 | _=>none
def dst0 (keep:List Nat) (n t1 t2:Nat) (pv:Value) (vs:List AV) (gi:Nat) (ocs:List Value) (st:St):St:=
 { n:=n,tmps:=(t2, .fz (.atom pv))::(t1, .fz (.atom pv))::argT 0 vs,heap:=(gi, .gho ocs (keep.map st.get))::st.heap,ids:=gi::st.ids }
def dstB (keep:List Nat) (gi:Nat) (vs:List AV) (st st2:St):St:={ n:=st.n,tmps:=zipS (keep.map fun t=>(t, .any)) vs,heap:=kbd gi st2.heap,ids:=st2.ids }
def hdQ (P:Program) (T:List (TypeId×TD)) (rs:List ResultVar) (g:Nat) (ids:List Nat) (E:HEnd) (post:List (Nat×AObj)) (ids':List Nat) (ψ0:Env) (S1:Nat->Prop) (w0:World) (e:Exit) (st:St):Prop:=
 hQ T rs g ids E post ids' ψ0 S1 w0 e st \/ ∃ keep f fn2 t1 t2 c2 gi cvals vs pv gi2, st.dfr = [dfn f cvals] /\ kaa st.heap gi = some (.gho cvals vs) /\ cvals.length = vs.length /\ P.funcs[f]? = some fn2 /\ kkn fn2 = some (t1, t2, c2) /\ (fn2.name == "runtime.NumGoroutine") = false /\
  Nat.ble vs.length fn2.ntmps=true/\recV e=some pv/\st.ids.contains gi2=false /\
  ∀ ocs,awp P c2 (dst0 keep fn2.ntmps t1 t2 pv vs gi2 ocs st) fun e2 st2=>(e2 = .normal\/e2 = .ret)/\st2.dfr=[]/\∃ vs',kaa st2.heap gi2=some (.gho ocs vs')/\hQ T rs g ids E post ids' ψ0 S1 w0 .ret (dstB keep gi2 vs' st st2)
variable {P:Program} {F S0:Nat->Prop} {N0:Nat} {w w':World} {S S':Nat->Prop} {ψ ψ':Env} {T:List (TypeId×TD)} {st:St} {ids:List Nat} {a:Act}
theorem kyy (y:TOk P T) {fn:Func} (pre:List (Nat×AObj)) {post:List (Nat×AObj)} {ids':List Nat} {E:HEnd} {g:Nat} {ψ0:Env} {w0:World} {e:Exit} (z:g∉ids) (n:g∉ids') (o:(post.all fun p=>okO ids' p.2)=true) (A:E.ok ids'=true) (hk:(post.all fun p=>ids'.contains p.1)=true) (h:kk9 T fn.results.toList g ids E post ids' ψ0 S w0 e st) (d:Sim F S0 N0 st ψ' S' a w') (t:Fr F w w'):
  a.defers=[]/\((e = .normal\/e = .ret)/\(∃ v,(results fn a.tmps).run P w' = .ok v w'/\∃ ψ'' S'',E.is (.returned v) ψ'' (·∈ids') S'' w'/\Core F S0 N0 post ids' ψ'' S'' w'/\Fr F w w'/\Ext (·∈ids) ψ0 ψ''/\(∀ i,i∈ids->i∈ids')/\(∀ b,S b->S'' b)/\Same S w0 w') \/
   ∃ v,e = .panic [{ v:=v,recovered:=false }]/\∃ ψ'' S'',E.is (.panicked [{ v:=v,recovered:=false }]) ψ'' (·∈ids') S'' w'/\Core F S0 N0 post ids' ψ'' S'' w'/\Fr F w w'/\Ext (·∈ids) ψ0 ψ''/\(∀ i,i∈ids->i∈ids')/\(∀ b,S b->S'' b)/\Same S w0 w'):=by
 obtain ⟨u,hi,x⟩:=h;have q:kaa st.heap g=some (.was ψ0 ids S w0):=by rw [u,kae,qt rfl]
 obtain ⟨_,⟨_,_,_,k1,k2,k3,k4⟩,_⟩:=d.core.obj g _ q;have f:∀ i,i∈ids->i∈ids':=fun i m=>by
  have:=k2 i m;rw [hi] at this;rcases qan.1 this with rfl | h;exact absurd m z
  ·exact h
 have kk9:∀ i ob,kaa post i=some ob->i∈ids'/\okO ids' ob=true:=fun i ob ho=>by
  have hm:∀ {l:List (Nat×AObj)},kaa l i=some ob->(i,ob)∈l:=fun {l}=>by
   induction l with
   | nil=>intro h;cases h
   | cons p l ih=>
    intro h;obtain ⟨k,v⟩:=p;rw [kae] at h;split at h;rename_i hk;subst hk;injection h with h;subst h;exact qn ..
    ·exact qe _ (ih h)
  have hm:=hm ho;exact ⟨by simpa using qk.1 hk _ hm,by simpa using qk.1 o _ hm⟩
 have hl:∀ i ob,kaa post i=some ob->kaa st.heap i=some ob:=fun i ob ho=>by have r:g≠i:=fun e=>n (e ▸ (kk9 i ob ho).1);rw [u,kae,qq r];exact ho
 have c:Core F S0 N0 post ids' ψ' S' w':=by refine ⟨fun i ob ho=>?_,fun i i' ob ob' b ho s=>d.core.inj i i' ob ob' b (hl i ob ho) (hl i' ob' s),d.core.lt,d.core.s0,d.core.n0,d.core.fr⟩;obtain ⟨_,m2,m3⟩:=d.core.obj i ob (hl i ob ho);exact ⟨(kk9 i ob ho).1,m2.subA (kk9 i ob ho).2,m3⟩
 cases E with
 | ret res=>
  obtain ⟨B,j⟩:=x;obtain ⟨v,e1,e2⟩:=k27 y d j;exact ⟨d.defers.trans (kvr j).1, .inl ⟨B,v,e1,ψ',S',⟨v,rfl,e2.subA A⟩,c,t,k1,f,k3,k4⟩⟩
 | pan v=>
  obtain ⟨C,rfl⟩:=x;exact ⟨d.defers.trans C, .inr ⟨v,rfl,ψ',S',rfl,c,t,k1,f,k3,k4⟩⟩
theorem krq {fn:Func} {t1 t2:Nat} {c2:Code} (h:kkn fn=some (t1,t2,c2)):∃ id os o1 c1,fn.body=some (.seq (.region id os false) c2)/\o1.op = .call c1/\c1.callee = .builtin .recover/\c1.args=#[]/\o1.dst=some t1/\o1.guard=none /\
  t1<fn.ntmps/\t2<fn.ntmps/\fn.results=#[]/\((∃ o2,os=#[o1,o2]/\o2.op = .assign (.tmp t1)/\o2.dst=some t2/\o2.guard=none)\/(os=#[o1]/\t2=t1)):=by
 unfold kkn at h;split at h
 ·rename_i id os c i;split at h
  ·rename_i o1 o2 b;split at h
   ·rename_i c1 t1' h1 d e;split at h
    ·rename_i tt t2' j k l;split at h
     ·rename_i f g;cases hc:(Nat.beq tt t1' && (Nat.blt t1' fn.ntmps && (Nat.blt t2' fn.ntmps && fn.results.isEmpty))) with
      | false=>rw [hc] at h;cases h
      | true=>
       rw [hc] at h;simp only [qr,qb,qp] at h;obtain ⟨rfl,rfl,rfl⟩:=h;simp only [qo] at hc;obtain ⟨b1,b2,b3,b4⟩:=hc;obtain rfl:=qf b1;have a:os=#[o1,o2]:=(by apply qbh;simpa using b);exact ⟨id,os,o1,c1,i,h1,f,by apply qbh;simpa using g,d,e,by simpa [Nat.blt_eq] using b2,by simpa [Nat.blt_eq] using b3,by simpa using b4, .inl ⟨o2,a,j,k,l⟩⟩
     ·cases h
    ·cases h
   ·cases h
  ·rename_i o1 b;split at h
   ·rename_i c1 t1' h1 d e;split at h
    ·rename_i f g;cases hc:(Nat.blt t1' fn.ntmps && fn.results.isEmpty) with
     | false=>rw [hc] at h;cases h
     | true=>
      rw [hc] at h;simp only [qr,qb,qp] at h;obtain ⟨rfl,rfl,rfl⟩:=h;simp only [qo] at hc;obtain ⟨b2,b4⟩:=hc;have a:os=#[o1]:=(by apply qbh;simpa using b);exact ⟨id,os,o1,c1,i,h1,f,by apply qbh;simpa using g,d,e,by simpa [Nat.blt_eq] using b2,by simpa [Nat.blt_eq] using b2,by simpa using b4, .inr ⟨a,rfl⟩⟩
    ·cases h
   ·cases h
  ·cases h
 ·cases h
theorem k9r {e:Exit} {pv:Value} (h:recV e=some pv):pv.oneCell'=true/\(((e = .normal\/e = .ret)/\pv = .nilIface)\/e = .panic [{ v:=pv,recovered:=false }]):=by
 unfold recV at h;split at h;injection h with h;subst h;exact ⟨rfl, .inl ⟨.inl rfl,rfl⟩⟩;injection h with h;subst h;exact ⟨rfl, .inl ⟨.inr rfl,rfl⟩⟩
 ·rename_i v;cases a:v.oneCell' with
  | false=>rw [a] at h;cases h
  | true=>rw [a] at h;injection h with h;subst h;exact ⟨a, .inr rfl⟩
 ·cases h
theorem kwq (hT:TOk P T) {fn:Func} {post:List (Nat×AObj)} {ids':List Nat} {E:HEnd} {g:Nat} {ψ0:Env} {w0:World} (e:Exit) (hg:g∉ids) (O:g∉ids') (U:(post.all fun p=>okO ids' p.2)=true) (hE:E.ok ids'=true) (hk:(post.all fun p=>ids'.contains p.1)=true) (D:Sim F S0 N0 st ψ' S' a w') (h3:Fr F w w') {keep:List Nat} {f:FuncId} {fn2:Func} {t1 t2:Nat} {c2:Code} {gi:Nat} {cvals:List Value} {vs:List AV} {pv:Value} {gi2:Nat} {u:FrameMode} (hd: st.dfr = [dfn f cvals]) (V: kaa st.heap gi = some (.gho cvals vs)) (G: cvals.length = vs.length) (hf: P.funcs[f]? = some fn2) (X: kkn fn2 = some (t1, t2, c2)) (hn: (fn2.name == "runtime.NumGoroutine") = false) (H: Nat.ble vs.length fn2.ntmps = true) (hu:(u = .returning/\pv = .nilIface)\/u = .panicking [{ v:=pv,recovered:=false }]) (I:pv.oneCell'=true) (c:st.ids.contains gi2=false) (h:∀ ocs,awp P c2 (dst0 keep fn2.ntmps t1 t2 pv vs gi2 ocs st) fun e2 st2=>(e2 = .normal\/e2 = .ret)/\st2.dfr=[]/\∃ vs',kaa st2.heap gi2=some (.gho ocs vs')/\hQ T fn.results.toList g ids E post ids' ψ0 S w0 .ret (dstB keep gi2 vs' st st2)):
  Leaves P fn a.tmps (fun e w'=>∃ ψ'' S'',E.is e ψ'' (·∈ids') S'' w'/\Core F S0 N0 post ids' ψ'' S'' w'/\Fr F w w'/\Ext (·∈ids) ψ0 ψ''/\(∀ i,i∈ids->i∈ids')/\(∀ b,S b->S'' b)/\Same S w0 w') a.defers u w':=by
 obtain ⟨id,os,o1,c1,j,p1,p2,p3,p4,p5,n1,n2,nres,r⟩:=krq X;have H:=qi H;have c:gi2∉st.ids:=by simpa using c
 rw [D.defers,hd];have Y:fn2.body≠none:=by rw [j];simp
 simp only [beq_eq_false_iff_ne,ne_eq] at hn;refine leaves_cons (f:=f) (args:=cvals.toArray) (fun hh=>by rcases hu with ⟨h,_⟩ | h <;> rw [hh] at h <;> cases h) (by simp [invoke,callFunc,hf,Y,hn]) ?_;refine callsD_of_wpS hf j fun c₀ cs hm=>?_;have s:(cvals.toArray++Array.replicate (fn2.ntmps - cvals.toArray.size) undef).size=fn2.ntmps:=by simp;omega
 -- the values of the frame that leaves
 have z:=D.core.add (n:=0) (v := .nilFunc) (w':=w') (ob := .gho (keep.map fun t=>a.tmps.getD t undef) (keep.map st.get)) (kaf _) c (fun b X=>by cases X)
  ⟨ka2 _ _,by rw [kaj];rfl,by rw [kaj];rfl,fun i v x hv N=>by simp only [qg,qs] at hv N;obtain ⟨p,hp,rfl⟩:=hv;obtain ⟨q,C,rfl⟩:=N;rw [hp] at C;injection C with C;subst C;exact (D.tmps p).keep (kay c _ _) (fun _ h=>qe _ h) (fun _ h=>h) (fun _ _ _=>rfl)⟩
 obtain ⟨_,⟨_,_,_,Z⟩,_⟩:=D.core.obj gi _ V
 let a0:Act:={ tmps:=cvals.toArray++Array.replicate (fn2.ntmps - cvals.toArray.size) undef,defers:=[] }
 let a2:Act:=(a0.put (some t1) pv).put (some t2) pv
 have J:Sim F S0 N0 (dst0 keep fn2.ntmps t1 t2 pv vs gi2 (keep.map fun t=>a.tmps.getD t undef) st) (ψ'.set gi2 0 .nilFunc) S' a2 w':=by
  have s0:a0.tmps.size=fn2.ntmps:=s;have s1:(a0.put (some t1) pv).tmps.size=fn2.ntmps:=by rw [kq7];exact s0
  refine ⟨rfl,by show a2.tmps.size=fn2.ntmps;rw [kq7];exact s1,fun t=>?_,z⟩;show RV _ _ _ _ (a2.tmps.getD t undef) (look .any ((t2, .fz (.atom pv))::(t1, .fz (.atom pv))::argT 0 vs) t);rw [kar,kar,kkc (some t2) fn2.ntmps t s1 (by intro t ht;injection ht with ht;omega),kkc (some t1) fn2.ntmps t s0 (by intro t ht;injection ht with ht;omega)];by_cases e2:t2=t;rw [qt e2,qt (by rw [e2])];exact .fz (.atom I)
  ·rw [qq e2,qq (by simpa using e2)];by_cases e1:t1=t;rw [qt e1,qt (by rw [e1])];exact .fz (.atom I)
   ·rw [qq e1,qq (by simpa using e1)];rcases kkb vs 0 t with h | ⟨x,_,k1,k2⟩;rw [h];exact .any
    ·rw [k2];have k1:vs[t]?=some x:=(by simpa using k1);have A:t<cvals.length:=(by rw [G];exact (qd.1 k1).1);have:a0.tmps.getD t undef=cvals[t]:=(by show (cvals.toArray++Array.replicate (fn2.ntmps - cvals.toArray.size) undef).getD t undef=_;rw [qaj,qa4 (by simpa using A)];simp [A]);rw [this];exact (Z t _ x (by simp [A]) k1).keep (kay c _ _) (fun _ h=>qe _ h) (fun _ h=>h) (fun _ _ _=>rfl)
 -- what the closure leaves
 have o:∀ (u':FrameMode) (R:Ending->FrameMode->World->Prop),(∀ v w'',Leaves P fn a.tmps (fun e w'=>∃ ψ'' S'',E.is e ψ'' (·∈ids') S'' w'/\Core F S0 N0 post ids' ψ'' S'' w'/\Fr F w w'/\Ext (·∈ids) ψ0 ψ''/\(∀ i,i∈ids->i∈ids')/\(∀ b,S b->S'' b)/\Same S w0 w') [] .returning w''->R (.returned v) u' w'') ->
   c2.wp P (fun e a' w''=>bodyPostS P fn2 c₀ cs R e a' ({ c₀ with mode:=u' }::cs) w'') a2 w':=by
  intro u' R hR;refine wp_mono (h _ F S0 N0 _ S' a2 w' J) ?_;rintro e2 a'' w'' ⟨st2,ψ2,S2,⟨aa,ab,vs',K,st3,ac,ad⟩,k2,k3⟩;have L:a''.defers=[]/\∃ u'',({ c₀ with mode:=u' }::cs:List Frame)={ c₀ with mode:=u'' }::cs/\∃ v,(results fn2 a''.tmps).run P w'' = .ok v w''/\R (.returned v) u'' w'':=by
   refine ⟨k2.defers.trans ab,u',rfl, .tuple #[],by simp [results,nres],hR _ _ ?_⟩;obtain ⟨_,⟨_,_,_,M⟩,_⟩:=k2.core.obj gi2 _ K;have ae:Core F S0 N0 (kbd gi2 st2.heap) st2.ids ψ2 S2 w'':=
    ⟨fun i ob ho=>k2.core.obj i ob (kbh gi2 ho).2,fun i i' ob ob' b ho af=>k2.core.inj i i' ob ob' b (kbh gi2 ho).2 (kbh gi2 af).2,k2.core.lt,k2.core.s0,k2.core.n0,k2.core.fr⟩
   have B:Sim F S0 N0 (dstB keep gi2 vs' st st2) ψ2 S2 { tmps:=a.tmps,defers:=[] } w'':=(by refine ⟨rfl,D.size,fun t=>?_,ae⟩;exact kvl (v:=fun t=>a.tmps.getD t undef) t fun i k x hk N=>M i _ x (by simp only [qg,qs] at hk;obtain ⟨q,C,rfl⟩:=hk;rw [qg,C];rfl) N);obtain ⟨ψ3,S3,h4⟩:=ac F S0 N0 ψ2 S2 _ w'' B;rcases (kyy hT [] hg O U hE hk ad h4 (h3.trans k3)).2 with ⟨_,v,r1,r2⟩ | ⟨v,r1,_⟩;exact ⟨v,r1,r2⟩
   ·cases r1
  rcases aa with rfl | rfl <;> exact L
 refine wpS_seq (wpS_region ?_);have ag:∀ (a:Act) (w:World),(execOp a.eval o1).run P w = .ok .recover w:=fun a w=>by obtain ⟨cc,as_,ts⟩:=c1;simp only at p2 p3;subst p2 p3;simp [execOp,p1,resolve,invoke,builtin]
 have ah:∀ y,Region.wanted o1 y=true:=fun y=>by simp [Region.wanted,p5]
 have s0:a0.tmps.size=fn2.ntmps:=s;have key:∀ (cs':List Frame) (Q:Exit->Act->List Frame->World->Prop),(Q .normal a2 cs' w'->os[0]?=some o1/\∃ l,List.range os.size=0::l/\wpOpsS P os Q l (a0.put (some t1) pv) cs' w'):=fun cs' Q hQ=>by
  rcases r with ⟨o2,rfl,q1,q2,q3⟩ | ⟨rfl,rfl⟩;refine ⟨rfl,[1],rfl,?_⟩;have ai:∀ y,Region.wanted o2 y=true:=fun y=>(by simp [Region.wanted,q3]);unfold wpOpsS;simp only [qbu,qac,List.getElem?_cons_zero,ai,if_true];have hv:(execOp (a0.put (some t1) pv).eval o2).run P w' = .ok (.value pv) w':=(by have:(a0.put (some t1) pv).eval (.tmp t1)=pv:=(by show (a0.put (some t1) pv).tmps.getD t1 undef=pv;rw [kkc (some t1) fn2.ntmps t1 s (by intro t ht;injection ht with ht;omega),qt rfl]);simp [execOp,q1,this]);rw [hv];simp only [Oper.upon,q2];unfold wpOpsS;exact hQ
  ·refine ⟨rfl,[],rfl,?_⟩;unfold wpOpsS;have he:a2=a0.put (some t2) pv:=(by show (a0.put (some t2) pv).put (some t2) pv=a0.put (some t2) pv;simp [Act.put]);rw [<- he];exact hQ
 have go:∀ (cs0 cs':List Frame) (Q:Exit->Act->List Frame->World->Prop),(recoverD cs0=none/\pv = .nilIface/\cs'=cs0\/recoverD cs0=some (pv,cs'))->Q .normal a2 cs' w'->wpOpsS P os Q (List.range os.size) a0 cs0 w':=fun cs0 cs' Q hr hQ=>by
  obtain ⟨k1,l,k2,k3⟩:=key cs' Q hQ;rw [k2];unfold wpOpsS;simp only [k1,ah,if_true];rw [ag];rcases hr with ⟨hr,rfl,rfl⟩ | hr;simp only [hr,p4];exact k3
  ·simp only [hr,p4];exact k3
 rcases hu with ⟨rfl,rfl⟩ | rfl
 ·have m:recoverD (c₀::cs)=none:=by simp [recoverD,hm]
  refine go _ _ _ (.inl ⟨m,rfl,rfl⟩) ?_;show c2.wpS P _ a2 (c₀::cs) w';refine wpS_of_wp ?_;have hc:(c₀::cs)=({ c₀ with mode := .returning }::cs:List Frame):=by rw [<- hm]
  rw [hc];exact o .returning _ fun v w'' hl=>hl
 ·have m:recoverD (c₀::cs)=some (pv,{ c₀ with mode := .panicking [{ v:=pv,recovered:=true }] }::cs):=by simp [recoverD,hm]
  refine go _ _ _ (.inr m) ?_;show c2.wpS P _ a2 _ w';refine wpS_of_wp ?_;exact o (.panicking [{ v:=pv,recovered:=true }]) _ fun v w'' hl=>by have:settle (.panicking [{ v:=pv,recovered:=true }]) = .returning:=rfl;simp only [this];exact hl
theorem kzu (z : TOk P T) {f : FuncId} {fn : Func} {c : Code} {args : List AV} {pre : List (Nat × AObj)} {E : HEnd} {post : List (Nat × AObj)} {ids' : List Nat} {g : Nat} (hf : P.funcs[f]? = some fn) (q : fn.body = some c) (hn : (fn.name == "runtime.NumGoroutine") = false)
  (r:Nat.ble args.length fn.ntmps=true) (d:ids.contains g=false) (a:ids'.contains g=false) (k:(post.all fun p=>okO ids' p.2)=true) (A:E.ok ids'=true) (hk:(post.all fun p=>ids'.contains p.1)=true)
  (h:∀ ψ0 S1 w0,awp P c { n:=fn.ntmps,tmps:=argT 0 args,heap:=(g, .was ψ0 ids S1 w0)::pre,ids:=g::ids } (hdQ P T fn.results.toList g ids E post ids' ψ0 S1 w0)):kal P f args pre ids E post ids':=by
 have r:=qi r;have d:g∉ids:=by simpa using d
 have a:g∉ids':=by simpa using a
 refine ⟨⟨fn,hf,by rw [q];rfl,hn⟩,fun F S0 N0 ψ S w vs hs hr hc=>calls_of_wp_defers hf q ?_⟩;have l:=hc.add (n:=0) (v := .nilFunc) (w':=w) (ob := .was ψ ids S w) (kaf _) d (fun b q=>by cases q)
  ⟨ka2 _ _,by rw [kaj];rfl,by rw [kaj];rfl,kay d _ _,fun i hi=>qe _ hi,fun b q=>q,fun _ _ _=>rfl⟩
 have s:Sim F S0 N0 { n:=fn.ntmps,tmps:=argT 0 args,heap:=(g, .was ψ ids S w)::pre,ids:=g::ids } (ψ.set g 0 .nilFunc) S
   { tmps:=vs++Array.replicate (fn.ntmps - vs.size) undef,defers:=[] } w:=by
  refine ⟨rfl,by simp;omega,fun t=>?_,l⟩;show RV _ _ _ w _ (look .any (argT 0 args) t);rcases kkb args 0 t with h | ⟨x,_,h1,u⟩;rw [h];exact .any
  ·rw [u];have h1:args[t]?=some x:=(by simpa using h1);have m:t<vs.size:=(by rw [hs];exact (qd.1 h1).1);have:(vs++Array.replicate (fn.ntmps - vs.size) undef).getD t undef=vs[t]:=(by rw [qaj,qa4 m];simp [m]);rw [this];exact (hr t _ x (by simp [m]) h1).keep (kay d _ _) (fun _ h=>qe _ h) (fun _ h=>h) (fun _ _ _=>rfl)
 refine wp_mono (h _ _ _ F S0 N0 _ S _ w s) ?_;rintro e a' w' ⟨st',ψ',S',D,u,B⟩;rcases D with ⟨st2,hl,hp⟩ | ⟨keep,f2,fn2,t1,t2,c2,gi,cvals,avs,pv,gi2,d1,d2,d3,d4,d5,d6,d7,d8,d9,d10⟩
 ·obtain ⟨ψ2,S2,G⟩:=hl F S0 N0 ψ' S' a' w' u;obtain ⟨e0,y⟩:=kyy z pre d a k A hk hp G B;rcases y with ⟨y,v,r1,r2⟩ | ⟨v,rfl,r2⟩;rcases y with rfl | rfl <;> (show Leaves P fn a'.tmps _ a'.defers .returning w'; rw [e0];exact ⟨v,r1,r2⟩)
  ·show Leaves P fn a'.tmps _ a'.defers (.panicking _) w';rw [e0];exact r2
 ·obtain ⟨j,o⟩:=k9r d8;rcases o with ⟨y,C⟩ | rfl;have:=kwq z e d a k A hk u B d1 d2 d3 d4 d5 d6 d7 (.inl ⟨rfl,C⟩) j d9 d10;rcases y with rfl | rfl <;> exact this
  ·exact kwq z .ret d a k A hk u B d1 d2 d3 d4 d5 d6 d7 (.inr rfl) j d9 d10
end Go.Proofs.YtnlhjbnpjefjgabGreatDoor
set_option linter.all false
set_option linter.unusedSectionVars false
namespace Go.Proofs.YtnlhjbnpjefjgabGreatDoor
open Go Go.RowKit
variable [Dr]
def anc (l:List Oper) (i j:Nat):Bool:=((kw3 l).getD i 0).testBit j
def dstT (l:List Oper) (j:Nat):Option Nat:=(l[j]?).bind (·.dst)
def phB (l:List Oper) (es:List Nat) (i:Nat):Bool:=es.all fun e=>bif Nat.blt e i then anc l i e else (bif Nat.blt i e then anc l e i else true)
def kwl (l:List Oper) (n:Nat) (es:List Nat):Bool:=es.all fun e=>Nat.blt e n && phB l es e
def kmb (ch:List Nat):List (Nat×AObj)->List (Nat×AObj)
 | []=>[]
 | (k,v)::l=>bif ch.contains k then kmb ch l else (k,v)::kmb ch l
def kgc (l:List Oper) (i:Nat):Nat->List (Nat×AV)
 | 0=>[]
 | j+1=>match dstT l j with
  | some d=>bif Nat.ble j i || anc l j i then kgc l i j else (d, .any)::kgc l i j
  | none=>kgc l i j
def kch (l:List Oper) (n:Nat) (es ch ai:List Nat) (st:St) (i:Nat) (o:Oper) (fs:List (Nat×Option Nat×AV)) (hp:List (Nat×AObj)) (ids:List Nat):St:=
 { st with tmps:=hadd fs (keu o) (kgc l i n++st.tmps),heap:=bif phB l es i then hp else kmb ch st.heap,ids:=bif phB l es i then ids else ai }
def pnE (v:Value):PanicEntry:={ v:=v,recovered:=false }
def kq1 (P:Program) (os:Array Oper) (v:St) (o:Oper) (c:AV):Prop:=(ka0 os v o=some true/\NStep P o v c)\/(ka0 os v o=some false/\c = .fz (.tup []))
def kwg (P:Program) (os:Array Oper) (l:List Oper) (n:Nat) (es ch ai:List Nat) (st v:St) (o:Oper) (c:AV) (hp:List (Nat×AObj)) (ids:List Nat) (a:List (Nat×AObj)) (ids':List Nat):Prop:=
 ((ka0 os v o=some true/\StepA P o v c a ids')\/(ka0 os v o=some false/\c = .fz (.tup [])/\a=hp/\ids'=ids))/\((∀ i,i<n->phB l es i=true)\/((∀ id,id∉ch->∀ ob,kaa hp id=some ob->kaa a id=some ob)/\(∀ id,id∈ids'->id∈ai)/\∀ id,id∈ids->id∈ids'))
def k86 (_:Program) (_:Array Oper) (_:Exit->St->Prop) (_ _:St) (_:Oper):Prop:=False
def kp5 (P:Program) (os:Array Oper) (n:Nat) (es ch ai:List Nat) (Q:Exit->St->Prop) (st:St):Nat->Nat->List Oper->List (Nat×Option Nat×AV)->List (Nat×AObj)->List Nat->Option Nat->Prop
 | 0,_,l,fs,hp,ids,none=>awpL P os l { st with tmps:=hadd fs (fun _=>true) st.tmps,heap:=hp,ids:=ids } Q
 | 0,_,_,_,_,_,some _=>True
 | k+1,i,o::l,fs,hp,ids,pn=>
  (∃ e,pn=some e/\anc os.toList i e=true/\kp5 P os n es ch ai Q st k (i+1) l ((i,o.dst, .any)::fs) hp ids pn) \/
  (es.contains i=false/\∃ c,kq1 P os (kch os.toList n es ch ai st i o fs hp ids) o c/\(phB os.toList es i || okA st.ids c)=true/\kp5 P os n es ch ai Q st k (i+1) l ((i,o.dst,c)::fs) hp ids pn) \/
  (es.contains i=true/\pn=none/\∃ c a ids',kwg P os os.toList n es ch ai st (kch os.toList n es ch ai st i o fs hp ids) o c hp ids a ids'/\kp5 P os n es ch ai Q st k (i+1) l ((i,o.dst,c)::fs) a ids' none) \/
  (es.contains i=true/\pn=none/\k86 P os Q st (kch os.toList n es ch ai st i o fs hp ids) o/\kp5 P os n es ch ai Q st k (i+1) l ((i,o.dst, .any)::fs) hp ids (some i))
 | _+1,_,[],_,_,_,_=>False
variable {P:Program} {F S0:Nat->Prop} {N0:Nat} {w w':World} {S S':Nat->Prop} {ψ ψ':Env} {Q:Exit->St->Prop} {st:St} {os:Array Oper} {n:Nat} {es ch ai:List Nat}
def fsOf (l:List Oper) (c:Nat->AV):Nat->List (Nat×Option Nat×AV)
 | 0=>[]
 | k+1=>(k,dstT l k,c k)::fsOf l c k
theorem kd4 {l:List Oper} {c c':Nat->AV}:∀ {k:Nat},(∀ j,j<k->c j=c' j)->fsOf l c k=fsOf l c' k
 | 0,_=>rfl
 | k+1,h=>by simp only [fsOf,h k (by omega),kd4 (k:=k) fun j a=>h j (by omega)]
def FactZ (P:Program) (os:Array Oper) (n:Nat) (es ch ai:List Nat) (Q:Exit->St->Prop) (st:St) (c:Nat->AV) (H:Nat->List (Nat×AObj)×List Nat) (pn:Option Nat) (i:Nat) (o:Oper):Prop:=
 (H (i+1)=H i/\∃ e,pn=some e/\e<i/\anc os.toList i e=true) \/
 (i∉es/\H (i+1)=H i/\kq1 P os (kch os.toList n es ch ai st i o (fsOf os.toList c i) (H i).1 (H i).2) o (c i)/\(phB os.toList es i || okA st.ids (c i))=true) \/
 (i∈es/\(∀ e,pn=some e->i<e)/\kwg P os os.toList n es ch ai st (kch os.toList n es ch ai st i o (fsOf os.toList c i) (H i).1 (H i).2) o (c i) (H i).1 (H i).2 (H (i+1)).1 (H (i+1)).2) \/
 (i∈es/\pn=some i/\H (i+1)=H i/\k86 P os Q st (kch os.toList n es ch ai st i o (fsOf os.toList c i) (H i).1 (H i).2) o)
theorem knj:∀ (k i:Nat) (l:List Oper) (c0:Nat->AV) (H0:Nat->List (Nat×AObj)×List Nat) (pn0:Option Nat),os.toList.drop i=l->i+k=n->(∀ e,pn0=some e->e<i) ->
  kp5 P os n es ch ai Q st k i l (fsOf os.toList c0 i) (H0 i).1 (H0 i).2 pn0 ->
  ∃ c H pn,(∀ j,j<i->c j=c0 j)/\(∀ j,j<=i->H j=H0 j)/\(∀ e,pn0=some e->pn=some e)/\(∀ e,pn=some e->pn0=some e\/(i<=e/\e<n/\e∈es))/\(∀ j o,i<=j->j<n->os.toList[j]?=some o->FactZ P os n es ch ai Q st c H pn j o) /\
   (pn=none->awpL P os (os.toList.drop n) { st with tmps:=hadd (fsOf os.toList c n) (fun _=>true) st.tmps,heap:=(H n).1,ids:=(H n).2 } Q)
 | 0,i,l,c0,H0,pn0,hl,hn,hp,h=>by
  obtain rfl:i=n:=by omega
  refine ⟨c0,H0,pn0,fun _ _=>rfl,fun _ _=>rfl,fun _ h=>h,fun e h => .inl h,fun j o h1 m=>by omega,fun b=>?_⟩;subst b hl;exact h
 | k+1,i,l,c0,H0,pn0,hl,hn,hp,h=>by
  cases l with
  | nil=>exact h.elim
  | cons o l=>
   have d:os.toList[i]?=some o:=(by have:=qah (·[0]?) hl;simpa using this);have g:os.toList.drop (i+1)=l:=(by rw [<- List.drop_drop,hl];rfl);have t:dstT os.toList i=o.dst:=(by unfold dstT;rw [d];rfl);have cons:∀ c,(i,o.dst,c)::fsOf os.toList c0 i=fsOf os.toList (fun j=>if j=i then c else c0 j) (i+1):=fun c=>(by simp only [fsOf,t,if_true];rw [kd4 (k:=i) (c':=fun j=>if j=i then c else c0 j) fun j p=>by rw [qq (by omega)]]);have u:∀ x:List (Nat×AObj)×List Nat,(fun j=>if j=i+1 then x else H0 j) (i+1)=x:=fun x=>(by simp);rcases h with ⟨e,r,ha,h⟩ | ⟨f,c,hf,s,h⟩ | ⟨f,b,c,q,ids',hf,h⟩ | ⟨f,b,hf,h⟩
   ·rw [cons] at h;obtain ⟨c1,H1,pn1,k1,k2,k3,k3',k4,k5⟩:=knj k (i+1) l _ (fun j=>if j=i+1 then H0 i else H0 j) pn0 g (by omega) (fun e h=>by have:=hp e h;omega) (by simpa using h);refine ⟨c1,H1,pn1,fun j p=>by rw [k1 j (by omega),qq (by omega)],fun j p=>by rw [k2 j (by omega),qq (by omega)],k3,fun e h=>(k3' e h).imp id (fun h=>⟨by omega,h.2⟩),fun j o' h1 m ho=>?_,k5⟩;by_cases a:j=i;subst a;rw [d] at ho;obtain rfl:=qy ho;exact .inl ⟨by rw [k2 (j+1) (qu _),qt rfl,k2 j (by omega),qq (by omega)],e,k3 e r,hp e r,ha⟩
    ·exact k4 j o' (by omega) m ho
   ·rw [cons] at h;obtain ⟨c1,H1,pn1,k1,k2,k3,k3',k4,k5⟩:=knj k (i+1) l _ (fun j=>if j=i+1 then H0 i else H0 j) pn0 g (by omega) (fun e h=>by have:=hp e h;omega) (by simpa using h);have e1:∀ j,j<i->c1 j=c0 j:=fun j p=>(by rw [k1 j (by omega),qq (by omega)]);have e2:c1 i=c:=(by rw [k1 i (by omega),qt rfl]);have e3:H1 i=H0 i:=(by rw [k2 i (by omega),qq (by omega)]);have e4:H1 (i+1)=H0 i:=(by rw [k2 (i+1) (qu _),qt rfl]);refine ⟨c1,H1,pn1,e1,fun j p=>by rw [k2 j (by omega),qq (by omega)],k3,fun e h=>(k3' e h).imp id (fun h=>⟨by omega,h.2⟩),fun j o' h1 m ho=>?_,k5⟩;by_cases a:j=i;subst a;rw [d] at ho;obtain rfl:=qy ho;refine .inr (.inl ⟨by simpa using f,by rw [e3,e4],?_⟩);rw [kd4 e1,e2,e3];exact ⟨hf,s⟩
    ·exact k4 j o' (by omega) m ho
   ·subst b;rw [cons] at h;obtain ⟨c1,H1,pn1,k1,k2,k3,k3',k4,k5⟩:=knj k (i+1) l _ (fun j=>if j=i+1 then (q,ids') else H0 j) none g (by omega) (fun e h=>by cases h) (by simpa using h);have e1:∀ j,j<i->c1 j=c0 j:=fun j p=>(by rw [k1 j (by omega),qq (by omega)]);have e2:c1 i=c:=(by rw [k1 i (by omega),qt rfl]);have e3:H1 i=H0 i:=(by rw [k2 i (by omega),qq (by omega)]);have e4:H1 (i+1)=(q,ids'):=(by rw [k2 (i+1) (qu _),qt rfl]);refine ⟨c1,H1,pn1,e1,fun j p=>by rw [k2 j (by omega),qq (by omega)],k3,fun e h=>(k3' e h).imp id (fun h=>⟨by omega,h.2⟩),fun j o' h1 m ho=>?_,k5⟩;by_cases a:j=i
    ·subst a;rw [d] at ho;obtain rfl:=qy ho;refine .inr (.inr (.inl ⟨by simpa using f,fun e r=>?_,?_⟩))
     ·rcases k3' e r with h | h;cases h
      ·omega
     ·rw [kd4 e1,e2,e3,e4];exact hf
    ·exact k4 j o' (by omega) m ho
   ·exact hf.elim
def ke3 (fs:List (Nat×Option Nat×AV)) (p:Nat->Bool) (base:List (Nat×AV)):List (Nat×AV):=match fs with
 | []=>base
 | (j,some d,c)::l=>bif p j then (d,c)::ke3 l p base else ke3 l p base
 | (_,none,_)::l=>ke3 l p base
theorem kbc {l:List Oper} {c:Nat->AV} {p:Nat->Bool} {base:List (Nat×AV)} {t:Nat}:∀ k,(∃ j,j<k/\p j=true/\dstT l j=some t/\look .any (ke3 (fsOf l c k) p base) t=c j) \/
  ((∀ j,j<k->p j=true->dstT l j≠some t)/\look .any (ke3 (fsOf l c k) p base) t=look .any base t)
 | 0 => .inr ⟨fun j h=>by omega,rfl⟩
 | k+1=>by
  have ih:=kbc (l:=l) (c:=c) (p:=p) (base:=base) (t:=t) k;simp only [fsOf];cases m:dstT l k with
  | none=>
   simp only [ke3];rcases ih with ⟨j,h1,a,g,i⟩ | ⟨h1,a⟩;exact .inl ⟨j,by omega,a,g,i⟩
   ·refine .inr ⟨fun j n hp=>?_,a⟩;by_cases b:j=k
    ·subst b;rw [m];exact fun h=>by cases h
    ·exact h1 j (by omega) hp
  | some d=>
   simp only [ke3];cases hp:p k with
   | false=>
    simp only [qw];rcases ih with ⟨j,h1,a,g,i⟩ | ⟨h1,a⟩;exact .inl ⟨j,by omega,a,g,i⟩
    ·refine .inr ⟨fun j n e=>?_,a⟩;by_cases b:j=k;subst b;rw [hp] at e;cases e
     ·exact h1 j (by omega) e
   | true=>
    simp only [qr,kar];by_cases f:d=t;subst f;exact .inl ⟨k,by omega,hp,m,by rw [qt rfl]⟩
    ·rw [qq f];rcases ih with ⟨j,h1,a,g,i⟩ | ⟨h1,a⟩;exact .inl ⟨j,by omega,a,g,i⟩
     ·refine .inr ⟨fun j n e=>?_,a⟩;by_cases b:j=k;subst b;rw [m];exact fun h=>f (qy h)
      ·exact h1 j (by omega) e
theorem kk8 {l:List Oper} {c:Nat->AV} {p:Nat->Bool} {base:List (Nat×AV)} {t:Nat}:∀ k,(look .any (hadd (fsOf l c k) p base) t = .any)\/(∃ j,j<k/\p j=true/\dstT l j=some t/\look .any (hadd (fsOf l c k) p base) t=c j) \/
  ((∀ j,j<k->dstT l j≠some t)/\look .any (hadd (fsOf l c k) p base) t=look .any base t)
 | 0 => .inr (.inr ⟨fun j h=>by omega,rfl⟩)
 | k+1=>by
  have ih:=kk8 (l:=l) (c:=c) (p:=p) (base:=base) (t:=t) k;simp only [fsOf];cases f:dstT l k with
  | none=>
   simp only [hadd];rcases ih with h | ⟨j,h1,a,g,i⟩ | ⟨h1,a⟩;exact .inl h;exact .inr (.inl ⟨j,by omega,a,g,i⟩)
   ·refine .inr (.inr ⟨fun j m=>?_,a⟩);by_cases b:j=k
    ·subst b;rw [f];exact fun h=>by cases h
    ·exact h1 j (by omega)
  | some d=>
   simp only [hadd,kar];by_cases e:d=t
   ·subst e;rw [qt rfl];cases hp:p k with
    | false=>exact .inl rfl
    | true=>exact .inr (.inl ⟨k,by omega,hp,f,rfl⟩)
   ·rw [qq e];rcases ih with h | ⟨j,h1,a,g,i⟩ | ⟨h1,a⟩;exact .inl h;exact .inr (.inl ⟨j,by omega,a,g,i⟩)
    ·refine .inr (.inr ⟨fun j m=>?_,a⟩);by_cases b:j=k;subst b;rw [f];exact fun h=>e (qy h)
     ·exact h1 j (by omega)
theorem kp8 {l:List Oper} {i:Nat} {base:List (Nat×AV)} {t:Nat}:∀ k,look .any (kgc l i k++base) t = .any\/((∀ j,j<k->dstT l j=some t->j<=i\/anc l j i=true)/\look .any (kgc l i k++base) t=look .any base t)
 | 0 => .inr ⟨fun j h=>by omega,rfl⟩
 | k+1=>by
  have ih:=kp8 (l:=l) (i:=i) (base:=base) (t:=t) k;simp only [kgc];cases g:dstT l k with
  | none=>
   rcases ih with h | ⟨h1,e⟩;exact .inl h
   ·refine .inr ⟨fun j m a=>?_,e⟩;by_cases b:j=k;subst b;rw [g] at a;cases a
    ·exact h1 j (by omega) a
  | some d=>
   cases f:(Nat.ble k i || anc l k i) with
   | true=>
    simp only [f,qr];rcases ih with h | ⟨h1,e⟩;exact .inl h
    ·refine .inr ⟨fun j m a=>?_,e⟩;by_cases b:j=k;subst b;rw [qbm] at f;exact f.imp (fun h=>qi h) id
     ·exact h1 j (by omega) a
   | false=>
    simp only [f,qw,qbo,kar];by_cases c:d=t;rw [qt c];exact .inl rfl
    ·rw [qq c];rcases ih with h | ⟨h1,e⟩;exact .inl h
     ·refine .inr ⟨fun j m a=>?_,e⟩;by_cases b:j=k;subst b;rw [g] at a;exact absurd (qy a) c
      ·exact h1 j (by omega) a
theorem ks1 {ch:List Nat} {id:Nat} {ob:AObj}:∀ {l:List (Nat×AObj)},kaa (kmb ch l) id=some ob->id∉ch/\kaa l id=some ob
 | [],h=>by cases h
 | (k,v)::l,h=>by
  simp only [kmb] at h;cases hc:ch.contains k with
  | true=>
   rw [hc] at h;obtain ⟨h1,a⟩:=ks1 (l:=l) h;refine ⟨h1,?_⟩;rw [kae,qq];exact a
   ·rintro rfl;exact h1 (by simpa using hc)
  | false=>
   rw [hc] at h;simp only [qw,kae] at h;rw [kae];by_cases hk:k=id;subst hk;rw [qt rfl] at h ⊢;exact ⟨by simpa using hc,h⟩
   ·rw [qq hk] at h ⊢;exact ks1 h
theorem kqy {ch:List Nat} {id:Nat} {ob:AObj} (a:id∉ch):∀ {l:List (Nat×AObj)},kaa l id=some ob->kaa (kmb ch l) id=some ob
 | [],h=>by cases h
 | (k,v)::l,h=>by
  simp only [kmb];rw [kae] at h;cases hc:ch.contains k with
  | true=>
   simp only [qr];rw [qq (by rintro rfl;exact a (by simpa using hc))] at h;exact kqy a h
  | false=>
   simp only [qw,kae];by_cases hk:k=id;rw [qt hk] at h ⊢; exact h
   ·rw [qq hk] at h ⊢; exact kqy a h
def krt (ch:List Nat):List (Nat×AObj)->List Nat
 | []=>[]
 | (k,_)::l=>bif ch.contains k then krt ch l else k::krt ch l
theorem kyh {ch:List Nat} {id:Nat} {ob:AObj} (a:id∉ch):∀ {l:List (Nat×AObj)},kaa l id=some ob->id∈krt ch l
 | [],h=>by cases h
 | (k,v)::l,h=>by
  simp only [krt];rw [kae] at h;by_cases hk:k=id;subst hk;rw [show ch.contains k=false by simpa using a];exact qn ..
  ·rw [qq hk] at h;have:=kyh a (l:=l) h;cases ch.contains k with
   | true=>exact this
   | false=>exact qe _ this
theorem kac9 {ch:List Nat} {hp a:List (Nat×AObj)} (h:(krt ch hp).map (kaa a)=(krt ch hp).map (kaa hp)):∀ id,id∉ch->∀ ob,kaa hp id=some ob->kaa a id=some ob:=fun id b ob ho=>by rw [List.map_inj_left.1 h id (kyh b ho)];exact ho
def stZ (l:List Oper) (n:Nat) (st:St) (c:Nat->AV) (H:Nat->List (Nat×AObj)×List Nat) (listed:Array Bool) (kD:Nat):St:=
 { st with tmps:=ke3 (fsOf l c n) (fun j=>listed.getD j false) st.tmps,heap:=(H kD).1,ids:=(H kD).2 }
theorem kz9 {es:List Nat} {H:Nat->List (Nat×AObj)×List Nat} {n:Nat} (g:∀ i,i<n->i∉es->H (i+1)=H i):∀ {a b:Nat},a<=b->b<=n->(∀ e,e∈es->¬ (a<=e/\e<b))->H a=H b
 | a,b,h1,j,f=>by
  induction b with
  | zero=>
    obtain rfl:a=0:=(by omega);rfl
  | succ b ih=>
   by_cases c:a=b+1;rw [c]
   ·rw [g b (by omega) (fun d=>f b d ⟨by omega,by omega⟩)];exact ih (by omega) (by omega) fun e d h=>f e d ⟨h.1,by omega⟩
def HistI (ids ids':List Nat) (ψ ψ':Env) (S S':Nat->Prop) (w w':World):Prop:=Ext (·∈ids) ψ ψ'/\(∀ i,i∈ids->i∈ids')/\(∀ b,S b->S' b)/\Same S w w'
theorem HistI.refl {ids:List Nat}:HistI ids ids ψ ψ S S w w:=⟨Ext.refl,fun _ h=>h,fun _ h=>h,fun _ _ _=>rfl⟩
theorem HistI.trans {ids ids' ids2:List Nat} {ψ2:Env} {S2:Nat->Prop} {w2:World} (h:HistI ids ids' ψ ψ' S S' w w') (k:HistI ids' ids2 ψ' ψ2 S' S2 w' w2):HistI ids ids2 ψ ψ2 S S2 w w2:=
 ⟨h.1.trans' k.1 h.2.1,fun i hi=>k.2.1 i (h.2.1 i hi),fun b a=>k.2.2.1 b (h.2.2.1 b a),h.2.2.2.trans' k.2.2.2 h.2.2.1⟩
structure DSx (F S0:Nat->Prop) (N0:Nat) (ψ0:Env) (Sa:Nat->Prop) (w0:World) (l:List Oper) (n:Nat) (es:List Nat) (st:St) (c:Nat->AV) (H:Nat->List (Nat×AObj)×List Nat) (listed:Array Bool) (a:Act) (w:World):Prop where
 inv:∃ kD ψ S,kD<=n/\(∀ e,e∈es->(listed.getD e false=true↔e<kD))/\Sim F S0 N0 (stZ l n st c H listed kD) ψ S a w/\HistI st.ids (H kD).2 ψ0 ψ Sa S w0 w
 fr:Fr F w0 w
 lsize:listed.size=l.length
 closed:∀ k o,listed.getD k false=true->l[k]?=some o->∀ e∈o.after,Region.binds .any e=true->listed.getD e.on false=true
def FactX (P:Program) (l:List Oper) (n:Nat) (es:List Nat) (chi chs:Nat->List Nat) (ai:List Nat) (st:St) (c:Nat->AV) (H:Nat->List (Nat×AObj)×List Nat) (i:Nat) (o:Oper):Prop:=
 (i∉es/\H (i+1)=H i/\kq1 P l.toArray (kch l n es (chi i) ai st i o (fsOf l c i) (H i).1 (H i).2) o (c i)/\(phB l es i || okA st.ids (c i))=true) \/
 (i∈es/\kwg P l.toArray l n es (chs i) ai st (kch l n es (chi i) ai st i o (fsOf l c i) (H i).1 (H i).2) o (c i) (H i).1 (H i).2 (H (i+1)).1 (H (i+1)).2)
theorem kzr (hm:P.follows .mixedOrders=true) {id:Nat} {l:List Oper} (c:Nat->AV) (H:Nat->List (Nat×AObj)×List Nat) (chi chs:Nat->List Nat) (hB:relB l n st.n=true) (bb:kwl l n es=true) (bc:st.ids.all ai.contains=true) (V:H 0=(st.heap,st.ids)) (bd:∀ j i,j∈es->i<n->anc l j i=false->∀ id,id∈chs j->id∈chi i) (J:∀ i o,i<n->l[i]?=some o->FactX P l n es chi chs ai st c H i o) {F S0:Nat->Prop} {N0:Nat} {ψ0:Env} {Sa:Nat->Prop} {a0:Act} {w0:World} (q:Sim F S0 N0 st ψ0 Sa a0 w0) (R:Exit->Act->World->Prop) (a2:∀ ψ S a w,Sim F S0 N0 { st with tmps:=hadd (fsOf l c n) (fun _=>true) st.tmps,heap:=(H n).1,ids:=(H n).2 } ψ S a w->Fr F w0 w->HistI st.ids (H n).2 ψ0 ψ Sa S w0 w->wpList P l.toArray R (l.drop n) a w):(Code.region id l.toArray true).wp P R a0 w0:=by
 have ok:=kxs hB
 -- facts about the chain
 have af:∀ e,e∈es->e<n/\phB l es e=true:=fun e g=>by have:=qk.1 bb e g;rw [qo] at this;exact ⟨by simpa [Nat.blt_eq] using this.1,this.2⟩
 have a3:∀ i,phB l es i=true->∀ e,e∈es->(e<i->anc l i e=true)/\(i<e->anc l e i=true):=fun i hi e g=>by
  have:=qk.1 hi e g;refine ⟨fun r=>?_,fun r=>?_⟩;have u:Nat.blt e i=true:=(by simpa [Nat.blt_eq] using r);simpa [u] using this
  ·have u:Nat.blt i e=true:=(by simpa [Nat.blt_eq] using r);have be:Nat.blt e i=false:=by
    cases hx:Nat.blt e i with
    | false=>rfl
    | true=>
      have:e<i:=(by simpa [Nat.blt_eq] using hx);omega
   simpa [u,be] using this
 have hs1:Sim F S0 N0 st ψ0 Sa a0 w0.drew:=⟨q.defers,q.size,fun t=>(q.tmps t).keep Ext.refl (fun _ h=>h) (fun _ h=>h) (fun _ _ _=>rfl),⟨fun id ob ho=>by obtain ⟨e1,e2,e3⟩:=q.core.obj id ob ho;exact ⟨e1,e2.keep Ext.refl (fun _ h=>h) (fun _ h=>h) (fun _ _ _=>rfl) ⟨rfl,rfl⟩ (fun _ _=>rfl),e3⟩,q.core.inj,q.core.lt,q.core.s0,q.core.n0,q.core.fr⟩⟩;refine wp_region_any hm ?_;have ag:∀ i,i<n->i∉es->H (i+1)=H i:=fun i hi O=>by
  have A:i<l.length:=by have:=ok.len;omega
  rcases J i l[i] hi (qa A) with ⟨_,h1,_⟩ | ⟨h1,_⟩;exact h1
  ·exact absurd h1 O
 have s:¬ (∀ i,i<n->phB l es i=true)->∀ j,j<n->(∀ id,id∉chs j->∀ ob,kaa (H j).1 id=some ob->kaa (H (j+1)).1 id=some ob)/\((∀ id,id∈(H j).2->id∈ai)->∀ id,id∈(H (j+1)).2->id∈ai)/\∀ id,id∈(H j).2->id∈(H (j+1)).2:=fun Q j L=>by
  have E:j<l.length:=by have:=ok.len;omega
  rcases J j l[j] L (qa E) with ⟨_,h1,_⟩ | ⟨_,_,h1⟩;rw [h1];exact ⟨fun _ _ _ h=>h,fun h=>h,fun _ h=>h⟩
  ·obtain ⟨q1,q2,q3⟩:=h1.resolve_left Q;exact ⟨q1,fun _=>q2,q3⟩
 have T:¬ (∀ i,i<n->phB l es i=true)->∀ i,i<n->∀ k,k<=n->(∀ j,j<k->j∈es->anc l j i=false)->∀ id,id∉chi i->∀ ob,kaa st.heap id=some ob->kaa (H k).1 id=some ob:=fun Q i bf k=>by
  induction k with
  | zero=>intro _ _ id _ ob h;rw [V];exact h
  | succ k ih=>
   intro B a4 id a5 ob h;have hk:=ih (by omega) (fun j L=>a4 j (by omega)) id a5 ob h;by_cases ao:k∈es;exact (s Q k (by omega)).1 id (fun hc=>a5 (bd k i ao bf (a4 k (Nat.lt_succ_self _) ao) id hc)) ob hk
   ·rw [ag k (by omega) ao];exact hk
 have G:¬ (∀ i,i<n->phB l es i=true)->∀ k,k<=n->(∀ id,id∈(H k).2->id∈ai)/\∀ id,id∈st.ids->id∈(H k).2:=fun Q k=>by
  induction k with
  | zero=>intro _;rw [V];exact ⟨fun id h=>by simpa using qk.1 bc id h,fun _ h=>h⟩
  | succ k ih=>intro B;obtain ⟨q1,q2⟩:=ih (by omega);exact ⟨(s Q k (by omega)).2.1 q1,fun id h=>(s Q k (by omega)).2.2 id (q2 id h)⟩
 suffices key:∀ (fuel:Nat) (listed:Array Bool) (a:Act) (w:World),DSx F S0 N0 ψ0 Sa w0 l n es st c H listed a w->(∀ k,listed.getD k false=true->k<n) ->
   ((List.range l.length).countP fun k=>!listed.getD k true)<=fuel->wpAny P .any l.toArray R fuel listed a w by
  refine key _ _ _ _ ⟨⟨0,ψ0,Sa,qas _,fun e _=>by rw [kk4];simp,?_,⟨Ext.refl,fun i h=>by rw [V];exact h,fun _ h=>h,fun _ _ _=>rfl⟩⟩,Fr.drew,by simp,(fun k o hk=>by rw [kk4] at hk;cases hk)⟩ (fun k hk=>by rw [kk4] at hk;cases hk) ?_
  ·refine ⟨hs1.defers,hs1.size,fun t=>?_,by show Core F S0 N0 (H 0).1 (H 0).2 _ _ _;rw [V];exact hs1.core⟩;show RV _ (·∈(H 0).2) _ _ _ (look .any (ke3 (fsOf l c n) _ st.tmps) t);rw [V];rcases kbc (l:=l) (c:=c) (p:=fun j=>(Array.replicate l.toArray.size false).getD j false) (base:=st.tmps) (t:=t) n with ⟨j,_,L,_⟩ | ⟨_,M⟩;rw [kk4] at L;cases L
   ·rw [M];exact hs1.tmps t
  ·refine qa7 (List.countP_le_length ..) ?_;simp
 intro fuel
 -- the end of the bw
 have fin:∀ (listed:Array Bool) (a:Act) (w:World),DSx F S0 N0 ψ0 Sa w0 l n es st c H listed a w->(∀ i,i<n->listed.getD i false=true)->wpList P l.toArray R (l.drop n) a w:=by
  intro listed a w d f;obtain ⟨kD,ψ,S,B,hk,hs,X⟩:=d.inv;have aq:H kD=H n:=kz9 (es:=es) (n:=n) ag B (qu _) fun e g h=>by have:=(hk e g).1 (f e h.2);omega
  have bg:Sim F S0 N0 { st with tmps:=hadd (fsOf l c n) (fun _=>true) st.tmps,heap:=(H n).1,ids:=(H n).2 } ψ S a w:=by
   refine ⟨hs.defers,hs.size,fun t=>?_,by rw [<- aq];exact hs.core⟩;have ht:=hs.tmps t;rw [<- aq];show RV _ _ _ _ _ (look .any (hadd (fsOf l c n) (fun _=>true) st.tmps) t);have ht:RV ψ (·∈(H kD).2) S w (a.tmps.getD t undef) (look .any (ke3 (fsOf l c n) (fun j=>listed.getD j false) st.tmps) t):=ht;rcases kk8 (l:=l) (c:=c) (p:=fun _=>true) (base:=st.tmps) (t:=t) n with h | ⟨j,h1,_,y,Y⟩ | ⟨h1,M⟩;rw [h];exact .any
   ·rw [Y];rcases kbc (l:=l) (c:=c) (p:=fun j=>listed.getD j false) (base:=st.tmps) (t:=t) n with ⟨j',e1,e2,e3,e4⟩ | ⟨e1,e2⟩;rw [e4] at ht;have bh:j'=j:=(by unfold dstT at y e3;simp only [qc] at y e3;obtain ⟨o1,p1,p2⟩:=y;obtain ⟨o2,q1,q2⟩:=e3;exact ok.uniq j' j o2 o1 t e1 h1 q1 p1 q2 p2);rw [bh] at ht;exact ht
    ·exact absurd y (e1 j h1 (f j h1))
   ·rw [M];rcases kbc (l:=l) (c:=c) (p:=fun j=>listed.getD j false) (base:=st.tmps) (t:=t) n with ⟨j',e1,e2,e3,e4⟩ | ⟨e1,e2⟩;exact absurd e3 (h1 j' e1)
    ·rw [e2] at ht;exact ht
  exact a2 ψ S a w bg d.fr (by rw [<- aq];exact X)
 induction fuel with
 | zero=>
  intro listed a w d hh hc;have f:∀ i,i<l.length->listed.getD i false=true:=fun i hi=>by have h0:((List.range l.length).countP fun k=>!listed.getD k true)=0:=(by omega);rw [List.countP_eq_zero] at h0;have:=h0 i (by simpa using hi);simp [d.lsize,hi] at this ⊢;exact this
  have hn:n=l.length:=by
   have:=ok.len;rcases qbe n l.length with h' | h';have:=hh n (f _ h');omega
   ·omega
  have H:=fin listed a w d fun i hi=>f i (by omega);rw [hn] at H;exact knk ok 0 l.length listed a w (by omega) (qu _) d.lsize (fun i hi=>⟨fun _=>hi,fun _=>by have:=f i hi;simp [d.lsize,hi] at this ⊢;exact this⟩) (by omega) H
 | succ fuel ih=>
  intro listed a w d hh hc;by_cases z:∀ i,i<n->listed.getD i false=true
  ·refine knk ok (fuel+1) n listed a w (qu _) ok.len d.lsize (fun i hi=>⟨fun hl=>hh i (by
    simp [d.lsize,hi] at hl ⊢;exact hl),fun C=>by
    have:=z i C;simp [d.lsize,hi] at this ⊢;exact this⟩) ?_ (fin listed a w d z)
   refine qa7 ?_ hc;rw [show l.length=n+(l.length - n) by have:=ok.len;omega,List.range_add,List.countP_append];have:((List.range (l.length - n)).map (n+·)).countP (fun k=>!listed.getD k true)=l.length - n:=(by rw [List.countP_eq_length.2,qj,List.length_range];intro k hk;simp only [qx,qbl] at hk;obtain ⟨m,hm,rfl⟩:=hk;have r:n+m<l.length:=(by omega);have:listed.getD (n+m) false≠true:=fun h=>(by have:=hh _ h;omega);simp [d.lsize,r] at this ⊢;exact this);omega
  ·have ar:Region.ready .any l.toArray listed≠[]:=by
    have bi:∃ i,i<n/\listed.getD i false=false/\∀ j,j<i->listed.getD j false=true:=by
     have:∃ i,i<n/\listed.getD i false=false:=(by simp only [Classical.not_forall] at z;obtain ⟨i,hi,u⟩:=z;exact ⟨i,hi,by simpa using u⟩);obtain ⟨i,hi,u⟩:=this
     induction i using Nat.strongRecOn with
     | _ i ihi=>
      by_cases f:∀ j,j<i->listed.getD j false=true;exact ⟨i,hi,u,f⟩
      ·simp only [Classical.not_forall] at f;obtain ⟨j,L,bj⟩:=f;exact ihi j L (by omega) (by simpa using bj)
    obtain ⟨i,hi,u,f⟩:=bi;have A:i<l.length:=(by have:=ok.len;omega);have:i∈Region.ready .any l.toArray listed:=mem_ready.2 ⟨by simp [d.lsize,A] at u ⊢;exact u,l[i],by simp [A],fun e g ah=>f _ (ok.edges i _ (qa A) e g ah)⟩;intro h0;rw [h0] at this;cases this
   refine ⟨fun h0=>absurd h0 ar,fun i hi=>?_⟩;obtain ⟨h0,o,ho,f⟩:=mem_ready.1 hi;have U:l[i]?=some o:=(by simpa using ho);have A:i<l.length:=(qd.1 U).1;have aj:=k2t h0;have N:∀ j,anc l i j=true->listed.getD j false=true:=fun j L=>
    kh0 (l:=l) (S:=fun j=>listed.getD j false=true) (fun m p hm hp e g u=>d.closed m p hm hp e g u) i o U f j L
   have D:∀ j,listed.getD j false=true->anc l j i=true->False:=fun j L ha=>(by have E:j<l.length:=(by have:=k9o L;rw [d.lsize] at this;exact this);have:=kh0 (l:=l) (S:=fun j=>listed.getD j false=true) (fun m p hm hp e g u=>d.closed m p hm hp e g u) j l[j] (qa E) (fun e g u=>d.closed j _ L (qa E) e g u) i ha;rw [aj] at this;cases this);have C:i<n:=by
    rcases qbe i n with h' | h';exact h'
    ·exfalso;apply z;intro j L;exact N j (ok.tail i j A h' (by omega))
   obtain ⟨kD,ψ,S,B,hk,hs,X⟩:=d.inv;have au:dstT l i=o.dst:=(by unfold dstT;rw [U];rfl);have Z:∀ k,(listed.setIfInBounds i true).getD k false=true->k=i\/listed.getD k false=true:=fun k hk=>by
    by_cases a6:i=k;exact .inl a6.symm
    ·rw [getD_set_ne false a6] at hk;exact .inr hk
   have aa:(listed.setIfInBounds i true).getD i false=true:=(by simp [d.lsize,A]);have a7:∀ t,o.dst=some t->t<st.n:=fun t ht=>ok.dst i o t C U ht
   -- the bk agree with the text's,for what the view bl
   have ak:(∀ e,e∈es->(e<i↔e<kD))->H i=H kD:=fun a8=>by
    rcases Nat.le_total i kD with av | av
    ·exact kz9 (es:=es) (n:=n) ag av B fun e g h=>by have:=a8 e g;omega
    ·exact (kz9 (es:=es) (n:=n) ag av (by omega) fun e g h=>by have:=a8 e g;omega).symm
   have x:phB l es i=true->H i=H kD:=fun hp=>ak fun e g=>by
    obtain ⟨h1,M⟩:=a3 i hp e g;have y:=hk e g;constructor;intro r;exact y.1 (N e (h1 r))
    ·intro r;rcases Nat.lt_trichotomy e i with h | h | h;exact h;subst h;rw [y.2 r] at aj;cases aj
     ·exact (D e (y.2 r) (M h)).elim
   -- the slots of the view
   have ab:∀ (K:Nat->Prop),(∀ id,id∈(H kD).2->K id)->∀ t,RV ψ K S w (a.tmps.getD t undef) (look .any (hadd (fsOf l c i) (keu o) (kgc l i n++st.tmps)) t):=fun K hK t=>by
    have ht:RV ψ (·∈(H kD).2) S w (a.tmps.getD t undef) (look .any (ke3 (fsOf l c n) (fun j=>listed.getD j false) st.tmps) t):=hs.tmps t;have uniq:∀ {j j':Nat},j<n->j'<n->dstT l j=some t->dstT l j'=some t->j=j':=fun {j j'} h1 M y Y=>(by unfold dstT at y Y;simp only [qc] at y Y;obtain ⟨o1,p1,p2⟩:=y;obtain ⟨o2,q1,q2⟩:=Y;exact ok.uniq j j' o1 o2 t h1 M p1 q1 p2 q2);rcases kk8 (l:=l) (c:=c) (p:=keu o) (base:=kgc l i n++st.tmps) (t:=t) i with h | ⟨j,h1,M,y,Y⟩ | ⟨h1,M⟩;rw [h];exact .any
    ·rw [Y];have E:listed.getD j false=true:=(by obtain ⟨e,g,bm,u⟩:=afterB_iff.1 M;rw [<- bm];exact f e g u);rcases kbc (l:=l) (c:=c) (p:=fun j=>listed.getD j false) (base:=st.tmps) (t:=t) n with ⟨j',e1,e2,e3,e4⟩ | ⟨e1,e2⟩;rw [e4,uniq e1 (by omega) e3 y] at ht;exact ht.mono hK fun _ h=>h
     ·exact absurd y (e1 j (by omega) E)
    ·rw [M];rcases kp8 (l:=l) (i:=i) (base:=st.tmps) (t:=t) n with h | ⟨k1,k2⟩;rw [h];exact .any
     ·rw [k2];rcases kbc (l:=l) (c:=c) (p:=fun j=>listed.getD j false) (base:=st.tmps) (t:=t) n with ⟨j',e1,e2,e3,e4⟩ | ⟨e1,e2⟩
      ·exfalso;rcases k1 j' e1 e3 with h | h
       ·rcases qbe j' i with h' | h';exact h1 j' h' e3
        ·obtain rfl:j'=i:=(by omega);rw [aj] at e2;cases e2
       ·exact D j' e2 h
      ·rw [e2] at ht;exact ht.mono hK fun _ h=>h
   have fact:=J i o C U
   -- what a value in the slot leaves
   have next:∀ (kD':Nat) (ψ':Env) (S':Nat->Prop) (v:Value) (w':World),kD'<=n->(∀ e,e∈es->((listed.setIfInBounds i true).getD e false=true↔e<kD'))->Fr F w w'->HistI (H kD).2 (H kD').2 ψ ψ' S S' w w' ->
     Core F S0 N0 (H kD').1 (H kD').2 ψ' S' w'->RV ψ' (·∈(H kD').2) S' w' v (c i)->(∀ t,RV ψ' (·∈(H kD').2) S' w' (a.tmps.getD t undef) ((stZ l n st c H listed kD).get t)) ->
     wpAny P .any l.toArray R fuel (listed.setIfInBounds i true) (a.put o.dst v) w':=fun kD' ψ' S' v w' q1 q2 q4 q8 q5 q6 q7=>by
    refine ih _ _ _ ⟨⟨kD',ψ',S',q1,q2,?_,X.trans q8⟩,d.fr.trans q4,by simp [d.lsize],?_⟩ (fun k hk=>(Z k hk).elim (fun e=>by omega) (hh k)) ?_
    ·refine ⟨by rw [kux];exact hs.defers,by rw [kq7];exact hs.size,fun t=>?_,q5⟩;rw [kkc _ _ _ hs.size a7];have q7:=q7 t;show RV ψ' _ S' w' _ (look .any (ke3 (fsOf l c n) (fun j=>(listed.setIfInBounds i true).getD j false) st.tmps) t);have q7:RV ψ' (·∈(H kD').2) S' w' (a.tmps.getD t undef) (look .any (ke3 (fsOf l c n) (fun j=>listed.getD j false) st.tmps) t):=q7;have uniq:∀ {j j':Nat},j<n->j'<n->dstT l j=some t->dstT l j'=some t->j=j':=fun {j j'} h1 M y Y=>(by unfold dstT at y Y;simp only [qc] at y Y;obtain ⟨o1,p1,p2⟩:=y;obtain ⟨o2,p3,p4⟩:=Y;exact ok.uniq j j' o1 o2 t h1 M p1 p3 p2 p4);rcases kbc (l:=l) (c:=c) (p:=fun j=>(listed.setIfInBounds i true).getD j false) (base:=st.tmps) (t:=t) n with ⟨j,e1,e2,e3,e4⟩ | ⟨e1,e2⟩
     ·rw [e4];by_cases aw:j=i;subst aw;rw [au] at e3;rw [qt e3];exact q6
      ·have E:=(Z j e2).resolve_left aw;rw [qq (fun h=>aw (uniq e1 C e3 (by rw [au];exact h)))];rcases kbc (l:=l) (c:=c) (p:=fun j=>listed.getD j false) (base:=st.tmps) (t:=t) n with ⟨j',f1,f2,f3,f4⟩ | ⟨f1,f2⟩;rw [f4,uniq f1 e1 f3 e3] at q7;exact q7
       ·exact absurd e3 (f1 j e1 E)
     ·rw [e2,qq (fun h=>e1 i C aa (by rw [au];exact h))];rcases kbc (l:=l) (c:=c) (p:=fun j=>listed.getD j false) (base:=st.tmps) (t:=t) n with ⟨j',f1,f2,f3,f4⟩ | ⟨f1,f2⟩;exact absurd f3 (e1 j' f1 (getD_set_true f2))
      ·rw [f2] at q7;exact q7
    ·intro k p hk hp e g ah;rcases Z k hk with rfl | bn;rw [U] at hp;obtain rfl:=qy hp;exact getD_set_true (f e g ah)
     ·exact getD_set_true (d.closed k p bn hp e g ah)
    ·have:=kqx l.length A h0 (by rw [d.lsize];exact A);omega
   have ac:∀ e,e∈es->i∉es->((listed.setIfInBounds i true).getD e false=true↔e<kD):=fun e g bo=>(by have ar:i≠e:=fun h=>bo (h ▸ g);rw [getD_set_ne false ar];exact hk e g);unfold wpOp;simp only [ho];rcases fact with ⟨O,al,hN,am⟩ | ⟨O,bp,bq⟩
   ·-- one that changes nothing
    have an:∀ id,id∈(H kD).2->id∈(kch l n es (chi i) ai st i o (fsOf l c i) (H i).1 (H i).2).ids:=fun id=>by
     show _->id∈(bif phB l es i then (H i).2 else ai);cases hp:phB l es i with
     | true=>simp only [qr];rw [x hp];exact fun h=>h
     | false=>simp only [qw];exact (G (fun h=>by rw [h i C] at hp;cases hp) kD B).1 id
    have ax:∀ {v:Value} {S':Nat->Prop} {w':World},RV ψ (·∈(kch l n es (chi i) ai st i o (fsOf l c i) (H i).1 (H i).2).ids) S' w' v (c i)->RV ψ (·∈(H kD).2) S' w' v (c i):=fun {v S' w'} hv=>by
     cases hp:phB l es i with
     | true=>
      have g:(kch l n es (chi i) ai st i o (fsOf l c i) (H i).1 (H i).2).ids=(H kD).2:=(by show (bif phB l es i then (H i).2 else ai)=_;rw [hp,qr,x hp]);rw [g] at hv;exact hv
     | false=>
      rw [hp,Bool.false_or] at am;exact (hv.subA am).mono (G (fun h=>by rw [h i C] at hp;cases hp) kD B).2 fun _ h=>h
    have ay:∀ t,RV ψ (·∈(kch l n es (chi i) ai st i o (fsOf l c i) (H i).1 (H i).2).ids) S w (a.tmps.getD t undef) ((kch l n es (chi i) ai st i o (fsOf l c i) (H i).1 (H i).2).get t):=ab _ an;have br:∀ id ob,kaa (kch l n es (chi i) ai st i o (fsOf l c i) (H i).1 (H i).2).heap id=some ob->ObR ψ (·∈(kch l n es (chi i) ai st i o (fsOf l c i) (H i).1 (H i).2).ids) S w id ob:=fun id ob I=>by
     have a9:kaa (H kD).1 id=some ob:=by
      have I:kaa (bif phB l es i then (H i).1 else kmb (chi i) st.heap) id=some ob:=I;cases hp:phB l es i with
      | true=>rw [hp] at I;simp only [qr] at I;rw [x hp] at I;exact I
      | false=>
       rw [hp] at I;obtain ⟨g1,g2⟩:=ks1 I;exact T (fun h=>by rw [h i C] at hp;cases hp) i C kD B (fun j L bs=>by
        cases ha:anc l j i with
        | false=>rfl
        | true=>exact (D j ((hk j bs).2 L) ha).elim) id g1 ob g2
     obtain ⟨g1,g2,g3⟩:=hs.core.obj id ob a9;exact g2.keep Ext.refl an (fun _ h=>h) (fun _ _ _=>rfl) ⟨rfl,rfl⟩ (fun _ _=>rfl)
    rcases hN with ⟨hg,hN⟩ | ⟨hg,hN⟩
    ·have hw:=kiy (kch l n es (chi i) ai st i o (fsOf l c i) (H i).1 (H i).2) ay hg;rw [qt hw];refine .inl (kbq ?_ (hN ψ S a w ay br));rintro v w' ⟨g1,g2⟩;refine next kD ψ (fun b=>(S b\/w.heap.size<=b)/\b<w'.heap.size) v w' B (fun e g=>ac e g O) (Fr.of_grow hs.core.fr g1) ⟨Ext.refl,fun _ h=>h,fun b u=>⟨.inl u,qba (hs.core.lt b u) g1.size⟩,Same.of_grow g1⟩ (hs.core.grow g1) ?_ fun t=>?_;exact (ax g2).bound.mono (fun _ h=>h) fun _ h=>h
     ·exact (hs.tmps t).keep Ext.refl (fun _ h=>h) (fun b u=>⟨.inl u,qba (hs.core.lt b u) g1.size⟩) (Same.of_grow g1)
    ·have hw:=kiy (kch l n es (chi i) ai st i o (fsOf l c i) (H i).1 (H i).2) ay hg;rw [qq (by rw [hw];exact Bool.false_ne_true)];exact next kD ψ S undef w B (fun e g=>ac e g O) Fr.refl HistI.refl hs.core (by rw [hN];exact .fz RF.undef) fun t=>hs.tmps t
   ·-- one of the chain
    have hp:=(af i O).2;have ad:=x hp;have az:Sim F S0 N0 (kch l n es (chi i) ai st i o (fsOf l c i) (H i).1 (H i).2) ψ S a w:=by
     refine ⟨hs.defers,hs.size,fun t=>?_,?_⟩;show RV ψ (·∈(bif phB l es i then (H i).2 else ai)) S w _ _;rw [hp];simp only [qr];rw [ad];have:=ab (·∈(H kD).2) (fun _ h=>h) t;rw [<- ad] at this ⊢;exact this
     ·show Core F S0 N0 (bif phB l es i then (H i).1 else kmb (chi i) st.heap) (bif phB l es i then (H i).2 else ai) ψ S w;rw [hp];simp only [qr];rw [ad];exact hs.core
    have bt:(kch l n es (chi i) ai st i o (fsOf l c i) (H i).1 (H i).2).ids=(H kD).2:=(by show (bif phB l es i then (H i).2 else ai)=_;rw [hp,qr,ad]);have ae:∀ e,e∈es->((listed.setIfInBounds i true).getD e false=true↔e<i+1):=fun e g=>by
     have y:=hk e g;obtain ⟨h1,M⟩:=a3 i hp e g;by_cases ba:i=e;subst ba;rw [aa];simp
     ·rw [getD_set_ne false ba,y];constructor
      ·intro r;rcases qbe e i with h | h;omega
       ·exact (D e (y.2 r) (M (by omega))).elim
      ·intro r;exact y.1 (N e (h1 (by omega)))
    rcases bp with ⟨hg,a1⟩ | ⟨hg,bu,hh,bv⟩;have hw:=kcj az hg;rw [qt hw];refine .inl (kbq ?_ (a1 F S0 N0 ψ S a w az));rintro v w' ⟨ψ',S',g1,g2,g3,g4,g5,g6,g7⟩;rw [bt] at g4 g5;exact next (i+1) ψ' S' v w' (by omega) ae g3 ⟨g4,g5,g6,g7⟩ g1 g2 fun t=>(hs.tmps t).keep g4 g5 g6 g7
    ·have hw:=kcj az hg;rw [qq (by rw [hw];exact Bool.false_ne_true)];have al:H (i+1)=H kD:=(by rw [<- ad];exact Prod.ext hh bv);refine next (i+1) ψ S undef w (by omega) ae Fr.refl ⟨Ext.refl,fun j h=>by rw [al];exact h,fun _ h=>h,fun _ _ _=>rfl⟩ ?_ ?_ fun t=>?_;rw [al];exact hs.core;rw [bu];exact .fz RF.undef
     ·rw [al];exact hs.tmps t
theorem k96 (hm:P.follows .mixedOrders=true) {id:Nat} {l:List Oper} (t:relB l n st.n=true) (g:kwl l n es=true) (j:st.ids.all ai.contains=true)
  (h:kp5 P l.toArray n es ch ai Q st n 0 l [] st.heap st.ids none):awp P (.region id l.toArray true) st Q:=by
 obtain ⟨c,H,pn,_,m,_,p,b,f⟩:=knj (os:=l.toArray) n 0 l (fun _ => .any) (fun _=>(st.heap,st.ids)) none rfl (by omega) (fun e h=>by cases h) h;simp only [List.toList_toArray] at b f;have u:=(kxs t).len;have q:pn=none:=by
  cases pn with
  | none=>rfl
  | some e=>
   exfalso;rcases p e rfl with h | ⟨_,r,v⟩;cases h
   ·have s:e<l.length:=(by omega);rcases b e l[e] (qas _) r (qa s) with ⟨_,e',d,x,_⟩ | ⟨d,_⟩ | ⟨_,d,_⟩ | ⟨_,_,_,d⟩;injection d with d;omega;exact d v;have:=d e rfl;omega
    ·exact d
 subst q;intro F S0 N0 ψ S a w hs;refine kzr (l:=l) (id:=id) hm c H (fun _=>ch) (fun _=>ch) t g j (m 0 (qu _)) (fun _ _ _ _ _ _ h=>h) (fun i o hi ho=>?_) hs _ fun ψ S a w g1 g2 _=>ka6 (fun e a' w' k=>k.pre g2) _ _ _ (f rfl F S0 N0 ψ S a w g1);rcases b i o (qas _) hi ho with ⟨_,e',d,_⟩ | d | ⟨h1,_,r⟩ | ⟨_,_,_,d⟩;cases d;exact .inl d;exact .inr ⟨h1,r⟩
 ·exact d.elim
end Go.Proofs.YtnlhjbnpjefjgabGreatDoor
