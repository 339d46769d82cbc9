import Derived.Test.YtaimpcnpifoidaaGreatDoorOpr
import Derived.Recover
set_option linter.all false
namespace Go.Proofs.YtaimpcnpifoidaaGreatDoor
open Go Go.RowKit
def kye:List FV->Option (List Value)
 | []=>some []
 | .atom v::l=>match kye l with
  | some r=>some (v::r)
  | none=>none
 | _::_=>none
def toV:AV->Option Value
 | .fz (.atom v)=>bif v.oneCell' then some v else none
 | .fz (.agg xs)=>match kye xs with
  | some l=>bif l.all (·.oneCell') then some (.agg l.toArray) else none
  | none=>none
 | _=>none
def ofV:Value->Option FV
 | .agg cs=>bif cs.toList.all (·.oneCell') then some (.agg (cs.toList.map .atom)) else none
 | .tuple _=>none
 | v=>some (.atom v)
section
variable {P:Program} {w w':World} {S S':Nat->Prop} {ψ:Env} {K:Nat->Prop} {T:List (TypeId×TD)} {o:Oper} {a:Act} {st:St} {t:TypeId} {d:TD}
theorem k36:∀ {xs:List FV} {l:List Value},kye xs=some l->xs=l.map .atom
 | [],l,h=>by simp only [kye,ql] at h;subst h;rfl
 | .atom v::xs,l,h=>by
  simp only [kye] at h;split at h;rename_i r hr;injection h with h;subst h;rw [k36 hr];rfl
  ·cases h
 | .agg _::_,l,h=>by cases h
 | .tup _::_,l,h=>by cases h
 | .lst _ _ _::_,l,h=>by cases h
 | .fp _::_,l,h=>by cases h
 | .bx _::_,l,h=>by cases h
theorem kanm {u v:Value} {x:AV} (h:RV ψ K S w u x) (a:toV x=some v):u=v:=by
 unfold toV at a;split at a
 ·rename_i v';cases c:v'.oneCell' with
  | false=>rw [c] at a;cases a
  | true=>rw [c] at a;injection a with a;subst a;exact h.atom
 ·rename_i xs;split at a
  ·rename_i l hl;cases c:l.all (·.oneCell') with
   | false=>rw [c] at a;cases a
   | true=>
    rw [c] at a;injection a with a;subst a;have h:=h.inv;cases h with
    | @agg cs _ h h1 hr=>
     rw [k36 hl] at hr h;congr 1;apply Array.ext';apply List.ext_getElem?;intro i;simp only [qay];rcases qbe i cs.size with hi | hi;have b:i<l.length:=(by simp at h;omega);have:=hr i cs[i] (.atom l[i]) (by simp [hi]) (by simp [b]);rw [qaw hi,this.atom_eq];simp [b]
     ·have b:l.length<=i:=(by simp at h;omega);simp [hi,b]
  ·cases a
 ·cases a
theorem kamm {v:Value} {x:FV} (h:ofV v=some x):RF S w v x:=by
 unfold ofV at h;split at h
 ·rename_i cs;cases b:cs.toList.all (·.oneCell') with
  | false=>rw [b] at h;cases h
  | true=>
   rw [b] at h;injection h with h;subst h;refine .agg (by simp) ?_ ?_;intro x a;simp only [qa3] at a;obtain ⟨v,hv,rfl⟩:=a;exact qs.1 b v hv
   ·intro i v x hv a;simp only [qp,qm,qay] at a;obtain ⟨u,c,rfl⟩:=a;rw [hv] at c;injection c with c;subst c;exact .atom (qs.1 b v (by rw [Array.mem_toList_iff];exact Array.mem_of_getElem? hv))
 cases h
 ·rename_i d e;injection h with h;subst h;refine .atom ?_;cases v <;> first | rfl | exact absurd rfl (d _) | exact absurd rfl (e _)
theorem kamf {x:Operand} {v:Value} (ho:o.op = .makeInterface t x) (hd:TdOk P t d) (hk:∀ h:d.kind = .ifc,False) (c:toV (st.eval x)=some v):NStep P o st (.fz (.atom (.iface t v))):=by
 intro ψ S a w ht g;have hv:=kanm (Sim.eval_tmps ht x) c;obtain ⟨_,e,h1,h2⟩:=hd;refine kaj (w':=w) (v := .iface t v) ?_ ⟨kai _, .fz (.atom rfl)⟩;have hne:∀ ms,e ≠ .interface ms:=fun ms f=>by subst f;cases b:d.kind <;> rw [b] at h2 <;> first | exact hk b | exact h2
 simp only [execOp,ho,hv,Instr.makeInterface,Sem.run_bind,Result.andThen_ok,run_underlying h1];cases e <;> first | exact absurd rfl (hne _) | rfl
theorem kad3 {x:Operand} {xt:TypeId} {v:Value} {y:FV} (ho:o.op = .typeAssert x xt t true) (hd:TdOk P t d) (hk:∀ h:d.kind = .ifc,False) (g:st.eval x = .fz (.atom (.iface t v))) (j:ofV v=some y):
  NStep P o st (.fz (.tup [y, .atom (.bool true)])):=by
 intro ψ S a w ht l;have hv:=Sim.eval_tmps ht x;rw [g] at hv;have hv:=hv.atom;obtain ⟨_,e,h1,h2⟩:=hd;have hne:∀ ms,e ≠ .interface ms:=fun ms k=>by subst k;cases b:d.kind <;> rw [b] at h2 <;> first | exact hk b | exact h2
 refine kaj (w':=w) (v := .tuple #[v, .bool true]) ?_ ⟨kai _, .fz (.tup rfl ?_)⟩;simp only [execOp,ho,hv,Instr.typeAssert,Sem.run_bind,Result.andThen_ok,run_underlying h1];cases e <;> first | exact absurd rfl (hne _) | simp
 ·intro i u z f c
  match i with
  | 0=>simp at f c;subst f c;exact kamm j
  | 1=>simp at f c;subst f c;exact .atom rfl
  | i+2=>simp at c
theorem k8x {op:BinOp} {x y:Operand} {u v:Value} (h:(∃ s z,u = .iface s z)\/∃ c,y = .const c) (hv:v = .nilIface) (a:(∃ s z,u = .iface s z)\/u = .nilIface):(eqGuard op t x y u v).run P w = .ok () w:=by
 unfold eqGuard;subst hv;rcases a with ⟨s,z,rfl⟩ | rfl;cases op <;> simp
 ·rcases h with ⟨s,z,h⟩ | ⟨c,rfl⟩;cases h
  ·cases op <;> simp
theorem TdOk.ifc (h:TdOk P t d) (hk:d.kind = .ifc):∃ ms,P.underlying t=some (.interface ms):=by obtain ⟨_,e,h1,h2⟩:=h;rw [hk] at h2;cases e <;> simp [kan] at h2;exact ⟨_,h1⟩
theorem kw3 {x:Operand} {yt:TypeId} {u:Value} (neg r:Bool) (ho:o.op = .binOp (if neg then .neq else .eql) t x (.const .nilIface) yt) (hd:TdOk P t d) (hk:d.kind = .ifc) (g:st.eval x = .fz (.atom u)) (b:(r=false/\∃ s z,u = .iface s z)\/(r=true/\u = .nilIface)):
  NStep P o st (.fz (.atom (.bool (bif neg then !r else r)))):=by
 obtain ⟨ms,c⟩:=hd.ifc hk;intro ψ S a w ht j;have hv:=Sim.eval_tmps ht x;rw [g] at hv;have hv:=hv.atom;have i:∀ d:Nat,(Op.equalIn (d+1) t u .nilIface).run P w = .ok r w:=fun d=>by rcases b with ⟨rfl,s,z,rfl⟩ | ⟨rfl,rfl⟩ <;> simp [Op.equalIn,run_underlying c]
 have e:∀ op,(eqGuard op t x (.const .nilIface) u .nilIface).run P w = .ok () w:=fun op=>k8x (.inr ⟨_,rfl⟩) rfl (b.elim (fun h => .inl h.2) fun h => .inr h.2);refine kaj (w':=w) (v := .bool (bif neg then !r else r)) ?_ ⟨kai _, .fz (.atom rfl)⟩;have hc:a.eval (.const .nilIface) = .nilIface:=rfl;have f:(binOp .eql t u .nilIface).run P w = .ok (.bool r) w/\(binOp .neq t u .nilIface).run P w = .ok (.bool !r) w:=by rcases b with ⟨hr,s,z,rfl⟩ | ⟨hr,rfl⟩ <;> subst hr <;> constructor <;> (simp only [binOp];simp [Op.equal,Op.maxDepth,i 9999])
 cases neg;simp [execOp,ho,hv,hc,e,f.1]
 ·simp [execOp,ho,hv,hc,e,f.2]
end
def dfn (f:FuncId) (cs:List Value):Deferred:={ target := .fn (.func f) cs.toArray,args:=#[] }
def ksm (fn:Func):Option (Nat×Nat×Code):=match fn.body with
 | some (.seq (.region _ os false) c)=>match os.toList with
  | [o1,o2]=>match o1.op,o1.dst,o1.guard with
   | .call c1,some t1,none=>match o2.op,o2.dst,o2.guard with
    | .assign (.tmp t),some t2,none=>match c1.callee,c1.args.toList with
     | .builtin .recover,[]=>bif Nat.beq t t1 && (Nat.blt t1 fn.ntmps && (Nat.blt t2 fn.ntmps && fn.results.isEmpty)) then some (t1,t2,c) else none
     | _,_=>none
    | _,_,_=>none
   | _,_,_=>none
  | [o1]=>match o1.op,o1.dst,o1.guard with
   | .call c1,some t1,none=>match c1.callee,c1.args.toList with
    | .builtin .recover,[]=>bif Nat.blt t1 fn.ntmps && fn.results.isEmpty then some (t1,t1,c) else none
    | _,_=>none
   | _,_,_=>none
  | _=>none
 | _=>none
def recV:Exit->Option Value
 | .normal=>some .nilIface
 | .ret=>some .nilIface
 | .panic [⟨v,false,false⟩]=>bif v.oneCell' then some v else none
 | _=>none
def dst0 (keep:List Nat) (n t1 t2:Nat) (pv:Value) (vs:List AV) (gi:Nat) (ocs:List Value) (st:St):St:=
 { n:=n,tmps:=(t2, .fz (.atom pv))::(t1, .fz (.atom pv))::argT 0 vs,heap:=(gi, .gho ocs (keep.map st.get))::st.heap,ids:=gi::st.ids }
def dstB (keep:List Nat) (gi:Nat) (vs:List AV) (st st2:St):St:={ n:=st.n,tmps:=zipS (keep.map fun t=>(t, .any)) vs,heap:=kde gi st2.heap,ids:=st2.ids }
def hdQ (P:Program) (T:List (TypeId×TD)) (rs:List ResultVar) (g:Nat) (ids:List Nat) (E:HEnd) (post:List (Nat×AObj)) (ids':List Nat) (ψ0:Env) (S1:Nat->Prop) (w0:World) (e:Exit) (st:St):Prop:=
 hQ T rs g ids E post ids' ψ0 S1 w0 e st \/ ∃ keep f fn2 t1 t2 c2 gi cvals vs pv gi2, st.dfr = [dfn f cvals] /\ kab st.heap gi = some (.gho cvals vs) /\ cvals.length = vs.length /\ P.funcs[f]? = some fn2 /\ ksm fn2 = some (t1, t2, c2) /\ (fn2.name == "runtime.NumGoroutine") = false /\
  Nat.ble vs.length fn2.ntmps=true/\recV e=some pv/\st.ids.contains gi2=false /\
  ∀ ocs,awp P c2 (dst0 keep fn2.ntmps t1 t2 pv vs gi2 ocs st) fun e2 st2=>(e2 = .normal\/e2 = .ret)/\st2.dfr=[]/\∃ vs',kab st2.heap gi2=some (.gho ocs vs')/\hQ T rs g ids E post ids' ψ0 S1 w0 .ret (dstB keep gi2 vs' st st2)
section
variable {P:Program} {F S0:Nat->Prop} {N0:Nat} {w w':World} {S S':Nat->Prop} {ψ ψ':Env} {T:List (TypeId×TD)} {st:St} {ids:List Nat} {a:Act}
theorem k39 (t:TOk P T) {fn:Func} {pre post:List (Nat×AObj)} {ids':List Nat} {E:HEnd} {g:Nat} {ψ0:Env} {w0:World} {e:Exit} (u:g∉ids) (m:g∉ids') (n:(post.all fun p=>okO ids' p.2)=true) (x:E.ok ids'=true)
  (hk:(post.all fun p=>ids'.contains p.1)=true) (h:kpt T fn.results.toList g ids E post ids' ψ0 S w0 e st) (h2:Sim F S0 N0 st ψ' S' a w') (h3:Fr F w w'):
  a.defers=[]/\((e = .normal\/e = .ret)/\(∃ v,(results fn a.tmps).run P w' = .ok v w'/\∃ ψ'' S'',E.is (.returned v) ψ'' (·∈ids') S'' w'/\Core F S0 N0 post ids' ψ'' S'' w'/\Fr F w w'/\Ext (·∈ids) ψ0 ψ''/\(∀ i,i∈ids->i∈ids')/\(∀ b,S b->S'' b)/\Same S w0 w') \/
   ∃ v,e = .panic [{ v:=v,recovered:=false }]/\∃ ψ'' S'',E.is (.panicked [{ v:=v,recovered:=false }]) ψ'' (·∈ids') S'' w'/\Core F S0 N0 post ids' ψ'' S'' w'/\Fr F w w'/\Ext (·∈ids) ψ0 ψ''/\(∀ i,i∈ids->i∈ids')/\(∀ b,S b->S'' b)/\Same S w0 w'):=by
 obtain ⟨r,hi,s⟩:=h;have o:kab st.heap g=some (.was ψ0 ids S w0):=by rw [r,kae,qj rfl]
 obtain ⟨_,⟨_,_,_,k1,k2,k3,k4⟩,_⟩:=h2.core.obj g _ o;have d:∀ i,i∈ids->i∈ids':=fun i j=>by
  have:=k2 i j;rw [hi] at this;rcases qac.1 this with rfl | h;exact absurd j u
  ·exact h
 have kpt:∀ i ob,kab post i=some ob->i∈ids'/\okO ids' ob=true:=fun i ob ho=>by
  have hm:∀ {l:List (Nat×AObj)},kab l i=some ob->(i,ob)∈l:=fun {l}=>by
   induction l with
   | nil=>intro h;cases h
   | cons p l ih=>
    intro h;obtain ⟨k,v⟩:=p;rw [kae] at h;split at h;rename_i hk;subst hk;injection h with h;subst h;exact qt ..
    ·exact qn _ (ih h)
  have hm:=hm ho;exact ⟨by simpa using qs.1 hk _ hm,by simpa using qs.1 n _ hm⟩
 have hl:∀ i ob,kab post i=some ob->kab st.heap i=some ob:=fun i ob ho=>by have hne:g≠i:=fun e=>m (e ▸ (kpt i ob ho).1);rw [r,kae,qg hne];exact ho
 have c:Core F S0 N0 post ids' ψ' S' w':=by refine ⟨fun i ob ho=>?_,fun i i' ob ob' b ho q=>h2.core.inj i i' ob ob' b (hl i ob ho) (hl i' ob' q),h2.core.lt,h2.core.s0,h2.core.n0,h2.core.fr⟩;obtain ⟨_,m2,m3⟩:=h2.core.obj i ob (hl i ob ho);exact ⟨(kpt i ob ho).1,m2.subA (kpt i ob ho).2,m3⟩
 cases E with
 | ret res=>
  obtain ⟨y,f⟩:=s;obtain ⟨v,e1,e2⟩:=k95 t h2 f;exact ⟨h2.defers.trans (k1a f).1, .inl ⟨y,v,e1,ψ',S',⟨v,rfl,e2.subA x⟩,c,h3,k1,d,k3,k4⟩⟩
 | pan v=>
  obtain ⟨hd,rfl⟩:=s;exact ⟨h2.defers.trans hd, .inr ⟨v,rfl,ψ',S',rfl,c,h3,k1,d,k3,k4⟩⟩
theorem kab3 {fn:Func} {t1 t2:Nat} {c2:Code} (h:ksm fn=some (t1,t2,c2)):∃ id os o1 c1,fn.body=some (.seq (.region id os false) c2)/\o1.op = .call c1/\c1.callee = .builtin .recover/\c1.args=#[]/\o1.dst=some t1/\o1.guard=none /\
  t1<fn.ntmps/\t2<fn.ntmps/\fn.results=#[]/\((∃ o2,os=#[o1,o2]/\o2.op = .assign (.tmp t1)/\o2.dst=some t2/\o2.guard=none)\/(os=#[o1]/\t2=t1)):=by
 unfold ksm at h;split at h
 ·rename_i id os c f;split at h
  ·rename_i o1 o2 b;split at h
   ·rename_i c1 t1' h1 h2 h3;split at h
    ·rename_i tt t2' g i j;split at h
     ·rename_i d e;cases hc:(Nat.beq tt t1' && (Nat.blt t1' fn.ntmps && (Nat.blt t2' fn.ntmps && fn.results.isEmpty))) with
      | false=>rw [hc] at h;cases h
      | true=>
       rw [hc] at h;simp only [qf,ql,qak] at h;obtain ⟨rfl,rfl,rfl⟩:=h;simp only [q8] at hc;obtain ⟨b1,b2,b3,b4⟩:=hc;obtain rfl:=qx b1;have a:os=#[o1,o2]:=(by apply Array.ext'; simpa using b);exact ⟨id,os,o1,c1,f,h1,d,by apply Array.ext'; simpa using e,h2,h3,by simpa [Nat.blt_eq] using b2,by simpa [Nat.blt_eq] using b3,by simpa using b4, .inl ⟨o2,a,g,i,j⟩⟩
     ·cases h
    ·cases h
   ·cases h
  ·rename_i o1 b;split at h
   ·rename_i c1 t1' h1 h2 h3;split at h
    ·rename_i d e;cases hc:(Nat.blt t1' fn.ntmps && fn.results.isEmpty) with
     | false=>rw [hc] at h;cases h
     | true=>
      rw [hc] at h;simp only [qf,ql,qak] at h;obtain ⟨rfl,rfl,rfl⟩:=h;simp only [q8] at hc;obtain ⟨b2,b4⟩:=hc;have a:os=#[o1]:=(by apply Array.ext'; simpa using b);exact ⟨id,os,o1,c1,f,h1,d,by apply Array.ext'; simpa using e,h2,h3,by simpa [Nat.blt_eq] using b2,by simpa [Nat.blt_eq] using b2,by simpa using b4, .inr ⟨a,rfl⟩⟩
    ·cases h
   ·cases h
  ·cases h
 ·cases h
theorem kalo {e:Exit} {pv:Value} (h:recV e=some pv):pv.oneCell'=true/\(((e = .normal\/e = .ret)/\pv = .nilIface)\/e = .panic [{ v:=pv,recovered:=false }]):=by
 unfold recV at h;split at h;injection h with h;subst h;exact ⟨rfl, .inl ⟨.inl rfl,rfl⟩⟩;injection h with h;subst h;exact ⟨rfl, .inl ⟨.inr rfl,rfl⟩⟩
 ·rename_i v;cases a:v.oneCell' with
  | false=>rw [a] at h;cases h
  | true=>rw [a] at h;injection h with h;subst h;exact ⟨a, .inr rfl⟩
 ·cases h
theorem k2j (hT:TOk P T) {fn:Func} {post:List (Nat×AObj)} {ids':List Nat} {E:HEnd} {g:Nat} {ψ0:Env} {w0:World} {e:Exit} (hg:g∉ids) (N:g∉ids') (O:(post.all fun p=>okO ids' p.2)=true) (hE:E.ok ids'=true)
  (hk:(post.all fun p=>ids'.contains p.1)=true) (h2:Sim F S0 N0 st ψ' S' a w') (h3:Fr F w w') {keep:List Nat} {f:FuncId} {fn2:Func} {t1 t2:Nat} {c2:Code} {gi:Nat} {cvals:List Value} {vs:List AV} {pv:Value} {gi2:Nat} {u:FrameMode}
  (hd : st.dfr = [dfn f cvals]) (U : kab st.heap gi = some (.gho cvals vs)) (D : cvals.length = vs.length) (hf : P.funcs[f]? = some fn2) (V : ksm fn2 = some (t1, t2, c2)) (hn : (fn2.name == "runtime.NumGoroutine") = false) (G : Nat.ble vs.length fn2.ntmps = true)
  (hu:(u = .returning/\pv = .nilIface)\/u = .panicking [{ v:=pv,recovered:=false }]) (H:pv.oneCell'=true) (c:st.ids.contains gi2=false)
  (h:∀ ocs,awp P c2 (dst0 keep fn2.ntmps t1 t2 pv vs gi2 ocs st) fun e2 st2=>(e2 = .normal\/e2 = .ret)/\st2.dfr=[]/\∃ vs',kab st2.heap gi2=some (.gho ocs vs')/\hQ T fn.results.toList g ids E post ids' ψ0 S w0 .ret (dstB keep gi2 vs' st st2)):
  Leaves P fn a.tmps (fun e w'=>∃ ψ'' S'',E.is e ψ'' (·∈ids') S'' w'/\Core F S0 N0 post ids' ψ'' S'' w'/\Fr F w w'/\Ext (·∈ids) ψ0 ψ''/\(∀ i,i∈ids->i∈ids')/\(∀ b,S b->S'' b)/\Same S w0 w') a.defers u w':=by
 obtain ⟨id,os,o1,c1,j,p1,p2,p3,p4,p5,n1,n2,nres,r⟩:=kab3 V;have G:=qai G;have c:gi2∉st.ids:=by simpa using c
 rw [h2.defers,hd];have X:fn2.body≠none:=by rw [j];simp
 simp only [qae,ne_eq] at hn;refine leaves_cons (f:=f) (args:=cvals.toArray) (fun hh=>by rcases hu with ⟨h,_⟩ | h <;> rw [hh] at h <;> cases h) (by simp [invoke,callFunc,hf,X,hn]) ?_;refine callsD_of_wpS hf j fun c₀ cs hm=>?_;have s:(cvals.toArray++Array.replicate (fn2.ntmps - cvals.toArray.size) undef).size=fn2.ntmps:=by simp;omega
 -- the values of the frame that leaves
 have z:=h2.core.add (n:=0) (v := .nilFunc) (w':=w') (ob := .gho (keep.map fun t=>a.tmps.getD t undef) (keep.map st.get)) (kai _) c (fun b V=>by cases V)
  ⟨kes _ _,by rw [kbp];rfl,by rw [kbp];rfl,fun i v x hv M=>by simp only [qp,qm] at hv M;obtain ⟨p,hp,rfl⟩:=hv;obtain ⟨q,C,rfl⟩:=M;rw [hp] at C;injection C with C;subst C;exact (h2.tmps p).keep (ker c _ _) (fun _ h=>qn _ h) (fun _ h=>h) (fun _ _ _=>rfl)⟩
 obtain ⟨_,⟨_,_,_,Y⟩,_⟩:=h2.core.obj gi _ U
 let a0:Act:={ tmps:=cvals.toArray++Array.replicate (fn2.ntmps - cvals.toArray.size) undef,defers:=[] }
 let a2:Act:=(a0.put (some t1) pv).put (some t2) pv
 have I:Sim F S0 N0 (dst0 keep fn2.ntmps t1 t2 pv vs gi2 (keep.map fun t=>a.tmps.getD t undef) st) (ψ'.set gi2 0 .nilFunc) S' a2 w':=by
  have s0:a0.tmps.size=fn2.ntmps:=s;have s1:(a0.put (some t1) pv).tmps.size=fn2.ntmps:=by rw [kvy];exact s0
  refine ⟨rfl,by show a2.tmps.size=fn2.ntmps;rw [kvy];exact s1,fun t=>?_,z⟩;show RV _ _ _ _ (a2.tmps.getD t undef) (look .any ((t2, .fz (.atom pv))::(t1, .fz (.atom pv))::argT 0 vs) t);rw [kdt,kdt,ks1 (n:=fn2.ntmps) (d:=some t2) (t:=t) s1 (by intro t ht;injection ht with ht;omega),ks1 (n:=fn2.ntmps) (d:=some t1) (t:=t) s0 (by intro t ht;injection ht with ht;omega)];by_cases e2:t2=t;rw [qj e2,qj (by rw [e2])];exact .fz (.atom H)
  ·rw [qg e2,qg (by simpa using e2)];by_cases e1:t1=t;rw [qj e1,qj (by rw [e1])];exact .fz (.atom H)
   ·rw [qg e1,qg (by simpa using e1)];rcases ktg vs 0 t with h | ⟨x,_,k1,k2⟩;rw [h];exact .any
    ·rw [k2];have k1:vs[t]?=some x:=(by simpa using k1);have A:t<cvals.length:=(by rw [D];exact (qo.1 k1).1);have:a0.tmps.getD t undef=cvals[t]:=(by show (cvals.toArray++Array.replicate (fn2.ntmps - cvals.toArray.size) undef).getD t undef=_;rw [qax,qbh (by simpa using A)];simp [A]);rw [this];exact (Y t _ x (by simp [A]) k1).keep (ker c _ _) (fun _ h=>qn _ h) (fun _ h=>h) (fun _ _ _=>rfl)
 -- what the closure leaves
 have o:∀ (u':FrameMode) (R:Ending->FrameMode->World->Prop),(∀ v w'',Leaves P fn a.tmps (fun e w'=>∃ ψ'' S'',E.is e ψ'' (·∈ids') S'' w'/\Core F S0 N0 post ids' ψ'' S'' w'/\Fr F w w'/\Ext (·∈ids) ψ0 ψ''/\(∀ i,i∈ids->i∈ids')/\(∀ b,S b->S'' b)/\Same S w0 w') [] .returning w''->R (.returned v) u' w'') ->
   c2.wp P (fun e a' w''=>bodyPostS P fn2 c₀ cs R e a' ({ c₀ with mode:=u' }::cs) w'') a2 w':=by
  intro u' R hR;refine wp_mono (h _ F S0 N0 _ S' a2 w' I) ?_;rintro e2 a'' w'' ⟨st2,ψ2,S2,⟨Z,aa,vs',J,st3,ab,ac⟩,k2,k3⟩;have K:a''.defers=[]/\∃ u'',({ c₀ with mode:=u' }::cs:List Frame)={ c₀ with mode:=u'' }::cs/\∃ v,(results fn2 a''.tmps).run P w'' = .ok v w''/\R (.returned v) u'' w'':=by
   refine ⟨k2.defers.trans aa,u',rfl, .tuple #[],by simp [results,nres],hR _ _ ?_⟩;obtain ⟨_,⟨_,_,_,L⟩,_⟩:=k2.core.obj gi2 _ J;have ad:Core F S0 N0 (kde gi2 st2.heap) st2.ids ψ2 S2 w'':=
    ⟨fun i ob ho=>k2.core.obj i ob (ke4 gi2 ho).2,fun i i' ob ob' b ho ae=>k2.core.inj i i' ob ob' b (ke4 gi2 ho).2 (ke4 gi2 ae).2,k2.core.lt,k2.core.s0,k2.core.n0,k2.core.fr⟩
   have B:Sim F S0 N0 (dstB keep gi2 vs' st st2) ψ2 S2 { tmps:=a.tmps,defers:=[] } w'':=(by refine ⟨rfl,h2.size,fun t=>?_,ad⟩;exact k0n (v:=fun t=>a.tmps.getD t undef) t fun i k x hk M=>L i _ x (by simp only [qp,qm] at hk;obtain ⟨q,C,rfl⟩:=hk;rw [qp,C];rfl) M);obtain ⟨ψ3,S3,h4⟩:=ab F S0 N0 ψ2 S2 _ w'' B;rcases (k39 hT (pre:=[]) hg N O hE hk ac h4 (h3.trans k3)).2 with ⟨_,v,r1,r2⟩ | ⟨v,r1,_⟩;exact ⟨v,r1,r2⟩
   ·cases r1
  rcases Z with rfl | rfl <;> exact K
 refine wpS_seq (wpS_region ?_);have af:∀ (a:Act) (w:World),(execOp a.eval o1).run P w = .ok .recover w:=fun a w=>by obtain ⟨cc,as_,ts⟩:=c1;simp only at p2 p3;subst p2 p3;simp [execOp,p1,resolve,invoke,builtin]
 have ag:∀ y,Region.wanted o1 y=true:=fun y=>by simp [Region.wanted,p5]
 have s0:a0.tmps.size=fn2.ntmps:=s;have key:∀ (cs':List Frame) (Q:Exit->Act->List Frame->World->Prop),(Q .normal a2 cs' w'->os[0]?=some o1/\∃ l,List.range os.size=0::l/\wpOpsS P os Q l (a0.put (some t1) pv) cs' w'):=fun cs' Q hQ=>by
  rcases r with ⟨o2,rfl,q1,q2,q3⟩ | ⟨rfl,rfl⟩;refine ⟨rfl,[1],rfl,?_⟩;have ah:∀ y,Region.wanted o2 y=true:=fun y=>(by simp [Region.wanted,q3]);unfold wpOpsS;simp only [List.getElem?_toArray,List.getElem?_cons_succ,List.getElem?_cons_zero,ah,qa6];have hv:(execOp (a0.put (some t1) pv).eval o2).run P w' = .ok (.value pv) w':=(by have:(a0.put (some t1) pv).eval (.tmp t1)=pv:=(by show (a0.put (some t1) pv).tmps.getD t1 undef=pv;rw [ks1 (n:=fn2.ntmps) (d:=some t1) (t:=t1) s (by intro t ht;injection ht with ht;omega),qj rfl]);simp [execOp,q1,this]);rw [hv];simp only [Oper.upon,q2];unfold wpOpsS;exact hQ
  ·refine ⟨rfl,[],rfl,?_⟩;unfold wpOpsS;have he:a2=a0.put (some t2) pv:=(by show (a0.put (some t2) pv).put (some t2) pv=a0.put (some t2) pv;simp [Act.put]);rw [<- he];exact hQ
 have go:∀ (cs0 cs':List Frame) (Q:Exit->Act->List Frame->World->Prop),(recoverD cs0=none/\pv = .nilIface/\cs'=cs0\/recoverD cs0=some (pv,cs'))->Q .normal a2 cs' w'->wpOpsS P os Q (List.range os.size) a0 cs0 w':=fun cs0 cs' Q hr hQ=>by
  obtain ⟨k1,l,k2,k3⟩:=key cs' Q hQ;rw [k2];unfold wpOpsS;simp only [k1,ag,qa6];rw [af];rcases hr with ⟨hr,rfl,rfl⟩ | hr;simp only [hr,p4];exact k3
  ·simp only [hr,p4];exact k3
 rcases hu with ⟨rfl,rfl⟩ | rfl
 ·have m:recoverD (c₀::cs)=none:=by simp [recoverD,hm]
  refine go _ _ _ (.inl ⟨m,rfl,rfl⟩) ?_;show c2.wpS P _ a2 (c₀::cs) w';refine wpS_of_wp ?_;have hc:(c₀::cs)=({ c₀ with mode := .returning }::cs:List Frame):=by rw [<- hm]
  rw [hc];exact o .returning _ fun v w'' hl=>hl
 ·have m:recoverD (c₀::cs)=some (pv,{ c₀ with mode := .panicking [{ v:=pv,recovered:=true }] }::cs):=by simp [recoverD,hm]
  refine go _ _ _ (.inr m) ?_;show c2.wpS P _ a2 _ w';refine wpS_of_wp ?_;exact o (.panicking [{ v:=pv,recovered:=true }]) _ fun v w'' hl=>by have:settle (.panicking [{ v:=pv,recovered:=true }]) = .returning:=rfl;simp only [this];exact hl
theorem k6l (y : TOk P T) {f : FuncId} {fn : Func} {c : Code} {args : List AV} {pre : List (Nat × AObj)} {E : HEnd} {post : List (Nat × AObj)} {ids' : List Nat} {g : Nat} (B : P.funcs[f]? = some fn) (q : fn.body = some c) (hn : (fn.name == "runtime.NumGoroutine") = false)
  (r:Nat.ble args.length fn.ntmps=true) (d:ids.contains g=false) (a:ids'.contains g=false) (k:(post.all fun p=>okO ids' p.2)=true) (z:E.ok ids'=true) (hk:(post.all fun p=>ids'.contains p.1)=true)
  (h:∀ ψ0 S1 w0,awp P c { n:=fn.ntmps,tmps:=argT 0 args,heap:=(g, .was ψ0 ids S1 w0)::pre,ids:=g::ids } (hdQ P T fn.results.toList g ids E post ids' ψ0 S1 w0)):kau P f args pre ids E post ids':=by
 have r:=qai r;have d:g∉ids:=by simpa using d
 have a:g∉ids':=by simpa using a
 refine ⟨⟨fn,B,by rw [q];rfl,hn⟩,fun F S0 N0 ψ S w vs hs hr hc=>calls_of_wp_defers B q ?_⟩;have l:=hc.add (n:=0) (v := .nilFunc) (w':=w) (ob := .was ψ ids S w) (kai _) d (fun b q=>by cases q)
  ⟨kes _ _,by rw [kbp];rfl,by rw [kbp];rfl,ker d _ _,fun i hi=>qn _ hi,fun b q=>q,fun _ _ _=>rfl⟩
 have s:Sim F S0 N0 { n:=fn.ntmps,tmps:=argT 0 args,heap:=(g, .was ψ ids S w)::pre,ids:=g::ids } (ψ.set g 0 .nilFunc) S
   { tmps:=vs++Array.replicate (fn.ntmps - vs.size) undef,defers:=[] } w:=by
  refine ⟨rfl,by simp;omega,fun t=>?_,l⟩;show RV _ _ _ w _ (look .any (argT 0 args) t);rcases ktg args 0 t with h | ⟨x,_,h1,h2⟩;rw [h];exact .any
  ·rw [h2];have h1:args[t]?=some x:=(by simpa using h1);have m:t<vs.size:=(by rw [hs];exact (qo.1 h1).1);have:(vs++Array.replicate (fn.ntmps - vs.size) undef).getD t undef=vs[t]:=(by rw [qax,qbh m];simp [m]);rw [this];exact (hr t _ x (by simp [m]) h1).keep (ker d _ _) (fun _ h=>qn _ h) (fun _ h=>h) (fun _ _ _=>rfl)
 refine wp_mono (h _ _ _ F S0 N0 _ S _ w s) ?_;rintro e a' w' ⟨st',ψ',S',C,h2,h3⟩;rcases C with ⟨st2,hl,hp⟩ | ⟨keep,f2,fn2,t1,t2,c2,gi,cvals,avs,pv,gi2,d1,d2,d3,d4,d5,d6,d7,d8,d9,d10⟩
 ·obtain ⟨ψ2,S2,D⟩:=hl F S0 N0 ψ' S' a' w' h2;obtain ⟨e0,u⟩:=k39 y (pre:=pre) d a k z hk hp D h3;rcases u with ⟨u,v,r1,r2⟩ | ⟨v,rfl,r2⟩;rcases u with rfl | rfl <;> (show Leaves P fn a'.tmps _ a'.defers .returning w'; rw [e0];exact ⟨v,r1,r2⟩)
  ·show Leaves P fn a'.tmps _ a'.defers (.panicking _) w';rw [e0];exact r2
 ·obtain ⟨j,o⟩:=kalo d8;rcases o with ⟨u,A⟩ | rfl;have:=k2j y (e:=e) d a k z hk h2 h3 d1 d2 d3 d4 d5 d6 d7 (.inl ⟨rfl,A⟩) j d9 d10;rcases u with rfl | rfl <;> exact this
  ·exact k2j y (e := .ret) d a k z hk h2 h3 d1 d2 d3 d4 d5 d6 d7 (.inr rfl) j d9 d10
end
end Go.Proofs.YtaimpcnpifoidaaGreatDoor
