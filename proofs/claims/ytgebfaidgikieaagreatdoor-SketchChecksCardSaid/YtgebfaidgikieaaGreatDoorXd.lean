import Derived.Test.YtgebfaidgikieaaGreatDoorOpr
import Derived.Recover
import Derived.Deep.AppendSrc
import Derived.Maps.RangeRun
set_option linter.all false
set_option linter.unusedSectionVars false
namespace Go.Proofs.YtgebfaidgikieaaGreatDoor
open Go Go.RowKit
variable [Dr]
def kwu:List FV->Option (List Value)
 | []=>some []
 | .atom v::l=>match kwu l with
  | some r=>some (v::r)
  | none=>none
 | _::_=>none
def toV:AV->Option Value
 | .fz (.atom v)=>bif v.oneCell' then some v else none
 | .fz (.agg xs)=>match kwu xs with
  | some l=>bif l.all (·.oneCell') then some (.agg l.toArray) else none
  | none=>none
 | _=>none
def ofV:Value->Option FV
 | .agg cs=>bif cs.toList.all (·.oneCell') then some (.agg (cs.toList.map .atom)) else none
 | .tuple _=>none
 | v=>some (.atom v)
variable {P:Program} {w w':World} {S S':Nat->Prop} {ψ:Env} {K:Nat->Prop} {T:List (TypeId×TD)} {o:Oper} {a:Act} {st:St} {t:TypeId} {d:TD}
theorem k3g:∀ {xs:List FV} {l:List Value},kwu xs=some l->xs=l.map .atom
 | [],l,h=>by simp only [kwu,qc] at h;subst h;rfl
 | .atom v::xs,l,h=>by
  simp only [kwu] at h;split at h;rename_i r hr;injection h with h;subst h;rw [k3g hr];rfl
  ·cases h
 | .agg _::_,l,h=>by cases h
 | .tup _::_,l,h=>by cases h
 | .lst _ _ _::_,l,h=>by cases h
 | .fp _::_,l,h=>by cases h
 | .bx _::_,l,h=>by cases h
theorem kak3 {u v:Value} {x:AV} (h:RV ψ K S w u x) (hx:toV x=some v):u=v:=by
 unfold toV at hx;split at hx
 ·rename_i v';cases b:v'.oneCell' with
  | false=>rw [b] at hx;cases hx
  | true=>rw [b] at hx;injection hx with hx;subst hx;exact h.atom
 ·rename_i xs;split at hx
  ·rename_i l hl;cases b:l.all (·.oneCell') with
   | false=>rw [b] at hx;cases hx
   | true=>
    rw [b] at hx;injection hx with hx;subst hx;have h:=h.inv;cases h with
    | @agg cs _ h h1 hr=>
     rw [k3g hl] at hr h;congr 1;apply qbj;apply List.ext_getElem?;intro i;simp only [qas];rcases qba i cs.size with hi | hi;have a:i<l.length:=(by simp at h;omega);have:=hr i cs[i] (.atom l[i]) (by simp [hi]) (by simp [a]);rw [qbb hi,this.atom_eq];simp [a]
     ·have a:l.length<=i:=(by simp at h;omega);simp [hi,a]
  ·cases hx
 ·cases hx
theorem kakl {v:Value} {x:FV} (h:ofV v=some x):RF S w v x:=by
 unfold ofV at h;split at h
 ·rename_i cs;cases a:cs.toList.all (·.oneCell') with
  | false=>rw [a] at h;cases h
  | true=>
   rw [a] at h;injection h with h;subst h;refine .agg (by simp) ?_ ?_;intro x hx;simp only [qaz] at hx;obtain ⟨v,hv,rfl⟩:=hx;exact qp.1 a v hv
   ·intro i v x hv hx;simp only [qr,qm,qas] at hx;obtain ⟨u,b,rfl⟩:=hx;rw [hv] at b;injection b with b;subst b;exact .atom (qp.1 a v (by rw [Array.mem_toList_iff];exact Array.mem_of_getElem? hv))
 cases h
 ·rename_i c d;injection h with h;subst h;refine .atom ?_;cases v <;> first | rfl | exact absurd rfl (c _) | exact absurd rfl (d _)
theorem kajg {x:Operand} {v:Value} (g:o.op = .makeInterface t x) (hd:TdOk P t d) (hk:∀ h:d.kind = .ifc,False) (hx:toV (st.eval x)=some v):NStep P o st (.fz (.atom (.iface t v))):=by
 intro ψ S a w ht j;have hv:=kak3 (Sim.eval_tmps ht x) hx;obtain ⟨_,e,h1,f⟩:=hd;refine kad w (.iface t v) ?_ ⟨kaf _, .fz (.atom rfl)⟩;have c:∀ ms,e ≠ .interface ms:=fun ms i=>by subst i;cases b:d.kind <;> rw [b] at f <;> first | exact hk b | exact f
 simp only [execOp,g,hv,Instr.makeInterface,Sem.run_bind,Result.andThen_ok,run_underlying h1];cases e <;> first | exact absurd rfl (c _) | rfl
theorem kab5 {x:Operand} {xt:TypeId} {v:Value} {y:FV} (k:o.op = .typeAssert x xt t true) (hd:TdOk P t d) (hk:∀ h:d.kind = .ifc,False) (hx:st.eval x = .fz (.atom (.iface t v))) (hy:ofV v=some y):
  NStep P o st (.fz (.tup [y, .atom (.bool true)])):=by
 intro ψ S a w ht m;have hv:=Sim.eval_tmps ht x;rw [hx] at hv;have hv:=hv.atom;obtain ⟨_,e,h1,j⟩:=hd;have g:∀ ms,e ≠ .interface ms:=fun ms l=>by subst l;cases b:d.kind <;> rw [b] at j <;> first | exact hk b | exact j
 refine kad w (.tuple #[v, .bool true]) ?_ ⟨kaf _, .fz (.tup rfl ?_)⟩
 ·simp only [execOp,k,hv,Instr.typeAssert,Sem.run_bind,Result.andThen_ok,run_underlying h1];cases e <;> first | exact absurd rfl (g _) | simp
 ·intro i u z f c
  match i with
  | 0=>simp at f c;subst f c;exact kakl hy
  | 1=>simp at f c;subst f c;exact .atom rfl
  | i+2=>simp at c
theorem k79 {op:BinOp} {x y:Operand} {u v:Value} (h:(∃ s z,u = .iface s z)\/∃ c,y = .const c) (hv:v = .nilIface) (a:(∃ s z,u = .iface s z)\/u = .nilIface):(eqGuard op t x y u v).run P w = .ok () w:=by
 unfold eqGuard;subst hv;rcases a with ⟨s,z,rfl⟩ | rfl;cases op <;> simp
 ·rcases h with ⟨s,z,h⟩ | ⟨c,rfl⟩;cases h
  ·cases op <;> simp
theorem TdOk.ifc (h:TdOk P t d) (hk:d.kind = .ifc):∃ ms,P.underlying t=some (.interface ms):=by obtain ⟨_,e,h1,a⟩:=h;rw [hk] at a;cases e <;> simp [kfv] at a;exact ⟨_,h1⟩
theorem krv {x:Operand} {yt:TypeId} {u:Value} (neg r:Bool) (e:o.op = .binOp (if neg then .neq else .eql) t x (.const .nilIface) yt) (hd:TdOk P t d) (hk:d.kind = .ifc) (hx:st.eval x = .fz (.atom u)) (b:(r=false/\∃ s z,u = .iface s z)\/(r=true/\u = .nilIface)):
  NStep P o st (.fz (.atom (.bool (bif neg then !r else r)))):=by
 obtain ⟨ms,c⟩:=hd.ifc hk;intro ψ S a w ht j;have hv:=Sim.eval_tmps ht x;rw [hx] at hv;have hv:=hv.atom;have i:∀ d:Nat,(Op.equalIn (d+1) t u .nilIface).run P w = .ok r w:=fun d=>by rcases b with ⟨rfl,s,z,rfl⟩ | ⟨rfl,rfl⟩ <;> simp [Op.equalIn,run_underlying c]
 have f:∀ op,(eqGuard op t x (.const .nilIface) u .nilIface).run P w = .ok () w:=fun op=>k79 (.inr ⟨_,rfl⟩) rfl (b.elim (fun h => .inl h.2) fun h => .inr h.2);refine kad w (.bool (bif neg then !r else r)) ?_ ⟨kaf _, .fz (.atom rfl)⟩;have hc:a.eval (.const .nilIface) = .nilIface:=rfl;have g:(binOp .eql t u .nilIface).run P w = .ok (.bool r) w/\(binOp .neq t u .nilIface).run P w = .ok (.bool !r) w:=by rcases b with ⟨hr,s,z,rfl⟩ | ⟨hr,rfl⟩ <;> subst hr <;> constructor <;> (simp only [binOp];simp [Op.equal,Op.maxDepth,i 9999])
 cases neg;simp [execOp,e,hv,hc,f,g.1]
 ·simp [execOp,e,hv,hc,f,g.2]
end Go.Proofs.YtgebfaidgikieaaGreatDoor
set_option linter.all false
set_option linter.unusedSectionVars false
namespace Go.Proofs.YtgebfaidgikieaaGreatDoor
open Go Go.RowKit
variable [Dr]
def dfn (f:FuncId) (cs:List Value):Deferred:={ target := .fn (.func f) cs.toArray,args:=#[] }
def knq (fn:Func):Option (Nat×Nat×Code):=match fn.body with
 | some (.seq (.region _ os false) c)=>match os.toList with
  | [o1,o2]=>match o1.op,o1.dst,o1.guard with
   | .call c1,some t1,none=>match o2.op,o2.dst,o2.guard with
    | .assign (.tmp t),some t2,none=>match c1.callee,c1.args.toList with
     | .builtin .recover,[]=>bif Nat.beq t t1 && (Nat.blt t1 fn.ntmps && (Nat.blt t2 fn.ntmps && fn.results.isEmpty)) then some (t1,t2,c) else none
     | _,_=>none
    | _,_,_=>none
   | _,_,_=>none
  | [o1]=>match o1.op,o1.dst,o1.guard with
   | .call c1,some t1,none=>match c1.callee,c1.args.toList with
    | .builtin .recover,[]=>bif Nat.blt t1 fn.ntmps && fn.results.isEmpty then some (t1,t1,c) else none
    | _,_=>none
   | _,_,_=>none
  | _=>none
 | _=>none
def recV:Exit->Option Value
 | .normal=>some .nilIface
 | .ret=>some .nilIface
 | .panic [⟨v,false,false⟩]=>bif v.oneCell' then some v else none
 | _=>none
def dst0 (keep:List Nat) (n t1 t2:Nat) (pv:Value) (vs:List AV) (gi:Nat) (ocs:List Value) (st:St):St:=
 { n:=n,tmps:=(t2, .fz (.atom pv))::(t1, .fz (.atom pv))::argT 0 vs,heap:=(gi, .gho ocs (keep.map st.get))::st.heap,ids:=gi::st.ids }
def dstB (keep:List Nat) (gi:Nat) (vs:List AV) (st st2:St):St:={ n:=st.n,tmps:=zipS (keep.map fun t=>(t, .any)) vs,heap:=ked gi st2.heap,ids:=st2.ids }
def hdQ (P:Program) (T:List (TypeId×TD)) (rs:List ResultVar) (g:Nat) (ids:List Nat) (E:HEnd) (post:List (Nat×AObj)) (ids':List Nat) (ψ0:Env) (S1:Nat->Prop) (w0:World) (e:Exit) (st:St):Prop:=
 hQ T rs g ids E post ids' ψ0 S1 w0 e st \/ ∃ keep f fn2 t1 t2 c2 gi cvals vs pv gi2, st.dfr = [dfn f cvals] /\ kaa st.heap gi = some (.gho cvals vs) /\ cvals.length = vs.length /\ P.funcs[f]? = some fn2 /\ knq fn2 = some (t1, t2, c2) /\ (fn2.name == "runtime.NumGoroutine") = false /\
  Nat.ble vs.length fn2.ntmps=true/\recV e=some pv/\st.ids.contains gi2=false /\
  ∀ ocs,awp P c2 (dst0 keep fn2.ntmps t1 t2 pv vs gi2 ocs st) fun e2 st2=>(e2 = .normal\/e2 = .ret)/\st2.dfr=[]/\∃ vs',kaa st2.heap gi2=some (.gho ocs vs')/\hQ T rs g ids E post ids' ψ0 S1 w0 .ret (dstB keep gi2 vs' st st2)
variable {P:Program} {F S0:Nat->Prop} {N0:Nat} {w w':World} {S S':Nat->Prop} {ψ ψ':Env} {T:List (TypeId×TD)} {st:St} {ids:List Nat} {a:Act}
theorem k4g (z:TOk P T) {fn:Func} (pre:List (Nat×AObj)) {post:List (Nat×AObj)} {ids':List Nat} {E:HEnd} {g:Nat} {ψ0:Env} {w0:World} {e:Exit} (A:g∉ids) (o:g∉ids') (q:(post.all fun p=>okO ids' p.2)=true) (B:E.ok ids'=true) (hk:(post.all fun p=>ids'.contains p.1)=true) (h:kh2 T fn.results.toList g ids E post ids' ψ0 S w0 e st) (d:Sim F S0 N0 st ψ' S' a w') (u:Fr F w w'):
  a.defers=[]/\((e = .normal\/e = .ret)/\(∃ v,(results fn a.tmps).run P w' = .ok v w'/\∃ ψ'' S'',E.is (.returned v) ψ'' (·∈ids') S'' w'/\Core F S0 N0 post ids' ψ'' S'' w'/\Fr F w w'/\Ext (·∈ids) ψ0 ψ''/\(∀ i,i∈ids->i∈ids')/\(∀ b,S b->S'' b)/\Same S w0 w') \/
   ∃ v,e = .panic [{ v:=v,recovered:=false }]/\∃ ψ'' S'',E.is (.panicked [{ v:=v,recovered:=false }]) ψ'' (·∈ids') S'' w'/\Core F S0 N0 post ids' ψ'' S'' w'/\Fr F w w'/\Ext (·∈ids) ψ0 ψ''/\(∀ i,i∈ids->i∈ids')/\(∀ b,S b->S'' b)/\Same S w0 w'):=by
 obtain ⟨x,hi,y⟩:=h;have r:kaa st.heap g=some (.was ψ0 ids S w0):=by rw [x,kac,qs rfl]
 obtain ⟨_,⟨_,_,_,k1,k2,k3,k4⟩,_⟩:=d.core.obj g _ r;have j:∀ i,i∈ids->i∈ids':=fun i n=>by
  have:=k2 i n;rw [hi] at this;rcases qab.1 this with rfl | h;exact absurd n A
  ·exact h
 have kh2:∀ i ob,kaa post i=some ob->i∈ids'/\okO ids' ob=true:=fun i ob f=>by
  have hm:∀ {l:List (Nat×AObj)},kaa l i=some ob->(i,ob)∈l:=fun {l}=>by
   induction l with
   | nil=>intro h;cases h
   | cons p l ih=>
    intro h;obtain ⟨k,v⟩:=p;rw [kac] at h;split at h;rename_i hk;subst hk;injection h with h;subst h;exact qx ..
    ·exact qk _ (ih h)
  have hm:=hm f;exact ⟨by simpa using qp.1 hk _ hm,by simpa using qp.1 q _ hm⟩
 have hl:∀ i ob,kaa post i=some ob->kaa st.heap i=some ob:=fun i ob f=>by have s:g≠i:=fun e=>o (e ▸ (kh2 i ob f).1);rw [x,kac,ql s];exact f
 have c:Core F S0 N0 post ids' ψ' S' w':=by refine ⟨fun i ob f=>?_,fun i i' ob ob' b f t=>d.core.inj i i' ob ob' b (hl i ob f) (hl i' ob' t),d.core.lt,d.core.s0,d.core.n0,d.core.fr⟩;obtain ⟨_,m2,m3⟩:=d.core.obj i ob (hl i ob f);exact ⟨(kh2 i ob f).1,m2.subA (kh2 i ob f).2,m3⟩
 cases E with
 | ret res=>
  obtain ⟨C,m⟩:=y;obtain ⟨v,e1,e2⟩:=k2t z d m;exact ⟨d.defers.trans (k0l m).1, .inl ⟨C,v,e1,ψ',S',⟨v,rfl,e2.subA B⟩,c,u,k1,j,k3,k4⟩⟩
 | pan v=>
  obtain ⟨hd,rfl⟩:=y;exact ⟨d.defers.trans hd, .inr ⟨v,rfl,ψ',S',rfl,c,u,k1,j,k3,k4⟩⟩
theorem kvs {fn:Func} {t1 t2:Nat} {c2:Code} (h:knq fn=some (t1,t2,c2)):∃ id os o1 c1,fn.body=some (.seq (.region id os false) c2)/\o1.op = .call c1/\c1.callee = .builtin .recover/\c1.args=#[]/\o1.dst=some t1/\o1.guard=none /\
  t1<fn.ntmps/\t2<fn.ntmps/\fn.results=#[]/\((∃ o2,os=#[o1,o2]/\o2.op = .assign (.tmp t1)/\o2.dst=some t2/\o2.guard=none)\/(os=#[o1]/\t2=t1)):=by
 unfold knq at h;split at h
 ·rename_i id os c i;split at h
  ·rename_i o1 o2 b;split at h
   ·rename_i c1 t1' h1 d e;split at h
    ·rename_i tt t2' j k l;split at h
     ·rename_i f g;cases hc:(Nat.beq tt t1' && (Nat.blt t1' fn.ntmps && (Nat.blt t2' fn.ntmps && fn.results.isEmpty))) with
      | false=>rw [hc] at h;cases h
      | true=>
       rw [hc] at h;simp only [qe,qc,qq] at h;obtain ⟨rfl,rfl,rfl⟩:=h;simp only [qo] at hc;obtain ⟨b1,b2,b3,b4⟩:=hc;obtain rfl:=qi b1;have a:os=#[o1,o2]:=(by apply qbj;simpa using b);exact ⟨id,os,o1,c1,i,h1,f,by apply qbj;simpa using g,d,e,by simpa [Nat.blt_eq] using b2,by simpa [Nat.blt_eq] using b3,by simpa using b4, .inl ⟨o2,a,j,k,l⟩⟩
     ·cases h
    ·cases h
   ·cases h
  ·rename_i o1 b;split at h
   ·rename_i c1 t1' h1 d e;split at h
    ·rename_i f g;cases hc:(Nat.blt t1' fn.ntmps && fn.results.isEmpty) with
     | false=>rw [hc] at h;cases h
     | true=>
      rw [hc] at h;simp only [qe,qc,qq] at h;obtain ⟨rfl,rfl,rfl⟩:=h;simp only [qo] at hc;obtain ⟨b2,b4⟩:=hc;have a:os=#[o1]:=(by apply qbj;simpa using b);exact ⟨id,os,o1,c1,i,h1,f,by apply qbj;simpa using g,d,e,by simpa [Nat.blt_eq] using b2,by simpa [Nat.blt_eq] using b2,by simpa using b4, .inr ⟨a,rfl⟩⟩
    ·cases h
   ·cases h
  ·cases h
 ·cases h
theorem kagz {e:Exit} {pv:Value} (h:recV e=some pv):pv.oneCell'=true/\(((e = .normal\/e = .ret)/\pv = .nilIface)\/e = .panic [{ v:=pv,recovered:=false }]):=by
 unfold recV at h;split at h;injection h with h;subst h;exact ⟨rfl, .inl ⟨.inl rfl,rfl⟩⟩;injection h with h;subst h;exact ⟨rfl, .inl ⟨.inr rfl,rfl⟩⟩
 ·rename_i v;cases a:v.oneCell' with
  | false=>rw [a] at h;cases h
  | true=>rw [a] at h;injection h with h;subst h;exact ⟨a, .inr rfl⟩
 ·cases h
theorem k1q (hT:TOk P T) {fn:Func} {post:List (Nat×AObj)} {ids':List Nat} {E:HEnd} {g:Nat} {ψ0:Env} {w0:World} (e:Exit) (hg:g∉ids) (N:g∉ids') (O:(post.all fun p=>okO ids' p.2)=true) (hE:E.ok ids'=true) (hk:(post.all fun p=>ids'.contains p.1)=true) (D:Sim F S0 N0 st ψ' S' a w') (h3:Fr F w w') {keep:List Nat} {f:FuncId} {fn2:Func} {t1 t2:Nat} {c2:Code} {gi:Nat} {cvals:List Value} {vs:List AV} {pv:Value} {gi2:Nat} {u:FrameMode} (hd: st.dfr = [dfn f cvals]) (U: kaa st.heap gi = some (.gho cvals vs)) (G: cvals.length = vs.length) (hf: P.funcs[f]? = some fn2) (V: knq fn2 = some (t1, t2, c2)) (hn: (fn2.name == "runtime.NumGoroutine") = false) (H: Nat.ble vs.length fn2.ntmps = true) (hu:(u = .returning/\pv = .nilIface)\/u = .panicking [{ v:=pv,recovered:=false }]) (I:pv.oneCell'=true) (c:st.ids.contains gi2=false) (h:∀ ocs,awp P c2 (dst0 keep fn2.ntmps t1 t2 pv vs gi2 ocs st) fun e2 st2=>(e2 = .normal\/e2 = .ret)/\st2.dfr=[]/\∃ vs',kaa st2.heap gi2=some (.gho ocs vs')/\hQ T fn.results.toList g ids E post ids' ψ0 S w0 .ret (dstB keep gi2 vs' st st2)):
  Leaves P fn a.tmps (fun e w'=>∃ ψ'' S'',E.is e ψ'' (·∈ids') S'' w'/\Core F S0 N0 post ids' ψ'' S'' w'/\Fr F w w'/\Ext (·∈ids) ψ0 ψ''/\(∀ i,i∈ids->i∈ids')/\(∀ b,S b->S'' b)/\Same S w0 w') a.defers u w':=by
 obtain ⟨id,os,o1,c1,j,p1,p2,p3,p4,p5,n1,n2,nres,r⟩:=kvs V;have H:=qn H;have c:gi2∉st.ids:=by simpa using c
 rw [D.defers,hd];have X:fn2.body≠none:=by rw [j];simp
 simp only [qam,ne_eq] at hn;refine leaves_cons (f:=f) (args:=cvals.toArray) (fun hh=>by rcases hu with ⟨h,_⟩ | h <;> rw [hh] at h <;> cases h) (by simp [invoke,callFunc,hf,X,hn]) ?_;refine callsD_of_wpS hf j fun c₀ cs hm=>?_;have s:(cvals.toArray++Array.replicate (fn2.ntmps - cvals.toArray.size) undef).size=fn2.ntmps:=by simp;omega
 -- the values of the frame that leaves
 have z:=D.core.add (n:=0) (v := .nilFunc) (w':=w') (ob := .gho (keep.map fun t=>a.tmps.getD t undef) (keep.map st.get)) (kaf _) c (fun b V=>by cases V)
  ⟨kbv _ _,by rw [kan];rfl,by rw [kan];rfl,fun i v x hv hx=>by simp only [qr,qm] at hv hx;obtain ⟨p,hp,rfl⟩:=hv;obtain ⟨q,C,rfl⟩:=hx;rw [hp] at C;injection C with C;subst C;exact (D.tmps p).keep (kbm c _ _) (fun _ h=>qk _ h) (fun _ h=>h) (fun _ _ _=>rfl)⟩
 obtain ⟨_,⟨_,_,_,Y⟩,_⟩:=D.core.obj gi _ U
 let a0:Act:={ tmps:=cvals.toArray++Array.replicate (fn2.ntmps - cvals.toArray.size) undef,defers:=[] }
 let a2:Act:=(a0.put (some t1) pv).put (some t2) pv
 have J:Sim F S0 N0 (dst0 keep fn2.ntmps t1 t2 pv vs gi2 (keep.map fun t=>a.tmps.getD t undef) st) (ψ'.set gi2 0 .nilFunc) S' a2 w':=by
  have s0:a0.tmps.size=fn2.ntmps:=s;have s1:(a0.put (some t1) pv).tmps.size=fn2.ntmps:=by rw [kz0];exact s0
  refine ⟨rfl,by show a2.tmps.size=fn2.ntmps;rw [kz0];exact s1,fun t=>?_,z⟩;show RV _ _ _ _ (a2.tmps.getD t undef) (look .any ((t2, .fz (.atom pv))::(t1, .fz (.atom pv))::argT 0 vs) t);rw [kbd,kbd,ko9 (some t2) fn2.ntmps t s1 (by intro t ht;injection ht with ht;omega),ko9 (some t1) fn2.ntmps t s0 (by intro t ht;injection ht with ht;omega)];by_cases e2:t2=t;rw [qs e2,qs (by rw [e2])];exact .fz (.atom I)
  ·rw [ql e2,ql (by simpa using e2)];by_cases e1:t1=t;rw [qs e1,qs (by rw [e1])];exact .fz (.atom I)
   ·rw [ql e1,ql (by simpa using e1)];rcases kld vs 0 t with h | ⟨x,_,k1,k2⟩;rw [h];exact .any
    ·rw [k2];have k1:vs[t]?=some x:=(by simpa using k1);have A:t<cvals.length:=(by rw [G];exact (qj.1 k1).1);have:a0.tmps.getD t undef=cvals[t]:=(by show (cvals.toArray++Array.replicate (fn2.ntmps - cvals.toArray.size) undef).getD t undef=_;rw [qal,qa0 (by simpa using A)];simp [A]);rw [this];exact (Y t _ x (by simp [A]) k1).keep (kbm c _ _) (fun _ h=>qk _ h) (fun _ h=>h) (fun _ _ _=>rfl)
 -- what the closure leaves
 have o:∀ (u':FrameMode) (R:Ending->FrameMode->World->Prop),(∀ v w'',Leaves P fn a.tmps (fun e w'=>∃ ψ'' S'',E.is e ψ'' (·∈ids') S'' w'/\Core F S0 N0 post ids' ψ'' S'' w'/\Fr F w w'/\Ext (·∈ids) ψ0 ψ''/\(∀ i,i∈ids->i∈ids')/\(∀ b,S b->S'' b)/\Same S w0 w') [] .returning w''->R (.returned v) u' w'') ->
   c2.wp P (fun e a' w''=>bodyPostS P fn2 c₀ cs R e a' ({ c₀ with mode:=u' }::cs) w'') a2 w':=by
  intro u' R hR;refine wp_wide.1 (kcr (h _ F S0 N0 _ S' a2 w' J) ?_);rintro e2 a'' w'' ⟨st2,ψ2,S2,⟨Z,aa,vs',K,st3,ab,ac⟩,k2,k3⟩;have L:a''.defers=[]/\∃ u'',({ c₀ with mode:=u' }::cs:List Frame)={ c₀ with mode:=u'' }::cs/\∃ v,(results fn2 a''.tmps).run P w'' = .ok v w''/\R (.returned v) u'' w'':=by
   refine ⟨k2.defers.trans aa,u',rfl, .tuple #[],by simp [results,nres],hR _ _ ?_⟩;obtain ⟨_,⟨_,_,_,M⟩,_⟩:=k2.core.obj gi2 _ K;have ad:Core F S0 N0 (ked gi2 st2.heap) st2.ids ψ2 S2 w'':=
    ⟨fun i ob ho=>k2.core.obj i ob (kfg gi2 ho).2,fun i i' ob ob' b ho ae=>k2.core.inj i i' ob ob' b (kfg gi2 ho).2 (kfg gi2 ae).2,k2.core.lt,k2.core.s0,k2.core.n0,k2.core.fr⟩
   have B:Sim F S0 N0 (dstB keep gi2 vs' st st2) ψ2 S2 { tmps:=a.tmps,defers:=[] } w'':=(by refine ⟨rfl,D.size,fun t=>?_,ad⟩;exact k0g (v:=fun t=>a.tmps.getD t undef) t fun i k x hk hx=>M i _ x (by simp only [qr,qm] at hk;obtain ⟨q,C,rfl⟩:=hk;rw [qr,C];rfl) hx);obtain ⟨ψ3,S3,h4⟩:=ab F S0 N0 ψ2 S2 _ w'' B;rcases (k4g hT [] hg N O hE hk ac h4 (h3.trans k3)).2 with ⟨_,v,r1,r2⟩ | ⟨v,r1,_⟩;exact ⟨v,r1,r2⟩
   ·cases r1
  rcases Z with rfl | rfl <;> exact L
 refine wpS_seq (wpS_region ?_);have af:∀ (a:Act) (w:World),(execOp a.eval o1).run P w = .ok .recover w:=fun a w=>by obtain ⟨cc,as_,ts⟩:=c1;simp only at p2 p3;subst p2 p3;simp [execOp,p1,resolve,invoke,builtin]
 have ag:∀ y,Region.wanted o1 y=true:=fun y=>by simp [Region.wanted,p5]
 have s0:a0.tmps.size=fn2.ntmps:=s;have key:∀ (cs':List Frame) (Q:Exit->Act->List Frame->World->Prop),(Q .normal a2 cs' w'->os[0]?=some o1/\∃ l,List.range os.size=0::l/\wpOpsS P os Q l (a0.put (some t1) pv) cs' w'):=fun cs' Q hQ=>by
  rcases r with ⟨o2,rfl,q1,q2,q3⟩ | ⟨rfl,rfl⟩;refine ⟨rfl,[1],rfl,?_⟩;have ah:∀ y,Region.wanted o2 y=true:=fun y=>(by simp [Region.wanted,q3]);unfold wpOpsS;simp only [List.getElem?_toArray,qbn,List.getElem?_cons_zero,ah,if_true];have hv:(execOp (a0.put (some t1) pv).eval o2).run P w' = .ok (.value pv) w':=(by have:(a0.put (some t1) pv).eval (.tmp t1)=pv:=(by show (a0.put (some t1) pv).tmps.getD t1 undef=pv;rw [ko9 (some t1) fn2.ntmps t1 s (by intro t ht;injection ht with ht;omega),qs rfl]);simp [execOp,q1,this]);rw [hv];simp only [Oper.upon,q2];unfold wpOpsS;exact hQ
  ·refine ⟨rfl,[],rfl,?_⟩;unfold wpOpsS;have he:a2=a0.put (some t2) pv:=(by show (a0.put (some t2) pv).put (some t2) pv=a0.put (some t2) pv;simp [Act.put]);rw [<- he];exact hQ
 have go:∀ (cs0 cs':List Frame) (Q:Exit->Act->List Frame->World->Prop),(recoverD cs0=none/\pv = .nilIface/\cs'=cs0\/recoverD cs0=some (pv,cs'))->Q .normal a2 cs' w'->wpOpsS P os Q (List.range os.size) a0 cs0 w':=fun cs0 cs' Q hr hQ=>by
  obtain ⟨k1,l,k2,k3⟩:=key cs' Q hQ;rw [k2];unfold wpOpsS;simp only [k1,ag,if_true];rw [af];rcases hr with ⟨hr,rfl,rfl⟩ | hr;simp only [hr,p4];exact k3
  ·simp only [hr,p4];exact k3
 rcases hu with ⟨rfl,rfl⟩ | rfl
 ·have m:recoverD (c₀::cs)=none:=by simp [recoverD,hm]
  refine go _ _ _ (.inl ⟨m,rfl,rfl⟩) ?_;show c2.wpS P _ a2 (c₀::cs) w';refine wpS_of_wp ?_;have hc:(c₀::cs)=({ c₀ with mode := .returning }::cs:List Frame):=by rw [<- hm]
  rw [hc];exact o .returning _ fun v w'' hl=>hl
 ·have m:recoverD (c₀::cs)=some (pv,{ c₀ with mode := .panicking [{ v:=pv,recovered:=true }] }::cs):=by simp [recoverD,hm]
  refine go _ _ _ (.inr m) ?_;show c2.wpS P _ a2 _ w';refine wpS_of_wp ?_;exact o (.panicking [{ v:=pv,recovered:=true }]) _ fun v w'' hl=>by have:settle (.panicking [{ v:=pv,recovered:=true }]) = .returning:=rfl;simp only [this];exact hl
theorem k5k (z : TOk P T) {f : FuncId} {fn : Func} {c : Code} {args : List AV} {pre : List (Nat × AObj)} {E : HEnd} {post : List (Nat × AObj)} {ids' : List Nat} {g : Nat} (D : P.funcs[f]? = some fn) (q : fn.body = some c) (hn : (fn.name == "runtime.NumGoroutine") = false)
  (r:Nat.ble args.length fn.ntmps=true) (d:ids.contains g=false) (a:ids'.contains g=false) (k:(post.all fun p=>okO ids' p.2)=true) (A:E.ok ids'=true) (hk:(post.all fun p=>ids'.contains p.1)=true)
  (h:∀ ψ0 S1 w0,awp P c { n:=fn.ntmps,tmps:=argT 0 args,heap:=(g, .was ψ0 ids S1 w0)::pre,ids:=g::ids } (hdQ P T fn.results.toList g ids E post ids' ψ0 S1 w0)):HCall P f args pre ids E post ids':=by
 have r:=qn r;have d:g∉ids:=by simpa using d
 have a:g∉ids':=by simpa using a
 refine ⟨⟨fn,D,by rw [q];rfl,hn⟩,fun F S0 N0 ψ S w vs hs hr hc=>calls_of_wp_defers D q ?_⟩;have l:=hc.add (n:=0) (v := .nilFunc) (w':=w) (ob := .was ψ ids S w) (kaf _) d (fun b q=>by cases q)
  ⟨kbv _ _,by rw [kan];rfl,by rw [kan];rfl,kbm d _ _,fun i hi=>qk _ hi,fun b q=>q,fun _ _ _=>rfl⟩
 have s:Sim F S0 N0 { n:=fn.ntmps,tmps:=argT 0 args,heap:=(g, .was ψ ids S w)::pre,ids:=g::ids } (ψ.set g 0 .nilFunc) S
   { tmps:=vs++Array.replicate (fn.ntmps - vs.size) undef,defers:=[] } w:=by
  refine ⟨rfl,by simp;omega,fun t=>?_,l⟩;show RV _ _ _ w _ (look .any (argT 0 args) t);rcases kld args 0 t with h | ⟨x,_,h1,u⟩;rw [h];exact .any
  ·rw [u];have h1:args[t]?=some x:=(by simpa using h1);have m:t<vs.size:=(by rw [hs];exact (qj.1 h1).1);have:(vs++Array.replicate (fn.ntmps - vs.size) undef).getD t undef=vs[t]:=(by rw [qal,qa0 m];simp [m]);rw [this];exact (hr t _ x (by simp [m]) h1).keep (kbm d _ _) (fun _ h=>qk _ h) (fun _ h=>h) (fun _ _ _=>rfl)
 refine wp_wide.1 (kcr (h _ _ _ F S0 N0 _ S _ w s) ?_);rintro e a' w' ⟨st',ψ',S',G,u,B⟩;rcases G with ⟨st2,hl,hp⟩ | ⟨keep,f2,fn2,t1,t2,c2,gi,cvals,avs,pv,gi2,d1,d2,d3,d4,d5,d6,d7,d8,d9,d10⟩
 ·obtain ⟨ψ2,S2,H⟩:=hl F S0 N0 ψ' S' a' w' u;obtain ⟨e0,y⟩:=k4g z pre d a k A hk hp H B;rcases y with ⟨y,v,r1,r2⟩ | ⟨v,rfl,r2⟩;rcases y with rfl | rfl <;> (show Leaves P fn a'.tmps _ a'.defers .returning w'; rw [e0];exact ⟨v,r1,r2⟩)
  ·show Leaves P fn a'.tmps _ a'.defers (.panicking _) w';rw [e0];exact r2
 ·obtain ⟨j,o⟩:=kagz d8;rcases o with ⟨y,C⟩ | rfl;have:=k1q z e d a k A hk u B d1 d2 d3 d4 d5 d6 d7 (.inl ⟨rfl,C⟩) j d9 d10;rcases y with rfl | rfl <;> exact this
  ·exact k1q z .ret d a k A hk u B d1 d2 d3 d4 d5 d6 d7 (.inr rfl) j d9 d10
end Go.Proofs.YtgebfaidgikieaaGreatDoor
set_option linter.all false
set_option linter.unusedSectionVars false
namespace Go.Proofs.YtgebfaidgikieaaGreatDoor
open Go Go.RowKit
variable [Dr]
def anc (l:List Oper) (i j:Nat):Bool:=((krj l).getD i 0).testBit j
def dstT (l:List Oper) (j:Nat):Option Nat:=(l[j]?).bind (·.dst)
def phB (l:List Oper) (es:List Nat) (i:Nat):Bool:=es.all fun e=>bif Nat.blt e i then anc l i e else (bif Nat.blt i e then anc l e i else true)
def ksb (l:List Oper) (n:Nat) (es:List Nat):Bool:=es.all fun e=>Nat.blt e n && phB l es e
def kpw (ch:List Nat):List (Nat×AObj)->List (Nat×AObj)
 | []=>[]
 | (k,v)::l=>bif ch.contains k then kpw ch l else (k,v)::kpw ch l
def klb (l:List Oper) (i:Nat):Nat->List (Nat×AV)
 | 0=>[]
 | j+1=>match dstT l j with
  | some d=>bif Nat.ble j i || anc l j i then klb l i j else (d, .any)::klb l i j
  | none=>klb l i j
def kex (l:List Oper) (n:Nat) (es ch ai:List Nat) (st:St) (i:Nat) (o:Oper) (fs:List (Nat×Option Nat×AV)) (hp:List (Nat×AObj)) (ids:List Nat):St:=
 { st with tmps:=hadd fs (ki6 o) (klb l i n++st.tmps),heap:=bif phB l es i then hp else kpw ch st.heap,ids:=bif phB l es i then ids else ai }
def pnE (v:Value):PanicEntry:={ v:=v,recovered:=false }
def kxz (P:Program) (os:Array Oper) (v:St) (o:Oper) (c:AV):Prop:=(kb7 os v o=some true/\NStep P o v c)\/(kb7 os v o=some false/\c = .fz (.tup []))
def k1g (P:Program) (os:Array Oper) (l:List Oper) (n:Nat) (es ch ai:List Nat) (st v:St) (o:Oper) (c:AV) (hp:List (Nat×AObj)) (ids:List Nat) (a:List (Nat×AObj)) (ids':List Nat):Prop:=
 ((kb7 os v o=some true/\StepA P o v c a ids')\/(kb7 os v o=some false/\c = .fz (.tup [])/\a=hp/\ids'=ids))/\((∀ i,i<n->phB l es i=true)\/((∀ id,id∉ch->∀ ob,kaa hp id=some ob->kaa a id=some ob)/\(∀ id,id∈ids'->id∈ai)/\∀ id,id∈ids->id∈ids'))
def kaga (_:Program) (_:Array Oper) (_:Exit->St->Prop) (_ _:St) (_:Oper):Prop:=False
def krl [Rd] (P:Program) (os:Array Oper) (n:Nat) (es ch ai:List Nat) (Q:Exit->St->Prop) (st:St):Nat->Nat->List Oper->List (Nat×Option Nat×AV)->List (Nat×AObj)->List Nat->Option Nat->Prop
 | 0,_,l,fs,hp,ids,none=>awpL P os l { st with tmps:=hadd fs (fun _=>true) st.tmps,heap:=hp,ids:=ids } Q
 | 0,_,_,_,_,_,some _=>True
 | k+1,i,o::l,fs,hp,ids,pn=>
  (∃ e,pn=some e/\anc os.toList i e=true/\krl P os n es ch ai Q st k (i+1) l ((i,o.dst, .any)::fs) hp ids pn) \/
  (es.contains i=false/\∃ c,kxz P os (kex os.toList n es ch ai st i o fs hp ids) o c/\(phB os.toList es i || okA st.ids c)=true/\krl P os n es ch ai Q st k (i+1) l ((i,o.dst,c)::fs) hp ids pn) \/
  (es.contains i=true/\pn=none/\∃ c a ids',k1g P os os.toList n es ch ai st (kex os.toList n es ch ai st i o fs hp ids) o c hp ids a ids'/\krl P os n es ch ai Q st k (i+1) l ((i,o.dst,c)::fs) a ids' none) \/
  (es.contains i=true/\pn=none/\kaga P os Q st (kex os.toList n es ch ai st i o fs hp ids) o/\krl P os n es ch ai Q st k (i+1) l ((i,o.dst, .any)::fs) hp ids (some i))
 | _+1,_,[],_,_,_,_=>False
variable {P:Program} {F S0:Nat->Prop} {N0:Nat} {w w':World} {S S':Nat->Prop} {ψ ψ':Env} {Q:Exit->St->Prop} {st:St} {os:Array Oper} {n:Nat} {es ch ai:List Nat}
def fsOf (l:List Oper) (c:Nat->AV):Nat->List (Nat×Option Nat×AV)
 | 0=>[]
 | k+1=>(k,dstT l k,c k)::fsOf l c k
theorem kly {l:List Oper} {c c':Nat->AV}:∀ {k:Nat},(∀ j,j<k->c j=c' j)->fsOf l c k=fsOf l c' k
 | 0,_=>rfl
 | k+1,h=>by simp only [fsOf,h k (by omega),kly (k:=k) fun j a=>h j (by omega)]
def FactZ [Rd] (P:Program) (os:Array Oper) (n:Nat) (es ch ai:List Nat) (Q:Exit->St->Prop) (st:St) (c:Nat->AV) (H:Nat->List (Nat×AObj)×List Nat) (pn:Option Nat) (i:Nat) (o:Oper):Prop:=
 (H (i+1)=H i/\∃ e,pn=some e/\e<i/\anc os.toList i e=true) \/
 (i∉es/\H (i+1)=H i/\kxz P os (kex os.toList n es ch ai st i o (fsOf os.toList c i) (H i).1 (H i).2) o (c i)/\(phB os.toList es i || okA st.ids (c i))=true) \/
 (i∈es/\(∀ e,pn=some e->i<e)/\k1g P os os.toList n es ch ai st (kex os.toList n es ch ai st i o (fsOf os.toList c i) (H i).1 (H i).2) o (c i) (H i).1 (H i).2 (H (i+1)).1 (H (i+1)).2) \/
 (i∈es/\pn=some i/\H (i+1)=H i/\kaga P os Q st (kex os.toList n es ch ai st i o (fsOf os.toList c i) (H i).1 (H i).2) o)
theorem koa [Rd] {rest:List Oper}:∀ (k i:Nat) (l:List Oper) (c0:Nat->AV) (H0:Nat->List (Nat×AObj)×List Nat) (pn0:Option Nat),os.toList.drop i=l++rest->i+k=n->(∀ e,pn0=some e->e<i) ->
  krl P os n es ch ai Q st k i l (fsOf os.toList c0 i) (H0 i).1 (H0 i).2 pn0 ->
  ∃ c H pn,(∀ j,j<i->c j=c0 j)/\(∀ j,j<=i->H j=H0 j)/\(∀ e,pn0=some e->pn=some e)/\(∀ e,pn=some e->pn0=some e\/(i<=e/\e<n/\e∈es))/\(∀ j o,i<=j->j<n->os.toList[j]?=some o->FactZ P os n es ch ai Q st c H pn j o) /\
   (pn=none->awpL P os (l.drop k) { st with tmps:=hadd (fsOf os.toList c n) (fun _=>true) st.tmps,heap:=(H n).1,ids:=(H n).2 } Q)
 | 0,i,l,c0,H0,pn0,hl,hn,hp,h=>by
  obtain rfl:i=n:=by omega
  refine ⟨c0,H0,pn0,fun _ _=>rfl,fun _ _=>rfl,fun _ h=>h,fun e h => .inl h,fun j o h1 p=>by omega,fun d=>?_⟩;subst d;exact h
 | k+1,i,l,c0,H0,pn0,hl,hn,hp,h=>by
  cases l with
  | nil=>exact h.elim
  | cons o l=>
   have f:os.toList[i]?=some o:=(by have:=qbg (·[0]?) hl;simpa using this);have m:os.toList.drop (i+1)=l++rest:=(by rw [<- List.drop_drop,hl];rfl);have hd:dstT os.toList i=o.dst:=(by unfold dstT;rw [f];rfl);have cons:∀ c,(i,o.dst,c)::fsOf os.toList c0 i=fsOf os.toList (fun j=>if j=i then c else c0 j) (i+1):=fun c=>(by simp only [fsOf,hd,if_true];rw [kly (k:=i) (c':=fun j=>if j=i then c else c0 j) fun j q=>by rw [ql (by omega)]]);have v:∀ x:List (Nat×AObj)×List Nat,(fun j=>if j=i+1 then x else H0 j) (i+1)=x:=fun x=>(by simp);rcases h with ⟨e,t,ha,h⟩ | ⟨g,c,r,u,h⟩ | ⟨g,d,c,s,ids',r,h⟩ | ⟨g,d,r,h⟩
   ·rw [cons] at h;obtain ⟨c1,H1,pn1,k1,k2,k3,k3',k4,k5⟩:=koa k (i+1) l _ (fun j=>if j=i+1 then H0 i else H0 j) pn0 m (by omega) (fun e h=>by have:=hp e h;omega) (by simpa using h);refine ⟨c1,H1,pn1,fun j q=>by rw [k1 j (by omega),ql (by omega)],fun j q=>by rw [k2 j (by omega),ql (by omega)],k3,fun e h=>(k3' e h).imp id (fun h=>⟨by omega,h.2⟩),fun j o' h1 p a=>?_,k5⟩;by_cases b:j=i;subst b;rw [f] at a;obtain rfl:=qt a;exact .inl ⟨by rw [k2 (j+1) (qw _),qs rfl,k2 j (by omega),ql (by omega)],e,k3 e t,hp e t,ha⟩
    ·exact k4 j o' (by omega) p a
   ·rw [cons] at h;obtain ⟨c1,H1,pn1,k1,k2,k3,k3',k4,k5⟩:=koa k (i+1) l _ (fun j=>if j=i+1 then H0 i else H0 j) pn0 m (by omega) (fun e h=>by have:=hp e h;omega) (by simpa using h);have e1:∀ j,j<i->c1 j=c0 j:=fun j q=>(by rw [k1 j (by omega),ql (by omega)]);have e2:c1 i=c:=(by rw [k1 i (by omega),qs rfl]);have e3:H1 i=H0 i:=(by rw [k2 i (by omega),ql (by omega)]);have e4:H1 (i+1)=H0 i:=(by rw [k2 (i+1) (qw _),qs rfl]);refine ⟨c1,H1,pn1,e1,fun j q=>by rw [k2 j (by omega),ql (by omega)],k3,fun e h=>(k3' e h).imp id (fun h=>⟨by omega,h.2⟩),fun j o' h1 p a=>?_,k5⟩;by_cases b:j=i;subst b;rw [f] at a;obtain rfl:=qt a;refine .inr (.inl ⟨by simpa using g,by rw [e3,e4],?_⟩);rw [kly e1,e2,e3];exact ⟨r,u⟩
    ·exact k4 j o' (by omega) p a
   ·subst d;rw [cons] at h;obtain ⟨c1,H1,pn1,k1,k2,k3,k3',k4,k5⟩:=koa k (i+1) l _ (fun j=>if j=i+1 then (s,ids') else H0 j) none m (by omega) (fun e h=>by cases h) (by simpa using h);have e1:∀ j,j<i->c1 j=c0 j:=fun j q=>(by rw [k1 j (by omega),ql (by omega)]);have e2:c1 i=c:=(by rw [k1 i (by omega),qs rfl]);have e3:H1 i=H0 i:=(by rw [k2 i (by omega),ql (by omega)]);have e4:H1 (i+1)=(s,ids'):=(by rw [k2 (i+1) (qw _),qs rfl]);refine ⟨c1,H1,pn1,e1,fun j q=>by rw [k2 j (by omega),ql (by omega)],k3,fun e h=>(k3' e h).imp id (fun h=>⟨by omega,h.2⟩),fun j o' h1 p a=>?_,k5⟩;by_cases b:j=i
    ·subst b;rw [f] at a;obtain rfl:=qt a;refine .inr (.inr (.inl ⟨by simpa using g,fun e t=>?_,?_⟩))
     ·rcases k3' e t with h | h;cases h
      ·omega
     ·rw [kly e1,e2,e3,e4];exact r
    ·exact k4 j o' (by omega) p a
   ·exact r.elim
def kl5 (fs:List (Nat×Option Nat×AV)) (p:Nat->Bool) (base:List (Nat×AV)):List (Nat×AV):=match fs with
 | []=>base
 | (j,some d,c)::l=>bif p j then (d,c)::kl5 l p base else kl5 l p base
 | (_,none,_)::l=>kl5 l p base
theorem khf {l:List Oper} {c:Nat->AV} {p:Nat->Bool} {base:List (Nat×AV)} {t:Nat}:∀ k,(∃ j,j<k/\p j=true/\dstT l j=some t/\look .any (kl5 (fsOf l c k) p base) t=c j) \/
  ((∀ j,j<k->p j=true->dstT l j≠some t)/\look .any (kl5 (fsOf l c k) p base) t=look .any base t)
 | 0 => .inr ⟨fun j h=>by omega,rfl⟩
 | k+1=>by
  have ih:=khf (l:=l) (c:=c) (p:=p) (base:=base) (t:=t) k;simp only [fsOf];cases hd:dstT l k with
  | none=>
   simp only [kl5];rcases ih with ⟨j,h1,a,g,i⟩ | ⟨h1,a⟩;exact .inl ⟨j,by omega,a,g,i⟩
   ·refine .inr ⟨fun j m hp=>?_,a⟩;by_cases b:j=k
    ·subst b;rw [hd];exact fun h=>by cases h
    ·exact h1 j (by omega) hp
  | some d=>
   simp only [kl5];cases hp:p k with
   | false=>
    simp only [qd];rcases ih with ⟨j,h1,a,g,i⟩ | ⟨h1,a⟩;exact .inl ⟨j,by omega,a,g,i⟩
    ·refine .inr ⟨fun j m e=>?_,a⟩;by_cases b:j=k;subst b;rw [hp] at e;cases e
     ·exact h1 j (by omega) e
   | true=>
    simp only [qe,kbd];by_cases f:d=t;subst f;exact .inl ⟨k,by omega,hp,hd,by rw [qs rfl]⟩
    ·rw [ql f];rcases ih with ⟨j,h1,a,g,i⟩ | ⟨h1,a⟩;exact .inl ⟨j,by omega,a,g,i⟩
     ·refine .inr ⟨fun j m e=>?_,a⟩;by_cases b:j=k;subst b;rw [hd];exact fun h=>f (qt h)
      ·exact h1 j (by omega) e
theorem kvb {l:List Oper} {c:Nat->AV} {p:Nat->Bool} {base:List (Nat×AV)} {t:Nat}:∀ k,(look .any (hadd (fsOf l c k) p base) t = .any)\/(∃ j,j<k/\p j=true/\dstT l j=some t/\look .any (hadd (fsOf l c k) p base) t=c j) \/
  ((∀ j,j<k->dstT l j≠some t)/\look .any (hadd (fsOf l c k) p base) t=look .any base t)
 | 0 => .inr (.inr ⟨fun j h=>by omega,rfl⟩)
 | k+1=>by
  have ih:=kvb (l:=l) (c:=c) (p:=p) (base:=base) (t:=t) k;simp only [fsOf];cases hd:dstT l k with
  | none=>
   simp only [hadd];rcases ih with h | ⟨j,h1,a,f,g⟩ | ⟨h1,a⟩;exact .inl h;exact .inr (.inl ⟨j,by omega,a,f,g⟩)
   ·refine .inr (.inr ⟨fun j i=>?_,a⟩);by_cases b:j=k
    ·subst b;rw [hd];exact fun h=>by cases h
    ·exact h1 j (by omega)
  | some d=>
   simp only [hadd,kbd];by_cases e:d=t
   ·subst e;rw [qs rfl];cases hp:p k with
    | false=>exact .inl rfl
    | true=>exact .inr (.inl ⟨k,by omega,hp,hd,rfl⟩)
   ·rw [ql e];rcases ih with h | ⟨j,h1,a,f,g⟩ | ⟨h1,a⟩;exact .inl h;exact .inr (.inl ⟨j,by omega,a,f,g⟩)
    ·refine .inr (.inr ⟨fun j i=>?_,a⟩);by_cases b:j=k;subst b;rw [hd];exact fun h=>e (qt h)
     ·exact h1 j (by omega)
theorem ky7 {l:List Oper} {i:Nat} {base:List (Nat×AV)} {t:Nat}:∀ k,look .any (klb l i k++base) t = .any\/((∀ j,j<k->dstT l j=some t->j<=i\/anc l j i=true)/\look .any (klb l i k++base) t=look .any base t)
 | 0 => .inr ⟨fun j h=>by omega,rfl⟩
 | k+1=>by
  have ih:=ky7 (l:=l) (i:=i) (base:=base) (t:=t) k;simp only [klb];cases hd:dstT l k with
  | none=>
   rcases ih with h | ⟨h1,e⟩;exact .inl h
   ·refine .inr ⟨fun j g a=>?_,e⟩;by_cases b:j=k;subst b;rw [hd] at a;cases a
    ·exact h1 j (by omega) a
  | some d=>
   cases f:(Nat.ble k i || anc l k i) with
   | true=>
    simp only [f,qe];rcases ih with h | ⟨h1,e⟩;exact .inl h
    ·refine .inr ⟨fun j g a=>?_,e⟩;by_cases b:j=k;subst b;rw [Bool.or_eq_true] at f;exact f.imp (fun h=>qn h) id
     ·exact h1 j (by omega) a
   | false=>
    simp only [f,qd,List.cons_append,kbd];by_cases c:d=t;rw [qs c];exact .inl rfl
    ·rw [ql c];rcases ih with h | ⟨h1,e⟩;exact .inl h
     ·refine .inr ⟨fun j g a=>?_,e⟩;by_cases b:j=k;subst b;rw [hd] at a;exact absurd (qt a) c
      ·exact h1 j (by omega) a
theorem kw7 {ch:List Nat} {id:Nat} {ob:AObj}:∀ {l:List (Nat×AObj)},kaa (kpw ch l) id=some ob->id∉ch/\kaa l id=some ob
 | [],h=>by cases h
 | (k,v)::l,h=>by
  simp only [kpw] at h;cases hc:ch.contains k with
  | true=>
   rw [hc] at h;obtain ⟨h1,a⟩:=kw7 (l:=l) h;refine ⟨h1,?_⟩;rw [kac,ql];exact a
   ·rintro rfl;exact h1 (by simpa using hc)
  | false=>
   rw [hc] at h;simp only [qd,kac] at h;rw [kac];by_cases hk:k=id;subst hk;rw [qs rfl] at h ⊢;exact ⟨by simpa using hc,h⟩
   ·rw [ql hk] at h ⊢;exact kw7 h
theorem kur {ch:List Nat} {id:Nat} {ob:AObj} (a:id∉ch):∀ {l:List (Nat×AObj)},kaa l id=some ob->kaa (kpw ch l) id=some ob
 | [],h=>by cases h
 | (k,v)::l,h=>by
  simp only [kpw];rw [kac] at h;cases hc:ch.contains k with
  | true=>
   simp only [qe];rw [ql (by rintro rfl;exact a (by simpa using hc))] at h;exact kur a h
  | false=>
   simp only [qd,kac];by_cases hk:k=id;rw [qs hk] at h ⊢; exact h
   ·rw [ql hk] at h ⊢; exact kur a h
def kvv (ch:List Nat):List (Nat×AObj)->List Nat
 | []=>[]
 | (k,_)::l=>bif ch.contains k then kvv ch l else k::kvv ch l
theorem k3p {ch:List Nat} {id:Nat} {ob:AObj} (a:id∉ch):∀ {l:List (Nat×AObj)},kaa l id=some ob->id∈kvv ch l
 | [],h=>by cases h
 | (k,v)::l,h=>by
  simp only [kvv];rw [kac] at h;by_cases hk:k=id;subst hk;rw [show ch.contains k=false by simpa using a];exact qx ..
  ·rw [ql hk] at h;have:=k3p a (l:=l) h;cases ch.contains k with
   | true=>exact this
   | false=>exact qk _ this
theorem kako {ch:List Nat} {hp a:List (Nat×AObj)} (h:(kvv ch hp).map (kaa a)=(kvv ch hp).map (kaa hp)):∀ id,id∉ch->∀ ob,kaa hp id=some ob->kaa a id=some ob:=fun id b ob c=>by rw [List.map_inj_left.1 h id (k3p b c)];exact c
def stZ (l:List Oper) (n:Nat) (st:St) (c:Nat->AV) (H:Nat->List (Nat×AObj)×List Nat) (listed:Array Bool) (kD:Nat):St:=
 { st with tmps:=kl5 (fsOf l c n) (fun j=>listed.getD j false) st.tmps,heap:=(H kD).1,ids:=(H kD).2 }
theorem k53 {es:List Nat} {H:Nat->List (Nat×AObj)×List Nat} {n:Nat} (g:∀ i,i<n->i∉es->H (i+1)=H i):∀ {a b:Nat},a<=b->b<=n->(∀ e,e∈es->¬ (a<=e/\e<b))->H a=H b
 | a,b,h1,j,f=>by
  induction b with
  | zero=>
    obtain rfl:a=0:=(by omega);rfl
  | succ b ih=>
   by_cases c:a=b+1;rw [c]
   ·rw [g b (by omega) (fun d=>f b d ⟨by omega,by omega⟩)];exact ih (by omega) (by omega) fun e d h=>f e d ⟨h.1,by omega⟩
def HistI (ids ids':List Nat) (ψ ψ':Env) (S S':Nat->Prop) (w w':World):Prop:=Ext (·∈ids) ψ ψ'/\(∀ i,i∈ids->i∈ids')/\(∀ b,S b->S' b)/\Same S w w'
theorem HistI.refl {ids:List Nat}:HistI ids ids ψ ψ S S w w:=⟨Ext.refl,fun _ h=>h,fun _ h=>h,fun _ _ _=>rfl⟩
theorem HistI.trans {ids ids' ids2:List Nat} {ψ2:Env} {S2:Nat->Prop} {w2:World} (h:HistI ids ids' ψ ψ' S S' w w') (k:HistI ids' ids2 ψ' ψ2 S' S2 w' w2):HistI ids ids2 ψ ψ2 S S2 w w2:=
 ⟨h.1.trans' k.1 h.2.1,fun i hi=>k.2.1 i (h.2.1 i hi),fun b a=>k.2.2.1 b (h.2.2.1 b a),h.2.2.2.trans' k.2.2.2 h.2.2.1⟩
structure DSx (F S0:Nat->Prop) (N0:Nat) (ψ0:Env) (Sa:Nat->Prop) (w0:World) (l:List Oper) (n:Nat) (es:List Nat) (st:St) (c:Nat->AV) (H:Nat->List (Nat×AObj)×List Nat) (listed:Array Bool) (a:Act) (w:World):Prop where
 inv:∃ kD ψ S,kD<=n/\(∀ e,e∈es->(listed.getD e false=true↔e<kD))/\Sim F S0 N0 (stZ l n st c H listed kD) ψ S a w/\HistI st.ids (H kD).2 ψ0 ψ Sa S w0 w
 fr:Fr F w0 w
 lsize:listed.size=l.length
 closed:∀ k o,listed.getD k false=true->l[k]?=some o->∀ e∈o.after,Region.binds .any e=true->listed.getD e.on false=true
def kagm (P:Program) (l:List Oper) (n:Nat) (es:List Nat) (chi chs:Nat->List Nat) (ai:List Nat) (st:St) (c:Nat->AV) (H:Nat->List (Nat×AObj)×List Nat) (i:Nat) (o:Oper):Prop:=
 (i∉es/\H (i+1)=H i/\kxz P l.toArray (kex l n es (chi i) ai st i o (fsOf l c i) (H i).1 (H i).2) o (c i)/\(phB l es i || okA st.ids (c i))=true) \/
 (i∈es/\k1g P l.toArray l n es (chs i) ai st (kex l n es (chi i) ai st i o (fsOf l c i) (H i).1 (H i).2) o (c i) (H i).1 (H i).2 (H (i+1)).1 (H (i+1)).2)
theorem k3e [Rd] (hm:P.follows .mixedOrders=true) {id:Nat} {l:List Oper} {c:Nat->AV} {H:Nat->List (Nat×AObj)×List Nat} (chi chs:Nat->List Nat) (ok:k7n l n st.n) (tail0:∀ k j,k<l.length->n<=k->j<n->((krj l).getD k 0).testBit j=true) (E:Act->World->Prop) (bd:ksb l n es=true) (be:st.ids.all ai.contains=true) (X:H 0=(st.heap,st.ids)) (bf:∀ j i,j∈es->i<n->anc l j i=false->∀ id,id∈chs j->id∈chi i) (M:∀ i o,i<n->l[i]?=some o->kagm P l n es chi chs ai st c H i o) {F S0:Nat->Prop} {N0:Nat} {ψ0:Env} {Sa:Nat->Prop} {a0:Act} {w0:World} (q:Sim F S0 N0 st ψ0 Sa a0 w0) (R:Exit->Act->World->Prop) (a4:∀ ψ S a w,Sim F S0 N0 { st with tmps:=hadd (fsOf l c n) (fun _=>true) st.tmps,heap:=(H n).1,ids:=(H n).2 } ψ S a w->Fr F w0 w->HistI st.ids (H n).2 ψ0 ψ Sa S w0 w->E a w) (an:∀ (fuel:Nat) (listed:Array Bool) (a:Act) (w:World),listed.size=l.length->(∀ i,i<l.length->(listed.getD i true=true↔i<n))->l.length - n<=fuel->E a w->kq9 P .any l.toArray R fuel listed a w):Cwp P (Code.region id l.toArray true) R a0 w0:=by
 -- facts about the chain
 have ag:∀ e,e∈es->e<n/\phB l es e=true:=fun e g=>by have:=qp.1 bd e g;rw [qo] at this;exact ⟨by simpa [Nat.blt_eq] using this.1,this.2⟩
 have a5:∀ i,phB l es i=true->∀ e,e∈es->(e<i->anc l i e=true)/\(i<e->anc l e i=true):=fun i hi e g=>by
  have:=qp.1 hi e g;refine ⟨fun r=>?_,fun r=>?_⟩;have u:Nat.blt e i=true:=(by simpa [Nat.blt_eq] using r);simpa [u] using this
  ·have u:Nat.blt i e=true:=(by simpa [Nat.blt_eq] using r);have bg:Nat.blt e i=false:=by
    cases hx:Nat.blt e i with
    | false=>rfl
    | true=>
      have:e<i:=(by simpa [Nat.blt_eq] using hx);omega
   simpa [u,bg] using this
 have hs1:Sim F S0 N0 st ψ0 Sa a0 w0.drew:=⟨q.defers,q.size,fun t=>(q.tmps t).keep Ext.refl (fun _ h=>h) (fun _ h=>h) (fun _ _ _=>rfl),⟨fun id ob ho=>by obtain ⟨e1,e2,e3⟩:=q.core.obj id ob ho;exact ⟨e1,e2.keep Ext.refl (fun _ h=>h) (fun _ h=>h) (fun _ _ _=>rfl) ⟨rfl,rfl⟩ (fun _ _=>rfl),e3⟩,q.core.inj,q.core.lt,q.core.s0,q.core.n0,q.core.fr⟩⟩;refine k4j hm ?_;have ah:∀ i,i<n->i∉es->H (i+1)=H i:=fun i hi Q=>by
  have A:i<l.length:=by have:=ok.len;omega
  rcases M i l[i] hi (qb A) with ⟨_,h1,_⟩ | ⟨h1,_⟩;exact h1
  ·exact absurd h1 Q
 have s:¬ (∀ i,i<n->phB l es i=true)->∀ j,j<n->(∀ id,id∉chs j->∀ ob,kaa (H j).1 id=some ob->kaa (H (j+1)).1 id=some ob)/\((∀ id,id∈(H j).2->id∈ai)->∀ id,id∈(H (j+1)).2->id∈ai)/\∀ id,id∈(H j).2->id∈(H (j+1)).2:=fun T j L=>by
  have G:j<l.length:=by have:=ok.len;omega
  rcases M j l[j] L (qb G) with ⟨_,h1,_⟩ | ⟨_,_,h1⟩;rw [h1];exact ⟨fun _ _ _ h=>h,fun h=>h,fun _ h=>h⟩
  ·obtain ⟨q1,q2,q3⟩:=h1.resolve_left T;exact ⟨q1,fun _=>q2,q3⟩
 have U:¬ (∀ i,i<n->phB l es i=true)->∀ i,i<n->∀ k,k<=n->(∀ j,j<k->j∈es->anc l j i=false)->∀ id,id∉chi i->∀ ob,kaa st.heap id=some ob->kaa (H k).1 id=some ob:=fun T i bh k=>by
  induction k with
  | zero=>intro _ _ id _ ob h;rw [X];exact h
  | succ k ih=>
   intro B a6 id a7 ob h;have hk:=ih (by omega) (fun j L=>a6 j (by omega)) id a7 ob h;by_cases ar:k∈es;exact (s T k (by omega)).1 id (fun hc=>a7 (bf k i ar bh (a6 k (Nat.lt_succ_self _) ar) id hc)) ob hk
   ·rw [ah k (by omega) ar];exact hk
 have I:¬ (∀ i,i<n->phB l es i=true)->∀ k,k<=n->(∀ id,id∈(H k).2->id∈ai)/\∀ id,id∈st.ids->id∈(H k).2:=fun T k=>by
  induction k with
  | zero=>intro _;rw [X];exact ⟨fun id h=>by simpa using qp.1 be id h,fun _ h=>h⟩
  | succ k ih=>intro B;obtain ⟨q1,q2⟩:=ih (by omega);exact ⟨(s T k (by omega)).2.1 q1,fun id h=>(s T k (by omega)).2.2 id (q2 id h)⟩
 suffices key:∀ (fuel:Nat) (listed:Array Bool) (a:Act) (w:World),DSx F S0 N0 ψ0 Sa w0 l n es st c H listed a w->(∀ k,listed.getD k false=true->k<n) ->
   ((List.range l.length).countP fun k=>!listed.getD k true)<=fuel->kq9 P .any l.toArray R fuel listed a w by
  refine key _ _ _ _ ⟨⟨0,ψ0,Sa,qaj _,fun e _=>by rw [k03];simp,?_,⟨Ext.refl,fun i h=>by rw [X];exact h,fun _ h=>h,fun _ _ _=>rfl⟩⟩,Fr.drew,by simp,(fun k o hk=>by rw [k03] at hk;cases hk)⟩ (fun k hk=>by rw [k03] at hk;cases hk) ?_
  ·refine ⟨hs1.defers,hs1.size,fun t=>?_,by show Core F S0 N0 (H 0).1 (H 0).2 _ _ _;rw [X];exact hs1.core⟩;show RV _ (·∈(H 0).2) _ _ _ (look .any (kl5 (fsOf l c n) _ st.tmps) t);rw [X];rcases khf (l:=l) (c:=c) (p:=fun j=>(Array.replicate l.toArray.size false).getD j false) (base:=st.tmps) (t:=t) n with ⟨j,_,L,_⟩ | ⟨_,N⟩;rw [k03] at L;cases L
   ·rw [N];exact hs1.tmps t
  ·refine qa1 (List.countP_le_length ..) ?_;simp
 intro fuel
 -- the end of the bz
 have fin:∀ (listed:Array Bool) (a:Act) (w:World),DSx F S0 N0 ψ0 Sa w0 l n es st c H listed a w->(∀ i,i<n->listed.getD i false=true)->E a w:=by
  intro listed a w d f;obtain ⟨kD,ψ,S,B,hk,hs,Y⟩:=d.inv;have au:H kD=H n:=k53 (es:=es) (n:=n) ah B (qw _) fun e g h=>by have:=(hk e g).1 (f e h.2);omega
  have bi:Sim F S0 N0 { st with tmps:=hadd (fsOf l c n) (fun _=>true) st.tmps,heap:=(H n).1,ids:=(H n).2 } ψ S a w:=by
   refine ⟨hs.defers,hs.size,fun t=>?_,by rw [<- au];exact hs.core⟩;have ht:=hs.tmps t;rw [<- au];show RV _ _ _ _ _ (look .any (hadd (fsOf l c n) (fun _=>true) st.tmps) t);have ht:RV ψ (·∈(H kD).2) S w (a.tmps.getD t undef) (look .any (kl5 (fsOf l c n) (fun j=>listed.getD j false) st.tmps) t):=ht;rcases kvb (l:=l) (c:=c) (p:=fun _=>true) (base:=st.tmps) (t:=t) n with h | ⟨j,h1,_,y,Z⟩ | ⟨h1,N⟩;rw [h];exact .any
   ·rw [Z];rcases khf (l:=l) (c:=c) (p:=fun j=>listed.getD j false) (base:=st.tmps) (t:=t) n with ⟨j',e1,e2,e3,e4⟩ | ⟨e1,e2⟩;rw [e4] at ht;have bj:j'=j:=(by unfold dstT at y e3;simp only [qg] at y e3;obtain ⟨o1,p1,p2⟩:=y;obtain ⟨o2,q1,q2⟩:=e3;exact ok.uniq j' j o2 o1 t e1 h1 q1 p1 q2 p2);rw [bj] at ht;exact ht
    ·exact absurd y (e1 j h1 (f j h1))
   ·rw [N];rcases khf (l:=l) (c:=c) (p:=fun j=>listed.getD j false) (base:=st.tmps) (t:=t) n with ⟨j',e1,e2,e3,e4⟩ | ⟨e1,e2⟩;exact absurd e3 (h1 j' e1)
    ·rw [e2] at ht;exact ht
  exact a4 ψ S a w bi d.fr (by rw [<- au];exact Y)
 induction fuel with
 | zero=>
  intro listed a w d hh hc;have f:∀ i,i<l.length->listed.getD i false=true:=fun i hi=>by have h0:((List.range l.length).countP fun k=>!listed.getD k true)=0:=(by omega);rw [List.countP_eq_zero] at h0;have:=h0 i (by simpa using hi);simp [d.lsize,hi] at this ⊢;exact this
  have hn:n=l.length:=by
   have:=ok.len;rcases qba n l.length with h' | h';have:=hh n (f _ h');omega
   ·omega
  exact an 0 listed a w d.lsize (fun i hi=>⟨fun _=>by omega,fun _=>by have:=f i hi;simp [d.lsize,hi] at this ⊢;exact this⟩) (by omega) (fin listed a w d fun i hi=>f i (by omega))
 | succ fuel ih=>
  intro listed a w d hh hc;by_cases z:∀ i,i<n->listed.getD i false=true
  ·refine an (fuel+1) listed a w d.lsize (fun i hi=>⟨fun hl=>hh i (by
    simp [d.lsize,hi] at hl ⊢;exact hl),fun C=>by
    have:=z i C;simp [d.lsize,hi] at this ⊢;exact this⟩) ?_ (fin listed a w d z)
   refine qa1 ?_ hc;rw [show l.length=n+(l.length - n) by have:=ok.len;omega,List.range_add,List.countP_append];have:((List.range (l.length - n)).map (n+·)).countP (fun k=>!listed.getD k true)=l.length - n:=(by rw [List.countP_eq_length.2,qaw,List.length_range];intro k hk;simp only [qaz,List.mem_range] at hk;obtain ⟨m,hm,rfl⟩:=hk;have r:n+m<l.length:=(by omega);have:listed.getD (n+m) false≠true:=fun h=>(by have:=hh _ h;omega);simp [d.lsize,r] at this ⊢;exact this);omega
  ·have av:Region.ready .any l.toArray listed≠[]:=by
    have bk:∃ i,i<n/\listed.getD i false=false/\∀ j,j<i->listed.getD j false=true:=by
     have:∃ i,i<n/\listed.getD i false=false:=(by simp only [Classical.not_forall] at z;obtain ⟨i,hi,u⟩:=z;exact ⟨i,hi,by simpa using u⟩);obtain ⟨i,hi,u⟩:=this
     induction i using Nat.strongRecOn with
     | _ i ihi=>
      by_cases f:∀ j,j<i->listed.getD j false=true;exact ⟨i,hi,u,f⟩
      ·simp only [Classical.not_forall] at f;obtain ⟨j,L,bl⟩:=f;exact ihi j L (by omega) (by simpa using bl)
    obtain ⟨i,hi,u,f⟩:=bk;have A:i<l.length:=(by have:=ok.len;omega);have:i∈Region.ready .any l.toArray listed:=mem_ready.2 ⟨by simp [d.lsize,A] at u ⊢;exact u,l[i],by simp [A],fun e g aj=>f _ (ok.edges i _ (qb A) e g aj)⟩;intro h0;rw [h0] at this;cases this
   refine ⟨fun h0=>absurd h0 av,fun i hi=>?_⟩;obtain ⟨h0,o,ho,f⟩:=mem_ready.1 hi;have V:l[i]?=some o:=(by simpa using ho);have A:i<l.length:=(qj.1 V).1;have ak:=kag2 h0;have O:∀ j,anc l i j=true->listed.getD j false=true:=fun j L=>
    kob (l:=l) (S:=fun j=>listed.getD j false=true) (fun m p hm hp e g u=>d.closed m p hm hp e g u) i o V f j L
   have D:∀ j,listed.getD j false=true->anc l j i=true->False:=fun j L ha=>(by have G:j<l.length:=(by have:=gD_lt L;rw [d.lsize] at this;exact this);have:=kob (l:=l) (S:=fun j=>listed.getD j false=true) (fun m p hm hp e g u=>d.closed m p hm hp e g u) j l[j] (qb G) (fun e g u=>d.closed j _ L (qb G) e g u) i ha;rw [ak] at this;cases this);have C:i<n:=by
    rcases qba i n with h' | h';exact h'
    ·exfalso;apply z;intro j L;exact O j (tail0 i j A h' L)
   obtain ⟨kD,ψ,S,B,hk,hs,Y⟩:=d.inv;have aw:dstT l i=o.dst:=(by unfold dstT;rw [V];rfl);have aa:∀ k,(listed.setIfInBounds i true).getD k false=true->k=i\/listed.getD k false=true:=fun k hk=>by
    by_cases a8:i=k;exact .inl a8.symm
    ·rw [getD_set_ne false a8] at hk;exact .inr hk
   have ab:(listed.setIfInBounds i true).getD i false=true:=(by simp [d.lsize,A]);have a9:∀ t,o.dst=some t->t<st.n:=fun t ht=>ok.dst i o t C V ht
   -- the bm agree with the text's,for what the view bn
   have al:(∀ e,e∈es->(e<i↔e<kD))->H i=H kD:=fun ba=>by
    rcases Nat.le_total i kD with ax | ax
    ·exact k53 (es:=es) (n:=n) ah ax B fun e g h=>by have:=ba e g;omega
    ·exact (k53 (es:=es) (n:=n) ah ax (by omega) fun e g h=>by have:=ba e g;omega).symm
   have x:phB l es i=true->H i=H kD:=fun hp=>al fun e g=>by
    obtain ⟨h1,N⟩:=a5 i hp e g;have y:=hk e g;constructor;intro r;exact y.1 (O e (h1 r))
    ·intro r;rcases Nat.lt_trichotomy e i with h | h | h;exact h;subst h;rw [y.2 r] at ak;cases ak
     ·exact (D e (y.2 r) (N h)).elim
   -- the slots of the view
   have ac:∀ (K:Nat->Prop),(∀ id,id∈(H kD).2->K id)->∀ t,RV ψ K S w (a.tmps.getD t undef) (look .any (hadd (fsOf l c i) (ki6 o) (klb l i n++st.tmps)) t):=fun K hK t=>by
    have ht:RV ψ (·∈(H kD).2) S w (a.tmps.getD t undef) (look .any (kl5 (fsOf l c n) (fun j=>listed.getD j false) st.tmps) t):=hs.tmps t;have uniq:∀ {j j':Nat},j<n->j'<n->dstT l j=some t->dstT l j'=some t->j=j':=fun {j j'} h1 N y Z=>(by unfold dstT at y Z;simp only [qg] at y Z;obtain ⟨o1,p1,p2⟩:=y;obtain ⟨o2,q1,q2⟩:=Z;exact ok.uniq j j' o1 o2 t h1 N p1 q1 p2 q2);rcases kvb (l:=l) (c:=c) (p:=ki6 o) (base:=klb l i n++st.tmps) (t:=t) i with h | ⟨j,h1,N,y,Z⟩ | ⟨h1,N⟩;rw [h];exact .any
    ·rw [Z];have G:listed.getD j false=true:=(by obtain ⟨e,g,bo,u⟩:=afterB_iff.1 N;rw [<- bo];exact f e g u);rcases khf (l:=l) (c:=c) (p:=fun j=>listed.getD j false) (base:=st.tmps) (t:=t) n with ⟨j',e1,e2,e3,e4⟩ | ⟨e1,e2⟩;rw [e4,uniq e1 (by omega) e3 y] at ht;exact ht.mono hK fun _ h=>h
     ·exact absurd y (e1 j (by omega) G)
    ·rw [N];rcases ky7 (l:=l) (i:=i) (base:=st.tmps) (t:=t) n with h | ⟨k1,k2⟩;rw [h];exact .any
     ·rw [k2];rcases khf (l:=l) (c:=c) (p:=fun j=>listed.getD j false) (base:=st.tmps) (t:=t) n with ⟨j',e1,e2,e3,e4⟩ | ⟨e1,e2⟩
      ·exfalso;rcases k1 j' e1 e3 with h | h
       ·rcases qba j' i with h' | h';exact h1 j' h' e3
        ·obtain rfl:j'=i:=(by omega);rw [ak] at e2;cases e2
       ·exact D j' e2 h
      ·rw [e2] at ht;exact ht.mono hK fun _ h=>h
   have fact:=M i o C V
   -- what a value in the slot leaves
   have next:∀ (kD':Nat) (ψ':Env) (S':Nat->Prop) (v:Value) (w':World),kD'<=n->(∀ e,e∈es->((listed.setIfInBounds i true).getD e false=true↔e<kD'))->Fr F w w'->HistI (H kD).2 (H kD').2 ψ ψ' S S' w w' ->
     Core F S0 N0 (H kD').1 (H kD').2 ψ' S' w'->RV ψ' (·∈(H kD').2) S' w' v (c i)->(∀ t,RV ψ' (·∈(H kD').2) S' w' (a.tmps.getD t undef) ((stZ l n st c H listed kD).get t)) ->
     kq9 P .any l.toArray R fuel (listed.setIfInBounds i true) (a.put o.dst v) w':=fun kD' ψ' S' v w' q1 q2 q4 q8 q5 q6 q7=>by
    refine ih _ _ _ ⟨⟨kD',ψ',S',q1,q2,?_,Y.trans q8⟩,d.fr.trans q4,by simp [d.lsize],?_⟩ (fun k hk=>(aa k hk).elim (fun e=>by omega) (hh k)) ?_
    ·refine ⟨by rw [k8a];exact hs.defers,by rw [kz0];exact hs.size,fun t=>?_,q5⟩;rw [ko9 _ _ _ hs.size a9];have q7:=q7 t;show RV ψ' _ S' w' _ (look .any (kl5 (fsOf l c n) (fun j=>(listed.setIfInBounds i true).getD j false) st.tmps) t);have q7:RV ψ' (·∈(H kD').2) S' w' (a.tmps.getD t undef) (look .any (kl5 (fsOf l c n) (fun j=>listed.getD j false) st.tmps) t):=q7;have uniq:∀ {j j':Nat},j<n->j'<n->dstT l j=some t->dstT l j'=some t->j=j':=fun {j j'} h1 N y Z=>(by unfold dstT at y Z;simp only [qg] at y Z;obtain ⟨o1,p1,p2⟩:=y;obtain ⟨o2,p3,p4⟩:=Z;exact ok.uniq j j' o1 o2 t h1 N p1 p3 p2 p4);rcases khf (l:=l) (c:=c) (p:=fun j=>(listed.setIfInBounds i true).getD j false) (base:=st.tmps) (t:=t) n with ⟨j,e1,e2,e3,e4⟩ | ⟨e1,e2⟩
     ·rw [e4];by_cases ay:j=i;subst ay;rw [aw] at e3;rw [qs e3];exact q6
      ·have G:=(aa j e2).resolve_left ay;rw [ql (fun h=>ay (uniq e1 C e3 (by rw [aw];exact h)))];rcases khf (l:=l) (c:=c) (p:=fun j=>listed.getD j false) (base:=st.tmps) (t:=t) n with ⟨j',f1,f2,f3,f4⟩ | ⟨f1,f2⟩;rw [f4,uniq f1 e1 f3 e3] at q7;exact q7
       ·exact absurd e3 (f1 j e1 G)
     ·rw [e2,ql (fun h=>e1 i C ab (by rw [aw];exact h))];rcases khf (l:=l) (c:=c) (p:=fun j=>listed.getD j false) (base:=st.tmps) (t:=t) n with ⟨j',f1,f2,f3,f4⟩ | ⟨f1,f2⟩;exact absurd f3 (e1 j' f1 (getD_set_true f2))
      ·rw [f2] at q7;exact q7
    ·intro k p hk hp e g aj;rcases aa k hk with rfl | bp;rw [V] at hp;obtain rfl:=qt hp;exact getD_set_true (f e g aj)
     ·exact getD_set_true (d.closed k p bp hp e g aj)
    ·have:=k27 l.length A h0 (by rw [d.lsize];exact A);omega
   have ad:∀ e,e∈es->i∉es->((listed.setIfInBounds i true).getD e false=true↔e<kD):=fun e g bq=>(by have av:i≠e:=fun h=>bq (h ▸ g);rw [getD_set_ne false av];exact hk e g);unfold wpOp;simp only [ho];rcases fact with ⟨Q,am,hN,ao⟩ | ⟨Q,br,bs⟩
   ·-- one that changes nothing
    have aq:∀ id,id∈(H kD).2->id∈(kex l n es (chi i) ai st i o (fsOf l c i) (H i).1 (H i).2).ids:=fun id=>by
     show _->id∈(bif phB l es i then (H i).2 else ai);cases hp:phB l es i with
     | true=>simp only [qe];rw [x hp];exact fun h=>h
     | false=>simp only [qd];exact (I (fun h=>by rw [h i C] at hp;cases hp) kD B).1 id
    have az:∀ {v:Value} {S':Nat->Prop} {w':World},RV ψ (·∈(kex l n es (chi i) ai st i o (fsOf l c i) (H i).1 (H i).2).ids) S' w' v (c i)->RV ψ (·∈(H kD).2) S' w' v (c i):=fun {v S' w'} hv=>by
     cases hp:phB l es i with
     | true=>
      have g:(kex l n es (chi i) ai st i o (fsOf l c i) (H i).1 (H i).2).ids=(H kD).2:=(by show (bif phB l es i then (H i).2 else ai)=_;rw [hp,qe,x hp]);rw [g] at hv;exact hv
     | false=>
      rw [hp,Bool.false_or] at ao;exact (hv.subA ao).mono (I (fun h=>by rw [h i C] at hp;cases hp) kD B).2 fun _ h=>h
    have a1:∀ t,RV ψ (·∈(kex l n es (chi i) ai st i o (fsOf l c i) (H i).1 (H i).2).ids) S w (a.tmps.getD t undef) ((kex l n es (chi i) ai st i o (fsOf l c i) (H i).1 (H i).2).get t):=ac _ aq;have bt:∀ id ob,kaa (kex l n es (chi i) ai st i o (fsOf l c i) (H i).1 (H i).2).heap id=some ob->ObR ψ (·∈(kex l n es (chi i) ai st i o (fsOf l c i) (H i).1 (H i).2).ids) S w id ob:=fun id ob J=>by
     have bb:kaa (H kD).1 id=some ob:=by
      have J:kaa (bif phB l es i then (H i).1 else kpw (chi i) st.heap) id=some ob:=J;cases hp:phB l es i with
      | true=>rw [hp] at J;simp only [qe] at J;rw [x hp] at J;exact J
      | false=>
       rw [hp] at J;obtain ⟨g1,g2⟩:=kw7 J;exact U (fun h=>by rw [h i C] at hp;cases hp) i C kD B (fun j L bu=>by
        cases ha:anc l j i with
        | false=>rfl
        | true=>exact (D j ((hk j bu).2 L) ha).elim) id g1 ob g2
     obtain ⟨g1,g2,g3⟩:=hs.core.obj id ob bb;exact g2.keep Ext.refl aq (fun _ h=>h) (fun _ _ _=>rfl) ⟨rfl,rfl⟩ (fun _ _=>rfl)
    rcases hN with ⟨hg,hN⟩ | ⟨hg,hN⟩
    ·have hw:=k17 (kex l n es (chi i) ai st i o (fsOf l c i) (H i).1 (H i).2) a1 hg;rw [qs hw];refine (kmy ?_ (hN ψ S a w a1 bt));rintro v w' ⟨g1,g2⟩;refine next kD ψ (fun b=>(S b\/w.heap.size<=b)/\b<w'.heap.size) v w' B (fun e g=>ad e g Q) (Fr.of_grow hs.core.fr g1) ⟨Ext.refl,fun _ h=>h,fun b u=>⟨.inl u,qbe (hs.core.lt b u) g1.size⟩,Same.of_grow g1⟩ (hs.core.grow g1) ?_ fun t=>?_;exact (az g2).bound.mono (fun _ h=>h) fun _ h=>h
     ·exact (hs.tmps t).keep Ext.refl (fun _ h=>h) (fun b u=>⟨.inl u,qbe (hs.core.lt b u) g1.size⟩) (Same.of_grow g1)
    ·have hw:=k17 (kex l n es (chi i) ai st i o (fsOf l c i) (H i).1 (H i).2) a1 hg;rw [ql (by rw [hw];exact Bool.false_ne_true)];exact next kD ψ S undef w B (fun e g=>ad e g Q) Fr.refl HistI.refl hs.core (by rw [hN];exact .fz RF.undef) fun t=>hs.tmps t
   ·-- one of the chain
    have hp:=(ag i Q).2;have ae:=x hp;have a2:Sim F S0 N0 (kex l n es (chi i) ai st i o (fsOf l c i) (H i).1 (H i).2) ψ S a w:=by
     refine ⟨hs.defers,hs.size,fun t=>?_,?_⟩;show RV ψ (·∈(bif phB l es i then (H i).2 else ai)) S w _ _;rw [hp];simp only [qe];rw [ae];have:=ac (·∈(H kD).2) (fun _ h=>h) t;rw [<- ae] at this ⊢;exact this
     ·show Core F S0 N0 (bif phB l es i then (H i).1 else kpw (chi i) st.heap) (bif phB l es i then (H i).2 else ai) ψ S w;rw [hp];simp only [qe];rw [ae];exact hs.core
    have bv:(kex l n es (chi i) ai st i o (fsOf l c i) (H i).1 (H i).2).ids=(H kD).2:=(by show (bif phB l es i then (H i).2 else ai)=_;rw [hp,qe,ae]);have af:∀ e,e∈es->((listed.setIfInBounds i true).getD e false=true↔e<i+1):=fun e g=>by
     have y:=hk e g;obtain ⟨h1,N⟩:=a5 i hp e g;by_cases bc:i=e;subst bc;rw [ab];simp
     ·rw [getD_set_ne false bc,y];constructor
      ·intro r;rcases qba e i with h | h;omega
       ·exact (D e (y.2 r) (N (by omega))).elim
      ·intro r;exact y.1 (O e (h1 (by omega)))
    rcases br with ⟨hg,a3⟩ | ⟨hg,bw,hh,bx⟩;have hw:=kfx a2 hg;rw [qs hw];refine (kmy ?_ (a3 F S0 N0 ψ S a w a2));rintro v w' ⟨ψ',S',g1,g2,g3,g4,g5,g6,g7⟩;rw [bv] at g4 g5;exact next (i+1) ψ' S' v w' (by omega) af g3 ⟨g4,g5,g6,g7⟩ g1 g2 fun t=>(hs.tmps t).keep g4 g5 g6 g7
    ·have hw:=kfx a2 hg;rw [ql (by rw [hw];exact Bool.false_ne_true)];have am:H (i+1)=H kD:=(by rw [<- ae];exact Prod.ext hh bx);refine next (i+1) ψ S undef w (by omega) af Fr.refl ⟨Ext.refl,fun j h=>by rw [am];exact h,fun _ h=>h,fun _ _ _=>rfl⟩ ?_ ?_ fun t=>?_;rw [am];exact hs.core;rw [bw];exact .fz RF.undef
     ·rw [am];exact hs.tmps t
theorem k5h [Rd] (hm:P.follows .mixedOrders=true) {id:Nat} {l:List Oper} (c:Nat->AV) (H:Nat->List (Nat×AObj)×List Nat) (chi chs:Nat->List Nat) (r:relB l n st.n=true) (g:ksb l n es=true) (h:st.ids.all ai.contains=true) (m:H 0=(st.heap,st.ids)) (p:∀ j i,j∈es->i<n->anc l j i=false->∀ id,id∈chs j->id∈chi i) (b:∀ i o,i<n->l[i]?=some o->kagm P l n es chi chs ai st c H i o) {F S0:Nat->Prop} {N0:Nat} {ψ0:Env} {Sa:Nat->Prop} {a0:Act} {w0:World} (d:Sim F S0 N0 st ψ0 Sa a0 w0) (R:Exit->Act->World->Prop) (e:∀ ψ S a w,Sim F S0 N0 { st with tmps:=hadd (fsOf l c n) (fun _=>true) st.tmps,heap:=(H n).1,ids:=(H n).2 } ψ S a w->Fr F w0 w->HistI st.ids (H n).2 ψ0 ψ Sa S w0 w->kbt P l.toArray R (l.drop n) a w):Cwp P (Code.region id l.toArray true) R a0 w0:=
 have ok:=k89 r
 k3e hm _ _ ⟨ok.sel,ok.len,ok.edges,ok.dst,ok.uniq,ok.looks⟩ (fun k j h1 f q=>ok.tail k j h1 f (qbe q f)) (kbt P l.toArray R (l.drop n)) g h m p b d R e fun fuel listed a w h1 f q s=>k98 ok fuel n listed a w (qw _) ok.len h1 f q s
theorem kahh [Rd] (hm:P.follows .mixedOrders=true) {id:Nat} {l:List Oper} (t:relB l n st.n=true) (g:ksb l n es=true) (j:st.ids.all ai.contains=true)
  (h:krl P l.toArray n es ch ai Q st n 0 l [] st.heap st.ids none):awp P (.region id l.toArray true) st Q:=by
 obtain ⟨c,H,pn,_,m,_,p,b,f⟩:=koa (os:=l.toArray) (rest:=[]) n 0 l (fun _ => .any) (fun _=>(st.heap,st.ids)) none (by simp) (by omega) (fun e h=>by cases h) h;simp only [List.toList_toArray] at b f;have u:=(k89 t).len;have q:pn=none:=by
  cases pn with
  | none=>rfl
  | some e=>
   exfalso;rcases p e rfl with h | ⟨_,r,v⟩;cases h
   ·have s:e<l.length:=(by omega);rcases b e l[e] (qaj _) r (qb s) with ⟨_,e',d,y,_⟩ | ⟨d,_⟩ | ⟨_,d,_⟩ | ⟨_,_,_,d⟩;injection d with d;omega;exact d v;have:=d e rfl;omega
    ·exact d
 subst q;intro F S0 N0 ψ S a w hs;refine k5h (l:=l) (id:=id) hm c H (fun _=>ch) (fun _=>ch) t g j (m 0 (qw _)) (fun _ _ _ _ _ _ h=>h) (fun i o hi x=>?_) hs _ fun ψ S a w g1 g2 _=>ke4 (fun e a' w' k=>k.pre g2) _ _ _ (f rfl F S0 N0 ψ S a w g1);rcases b i o (qaj _) hi x with ⟨_,e',d,_⟩ | d | ⟨h1,_,r⟩ | ⟨_,_,_,d⟩;cases d;exact .inl d;exact .inr ⟨h1,r⟩
 ·exact d.elim
end Go.Proofs.YtgebfaidgikieaaGreatDoor
set_option linter.all false
set_option linter.unusedSectionVars false
namespace Go.Proofs.YtgebfaidgikieaaGreatDoor
open Go Go.RowKit
variable [Dr]
def kyk (l:List Oper) (n:Nat) (ai:List Nat) (st:St) (i:Nat) (o:Oper) (fs:List (Nat×Option Nat×AV)):St:=
 { st with tmps:=hadd fs (ki6 o) (klb l i n++st.tmps),ids:=ai }
def kagt (P:Program) (v:St) (o:Oper) (c:AV) (id:Nat) (ob:AObj):Prop:=∀ (a:List (Nat×AObj)) (ids':List Nat),ids'.contains id=false->StepA P o { v with heap:=a,ids:=ids' } c ((id,ob)::a) (id::ids')
def kags (P:Program) (v:St) (o:Oper) (c:AV) (id:Nat) (ob:AObj):Prop:=∀ (a:List (Nat×AObj)) (ids':List Nat),kaa a id=kaa v.heap id->StepA P o { v with heap:=a,ids:=ids' } c ((id,ob)::a) ids'
def befB (l:List Oper) (i id:Nat) (es:List (Nat×Nat)):Bool:=es.all fun e=>!(e.2 == id) || anc l i e.1
def idsB (l:List Oper) (i:Nat) (nid:List Nat) (es:List (Nat×Nat)) (ids:List Nat):List Nat:=nid.filter (fun id=>befB l i id es)++ids
def k0w [Rd] (P:Program) (os:Array Oper) (n:Nat) (ai:List Nat) (Q:Exit->St->Prop) (st:St):Nat->Nat->List Oper->List (Nat×Option Nat×AV)->List (Nat×AObj)->List Nat->List (Nat×Nat)->Prop
 | 0,_,l,fs,hp,nid,_=>awpL P os l { st with tmps:=hadd fs (fun _=>true) st.tmps,heap:=hp++st.heap,ids:=nid++st.ids } Q
 | k+1,i,o::l,fs,hp,nid,es=>
  (∃ c,kxz P os (kyk os.toList n ai st i o fs) o c/\okA (idsB os.toList i nid es st.ids) c=true/\k0w P os n ai Q st k (i+1) l ((i,o.dst,c)::fs) hp nid es) \/
  (∃ c id ob,kb7 os (kyk os.toList n ai st i o fs) o=some true/\kagt P (kyk os.toList n ai st i o fs) o c id ob/\(st.ids.contains id || (st.heap.any fun q=>q.1 == id) || (es.any fun q=>q.2 == id) || !ai.contains id)=false/\k0w P os n ai Q st k (i+1) l ((i,o.dst,c)::fs) ((id,ob)::hp) (id::nid) ((i,id)::es)) \/
  (∃ c id ob,kb7 os (kyk os.toList n ai st i o fs) o=some true/\kags P { kyk os.toList n ai st i o fs with heap:=hp++st.heap } o c id ob/\(st.heap.any fun q=>q.1 == id)=false/\befB os.toList i id es=true/\k0w P os n ai Q st k (i+1) l ((i,o.dst,c)::fs) ((id,ob)::hp) nid ((i,id)::es))
 | _+1,_,[],_,_,_,_=>False
variable {P:Program} {F S0:Nat->Prop} {N0:Nat} {w w':World} {S S':Nat->Prop} {ψ ψ':Env} {Q:Exit->St->Prop} {st:St} {os:Array Oper} {n:Nat} {ai:List Nat}
end Go.Proofs.YtgebfaidgikieaaGreatDoor
set_option linter.all false
namespace Go.Proofs.YtgebfaidgikieaaGreatDoor
open Go Go.RowKit
def objH (H:Nat->Option AObj) (id:Nat):Option (Nat×List AV):=match H id with
 | some (.box _ cells)=>some (0,cells)
 | some (.xo (.blk g _ _ cells))=>some (g,cells)
 | _=>none
abbrev objC (st:St) (id:Nat):Option (Nat×List AV):=objH (kaa st.heap) id
def putC (st:St) (id:Nat) (cells:List AV):List (Nat×AObj):=match kaa st.heap id with
 | some (.box e _)=>(id, .box e cells)::st.heap
 | some (.xo (.blk g e sz _))=>(id, .xo (.blk g e sz cells))::st.heap
 | _=>st.heap
def k1v (H:Nat->Option AObj):AV->Option (List AV)
 | .fz (.fp cs)=>some (cs.map .fz)
 | .ref id n off=>match objH H id with
  | some (g,cells)=>bif Nat.beq n g then some (cells.drop off) else none
  | none=>none
 | _=>none
abbrev k58 (st:St):AV->Option (List AV):=k1v (kaa st.heap)
def kwp (H:Nat->Option AObj) (off:Nat) (x:AV):Option AV:=match x with
 | .fz (.fp cs)=>match cs.drop off with
  | []=>none
  | y::ys=>some (.fz (.fp (y::ys)))
 | .ref id n o=>match objH H id with
  | some (g,_)=>bif Nat.beq n g then some (.ref id n (o+off)) else none
  | none=>none
 | _=>none
abbrev kxq (st:St) (off:Nat) (x:AV):Option AV:=kwp (kaa st.heap) off x
def kvj:List FV->List AV
 | []=>[]
 | x::l=>x.cells.map .fz++kvj l
def rdH (H:Nat->Option AObj) (sz:Nat):AV->Option (Nat×Option Nat×List AV)
 | .fz (.lst size n xs)=>bif Nat.beq size sz && Nat.beq n xs.length then some (n,none,kvj xs) else none
 | .lim size n xs=>bif Nat.beq size sz && Nat.beq n xs.length then some (n,some n,kvj xs) else none
 | .fz (.atom (.slice none 0 0))=>some (0,some 0,[])
 | .bsl id g off len cap=>match objH H id with
  | some (g',cells)=>bif Nat.beq g g' && Nat.ble (off+len*sz) cells.length then some (len,cap,(cells.drop off).take (len*sz)) else none
  | none=>none
 | _=>none
abbrev rdSl (sz:Nat) (st:St):AV->Option (Nat×Option Nat×List AV):=rdH (kaa st.heap) sz
section
variable {P:Program} {F S0:Nat->Prop} {N0:Nat} {w w':World} {S S':Nat->Prop} {ψ ψ':Env} {K:Nat->Prop} {T:List (TypeId×TD)} {o:Oper} {a:Act} {st:St} {t:TypeId} {d:TD} {id:Nat}
theorem kh3 {g:Nat} {cells:List AV} (f:∀ id o,kaa st.heap id=some o->ObR ψ (·∈st.ids) S w id o) (h:objC st id=some (g,cells)):
  ψ.len id=g/\∃ b cs e,kay (ψ.val id)=some b/\w.heap[b]?=some (.cells cs e (0,0))/\cells.length<=cs.size/\(∀ x∈cells,x.single=true)/\∀ (i:Nat) (v:Value) (x:AV),cs[i]?=some v->cells[i]?=some x->RV ψ (·∈st.ids) S w v x:=by
 unfold objC objH at h;split at h;rename_i e cells' a;simp only [qc,qq] at h;obtain ⟨rfl,rfl⟩:=h;obtain ⟨h0,b,cs,h1,c,k,j,d⟩:=f id _ a;exact ⟨h0,b,cs,e,by rw [h1];rfl,c,by omega,j,d⟩;rename_i g' e sz cells' a;simp only [qc,qq] at h;obtain ⟨rfl,rfl⟩:=h;obtain ⟨h0,p,b,cs,n,cap,h1,c,k,j,d,l,m⟩:=f id _ a;exact ⟨h0,b,cs,e,by rw [h1];rfl,c,d,l,m⟩
 ·cases h
theorem kye {b k:Nat} {cs:Array Value} {e:TypeId} {u:Value} (h:w.heap[b]?=some (.cells cs e (0,0))) (a:cs[k]?=some u):w.cell? ⟨b,k,none⟩=some u:=by simp only [World.cell?,h];simpa using a
theorem k3i {v:Value} {x:AV} {xs:List AV} (hv:RV ψ (·∈st.ids) S w v x) (f:∀ id o,kaa st.heap id=some o->ObR ψ (·∈st.ids) S w id o) (h:k58 st x=some xs):
  ∃ b o,v = .pointer (some ⟨b,o,none⟩)/\kaab ψ (·∈st.ids) S w b o xs:=by
 unfold k58 k1v at h;split at h;rename_i cs;exact kvd hv f h
 ·rename_i id n off;split at h
  ·rename_i g cells k;cases hn:Nat.beq n g with
   | false=>rw [hn] at h;cases h
   | true=>
    rw [hn] at h;simp only [qe,qc] at h;subst h;obtain rfl:=qi hn;obtain ⟨h0,b,cs,e,h1,l,s,m,p⟩:=kh3 f k;cases hv with
    | ref hK q r d=>
     obtain ⟨b',a,rfl⟩:=d h0.symm;rw [h1] at a;simp only [qc] at a;subst a;refine ⟨b,off,rfl,(cs.toList.take cells.length).drop off,fun j u c=>?_,by simp;omega,fun x hx=>m x (qbf hx),fun i v x hv hx=>?_⟩
     ·rw [qag,q9] at c;split at c;exact kye l (by simpa using c)
      ·cases c
     ·rw [qag,q9] at hv;rw [qag] at hx;split at hv;exact p _ v x (by simpa using hv) hx
      ·cases hv
  ·cases h
 ·cases h
theorem k18 {b off:Nat} {xs:List AV} {c:AV} (hd:TdOk P t d) (hx:kaab ψ K S w b off xs) (hc:knd d xs=some c):∃ u,(loadVar t ⟨b,off,none⟩).run P w = .ok u w/\RV ψ K S w u c:=by
 obtain ⟨cs,g,hl,h1,hr⟩:=hx;unfold knd at hc;cases hk:d.kind.agg with
 | false=>
  rw [hk] at hc;simp only [qd] at hc;cases xs with
  | nil=>cases hc
  | cons y ys=>
   simp only [List.head?_cons,qc] at hc;subst hc;have h:cs[0]?=some (cs[0]'(by simp at hl;omega)):=qb _;have e:w.cell? ⟨b,off,none⟩=some (cs[0]'(by simp at hl;omega)):=(by simpa using g 0 _ h);exact ⟨cs[0]'(by simp at hl;omega),by simp [loadVar,hd.isAgg,hk,e],hr 0 _ y h rfl⟩
 | true=>
  rw [hk] at hc;simp only [qe] at hc;cases f:Nat.ble d.size xs.length with
  | false=>rw [f] at hc;cases hc
  | true=>
   rw [f] at hc;simp only [qe,qc] at hc;subst hc;have m:=qn f;have k:(cs.take d.size).length=d.size:=(by rw [qap];omega);have a:=run_loadCells_list (P:=P) w ⟨b,off,none⟩ (cs.take d.size) fun j v l=>by
    rw [q9] at l;split at l;rw [kck];exact g j v l
    ·cases l
   rw [k] at a;refine ⟨.agg (cs.take d.size).toArray,by simp [loadVar,hd.isAgg,hk,hd.size,a],RV.aggA (by simp [hl]) (fun x hx=>h1 x (qbi hx)) fun i v x hv hx=>?_⟩;simp only [List.getElem?_toArray] at hv;rw [q9] at hv hx;split at hv;rename_i hi;rw [qs hi] at hx;exact hr i v x hv hx
   ·cases hv
theorem kag0 {x:Operand} {xs:List AV} {c:AV} (e:o.op = .load t x) (hd:TdOk P t d) (hx:k58 st (st.eval x)=some xs) (hc:knd d xs=some c):NStep P o st c:=by intro ψ S a w ht f;obtain ⟨b,off,hv,hcl⟩:=k3i (Sim.eval_tmps ht x) f hx;obtain ⟨u,h1,g⟩:=k18 (P:=P) hd hcl hc;refine kad w u ?_ ⟨kaf _,g.here⟩;simp [execOp,e,hv,Instr.loadAt,Instr.sureAddr,h1]
theorem kwn {off:Nat} {v:Value} {x c:AV} (hv:RV ψ (·∈st.ids) S w v x) (i:∀ id o,kaa st.heap id=some o->ObR ψ (·∈st.ids) S w id o) (h:kxq st off x=some c):
  ∃ b o,v = .pointer (some ⟨b,o,none⟩)/\RV ψ (·∈st.ids) S w (.pointer (some ⟨b,o+off,none⟩)) c:=by
 unfold kxq kwp at h;split at h;exact ks5 (off:=off) hv i h
 ·rename_i id n off';split at h
  ·rename_i g cells j;cases hn:Nat.beq n g with
   | false=>rw [hn] at h;cases h
   | true=>
    rw [hn] at h;simp only [qe,qc] at h;subst h;obtain rfl:=qi hn;obtain ⟨h0,b,cs,e,h1,_⟩:=kh3 i j;cases hv with
    | ref hK a k d=>
     obtain ⟨b',f,rfl⟩:=d h0.symm;exact ⟨b',off',rfl, .ref hK a rfl fun _=>⟨b',f,rfl⟩⟩
  ·cases h
 ·cases h
theorem kaen {s:TypeId} {x:Operand} {f:Nat} {fs:List (TypeId×Nat)} {ft:TypeId} {off:Nat} {df:TD} {c:AV} (l:o.op = .fieldAddr s x f) (hd:TdOk P s d) (hk:d.kind = .st fs) (k:fs[f]?=some (ft,off)) (h:TdOk P ft df) (m:df.size≠0)
  (hc:kxq st off (st.eval x)=some c):NStep P o st c:=by
 intro ψ S a w ht n;obtain ⟨b,off',hv,hr⟩:=kwn (Sim.eval_tmps ht x) n hc;obtain ⟨gs,p,i⟩:=hd.strct hk;have e:∃ g:Field,gs[f]?=some g/\g.type=ft/\g.offset=off:=by rw [<- i,qr,qm] at k;obtain ⟨g,e,j⟩:=k;simp only [qq] at j;exact ⟨g,by simpa using e,j.1,j.2⟩
 obtain ⟨g,e,rfl,rfl⟩:=e;refine kad w _ ?_ ⟨kaf _,hr.here⟩;simp [execOp,l,hv,Instr.fieldAt,p,e,Instr.sureAddr,fieldPlace,h.size,m,kck]
theorem kajt {x:Operand} {c:AV} (d:o.op = .nilCheck x) (hc:kxq st 0 (st.eval x)=some c):NStep P o st c:=by intro ψ S a w ht e;obtain ⟨b,off',hv,hr⟩:=kwn (Sim.eval_tmps ht x) e hc;refine kad w _ ?_ ⟨kaf _,hr.here⟩;simp [execOp,d,hv]
theorem kakg {x y:Operand} {n e:Nat} {de:TD} {k:IntKind} {i:Int} {c:AV} (j:o.op = .indexAddr t x y) (hd:TdOk P t d) (hk:d.kind = .arr n e) (g:TdOk P e de) (hy:st.eval y = .fz (.atom (.int k i))) (h0:0<=i) (hi:i<n)
  (hc:kxq st (i.toNat*de.size) (st.eval x)=some c):NStep P o st c:=by
 intro ψ S a w ht l;obtain ⟨b,off',hv,hr⟩:=kwn (Sim.eval_tmps ht x) l hc;have f:=Sim.eval_tmps ht y;rw [hy] at f;have h:=f.atom;refine kad w _ ?_ ⟨kaf _,hr.here⟩;simp [execOp,j,hv,h,Instr.indexAt,asIntOf,run_underlying (hd.arr hk),Instr.sureAddr,h0,hi,g.size,kck]
theorem kjx {v:Value} {g off len:Nat} {cap:Option Nat} (h:RV ψ K S w v (.bsl id g off len cap)) (a:ψ.len id=g):K id/\∃ b c,kay (ψ.val id)=some b/\v = .slice (some ⟨b,off,none⟩) len c/\len<=c/\c<=9223372036854775807/\CapR (ψ.val id) off c cap:=by
 cases h with
 | bsl hK hn h1 hv=>exact ⟨hK,hv a.symm⟩
theorem kajv {x y:Operand} {e:TypeId} {de:TD} {k:IntKind} {i:Int} {g off len:Nat} {cap:Option Nat} {cells:List AV} (j:o.op = .indexAddr t x y) (hd:TdOk P t d) (hk:d.kind = .slice e) (f:TdOk P e de) (hx:st.eval x = .bsl id g off len cap)
  (h:objC st id=some (g,cells)) (hy:st.eval y = .fz (.atom (.int k i))) (h0:0<=i) (hi:i<len):NStep P o st (.ref id g (off+i.toNat*de.size)):=by
 intro ψ S a w ht l;have h1:=Sim.eval_tmps ht y;rw [hy] at h1;have hv:=Sim.eval_tmps ht x;rw [hx] at hv;obtain ⟨m,_⟩:=kh3 l h;obtain ⟨hK,b,c,n,p,_⟩:=kjx hv m;refine kad w (.pointer (some ⟨b,off+i.toNat*de.size,none⟩)) ?_ ⟨kaf _, .ref hK (by omega) rfl fun _=>⟨b,n,rfl⟩⟩;simp [execOp,j,Instr.indexAt,h1.atom,asIntOf,run_underlying (hd.slice hk),p,h0,hi,f.size,kck]
def k7e (w:World) (n:Nat) (cs:List Value):Option Addr->Prop
 | none=>n=0/\cs=[]
 | some ad=>∀ (j:Nat) (u:Value),cs[j]?=some u->w.cell? (ad.add j)=some u
def CR (ψ:Env) (K S:Nat->Prop) (w:World) (cs:List Value) (xs:List AV):Prop:=
 cs.length=xs.length/\(∀ x∈xs,x.single=true)/\∀ (i:Nat) (v:Value) (x:AV),cs[i]?=some v->xs[i]?=some x->RV ψ K S w v x
theorem CR.nil:CR ψ K S w [] []:=⟨rfl,(fun x h=>by cases h),fun i v x h=>by simp at h⟩
theorem CR.append {cs ds:List Value} {xs ys:List AV} (h:CR ψ K S w cs xs) (k:CR ψ K S w ds ys):CR ψ K S w (cs++ds) (xs++ys):=by
 obtain ⟨h1,a,b⟩:=h;obtain ⟨k1,k2,k3⟩:=k;refine ⟨by simp [h1,k1],fun x hx=>(qa7.1 hx).elim (a x) (k2 x),fun i v x hv hx=>?_⟩;by_cases hi:i<cs.length;rw [qah hi] at hv;rw [qah (by omega)] at hx;exact b i v x hv hx
 ·rw [qao (by omega)] at hv hx;rw [h1] at hv;exact k3 _ v x hv hx
theorem CR.one {cs:List Value} {xs:List AV} (h:CR ψ K S w cs xs):∀ v∈cs,v.oneCell'=true:=fun v hv=>by
 obtain ⟨i,hi,rfl⟩:=qaf.1 hv;have hx:i<xs.length:=by rw [<- h.1];exact hi
 exact (h.2.2 i _ _ (qb hi) (qb hx)).one (h.2.1 _ (qv hx))
theorem CR.sub {cs:List Value} {xs:List AV} (h:CR ψ K S w cs xs) (i n:Nat):CR ψ K S w ((cs.drop i).take n) ((xs.drop i).take n):=by
 refine ⟨by simp [h.1],fun x hx=>h.2.1 x (qbf (qbi hx)),fun j v x hv hx=>?_⟩;rw [q9] at hv hx;split at hv;rename_i a;rw [qs a] at hx;rw [qag] at hv hx;exact h.2.2 _ v x hv hx
 ·cases hv
theorem CR.cells {v:Value} {x:AV} (h:RV ψ K S w v x) (h1:x.cells.all AV.single=true):CR ψ K S w v.cells.toList x.cells:=by have hs:∀ y∈x.cells,y.single=true:=qp.1 h1;obtain ⟨e1,e2,e3⟩:=RV.cells h hs;exact ⟨by simpa using e1,hs,fun i v x hv hx=>e2 i v x (by simpa using hv) hx⟩
theorem k6o {b size:Nat}:∀ (xs:List FV) (o:Nat),(∀ (i:Nat) (x:FV),xs[i]?=some x->∃ cs,At w b (o+i*size) cs/\cs.length=size/\x.cells.length=size/\(∀ y∈x.cells,y.single=true)/\∀ (j:Nat) (v:Value) (y:FV),cs[j]?=some v->x.cells[j]?=some y->RF S w v y) ->
  ∃ cs,At w b o cs/\CR ψ K S w cs (kvj xs)/\cs.length=xs.length*size
 | [],o,_=>⟨[],fun j u h=>by simp at h,CR.nil,by simp⟩
 | x::xs,o,h=>by
  obtain ⟨cs,h1,c,e,f,g⟩:=h 0 x rfl;obtain ⟨ds,k1,k2,k3⟩:=k6o xs (o+size) fun i y hy=>by
   have:=h (i+1) y (by simpa using hy)
   rwa [show o+(i+1)*size=o+size+i*size by rw [qa3];omega] at this
  refine ⟨cs++ds,fun j u a=>?_,CR.append ⟨by simp [c,e],fun y hy=>?_,fun j v y hv hy=>?_⟩ k2,by simp [c,k3,qa3];omega⟩
  ·by_cases k:j<size;rw [qah (by omega)] at a;have:=h1 j u a;simpa using this
   ·rw [qao (by omega),c] at a;have:=k1 _ u a
    rwa [show o+size+(j - size)=o+j by omega] at this
  obtain ⟨z,d,rfl⟩:=qaz.1 hy;exact f z d
  ·rw [qr,qm] at hy;obtain ⟨z,d,rfl⟩:=hy;exact .fz (g j v z hv d)
theorem k9m {A:Option Addr} {size n cap:Nat} {xs:List FV} (h:RF S w (.slice A n cap) (.lst size n xs)):n=xs.length/\n<=cap/\cap<=9223372036854775807/\∃ cs,CR ψ K S w cs (kvj xs)/\(kvj xs).length=n*size/\k7e w n cs A:=by
 obtain ⟨A0,cap0,css,hv,hn,hc,hm,hs,ha,hl,hr⟩:=h.lst_inv;injection hv with e1 _ e3;subst e1 e3 hn;refine ⟨rfl,hc,hm,?_⟩;cases xs with
 | nil=>
  refine ⟨[],CR.nil,by simp [kvj],?_⟩;cases A with
  | none=>exact ⟨rfl,rfl⟩
  | some ad=>exact fun j u h=>by simp at h
 | cons x xs=>
  obtain ⟨b,o,rfl,_,_⟩:=ha 0 x rfl;obtain ⟨cs,h1,c,d⟩:=k6o (ψ:=ψ) (K:=K) (S:=S) (w:=w) (b:=b) (size:=size) (x::xs) o fun i y hy=>by obtain ⟨b',o',hA,_,a⟩:=ha i y hy;injection hA with hA;injection hA with e1 e2;subst e1 e2;obtain ⟨l1,l2,l3⟩:=hl i y hy;exact ⟨css i,a,l1,l2,l3,fun j v z hv e=>hr i y j v z hy hv e⟩
  exact ⟨cs,c,by rw [<- c.1,d],fun j u f=>by rw [kck];exact h1 j u f⟩
theorem krm {sz n:Nat} {c:Option Nat} {v:Value} {x:AV} {ys:List AV} (hv:RV ψ (·∈st.ids) S w v x) (y:∀ id o,kaa st.heap id=some o->ObR ψ (·∈st.ids) S w id o) (h:rdSl sz st x=some (n,c,ys)):
  ∃ A cap,v = .slice A n cap/\n<=cap/\cap<=9223372036854775807/\(∀ k,c=some k->cap=k)/\∃ cs,CR ψ (·∈st.ids) S w cs ys/\ys.length=n*sz/\k7e w n cs A:=by
 unfold rdSl rdH at h;split at h
 ·rename_i size m xs;cases a:(Nat.beq size sz && Nat.beq m xs.length) with
  | false=>rw [a] at h;cases h
  | true=>
   rw [a] at h;simp only [qe,qc,qq] at h;obtain ⟨rfl,rfl,rfl⟩:=h;simp only [qo] at a;obtain rfl:=qi a.1;have hv:=hv.inv;obtain ⟨A,cap,css,rfl,_⟩:=hv.lst_inv;obtain ⟨_,p,q,r⟩:=k9m (ψ:=ψ) (K:=(·∈st.ids)) hv;exact ⟨A,cap,rfl,p,q,(fun k hk=>by cases hk),r⟩
 ·rename_i size m xs;cases a:(Nat.beq size sz && Nat.beq m xs.length) with
  | false=>rw [a] at h;cases h
  | true=>
   rw [a] at h;simp only [qe,qc,qq] at h;obtain ⟨rfl,rfl,rfl⟩:=h;simp only [qo] at a;obtain rfl:=qi a.1;cases hv with
   | lim hv=>
    obtain ⟨_,p,q,r⟩:=k9m (ψ:=ψ) (K:=(·∈st.ids)) hv;exact ⟨_,_,rfl,p,q,(fun k hk=>by injection hk),r⟩
 simp only [qc,qq] at h;obtain ⟨rfl,rfl,rfl⟩:=h;rw [hv.atom];exact ⟨none,0,rfl,qw _,by omega,(fun k hk=>by injection hk),[],CR.nil,by simp,rfl,rfl⟩
 ·rename_i id g off len cap;split at h
  ·rename_i g' cells z;cases a:(Nat.beq g g' && Nat.ble (off+len*sz) cells.length) with
   | false=>rw [a] at h;cases h
   | true=>
    rw [a] at h;simp only [qe,qc,qq] at h;obtain ⟨rfl,rfl,rfl⟩:=h;simp only [qo] at a;obtain rfl:=qi a.1;have B:=qn a.2;obtain ⟨C,b,cs,e,q1,q2,q3,q4,q5⟩:=kh3 y z;obtain ⟨hK,b',c',f,rfl,s,hm,d⟩:=kjx hv C;rw [q1] at f;simp only [qc] at f;subst f;have t:CR ψ (·∈st.ids) S w (cs.toList.take cells.length) cells:=⟨by simp;omega,q4,fun i v x hv hx=>by
     rw [q9] at hv;split at hv;exact q5 i v x (by simpa using hv) hx
     ·cases hv⟩
    refine ⟨some ⟨b,off,none⟩,c',rfl,s,hm,(fun k hk=>by rw [hk] at d;exact d),_,t.sub off (len*sz),by simp;omega,fun j u l=>?_⟩;rw [kck];rw [q9] at l;split at l
    ·rw [qag,q9] at l;split at l;exact kye q2 (by simpa using l)
     ·cases l
    ·cases l
  ·cases h
 ·cases h
theorem k0b:ψ.set id (ψ.len id) (ψ.val id)=ψ:=by
 unfold Env.set;congr 1
 ·funext i;split;rename_i h;rw [h]
  ·rfl
 ·funext i;split;rename_i h;rw [h]
  ·rfl
theorem setC {g b:Nat} {cells:List AV} (cells':List AV) {cs new:Array Value} {e:TypeId} (a:Core F S0 N0 st.heap st.ids ψ S w) (h:objC st id=some (g,cells)) (d:kay (ψ.val id)=some b) (f:w.heap[b]?=some (.cells cs e (0,0))) (q:new.size=cs.size) (hl:cells'.length=cells.length) (h1:∀ x∈cells',x.single=true) (hr:∀ (i:Nat) (v:Value) (x:AV),new[i]?=some v->cells'[i]?=some x->RV ψ (·∈st.ids) S w v x):
  Core F S0 N0 (putC st id cells') st.ids ψ S (w.setRow b new)/\Fr F w (w.setRow b new)/\Same S w (w.setRow b new):=by
 have p:(w.setRow b new).heap.size=w.heap.size:=by simp [World.setRow]
 have j:∀ k,k<w.heap.size->¬ Blk (ψ.val id) k->(w.setRow b new).heap[k]?=w.heap[k]?:=fun k _ hk=>kl0 b new k fun e=>hk (.of (by rw [d,e]));have key:∀ ob ob',kaa st.heap id=some ob->(∀ hk:Same S w (w.setRow b new),ObR ψ (·∈st.ids) S (w.setRow b new) id ob')->Core F S0 N0 ((id,ob')::st.heap) st.ids ψ S (w.setRow b new)/\Fr F w (w.setRow b new)/\Same S w (w.setRow b new):=fun ob ob' c l=>by obtain ⟨r,_,m⟩:=a.obj id _ c;have hk:Same S w (w.setRow b new):=fun k hk hl=>j k hl fun e=>(m k e).1 hk;obtain ⟨c1,c2,c3⟩:=a.upd (n:=ψ.len id) (v:=ψ.val id) (w':=w.setRow b new) (ob':=ob') c (by omega) j (.inr ⟨rfl,rfl⟩) (fun b d => .inl d) (by rw [k0b];exact l hk);rw [k0b] at c1;exact ⟨c1,⟨rfl,rfl,rfl,by omega,c3,fun _=>qw _⟩,c2⟩
 have l:=fun id o c=>(a.obj id o c).2.1;unfold objC objH at h;unfold putC;split at h;rename_i e' cells0 c;simp only [qc,qq] at h;obtain ⟨rfl,rfl⟩:=h;obtain ⟨q0,b',cs',q1,q2,q3,q4,q5⟩:=l id _ c;rw [q1] at d;simp only [kay,qc] at d;subst d;rw [f] at q2;injection q2 with q2;injection q2 with e1 e2;subst e1 e2;exact key _ _ c fun hk=>⟨q0,b',new,q1,kjj b' f,by omega,h1,fun i v x hv hx=>(hr i v x hv hx).keep Ext.refl (fun _ h=>h) (fun _ h=>h) hk⟩;rename_i g' e' sz cells0 c;simp only [qc,qq] at h;obtain ⟨rfl,rfl⟩:=h;obtain ⟨q0,qz,b',cs',n,cap,q1,q2,q3,q4,q5,q6,q7⟩:=l id _ c;rw [q1] at d;simp only [kay,qc] at d;subst d;rw [f] at q2;injection q2 with q2;injection q2 with e1 e2;subst e1 e2;exact key _ _ c fun hk=>⟨q0,qz,b',new,n,cap,q1,kjj b' f,by omega,q4,by omega,h1,fun i v x hv hx=>(hr i v x hv hx).keep Ext.refl (fun _ h=>h) (fun _ h=>h) hk⟩
 ·cases h
theorem k21 {g off:Nat} {cells ys:List AV} {vs:List Value} (c:Core F S0 N0 st.heap st.ids ψ S w) (h:objC st id=some (g,cells)) (j:off+ys.length<=cells.length) (hr:CR ψ (·∈st.ids) S w vs ys):
  ∃ b w1,kay (ψ.val id)=some b/\(storeCells ⟨b,off,none⟩ vs).run P w = .ok () w1/\Core F S0 N0 (putC st id (kc8 cells off ys)) st.ids ψ S w1/\Fr F w w1/\Same S w w1:=by
 obtain ⟨n,b,cs,e,q1,q2,q3,q4,q5⟩:=kh3 (fun id o m=>(c.obj id o m).2.1) h;have hst:=run_storeCells_at (P:=P) b off e vs 0 cs w q2 (by rw [hr.1];omega) hr.one;simp only [Nat.add_zero] at hst;obtain ⟨new,d⟩:∃ new:Array Value,new=(cs.toList.take off++vs++cs.toList.drop (off+vs.length)).toArray:=⟨_,rfl⟩;rw [<- d] at hst;have k:new.toList=kc8 cs.toList off vs:=by rw [d];simp [kc8,qaq]
 have f:off+vs.length<=cs.toList.length:=by simp [hr.1];omega
 have l:new.size=cs.size:=by rw [<- qak,k,kj6 _ _ _ f];simp
 obtain ⟨c1,c2,c3⟩:=setC (kc8 cells off ys) c h q1 q2 l (kj6 _ _ _ j) (fun z a=>by
   unfold kc8 at a;simp only [qa7] at a;rcases a with a | a | a;exact q4 z (qbi a);exact hr.2.1 z a
   ·exact q4 z (qbf a)) fun i v z hv a=>by
  rw [<- qas,k,kmr _ _ _ f] at hv;rw [kmr _ _ _ j] at a;rw [hr.1] at hv;split at hv;rename_i hi;rw [qs hi] at a;exact hr.2.2 _ v z hv a
  ·rename_i hi;rw [ql hi] at a;exact q5 _ v z (by simpa using hv) a
 exact ⟨b,w.setRow b new,q1,hst,c1,c2,c3⟩
theorem kaep {x y:Operand} {g off:Nat} {cells ys:List AV} (k:o.op = .store t x y) (hd:TdOk P t d) (hx:st.eval x = .ref id g off) (i:objC st id=some (g,cells)) (hy:(st.eval y).cells=ys) (hl:ys.length=d.size) (h1:ys.all AV.single=true)
  (l:off+ys.length<=cells.length):StepA P o st .any (putC st id (kc8 cells off ys)) st.ids:=by
 subst hy;intro F S0 N0 ψ S a w e;have c:=e.core;have j:=CR.cells (e.eval y) h1;obtain ⟨b,w1,q1,q2,q3,q4,q5⟩:=k21 (P:=P) c i l j;obtain ⟨n,_⟩:=kh3 (fun id o k=>(c.obj id o k).2.1) i;have hv:=e.eval x;rw [hx] at hv;have m:a.eval x = .pointer (some ⟨b,off,none⟩):=by
  generalize a.eval x=u at hv;cases hv with
  | ref hK hn h1 hv=>
   obtain ⟨b',f,rfl⟩:=hv n.symm;rw [q1] at f;simp only [qc] at f;rw [f]
 refine kl2 w1 ?_ ⟨ψ,S,q3, .any,q4,Ext.refl,fun _ h=>h,fun _ h=>h,q5⟩;have hcl:(a.eval y).cells.size=d.size:=by have:=j.1;simp at this;omega
 simp only [execOp,k,Instr.storeAt,m,Instr.sureAddr,storeVar,hd.size,Sem.run_bind,Sem.run_pure,Result.andThen_ok];rw [ql (by rw [hcl];simp)];simp only [q2];rfl
end
def srcH (T:List (TypeId×TD)) (H:Nat->Option AObj) (sz:Nat) (tx:TypeId) (y:AV):Option (Nat×List AV):=match kae T tx with
 | some d=>match d.kind,y with
  | .slice _,y=>match rdH H sz y with
   | some (n,_,ys)=>some (n,ys)
   | none=>none
  | .str, .fz (.atom (.string s))=>bif Nat.beq sz 1 then some (s.size,(byteCells s).map fun v => .fz (.atom v)) else none
  | _,_=>none
 | none=>none
abbrev srcE (T:List (TypeId×TD)) (sz:Nat) (st:St) (tx:TypeId) (y:AV):Option (Nat×List AV):=srcH T (kaa st.heap) sz tx y
section
variable {P:Program} {F S0:Nat->Prop} {N0:Nat} {w w':World} {S S':Nat->Prop} {ψ ψ':Env} {K:Nat->Prop} {T:List (TypeId×TD)} {o:Oper} {a:Act} {st:St} {t tx:TypeId} {d:TD} {id:Nat}
theorem kya (g:TOk P T) {sz n:Nat} {v:Value} {y:AV} {ys:List AV} (hv:RV ψ (·∈st.ids) S w v y) (k:∀ id o,kaa st.heap id=some o->ObR ψ (·∈st.ids) S w id o) (h:srcE T sz st tx y=some (n,ys)):
  ∃ news,Src P sz tx v n news w/\CR ψ (·∈st.ids) S w news ys:=by
 unfold srcE srcH at h;split at h
 ·rename_i d hd;split at h
  ·rename_i e hk;split at h
   ·rename_i m c zs hr;simp only [qc,qq] at h;obtain ⟨rfl,rfl⟩:=h;obtain ⟨A,cap,rfl,h1,p,_,cs,b,l,j⟩:=krm hv k hr;have a:=(g.get hd).slice hk;cases A with
    | none=>
     obtain ⟨rfl,rfl⟩:=j;exact ⟨[],Src.ofNil w a cap,b⟩
    | some ad=>exact ⟨cs,Src.ofSlice w a ad _ cap cs (by rw [b.1,l]) j b.one,b⟩
   ·cases h
  ·rename_i s hk;cases f:Nat.beq sz 1 with
   | false=>rw [f] at h;cases h
   | true=>
    rw [f] at h;simp only [qe,qc,qq] at h;obtain ⟨rfl,rfl⟩:=h;obtain rfl:=qi f;rw [hv.atom];refine ⟨byteCells s,Src.ofString w ((g.get hd).str hk) s,by simp,fun x hx=>?_,fun i v x hv hx=>?_⟩;obtain ⟨u,a,rfl⟩:=qaz.1 hx;unfold byteCells at a;obtain ⟨c,_,rfl⟩:=qaz.1 a;rfl
    ·rw [qr,qm] at hx;obtain ⟨u,a,rfl⟩:=hx;rw [hv] at a;injection a with a;subst a;have:=qu hv;unfold byteCells at this;obtain ⟨c,_,rfl⟩:=qaz.1 this;exact .fz (.atom rfl)
  ·cases h
 ·cases h
theorem kzc {t ty e:TypeId} {i:TypeInfo} (ht:P.underlying t=some (.slice e)) (hi:P.info? e=some i) {b off sLen:Nat} (sCap:Nat) {x:Value} {n:Nat} {news:List Value} (hs:Src P i.size tx x n news w) (a:sLen+n<=sCap) {w1:World} (hst:(storeCells ⟨b,off+sLen*i.size,none⟩ news).run P w = .ok () w1):
  (Builtin.append_ #[t,tx] ty #[.slice (some ⟨b,off,none⟩) sLen sCap,x]).run P w = .ok (.slice (some ⟨b,off,none⟩) (sLen+n) sCap) w1:=by
 rcases hs.kind with ⟨e',hk⟩ | hk <;> simp [Builtin.append_,run_underlying ht,run_underlying hk,sizeOf,typeInfo,hi,hs.len,a,hs.cells,kck,hst]
theorem kzl {t:TypeId} (ty:TypeId) {e:TypeId} {de:TD} (ht:P.underlying t=some (.slice e)) (k:TdOk P e de) (l:de.zero.length=de.size) {A:Option Addr} {m:Nat} (cap:Nat) {n:Nat} {olds news:List Value} {xs ys:List AV} {x:Value} (hc:CR ψ K S w olds xs) (hl:xs.length=m*de.size) (hA:k7e w m olds A) (hs:Src P de.size tx x n news w) (hy:CR ψ K S w news ys) (C:cap<m+n) (D:(m+n)*(de.bytes+1)<=140737488355328):
  ∃ gc cur,(Builtin.append_ #[t,tx] ty #[.slice A m cap,x]).run P w = .ok (.slice (some ⟨w.heap.size,0,none⟩) (m+n) gc) (w.drew.alloc (.cells cur e))/\cur.size=gc*de.size/\m+n<=gc/\gc<=9223372036854775807/\(xs++ys).length=(m+n)*de.size /\
   (∀ x∈xs++ys,x.single=true)/\∀ (i:Nat) (v:Value) (x:AV),cur[i]?=some v->(xs++ys)[i]?=some x->RV ψ K S w v x:=by
 obtain ⟨⟨i,z,hi,c,d,o,p⟩,_⟩:=k;have q:z.cells.size=i.size:=by rw [<- qak,p,l,c]
 rw [<- c] at hs hl ⊢;rw [Nat.mul_add,Nat.mul_one] at D;have f:(Builtin.firstCells i.size m (.slice A m cap)).run P w.drew = .ok olds.toArray w.drew:=by
  cases A with
  | none=>
   obtain ⟨rfl,rfl⟩:=hA;exact run_firstCells_none w.drew i.size 0 0 cap
  | some ad=>exact run_firstCells_some w.drew i.size m ad m cap olds (by rw [hc.1,hl]) fun j v r=>by simpa using hA j v r
 have s:=nextslicecap_le C;have g:Builtin.nextslicecap (m+n) cap*i.bytes<=281474976710656:=by have:=qau i.bytes s;rw [Nat.mul_assoc,d] at this;rw [d];omega
 have h:=run_append_grow_src (P:=P) w t tx ty e i z ht hi o A m cap olds f x n news hs C (by omega) g;have u:=grownCap_ge w (m+n) cap e;have B:=grownCap_le_maxLen w (m+n) cap e (by unfold maxLen;omega);have a:=hc.append hy;have b:(xs++ys).length=(m+n)*i.size:=by rw [qy,hl,<- hy.1,hs.newsLen,qa3]
 refine ⟨grownCap w (m+n) cap e,_,h,?_,u,by unfold maxLen at B;omega,b,a.2.1,fun j v y hv hy=>?_⟩;simp only [Array.size_append,List.size_toArray,size_zeroCells,q];rw [a.1,b,<- qa3];congr 1;omega
 ·have r:j<(olds++news).length:=by rw [a.1];exact (qj.1 hy).1
  rw [qa0 (by simpa using r)] at hv;exact a.2.2 j v y (by simpa using hv) hy
theorem kvq {x y:Operand} {ts:Array TypeId} {v:Value} {w1:World} (b:o.op = .call { callee := .builtin .append,args:=#[x,y],argTypes:=ts }) (h:(Builtin.append_ ts o.type #[a.eval x,a.eval y]).run P w = .ok v w1):(execOp a.eval o).run P w = .ok (.value v) w1:=by simp only [execOp,b,resolve,invoke,builtin,Sem.run_bind,Sem.run_pure,Result.andThen_ok,List.map_toArray,qa8,List.map_nil,h]
theorem grow_grow {cur:Array Value} {e:TypeId}:Grow w (w.drew.alloc (.cells cur e)):=Below.step (kabq w) (kbn _ _)
theorem kaco {x y:Operand} {e:TypeId} {de:TD} {m n k:Nat} {xs ys:List AV} (q:o.op = .call { callee := .builtin .append,args:=#[x,y],argTypes:=#[t,tx] }) (r:TOk P T) (hd:kae T t=some d) (hk:d.kind = .slice e) (s:kae T e=some de) (u:0<de.size) (B:de.zero.length=de.size)
  (hx:rdSl de.size st (st.eval x)=some (m,some k,xs)) (hy:srcE T de.size st tx (st.eval y)=some (n,ys)) (H:k<m+n) (C:(m+n)*(de.bytes+1)<=140737488355328) (f:st.ids.contains id=false):
  StepA P o st (.bsl id 0 0 (m+n) none) ((id, .xo (.blk 0 e de.size (xs++ys)))::st.heap) (id::st.ids):=by
 have f:id∉st.ids:=by simpa using f
 intro F S0 N0 ψ S a w g;have c:=g.core;have G:=fun id o q=>(c.obj id o q).2.1;obtain ⟨A,cap,D,_,_,j,cs,I,J,K⟩:=krm (g.eval x) G hx;obtain rfl:=j k rfl;obtain ⟨news,l,E⟩:=kya r (g.eval y) G hy;obtain ⟨gc,cur,p,g1,g2,g3,g4,g5,g6⟩:=kzl o.type ((r.get hd).slice hk) (r.get s) B _ I J K l E H C;refine kad _ _ (kvq q (by rw [D];exact p)) ⟨ψ.set id 0 (.slice (some ⟨w.heap.size,0,none⟩) (m+n) gc),S,?_,?_,Fr.of_grow c.fr grow_grow,kbm f _ _,fun _ h=>qk _ h,fun _ h=>h,Same.of_grow grow_grow⟩;have L:(m+n)*de.size<=gc*de.size:=qau _ g2;refine c.add grow_grow f (fun b C=>by simp [kay] at C;omega) ⟨kbv _ _,u,w.heap.size,cur,m+n,gc,kan _ _,by simpa using heap_alloc_new w.drew (.cells cur e),g1,g3,by omega,g5,fun i v z hv u=>(g6 i v z hv u).keep (kbm f _ _) (fun _ h=>qk _ h) (fun _ h=>h) (Same.of_grow grow_grow)⟩
 ·exact .bsl (qx ..) (qaj _) rfl fun _=>⟨w.heap.size,gc,by rw [kan];rfl,rfl,g2,g3,rfl,by rw [kan];rfl⟩
theorem kabw {x y:Operand} {e:TypeId} {de:TD} {g off m n k:Nat} {cells ys:List AV} (s:o.op = .call { callee := .builtin .append,args:=#[x,y],argTypes:=#[t,tx] }) (u:TOk P T) (hd:kae T t=some d) (hk:d.kind = .slice e) (v:kae T e=some de)
  (hx:st.eval x = .bsl id g off m (some k)) (q:objC st id=some (g,cells)) (hy:srcE T de.size st tx (st.eval y)=some (n,ys)) (hr:m+n<=k) (A:off+m*de.size+ys.length<=cells.length):
  StepA P o st (.bsl id g off (m+n) (some k)) (putC st id (kc8 cells (off+m*de.size) ys)) st.ids:=by
 intro F S0 N0 ψ S a w p;have f:=p.core;have E:=fun id o s=>(f.obj id o s).2.1;obtain ⟨H,_⟩:=kh3 E q;have hv:=p.eval x;rw [hx] at hv;obtain ⟨hK,b,c,G,B,I,r,j⟩:=kjx hv H;simp only [CapR] at j;subst j;obtain ⟨news,l,C⟩:=kya u (p.eval y) E hy;obtain ⟨b',w1,q1,q2,q3,q4,q5⟩:=k21 (P:=P) f q A C;rw [G] at q1;simp only [qc] at q1;subst q1;obtain ⟨⟨i,z,hi,D,J,K,L⟩,_⟩:=u.get v;rw [<- D] at l q2;refine kad _ _ (kvq s (by rw [B];exact kzc ((u.get hd).slice hk) hi _ l hr q2)) ⟨ψ,S,q3,?_,q4,Ext.refl,fun _ h=>h,fun _ h=>h,q5⟩;exact .bsl hK (by omega) rfl fun _=>⟨b,c,G,rfl,hr,r,rfl⟩
theorem kaiu {x y:Operand} {e:TypeId} {de:TD} {g m n:Nat} {cells ys:List AV} (ho:o.op = .call { callee := .builtin .append,args:=#[x,y],argTypes:=#[t,tx] }) (M:TOk P T) (hd:kae T t=some d) (hk:d.kind = .slice e) (N:kae T e=some de) (ab:de.zero.length=de.size)
  (hx:st.eval x = .bsl id g 0 m none) (O:kaa st.heap id=some (.xo (.blk g e de.size cells))) (hl:cells.length=m*de.size) (hy:srcE T de.size st tx (st.eval y)=some (n,ys)) (hb:(m+n)*(de.bytes+1)<=140737488355328):
  StepA P o st (.bsl id (g+1) 0 (m+n) none) ((id, .xo (.blk (g+1) e de.size (cells++ys)))::st.heap) st.ids:=by
 intro F S0 N0 ψ S a w I;have l:=I.core;have hO:=fun id o ho=>(l.obj id o ho).2.1;obtain ⟨ac,⟨hg,D,b,cs,n0,cap,h1,h2,h3,h4,h5,h6,h7⟩,ad⟩:=l.obj id _ O;have hv:=I.eval x;rw [hx] at hv;obtain ⟨hK,b',c,J,Q,ae,R,E⟩:=kjx hv hg;rw [h1] at J E;simp only [kay,qc] at J;subst J;have af:c=cap:=E.2;rw [af] at Q ae R;obtain ⟨news,q,r⟩:=kya M (I.eval y) hO hy;have U:CR ψ (·∈st.ids) S w (cs.toList.take cells.length) cells:=⟨by simp;omega,h6,fun i v x hv hx=>by
  rw [q9] at hv;split at hv;exact h7 i v x (by simpa using hv) hx
  ·cases hv⟩
 have fin:∀ (v':Value) (w1:World) (b1 gc:Nat) (new:Array Value),(Builtin.append_ #[t,tx] o.type #[.slice (some ⟨b,0,none⟩) m cap,a.eval y]).run P w = .ok v' w1->v' = .slice (some ⟨b1,0,none⟩) (m+n) gc->w1.heap[b1]?=some (.cells new e (0,0))->new.size=gc*de.size->m+n<=gc->gc<=9223372036854775807 ->
   (cells++ys).length<=new.size->(∀ (i:Nat) (v:Value) (x:AV),new[i]?=some v->(cells++ys)[i]?=some x->RV ψ (·∈st.ids) S w v x)->w.heap.size<=w1.heap.size->(∀ k,k<w.heap.size->k≠b->w1.heap[k]?=w.heap[k]?)->(b1=b\/w.heap.size<=b1)->w1.os=w.os/\w1.tape=w.tape/\w1.output=w.output ->
   kek P o a w fun v w'=>∃ ψ' S',Core F S0 N0 ((id, .xo (.blk (g+1) e de.size (cells++ys)))::st.heap) st.ids ψ' S' w'/\RV ψ' (·∈st.ids) S' w' v (.bsl id (g+1) 0 (m+n) none)/\Fr F w w'/\Ext (·∈st.ids) ψ ψ'/\(∀ id,id∈st.ids->id∈st.ids)/\(∀ b,S b->S' b)/\Same S w w':=by
  intro v' w1 b1 gc new f K hh ag V X Y hr s Z ah hw;have B:∀ k,k<w.heap.size->¬ Blk (ψ.val id) k->w1.heap[k]?=w.heap[k]?:=fun k hk ai=>Z k hk fun e=>ai (.of (by rw [h1,e];rfl));have L:Same S w w1:=fun k hk hl=>B k hl fun e=>(ad k e).1 hk;have G:Ext (·∈st.ids) ψ (ψ.set id (g+1) v'):=kul (.inl (by omega));obtain ⟨c1,c2,c3⟩:=l.upd (n:=g+1) (v:=v') (w':=w1) (ob' := .xo (.blk (g+1) e de.size (cells++ys))) O s B (.inl (by omega)) (fun k hk=>by
    rw [K] at hk;have hk:=hk.sl;simp only [kay,qc] at hk;subst hk;rcases ah with rfl | h;exact .inl (.of (by rw [h1];rfl))
    ·exact .inr h)
   ⟨kbv _ _,D,b1,new,m+n,gc,by rw [kan,K],hh,ag,X,Y,fun z D=>(qa7.1 D).elim (h6 z) (r.2.1 z),fun i v z hv D=>(hr i v z hv D).keep G (fun _ h=>h) (fun _ h=>h) L⟩
  refine kad _ _ (kvq ho (by rw [Q];exact f)) ⟨_,S,c1,?_,⟨hw.1,hw.2.1,hw.2.2,s,c3,no0⟩,G,fun _ h=>h,fun _ h=>h,c2⟩;subst K;exact .bsl ac (by rw [kbv];exact qw _) rfl fun _=>⟨b1,gc,by rw [kan];rfl,rfl,V,X,rfl,by rw [kan];rfl⟩
 by_cases p:m+n<=cap
 ·obtain ⟨⟨i,z,hi,H,aj,ak,al⟩,_⟩:=M.get N;have aa:0+m*de.size+news.length<=cs.size:=by rw [q.newsLen,h3,Nat.zero_add,<- qa3];exact qau _ p
  have hst:=run_storeCells_at (P:=P) b (0+m*de.size) e news 0 cs w h2 (by simpa using aa) r.one;simp only [Nat.add_zero] at hst;have f:=kzc (ty:=o.type) ((M.get hd).slice hk) hi cap (by rw [H];exact q) p (by rw [H];exact hst);have C:cells.length=0+m*de.size:=by omega
  refine fin _ _ b cap _ f rfl (kjj b h2) ?_ p h4 ?_ (fun j v z hv D=>?_) (by simp [World.setRow]) (fun k _ hk=>kl0 b _ k hk) (.inl rfl) ⟨rfl,rfl,rfl⟩;simp;omega;simp [<- r.1];omega
  ·have hc2:=U.append r;rw [C] at hc2;refine hc2.2.2 j v z ?_ D;have hj:j<(List.take (0+m*de.size) cs.toList++news).length:=(by rw [hc2.1];exact (qj.1 D).1);simp only [List.getElem?_toArray] at hv;rw [qah hj] at hv;exact hv
 ·obtain ⟨gc,cur,f,g1,g2,g3,g4,g5,g6⟩:=kzl (m:=m) (A:=some ⟨b,0,none⟩) o.type ((M.get hd).slice hk) (M.get N) ab cap U hl (fun j u hu=>by
   rw [kck];rw [q9] at hu;split at hu;exact kye h2 (by simpa using hu)
   ·cases hu) q r (by omega) hb
  have V:(m+n)*de.size<=gc*de.size:=qau _ g2;exact fin _ _ w.heap.size gc cur f rfl (by simpa using heap_alloc_new w.drew (.cells cur e)) g1 g2 g3 (by omega) g6 grow_grow.size (fun k hk _=>grow_grow.block k hk) (.inr (qw _)) ⟨rfl,rfl,rfl⟩
theorem kakm {x y:Operand} {e:TypeId} {de:TD} {m:Nat} {c:Option Nat} {xs ys:List AV} (r:o.op = .call { callee := .builtin .append,args:=#[x,y],argTypes:=#[t,tx] }) (k:TOk P T) (hd:kae T t=some d) (hk:d.kind = .slice e) (l:kae T e=some de)
  (hx:rdSl de.size st (st.eval x)=some (m,c,xs)) (hy:srcE T de.size st tx (st.eval y)=some (0,ys)):NStep P o st (st.eval x):=by
 intro ψ S a w ht q;obtain ⟨A,cap,f,n,_⟩:=krm (Sim.eval_tmps ht x) q hx;obtain ⟨news,b,s⟩:=kya k (Sim.eval_tmps ht y) q hy;obtain rfl:news=[]:=qar (by rw [b.newsLen,Nat.zero_mul]);obtain ⟨⟨i,z,hi,p,u,v,B⟩,_⟩:=k.get l;rw [<- p] at b;have g:=Sim.eval_tmps ht x;rw [f] at g;have C:=(k.get hd).slice hk;have h:(Builtin.append_ #[t,tx] o.type #[.slice A m cap,a.eval y]).run P w = .ok (.slice A m cap) w:=by rcases b.kind with ⟨e',j⟩ | j <;> cases A <;> simp [Builtin.append_,run_underlying C,run_underlying j,sizeOf,typeInfo,hi,b.len,n,b.cells,storeCells]
 exact kad _ _ (kvq r (by rw [f];exact h)) ⟨kaf _,g.here⟩
end
def ktz (size:Nat):Nat->List (Nat×AV)->Option (List AV)
 | _,[]=>some []
 | i,(j,x)::l=>bif Nat.beq j i && (Nat.beq x.cells.length size && x.cells.all AV.single) then (match ktz size (i+1) l with
  | some ys=>some (x.cells++ys)
  | none=>none) else none
def kga (E:Operand->AV) (d:Nat):Option Operand->Option Nat
 | none=>some d
 | some y=>match E y with
  | .fz (.atom (.int _ n))=>bif decide (0<=n) then some n.toNat else none
  | _=>none
abbrev ke2 (st:St) (d:Nat):Option Operand->Option Nat:=kga st.eval d
def kuc:List AV->Option (List Int)
 | []=>some []
 | .fz (.atom (.int .u8 n))::l=>match kuc l with
  | some r=>some (n::r)
  | none=>none
 | _=>none
def lstX:AV->Option (Nat×Nat×List FV)
 | .fz (.lst s n xs)=>some (s,n,xs)
 | .lim s n xs=>some (s,n,xs)
 | _=>none
section
variable {P:Program} {F S0:Nat->Prop} {N0:Nat} {w w':World} {S S':Nat->Prop} {ψ ψ':Env} {K:Nat->Prop} {T:List (TypeId×TD)} {o:Oper} {a:Act} {st:St} {t tx:TypeId} {d:TD} {id:Nat}
def repC (c:Nat) (zs:List Value):List AV:=(List.replicate c (zs.map fun v=>AV.fz (.atom v))).flatten
theorem k9o {α:Type} (zs:List α) (a:0<zs.length):∀ (c k:Nat),k<c*zs.length->(List.replicate c zs).flatten[k]?=zs[k % zs.length]?
 | 0,k,h=>by simp at h
 | c+1,k,h=>by
  rw [List.replicate_succ,List.flatten_cons];by_cases hk:k<zs.length;rw [qah hk,Nat.mod_eq_of_lt hk]
  ·rw [qao (by omega),k9o zs a c _ (by rw [qa3,Nat.one_mul] at h;omega)];rw [Nat.mod_eq_sub_mod (by omega:zs.length<=k)]
theorem e_mkE {X Y:Operand} {e:TypeId} {de:TD} {k k':IntKind} {zs:List Value} {n c:Int} (O:o.op = .makeSlice t X Y) (N:TOk P T) (hd:kae T t=some d) (hk:d.kind = .slice e) (q:kae T e=some de)
  (r:0<de.size) (g:zs.length=de.size) (D:de.zero=zs) (y:∀ v∈zs,v.oneCell'=true) (hx:st.eval X = .fz (.atom (.int k n))) (hy:st.eval Y = .fz (.atom (.int k' c))) (h0:0<=n) (E:n<=c) (G:(de.bytes:Int)*c<=281474976710656) (H:c<=9223372036854775807) (j:st.ids.contains id=false):
  StepA P o st (.bsl id 0 0 n.toNat (some c.toNat)) ((id, .xo (.blk 0 e de.size (repC c.toNat zs)))::st.heap) (id::st.ids):=by
 have j:id∉st.ids:=by simpa using j
 have hd:=N.get hd;have q:=N.get q;intro F S0 N0 ψ S a w s;have m:=s.eval X;rw [hx] at m;have m:=m.atom;have p:=s.eval Y;rw [hy] at p;have p:=p.atom;obtain ⟨⟨i,z',hi,I,J,Q,K⟩,_⟩:=q;have f:=s.core;have hcl:z'.cells.toList=zs:=by rw [K,D]
 have u:z'.cells.size=de.size:=by rw [<- qak,hcl,g]
 have hr:=run_make (P:=P) w t e i z' (hd.slice hk) hi Q k k' n c h0 E (by rw [J];exact G) H;rw [I] at hr;have z:Grow w (w.alloc (.cells (madeCells z'.cells (c.toNat*de.size)) e)):=kbn _ _;have A:∀ x∈repC c.toNat zs,x.single=true:=fun x hx=>by obtain ⟨l,hl,hx⟩:=List.mem_flatten.1 hx;rw [List.mem_replicate] at hl;rw [hl.2] at hx;obtain ⟨v,hv,rfl⟩:=qaz.1 hx;exact y v hv
 have B:(repC c.toNat zs).length=c.toNat*de.size:=by unfold repC;simp [g]
 refine kad (w.alloc (.cells (madeCells z'.cells (c.toNat*de.size)) e)) (.slice (some ⟨w.heap.size,0,none⟩) n.toNat c.toNat) ?_ ⟨ψ.set id 0 (.slice (some ⟨w.heap.size,0,none⟩) n.toNat c.toNat),S,?_,?_,kiv _ f.fr,kbm j _ _,fun _ h=>qk _ h,fun _ h=>h,Same.of_grow z⟩;simp [execOp,O,m,p,hr]
 ·refine f.add z j (fun b G=>by simp [kay] at G;omega) ⟨kbv _ _,r,w.heap.size,madeCells z'.cells (c.toNat*de.size),n.toNat,c.toNat,kan _ _,heap_alloc_new w _,by rw [size_madeCells],by omega,by rw [size_madeCells,B];omega,A,fun i v x hv hx=>?_⟩;have C:i<c.toNat*de.size:=by rw [<- B];exact (qj.1 hx).1
  have hm:i % de.size<z'.cells.size:=by rw [u];exact Nat.mod_lt _ r
  have L:(madeCells z'.cells (c.toNat*de.size))[i]?=z'.cells[i % z'.cells.size]?:=by have M:i % z'.cells.size<z'.cells.size:=(by rw [u];exact Nat.mod_lt _ r);simp [madeCells,C,M]
  rw [L,u,<- qas,hcl] at hv;unfold repC at hx;rw [k9o _ (by rw [qaw];omega) _ _ (by rw [qaw,g];exact C),qaw,g,qr,hv] at hx;injection hx with hx;subst hx;exact .fz (.atom (y v (qu hv)))
 ·exact .bsl (qx ..) (qaj _) rfl fun _=>⟨w.heap.size,c.toNat,by rw [kan];rfl,rfl,by omega,by omega,rfl⟩
theorem k29 {ids:List Nat} (ht:∀ t,RV ψ (·∈ids) S w (a.tmps.getD t undef) (st.get t)) {size:Nat}:∀ {i:Nat} {l:List (Nat×Operand)} {ys:List AV},ktz size i (l.map fun p=>(p.1,st.eval p.2))=some ys ->
  (l.map fun p=>(p.1,a.eval p.2))=((l.map fun p=>a.eval p.2).zipIdx i).map (fun x=>(x.2,x.1))/\(∀ v∈l.map (fun p=>a.eval p.2),v.cells.size=size)/\CR ψ (·∈ids) S w ((l.map fun p=>a.eval p.2).flatMap fun v=>v.cells.toList) ys/\ys.length=l.length*size
 | i,[],ys,h=>by simp only [List.map_nil,ktz,qc] at h;subst h;exact ⟨rfl,(fun v hv=>by cases hv),CR.nil,by simp⟩
 | i,(j,x)::l,ys,h=>by
  simp only [qa8,ktz] at h;cases c:(Nat.beq j i && (Nat.beq (st.eval x).cells.length size && (st.eval x).cells.all AV.single)) with
  | false=>rw [c] at h;cases h
  | true=>
   rw [c] at h;simp only [qe] at h;split at h
   ·rename_i zs f;injection h with h;subst h;simp only [qo] at c;obtain ⟨d,b,e⟩:=c;obtain rfl:=qi d;have b:=qi b;obtain ⟨e1,e2,e3,e4⟩:=k29 ht f;have hc:=CR.cells (Sim.eval_tmps ht x) e;refine ⟨by simp only [qa8,List.zipIdx_cons,e1],fun v hv=>?_,?_,by simp [b,e4,qa3];omega⟩
    ·simp only [qa8] at hv;rcases qab.1 hv with rfl | hv;have:=hc.1;simp at this;omega
     ·exact e2 v hv
    ·simp only [qa8,qbd];exact hc.append e3
   ·cases h
theorem kakj {n:Nat} {parts:Array (Nat×Operand)} {e:TypeId} {de:TD} {ys:List AV} (H:o.op = .buildSlice t n parts) (hd:TdOk P t d) (hk:d.kind = .slice e) (q:TdOk P e de) (l:0<de.size) (hn:parts.toList.length=n) (E:n*de.size<=16777216)
  (hp:ktz de.size 0 (kdz st parts)=some ys) (c:st.ids.contains id=false):StepA P o st (.bsl id 0 0 n (some n)) ((id, .xo (.blk 0 e de.size ys))::st.heap) (id::st.ids):=by
 have c:id∉st.ids:=by simpa using c
 subst hn;intro F S0 N0 ψ S a w r;have f:=r.core;obtain ⟨e1,e2,e3,e4⟩:=k29 r.tmps hp;obtain ⟨vs,s⟩:∃ vs:List Value,vs=parts.toList.map (fun p=>a.eval p.2):=⟨_,rfl⟩;rw [<- s] at e1 e2 e3;have y:vs.length=parts.toList.length:=by rw [s];simp
 obtain ⟨z,A,I⟩:=q.zero (P:=P) (w:=w);obtain ⟨cells,hcl⟩:∃ cells:Array Value,cells=(vs.flatMap fun v=>v.cells.toList).toArray:=⟨_,rfl⟩;have B:(parts.map fun (i,x)=>(i,a.eval x)).toList=(vs.zipIdx 0).map (fun x=>(x.2,x.1)):=by rw [<- e1];simp
 have u:(Instr.buildSlice t parts.toList.length (parts.map fun (i,x)=>(i,a.eval x))).run P w = .ok (.slice (some ⟨w.heap.size,0,none⟩) parts.toList.length parts.toList.length) (w.alloc (.cells cells e)):=by
  have C:¬ parts.toList.length*de.size > 2 ^ 24:=by omega
  have g:∀ c0:Array Value,parts.toList.length*de.size=c0.size->Instr.fill (fun i=>some (i*de.size,de.size)) c0 (parts.map fun (i,x)=>(i,a.eval x)).toList=some cells:=fun c0 D=>by rw [B,Great.fill_whole l vs c0 e2 (by rw [y];exact D),hcl]
  unfold Instr.buildSlice;rw [Sem.run_bind,run_underlying (hd.slice hk),Result.andThen_ok];simp only [Sem.run_bind,q.size,Result.andThen_ok,ql C];by_cases h0:parts.toList.length*de.size=0
  ·simp only [qs h0,Sem.run_bind,Sem.run_pure,Result.andThen_ok];rw [g];rfl
   ·simp
  ·simp only [ql h0,Sem.run_bind,A,Result.andThen_ok,Sem.run_pure];rw [g];rfl
   ·simp
 have m:Grow w (w.alloc (.cells cells e)):=kbn _ _;have k:cells.size=parts.toList.length*de.size:=by rw [hcl,List.size_toArray,e3.1,e4]
 have G:parts.toList.length*1<=parts.toList.length*de.size:=Nat.mul_le_mul_left _ l;refine kad (w.alloc (.cells cells e)) (.slice (some ⟨w.heap.size,0,none⟩) parts.toList.length parts.toList.length) ?_ ⟨ψ.set id 0 (.slice (some ⟨w.heap.size,0,none⟩) parts.toList.length parts.toList.length),S,?_,?_,kiv _ f.fr,kbm c _ _,fun _ h=>qk _ h,fun _ h=>h,Same.of_grow m⟩;have j:=u;simp only [execOp,H,Sem.run_bind];rw [show (parts.map fun (i,x)=>(i,a.eval x))=parts.map (fun x=>(x.1,a.eval x.2)) from rfl] at j;simp only [j];rfl;refine f.add m c (fun b E=>by simp [kay] at E;omega) ⟨kbv _ _,l,w.heap.size,cells,_,_,kan _ _,heap_alloc_new w _,k,by omega,by rw [k,e4];exact qw _,e3.2.1,fun i v x hv hx=>?_⟩;exact (e3.2.2 i v x (by rw [hcl] at hv;simpa using hv) hx).keep (kbm c _ _) (fun _ h=>qk _ h) (fun _ h=>h) (Same.of_grow m)
 ·exact .bsl (qx ..) (qaj _) rfl fun _=>⟨w.heap.size,_,by rw [kan];rfl,rfl,qw _,by omega,rfl⟩
theorem kcl {ids:List Nat} (ht:∀ t,RV ψ (·∈ids) S w (a.tmps.getD t undef) (st.get t)) {x:Option Operand} {D r:Nat} (h:ke2 st D x=some r):(x=none/\r=D)\/∃ y k,x=some y/\a.eval y = .int k (r:Int):=by
 unfold ke2 kga at h;split at h;injection h with h;exact .inl ⟨rfl,h.symm⟩
 ·rename_i y;split at h
  ·rename_i k n hk;cases h0:decide (0<=n) with
   | false=>rw [h0] at h;cases h
   | true=>
    rw [h0] at h;simp only [qe,qc] at h;have h1:=Sim.eval_tmps ht y;rw [hk] at h1;have hn:(r:Int)=n:=(by rw [<- h];exact Int.toNat_of_nonneg (by simpa using h0));exact .inr ⟨y,k,rfl,by rw [hn];exact h1.atom⟩
  ·cases h
theorem klh (P:Program) (w:World) {lo hi:Option Operand} (mx:Option Operand) (isS:Bool) {len:Nat} (cap:Nat) {L H:Nat} (M:Nat) (d:(lo=none/\L=0)\/∃ y k,lo=some y/\a.eval y = .int k (L:Int)) (e:(hi=none/\H=len)\/∃ y k,hi=some y/\a.eval y = .int k (H:Int)) (g:(mx=none/\M=cap)\/∃ y k,mx=some y/\a.eval y = .int k (M:Int)) (h1:L<=H) (c:H<=M) (f:M<=cap) (h:mx.isSome=true->hi.isSome=true):(Instr.sliceBounds isS len cap (lo.map a.eval) (hi.map a.eval) (mx.map a.eval)).run P w = .ok (L,H,M) w:=by
 have q1:(L:Int)<=(H:Int):=by omega
 have q2:(H:Int)<=(M:Int):=by omega
 have q3:(M:Int)<=(cap:Int):=by omega
 have q4:(H:Int)<=(cap:Int):=by omega
 have p1:(0:Int)<=(L:Int):=by omega
 have p2:(0:Int)<=(H:Int):=by omega
 have p3:(0:Int)<=(M:Int):=by omega
 have sb:∀ {u:Value} {k:IntKind} {n y:Nat} {code:BoundsCode},u = .int k (n:Int)->n<=y->(Instr.sliceBound u y code).run P w = .ok n w:=fun {u k n y code} i j=>by
  subst i;have e1:(0:Int)<=(n:Int):=by omega
  have e2:(n:Int)<=(y:Int):=by omega
  simp only [Instr.sliceBound,asIntOf,Sem.run_bind,Sem.run_pure,Result.andThen_ok];rw [qs ⟨e1,e2⟩];simp
 unfold Instr.sliceBounds;rcases g with ⟨rfl,rfl⟩ | ⟨ym,km,rfl,hm⟩
 ·rcases e with ⟨rfl,rfl⟩ | ⟨yh,kh,rfl,b⟩
  ·rcases d with ⟨rfl,rfl⟩ | ⟨yl,kl,rfl,hl⟩;simp
   ·simp [sb hl h1]
  ·rcases d with ⟨rfl,rfl⟩ | ⟨yl,kl,rfl,hl⟩;simp [sb b c]
   ·simp [sb b c,sb hl h1]
 ·rcases e with ⟨rfl,rfl⟩ | ⟨yh,kh,rfl,b⟩;exact absurd (h rfl) (by simp)
  ·rcases d with ⟨rfl,rfl⟩ | ⟨yl,kl,rfl,hl⟩;simp [sb hm f,sb b c]
   ·simp [sb hm f,sb b c,sb hl h1]
def offE (off L M size:Nat):Nat:=bif Nat.beq M L then off else off+L*size
theorem kxe {b off L M size:Nat}:(if M=L then (⟨b,off,none⟩:Addr) else (⟨b,off,none⟩:Addr).add (L*size))=⟨b,offE off L M size,none⟩:=by
 unfold offE;by_cases h:M=L;subst h;simp
 ·rw [ql h,Nat.beq_eq_false h,kck];rfl
theorem n_slB {x:Operand} {lo hi mx:Option Operand} {e:TypeId} {de:TD} {g off len k L H M:Nat} {cells:List AV} (p:o.op = .slice t x lo hi mx) (m:TOk P T) (hd:kae T t=some d) (hk:d.kind = .slice e) (h:kae T e=some de) (hx:st.eval x = .bsl id g off len (some k)) (i:objC st id=some (g,cells))
  (hl:ke2 st 0 lo=some L) (q:ke2 st len hi=some H) (hm:ke2 st k mx=some M) (h1:L<=H) (r:H<=M) (s:M<=k) (u:mx.isSome=true->hi.isSome=true):NStep P o st (.bsl id g (offE off L M de.size) (H - L) (some (M - L))):=by
 intro ψ S a w ht y;obtain ⟨z,_⟩:=kh3 y i;have hv:=Sim.eval_tmps ht x;rw [hx] at hv;obtain ⟨hK,b,c,A,j,B,n,f⟩:=kjx hv z;have f:c=k:=f;subst f;have e1:=klh P w _ true _ _ (kcl ht hl) (kcl ht q) (kcl ht hm) h1 r s u;refine kad w (.slice (some ⟨b,offE off L M de.size,none⟩) (H - L) (M - L)) ?_ ⟨kaf _, .bsl hK (by omega) rfl fun _=>⟨b,M - L,A,rfl,by omega,by omega,rfl⟩⟩;have l:=(m.get h).size (P:=P) (w:=w);rw [<- kxe];simp [execOp,p,Instr.sliceAt,Instr.slice,run_underlying ((m.get hd).slice hk),j,e1,l];split <;> rfl
theorem n_slU {x:Operand} {lo hi:Option Operand} {e:TypeId} {de:TD} {g len H:Nat} {cells:List AV} (p:o.op = .slice t x lo hi none) (n:TOk P T) (hd:kae T t=some d) (hk:d.kind = .slice e) (j:kae T e=some de) (hx:st.eval x = .bsl id g 0 len none) (k:objC st id=some (g,cells))
  (hl:ke2 st 0 lo=some 0) (q:ke2 st len hi=some H) (z:H<=len):NStep P o st (.bsl id g 0 H none):=by
 intro ψ S a w ht r;obtain ⟨s,_⟩:=kh3 r k;have hv:=Sim.eval_tmps ht x;rw [hx] at hv;obtain ⟨hK,b,c,u,l,y,f,i⟩:=kjx hv s;have e1:=klh P w none true c c (kcl ht hl) (kcl ht q) (.inl ⟨rfl,rfl⟩) (qaj _) (by omega) (qw _) (fun h=>by cases h);refine kad w (.slice (some ⟨b,0,none⟩) H c) ?_ ⟨kaf _, .bsl hK (by omega) rfl fun _=>⟨b,c,u,rfl,by omega,f,i⟩⟩;have m:=(n.get j).size (P:=P) (w:=w);simp only [Option.map_none] at e1;simp [execOp,p,Instr.sliceAt,Instr.slice,run_underlying ((n.get hd).slice hk),l,e1,m,kck]
theorem n_slM {x:Operand} {lo hi:Option Operand} {y:Operand} {e:TypeId} {de:TD} {g len L H M:Nat} {cells:List AV} (p:o.op = .slice t x lo hi (some y)) (l:TOk P T) (hd:kae T t=some d) (hk:d.kind = .slice e) (f:kae T e=some de) (hx:st.eval x = .bsl id g 0 len none) (i:objC st id=some (g,cells))
  (hl:ke2 st 0 lo=some L) (q:ke2 st len hi=some H) (hm:ke2 st 0 (some y)=some M) (h1:L<=H) (r:H<=M) (D:M<=len) (s:hi.isSome=true):NStep P o st (.bsl id g (offE 0 L M de.size) (H - L) (some (M - L))):=by
 intro ψ S a w ht u;obtain ⟨z,_⟩:=kh3 u i;have hv:=Sim.eval_tmps ht x;rw [hx] at hv;obtain ⟨hK,b,c,A,j,B,m,n⟩:=kjx hv z;have C:=(kcl ht hm).resolve_left (fun h=>by cases h.1);have e1:=klh P w (some y) true c M (kcl ht hl) (kcl ht q) (.inr C) h1 r (by omega) (fun _=>s);refine kad w (.slice (some ⟨b,offE 0 L M de.size,none⟩) (H - L) (M - L)) ?_ ⟨kaf _, .bsl hK (by omega) rfl fun _=>⟨b,M - L,A,rfl,by omega,by omega,rfl⟩⟩;have k:=(l.get f).size (P:=P) (w:=w);rw [<- kxe];simp only [qa9] at e1;simp [execOp,p,Instr.sliceAt,Instr.slice,run_underlying ((l.get hd).slice hk),j,e1,k];split <;> rfl
theorem kahs {x:Operand} {lo hi mx:Option Operand} {n e:Nat} {de:TD} {g off L H M:Nat} {cells:List AV} (m:o.op = .slice t x lo hi mx) (l:TOk P T) (hd:kae T t=some d) (hk:d.kind = .arr n e) (h:kae T e=some de) (hx:st.eval x = .ref id g off) (i:objC st id=some (g,cells))
  (hl:ke2 st 0 lo=some L) (p:ke2 st n hi=some H) (hm:ke2 st n mx=some M) (h1:L<=H) (q:H<=M) (r:M<=n) (s:mx.isSome=true->hi.isSome=true) (hn:n<=9223372036854775807):NStep P o st (.bsl id g (offE off L M de.size) (H - L) (some (M - L))):=by
 intro ψ S a w ht y;obtain ⟨z,b0,_,_,f,_⟩:=kh3 y i;have hv:=Sim.eval_tmps ht x;rw [hx] at hv;have b:g<=ψ.len id/\id∈st.ids/\a.eval x = .pointer (some ⟨b0,off,none⟩):=by
  generalize a.eval x=u at hv;cases hv with
  | ref hK hn h1 hv=>
   obtain ⟨b',c,rfl⟩:=hv z.symm;rw [f] at c;simp only [qc] at c;rw [c];exact ⟨hn,hK,rfl⟩
 obtain ⟨j,hK,b⟩:=b;have e1:=klh P w _ false _ _ (kcl ht hl) (kcl ht p) (kcl ht hm) h1 q r s;refine kad w (.slice (some ⟨b0,offE off L M de.size,none⟩) (H - L) (M - L)) ?_ ⟨kaf _, .bsl hK j rfl fun _=>⟨b0,M - L,f,rfl,by omega,by omega,rfl⟩⟩;have k:=(l.get h).size (P:=P) (w:=w);rw [<- kxe];simp [execOp,m,Instr.sliceAt,run_underlying ((l.get hd).arr hk),Instr.sureAddr,b,e1,k]
theorem k2k {v:Value} {x:AV} {s n:Nat} {xs:List FV} (h:RV ψ K S w v x) (hx:lstX x=some (s,n,xs)):∃ A cap,v = .slice A n cap/\RF S w (.slice A n cap) (.lst s n xs):=by
 unfold lstX at hx;split at hx;simp only [qc,qq] at hx;obtain ⟨rfl,rfl,rfl⟩:=hx;have h:=h.inv;obtain ⟨A,cap,css,rfl,_⟩:=h.lst_inv;exact ⟨A,cap,rfl,h⟩
 ·simp only [qc,qq] at hx;obtain ⟨rfl,rfl,rfl⟩:=hx;cases h with
  | lim h=>exact ⟨_,_,rfl,h⟩
 ·cases hx
theorem n_slF {x:Operand} {lo hi:Option Operand} {e:TypeId} {de:TD} {n L H:Nat} {xs:List FV} (p:o.op = .slice t x lo hi none) (l:TOk P T) (hd:kae T t=some d) (hk:d.kind = .slice e) (b:kae T e=some de) (hx:lstX (st.eval x)=some (de.size,n,xs))
  (hl:ke2 st 0 lo=some L) (q:ke2 st n hi=some H) (h1:L<=H) (r:H<=n):NStep P o st (.fz (.lst de.size (H - L) ((xs.take H).drop L))):=by
 intro ψ S a w ht u;obtain ⟨A,cap,c,m⟩:=k2k (Sim.eval_tmps ht x) hx;obtain ⟨_,_,css,f,hn,s,hm,_⟩:=m.lst_inv;injection f with q1 q2 q3;subst q1 q3;have e1:=klh P w none true cap cap (kcl ht hl) (kcl ht q) (.inl ⟨rfl,rfl⟩) h1 (by omega) (qw _) (fun h=>by cases h);obtain ⟨A',g,i⟩:=m.take (v := .nilFunc) (k:=0) L H h1 r;refine kad w (.slice A' (H - L) (cap - L)) ?_ ⟨kaf _,(RV.fz i).here⟩;have j:=(l.get b).size (P:=P) (w:=w);simp only [Option.map_none] at e1;simp [execOp,p,Instr.sliceAt,Instr.slice,run_underlying ((l.get hd).slice hk),c,e1,j,g]
theorem RF.takeE {A:Option Addr} {cap n size:Nat} {xs:List FV} (h:RF S w (.slice A n cap) (.lst size n xs)) (lo hi:Nat) (h1:lo<=hi) (e:hi<=n):RF S w (.slice (if hi=lo then A else A.map (·.add (lo*size))) (hi - lo) (hi - lo)) (.lst size (hi - lo) ((xs.take hi).drop lo)):=by
 obtain ⟨A0,cap0,css,hv,hn,hc,hm,hs,ha,hl,hr⟩:=h.lst_inv;injection hv with e1 _ e3;subst e1 e3;have a:(xs.take hi).length=hi:=by rw [qap];omega
 have get:∀ (i:Nat) (x:FV),((xs.take hi).drop lo)[i]?=some x->xs[lo+i]?=some x:=fun i x hx=>by
  rw [qag,q9] at hx;split at hx;exact hx
  ·cases hx
 refine .lst (fun i=>css (lo+i)) (by rw [qa2,a]) (by omega) (by omega) hs (fun i x hx=>?_) (fun i x hx=>hl _ x (get i x hx)) fun i x j v y hx hv hy=>hr _ x j v y (get i x hx) hv hy;obtain ⟨b,o,hA,hS,c⟩:=ha _ x (get i x hx);have d:=(qj.1 hx).1;rw [qa2,a] at d;refine ⟨b,o+lo*size,?_,hS,by rw [Nat.add_assoc,<- qa3];exact c⟩;rw [ql (by omega),hA];simp only [qa9,kck]
theorem kajo {x y:Operand} {lo hi:Option Operand} {e:TypeId} {de:TD} {n L H:Nat} {xs:List FV} (l:o.op = .slice t x lo hi (some y)) (j:TOk P T) (hd:kae T t=some d) (hk:d.kind = .slice e) (b:kae T e=some de) (hx:lstX (st.eval x)=some (de.size,n,xs))
  (hl:ke2 st 0 lo=some L) (m:ke2 st n hi=some H) (hm:ke2 st 0 (some y)=some H) (h1:L<=H) (p:H<=n) (q:hi.isSome=true):NStep P o st (.lim de.size (H - L) ((xs.take H).drop L)):=by
 intro ψ S a w ht z;obtain ⟨A,cap,c,k⟩:=k2k (Sim.eval_tmps ht x) hx;obtain ⟨_,_,css,f,hn,r,s,_⟩:=k.lst_inv;injection f with q1 q2 q3;subst q1 q3;have u:=(kcl ht hm).resolve_left (fun h=>by cases h.1);have e1:=klh P w (some y) true cap H (kcl ht hl) (kcl ht m) (.inr u) h1 (qw _) (by omega) (fun _=>q);have g:=k.takeE L H h1 p;refine kad w (.slice (if H=L then A else A.map (·.add (L*de.size))) (H - L) (H - L)) ?_ ⟨kaf _,(RV.lim g).here⟩;have i:=(j.get b).size (P:=P) (w:=w);simp only [qa9] at e1;simp [execOp,l,Instr.sliceAt,Instr.slice,run_underlying ((j.get hd).slice hk),c,e1,i]
theorem n_sl0 {x:Operand} {lo hi mx:Option Operand} {e:TypeId} {de:TD} (g:o.op = .slice t x lo hi mx) (f:TOk P T) (hd:kae T t=some d) (hk:d.kind = .slice e) (b:kae T e=some de) (hx:st.eval x = .fz (.atom nilV))
  (hl:ke2 st 0 lo=some 0) (h:ke2 st 0 hi=some 0) (hm:ke2 st 0 mx=some 0) (i:mx.isSome=true->hi.isSome=true):NStep P o st (.fz (.atom nilV)):=by
 intro ψ S a w ht j;have hv:=Sim.eval_tmps ht x;rw [hx] at hv;have hv:=hv.atom;have e1:=klh P w _ true _ _ (kcl ht hl) (kcl ht h) (kcl ht hm) (qw _) (qw _) (qw _) i;refine kad w nilV ?_ ⟨kaf _, .fz (.atom rfl)⟩;have c:=(f.get b).size (P:=P) (w:=w);simp [execOp,g,Instr.sliceAt,Instr.slice,run_underlying ((f.get hd).slice hk),hv,nilV,e1,c]
theorem kaj6 {x:Operand} {e:TypeId} {g off len:Nat} {cap:Option Nat} {cells:List AV} (i:o.op = .call { callee := .builtin .len,args:=#[x],argTypes:=#[t] }) (hd:TdOk P t d) (hk:d.kind = .slice e) (hx:st.eval x = .bsl id g off len cap) (f:objC st id=some (g,cells)):NStep P o st (.fz (.atom (.int .i64 len))):=by intro ψ S a w ht j;obtain ⟨k,_⟩:=kh3 j f;have hv:=Sim.eval_tmps ht x;rw [hx] at hv;obtain ⟨hK,b,c,l,h,_⟩:=kjx hv k;refine kad w (.int .i64 len) ?_ ⟨kaf _, .fz (.atom rfl)⟩;simp [execOp,i,resolve,invoke,builtin,Builtin.len_,run_underlying (hd.slice hk),h,goInt]
theorem kakn {x:Operand} {e:TypeId} {sz m k:Nat} {ys:List AV} (f:o.op = .call { callee := .builtin .cap,args:=#[x],argTypes:=#[t] }) (hd:TdOk P t d) (hk:d.kind = .slice e) (hx:rdSl sz st (st.eval x)=some (m,some k,ys)):NStep P o st (.fz (.atom (.int .i64 k))):=by intro ψ S a w ht g;obtain ⟨A,cap,c,_,_,b,_⟩:=krm (Sim.eval_tmps ht x) g hx;obtain rfl:=b k rfl;refine kad w (.int .i64 cap) ?_ ⟨kaf _, .fz (.atom rfl)⟩;simp [execOp,f,resolve,invoke,builtin,Builtin.cap_,run_underlying (hd.slice hk),c,goInt]
theorem kzk {op:BinOp} {x y:Operand} {u v:Option Addr} {n m c d:Nat}:(eqGuard op t x y (.slice u n c) (.slice v m d)).run P w = .ok () w:=by unfold eqGuard;cases op <;> simp
theorem kabe (u v:Option Addr) (n m c e:Nat) (r:Bool) (h:∀ d:Nat,(Op.equalIn (d+1) t (.slice u n c) (.slice v m e)).run P w = .ok r w):(binOp .eql t (.slice u n c) (.slice v m e)).run P w = .ok (.bool r) w/\(binOp .neq t (.slice u n c) (.slice v m e)).run P w = .ok (.bool !r) w:=by constructor <;> (simp only [binOp];simp [Op.equal,Op.maxDepth,h 9999])
theorem kab4 {x y:Operand} {yt te:TypeId} (neg r:Bool) (l:o.op = .binOp (if neg then .neq else .eql) t x y yt) (ht:P.underlying t=some (.slice te)) (hx:(r=true/\st.eval x = .fz (.atom nilV))\/(r=false/\((∃ id g off len cap cells,st.eval x = .bsl id g off len cap/\objC st id=some (g,cells))\/∃ s n z zs,lstX (st.eval x)=some (s,n,z::zs)))) (hy:st.eval y = .fz (.atom nilV)):
  NStep P o st (.fz (.atom (.bool (bif neg then !r else r)))):=by
 intro ψ S a w h p;have h1:=Sim.eval_tmps h x;have i:=Sim.eval_tmps h y;rw [hy] at i;have i:=i.atom;have key:∃ A n c,a.eval x = .slice A n c/\A.isNone=r:=by
  rcases hx with ⟨rfl,hx⟩ | ⟨rfl,⟨id,g,off,len,cap,cells,hx,j⟩ | ⟨s,n,z,zs,hx⟩⟩;rw [hx] at h1;exact ⟨none,0,0,h1.atom,rfl⟩;rw [hx] at h1;obtain ⟨q,_⟩:=kh3 p j;obtain ⟨hK,b,c,D,f,_⟩:=kjx h1 q;exact ⟨_,_,_,f,rfl⟩
  ·obtain ⟨A,cap,f,B⟩:=k2k h1 hx;obtain ⟨_,_,css,k,hn,C,hm,hs,ha,_⟩:=B.lst_inv;injection k with q1 q2 q3;subst q1 q3;obtain ⟨b,o,rfl,_⟩:=ha 0 z rfl;exact ⟨_,_,_,f,rfl⟩
 obtain ⟨A,n,c,f,hA⟩:=key;refine kad w (.bool (bif neg then !r else r)) ?_ ⟨kaf _, .fz (.atom rfl)⟩;obtain ⟨q1,q2⟩:=kabe (t:=t) (w:=w) (P:=P) A none n 0 c 0 r fun d=>by cases A <;> simp at hA <;> subst hA <;> simp [Op.equalIn,run_underlying ht]
 cases neg;simp [execOp,l,f,i,nilV,kzk] at q1 ⊢;simp [q1]
 ·simp [execOp,l,f,i,nilV,kzk] at q2 ⊢;simp [q2]
theorem kahr {x y:Operand} {t1 t2 e:TypeId} {d1 de:TD} {g off len n:Nat} {cap c2:Option Nat} {cells ys:List AV} (m:o.op = .call { callee := .builtin .copy,args:=#[x,y],argTypes:=#[t1,t2] }) (B:TOk P T) (hd:kae T t1=some d1) (hk:d1.kind = .slice e) (p:kae T e=some de)
  (hx:st.eval x = .bsl id g off len cap) (i:objC st id=some (g,cells)) (hy:rdSl de.size st (st.eval y)=some (n,c2,ys)) (q:off+(ys.take (min n len*de.size)).length<=cells.length):
  StepA P o st (.fz (.atom (.int .i64 ((min n len:Nat):Int)))) (putC st id (kc8 cells off (ys.take (min n len*de.size)))) st.ids:=by
 intro F S0 N0 ψ S a w f;have d:=f.core;have C:=fun id o m=>(d.obj id o m).2.1;obtain ⟨G,_⟩:=kh3 C i;have hv:=f.eval x;rw [hx] at hv;obtain ⟨hK,b,c,H,r,_⟩:=kjx hv G;obtain ⟨A,cap',s,_,_,_,cs,D,I,E⟩:=krm (f.eval y) C hy;have t:CR ψ (·∈st.ids) S w (cs.take (min n len*de.size)) (ys.take (min n len*de.size)):=by simpa using D.sub 0 (min n len*de.size)
 obtain ⟨b',w1,q1,q2,q3,q4,q5⟩:=k21 (P:=P) d i q t;rw [H] at q1;simp only [qc] at q1;subst q1;have J:(min n len)*de.size<=n*de.size:=qau _ (Nat.min_le_left n len);have u:(Builtin.firstCells de.size (min n len) (.slice A n cap')).run P w = .ok (cs.take (min n len*de.size)).toArray w:=by
  cases A with
  | none=>
   obtain ⟨rfl,rfl⟩:=E;simpa using run_firstCells_none (P:=P) w de.size (min 0 len) 0 cap'
  | some ad=>
   refine run_firstCells_some w de.size (min n len) ad n cap' _ (by rw [qap,D.1,I];omega) fun j v l=>?_;rw [q9] at l;split at l;exact E j v l
   ·cases l
 refine kad w1 (.int .i64 ((min n len:Nat):Int)) ?_ ⟨ψ,S,q3, .fz (.atom rfl),q4,Ext.refl,fun _ h=>h,fun _ h=>h,q5⟩;have z:=(B.get p).size (P:=P) (w:=w);have k:Nat.min n len=min n len:=rfl;simp [execOp,m,resolve,invoke,builtin,Builtin.copy_,run_underlying ((B.get hd).slice hk),r,s,Builtin.lenOf,z,k,u,q2,goInt]
theorem k4e:∀ {l:List AV} {r:List Int},kuc l=some r->l=r.map fun n => .fz (.atom (.int .u8 n))
 | [],r,h=>by simp only [kuc,qc] at h;subst h;rfl
 | x::l,r,h=>by
  unfold kuc at h;split at h;rename_i h0;cases h0
  ·rename_i n l' h0;injection h0 with h1 a;subst h1 a;split at h;rename_i r' hr;injection h with h;subst h;rw [k4e hr];rfl
   ·cases h
  ·cases h
theorem kajj {sr e:TypeId} {x:Operand} {n:Nat} {c:Option Nat} {ys:List AV} {xs:List Int} {ds de:TD} (g:TOk P T) (s:o.op = .convert sr t x) (hs:kae T sr=some ds) (h:ds.kind = .slice e) (u:kae T e=some de) (i:de.kind = .int .u8) (hd:kae T t=some d) (hk:d.kind = .str)
  (hx:rdSl 1 st (st.eval x)=some (n,c,ys)) (hi:kuc ys=some xs):NStep P o st (.fz (.atom (.string (toBA xs)))):=by
 intro ψ S a w ht y;obtain ⟨A,cap,k,_,_,_,cs,l,z,q⟩:=krm (Sim.eval_tmps ht x) y hx;obtain rfl:=k4e hi;obtain ⟨_,e',h1,m⟩:=g.get u;rw [i] at m;cases e' <;> simp only [kfv] at m;subst m;have p:cs=xs.map (Value.int .u8):=by
  apply List.ext_getElem?;intro j;by_cases r:j<cs.length;have b:j<xs.length:=(by have:=l.1;simp at this;omega);have:=l.2.2 j cs[j] _ (qb r) (by rw [qr,qb b];rfl);rw [qb r,this.atom];simp [b]
  ·have:=l.1;simp at this;rw [qbp (by omega),qbp (by simp;omega)]
 refine kad w (.string (toBA xs)) ?_ ⟨kaf _, .fz (.atom rfl)⟩;have hn:xs.length=n:=by simpa using z
 have f:(Conv.bytesToString (.slice A n cap)).run P w = .ok (.string (toBA xs)) w:=by
  cases A with
  | none=>
   obtain ⟨rfl,h0⟩:=q;have:xs=[]:=qar hn;subst this;rfl
  | some ad=>
   refine run_bytesToString w ad n cap xs ?_;have:=run_loadCells_list (P:=P) w ad cs q;rw [p] at this
   rwa [qaw,hn] at this
 simp only [execOp,s,k,Sem.run_bind];rw [run_convert_bytes_string w sr t e A n cap ((g.get hs).slice h) h1 ((g.get hd).str hk),f];rfl
end
open Go.ChangeMaps (setBlock)
def k41:Value->Value->Option Bool
 | .int a m, .int b n=>if a=b then some (m == n) else none
 | .string s, .string u=>some (s.toList == u.toList)
 | _,_=>none
def ku5 (k:Value):List (Value×AV)->Nat->Option (Option (Nat×AV))
 | [],_=>some none
 | (k',x)::l,i=>match k41 k k' with
  | some true=>some (some (i,x))
  | some false=>ku5 k l (i+1)
  | none=>none
def keyK:TK->Value->Bool
 | .int k, .int n _=>decide (k=n)
 | .str, .string _=>true
 | _,_=>false
def vput (k:Value) (kv:List (Value×AV)) (z:AV):Option (List (Value×AV)):=match ku5 k kv 0 with
 | some (some (j,_))=>some (kv.set j (k,z))
 | some none=>some (kv++[(k,z)])
 | none=>none
def ks9 (seen:List Nat):Nat->List Nat
 | 0=>[]
 | n+1=>bif seen.contains n then ks9 seen n else n::ks9 seen n
def ZOk (P:Program) (Z:List (TypeId×Value)):Prop:=∀ p∈Z,∃ i,P.info? p.1=some i/\i.zero=some p.2
def k0v:List (TypeId×Value)->TypeId->Option Value
 | [],_=>none
 | (k,v)::l,t=>bif Nat.beq k t then some v else k0v l t
section
variable {P:Program} {F S0:Nat->Prop} {N0:Nat} {w w':World} {S S':Nat->Prop} {ψ ψ':Env} {K:Nat->Prop} {T:List (TypeId×TD)} {o:Oper} {a:Act} {st:St} {t tx:TypeId} {d:TD} {id:Nat} {kv:List (Value×AV)} {Z:List (TypeId×Value)}
theorem ZOk.get (h:ZOk P Z) {v:Value} (ht:k0v Z t=some v) (w:World):(zeroValue t).run P w = .ok v w:=by
 induction Z with
 | nil=>cases ht
 | cons p l ih=>
  obtain ⟨k,u⟩:=p;simp only [k0v] at ht;by_cases hk:k=t;subst hk;simp only [Nat.beq_refl,qe,qc] at ht;subst ht;obtain ⟨i,h1,a⟩:=h _ (qx ..);simp [zeroValue,typeInfo,h1,a]
  ·rw [Nat.beq_eq_false hk] at ht;exact ih (fun p hp=>h p (qk _ hp)) ht
theorem TdOk.mpX {k e:Nat} (h:TdOk P t d) (hk:d.kind = .map k e):P.underlying t=some (.map k e):=by obtain ⟨_,e',h1,a⟩:=h;rw [hk] at a;cases e' <;> simp [kfv] at a;rw [h1,a.1,a.2]
theorem k8j {k:Value} (h:TdOk P t d) (hk:keyK d.kind k=true):∃ td,P.underlying t=some td/\MapKept.IsKey td k/\((∃ ik n m,td = .int ik/\k = .int n m)\/(td = .string/\∃ s,k = .string s))/\k.oneCell'=true:=by
 obtain ⟨_,e',h1,b⟩:=h;unfold keyK at hk;split at hk;rename_i ik n m a;rw [a] at b;cases e' <;> simp [kfv] at b;exact ⟨_,h1,by simp only [decide_eq_true_eq] at hk;rw [b];exact hk.symm, .inl ⟨_,_,_,rfl,rfl⟩,rfl⟩;rename_i s a;rw [a] at b;cases e' <;> simp [kfv] at b;exact ⟨_,h1,trivial, .inr ⟨rfl,s,rfl⟩,rfl⟩
 ·cases hk
theorem k68 {k k':Value} {td:TypeDesc} {b:Bool} (hd:(∃ ik n m,td = .int ik/\k = .int n m)\/(td = .string/\∃ s,k = .string s)) (h:k41 k k'=some b):Instr.sameNow td k k'=some b/\(b=true->k'=k):=by
 rcases hd with ⟨ik,n,m,rfl,rfl⟩ | ⟨rfl,s,rfl⟩
 ·cases k' <;> simp only [k41] at h <;> try cases h
  rename_i n' m';split at h;rename_i hn;subst hn;injection h with h;refine ⟨by simp [Instr.sameNow,h],fun a=>?_⟩;rw [a] at h;simp at h;rw [h]
  ·cases h
 ·cases k' <;> simp only [k41] at h <;> try cases h
  rename_i s';rw [kkh];exact ⟨rfl,fun a=>by rw [MapKept.bytes_beq] at a;rw [a]⟩
theorem ksy {k:Value} {td:TypeDesc} (hd:(∃ ik n m,td = .int ik/\k = .int n m)\/(td = .string/\∃ s,k = .string s)):∀ (es:List MapEntry) (kv:List (Value×AV)) (i:Nat) (r:Option (Nat×AV)),es.length=kv.length->(∀ (j:Nat) (e:MapEntry) (p:Value×AV),es[j]?=some e->kv[j]?=some p->e.key=p.1)->ku5 k kv i=some r ->
  (r=none/\Instr.findNow td k es i=some none)\/∃ j x e,r=some (i+j,x)/\kv[j]?=some (k,x)/\es[j]?=some e/\Instr.findNow td k es i=some (some (i+j,e.val))
 | [],[],i,r,_,_,h=>by simp only [ku5,qc] at h;exact .inl ⟨h.symm,rfl⟩
 | [],p::kv,i,r,h,_,_=>by cases h
 | e::es,[],i,r,h,_,_=>by cases h
 | e::es,(k',x)::kv,i,r,hl,hr,h=>by
  have hk:e.key=k':=hr 0 e (k',x) rfl rfl;simp only [ku5] at h;split at h;rename_i a;injection h with h;obtain ⟨q1,q2⟩:=k68 hd a;obtain rfl:=q2 rfl;exact .inr ⟨0,x,e,h.symm,rfl,rfl,by simp only [Instr.findNow,hk,q1];rfl⟩
  ·rename_i a;obtain ⟨q1,_⟩:=k68 hd a;rcases ksy hd es kv (i+1) r (by simpa using hl) (fun j e p c hp=>hr (j+1) e p (by simpa using c) (by simpa using hp)) h with ⟨h1,b⟩ | ⟨j,y,e',h1,b,d,f⟩;exact .inl ⟨h1,by simp only [Instr.findNow,hk,q1];exact b⟩
   ·exact .inr ⟨j+1,y,e',by rw [h1];congr 2;omega,by simpa using b,by simpa using d,by simp only [Instr.findNow,hk,q1];rw [f];congr 3;omega⟩
  ·cases h
theorem kyv {v:Value} (hs:XobR ψ K S w id (.amap kv)) (hv:RV ψ K S w v (.mp id)):v=ψ.val id:=by
 cases hv with
 | mp hK h1 hv=>exact hv hs.1.symm
theorem kaaq (g:o.op = .makeMap t none) (d:st.ids.contains id=false):StepA P o st (.mp id) ((id, .xo (.amap []))::st.heap) (id::st.ids):=by
 have d:id∉st.ids:=by simpa using d
 intro F S0 N0 ψ S a w f;have c:=f.core;refine kad (w.alloc (.map #[] 0)) (.map (some w.heap.size)) ?_ ⟨ψ.set id 0 (.map (some w.heap.size)),S,?_,?_,kiv _ c.fr,kbm d _ _,fun _ h=>qk _ h,fun _ h=>h,Same.of_grow (kbn _ _)⟩;simp [execOp,g,Instr.makeMap];exact c.add (kbn _ _) d (fun b j=>by simp [kay] at j;omega) ⟨kbv _ _,w.heap.size,_,kan _ _,heap_alloc_new w _,rfl,fun i e p k hp=>by simp at k⟩
 ·exact .mp (qx ..) rfl fun _=>by rw [kan]
theorem kabf {x y:Operand} {ok:Bool} {kt et:TypeId} {kd:TD} {k:Value} {r:Option (Nat×AV)} {c:AV} (F:o.op = .lookup t x y ok) (G:TOk P T) (J:ZOk P Z) (hd:kae T t=some d) (hk:d.kind = .map kt et) (h:kae T kt=some kd) (hx:st.eval x = .mp id) (C:kaa st.heap id=some (.xo (.amap kv)))
  (hy:st.eval y = .fz (.atom k)) (D:keyK kd.kind k=true) (n:ku5 k kv 0=some r) (hc:(match r with | some (_,z)=>some z | none=>(match k0v Z et with | some zv=>bif zv.oneCell' then some (AV.fz (.atom zv)) else none | none=>none))=some c):
  NStep P o st (bif ok then .tup [c, .fz (.atom (.bool r.isSome))] else c):=by
 intro ψ S a w ht K;have hd:=G.get hd;have h:=G.get h;have hv:=Sim.eval_tmps ht x;rw [hx] at hv;have q:XobR ψ (·∈st.ids) S w id (.amap kv):=K id _ C;have s:=kyv q hv;obtain ⟨h0,b,es,g,H,E,hr⟩:=q;have f:=Sim.eval_tmps ht y;rw [hy] at f;have f:=f.atom;obtain ⟨td,g1,g2,g3,_⟩:=k8j h D;have A:=MapKept.run_checkKey (w:=w) g1 g2 es.isEmpty 9999;have fin:∀ u:Value,RV ψ (·∈st.ids) S w u c->(execOp a.eval o).run P w = .ok (.value (if ok then .tuple #[u, .bool r.isSome] else u)) w->kek P o a w fun v w'=>Grow w w'/\RV ψ (·∈st.ids) (fun b=>S b\/w.heap.size<=b) w' v (bif ok then .tup [c, .fz (.atom (.bool r.isSome))] else c):=fun u I B=>by
  refine kad _ _ B ⟨kaf _,?_⟩;cases ok with
  | false=>exact I.here
  | true=>
   refine (RV.tup rfl fun i v z hv l=>?_).here
   match i with
   | 0=>simp at hv l;subst hv l;exact I
   | 1=>simp at hv l;subst hv l;exact .fz (.atom rfl)
   | i+2=>simp at l
 rcases ksy g3 es.toList kv 0 r (by simpa using E) (fun j e p L hp=>(hr j e p (by simpa using L) hp).1) n with ⟨rfl,f1⟩ | ⟨j,z,e,rfl,f2,f3,f4⟩
 ·have n:=MapKept.run_findKey (w:=w) g1 f1;simp only at hc;split at hc
  ·rename_i zv l;cases m:zv.oneCell' with
   | false=>rw [m] at hc;cases hc
   | true=>
    rw [m] at hc;simp only [qe,qc] at hc;subst hc;refine fin zv (.fz (.atom m)) ?_;cases ok <;> simp [execOp,F,f,s,g,Instr.lookup,run_underlying (hd.mpX hk),MapKept.run_getObj_map H,A,n,J.get l w]
  ·cases hc
 ·have n:=MapKept.run_findKey (w:=w) g1 f4;simp only [qc] at hc;subst hc;refine fin e.val (hr j e _ (by simpa using f3) f2).2.2 ?_;cases ok <;> simp [execOp,F,f,s,g,Instr.lookup,run_underlying (hd.mpX hk),MapKept.run_getObj_map H,A,n]
theorem k33 (h0:ψ.len id=0):ψ.set id 0 (ψ.val id)=ψ:=by
 have:=k0b (ψ:=ψ) (id:=id)
 rwa [h0] at this
theorem k64 {x y v:Operand} {kt et:TypeId} {kd:TD} {k:Value} {kv':List (Value×AV)} (U:o.op = .mapUpdate t x y v) (V:TOk P T) (hd:kae T t=some d) (hk:d.kind = .map kt et) (D:kae T kt=some kd) (hx:st.eval x = .mp id) (E:kaa st.heap id=some (.xo (.amap kv)))
  (hy:st.eval y = .fz (.atom k)) (O:keyK kd.kind k=true) (hp:vput k kv (st.eval v)=some kv'):StepA P o st .any ((id, .xo (.amap kv'))::st.heap) st.ids:=by
 intro F S0 N0 ψ S a w q;have hd:=V.get hd;have D:=V.get D;have g:=q.core;obtain ⟨Y,r,Q⟩:=g.obj id _ E;have r:XobR ψ (·∈st.ids) S w id (.amap kv):=r;have G:=q.eval x;rw [hx] at G;have H:=kyv r G;obtain ⟨h0,b,es,f,u,l,hr⟩:=r;have m:=q.eval y;rw [hy] at m;have m:=m.atom;have I:=q.eval v;obtain ⟨td,g1,g2,g3,g4⟩:=k8j D O;have J:=MapKept.run_checkKey (w:=w) g1 g2 false 9999;have A:=k33 h0;have main:∀ es':Array MapEntry,es'.size=kv'.length ->
   (∀ (i:Nat) (e:MapEntry) (p:Value×AV),es'[i]?=some e->kv'[i]?=some p->e.key=p.1/\e.born=i/\RV ψ (·∈st.ids) S w e.val p.2) ->
   (execOp a.eval o).run P w = .ok .skip { w with heap:=w.heap.setIfInBounds b (.map es' kv'.length) } ->
   kek P o a w fun v w'=>∃ ψ' S',Core F S0 N0 ((id, .xo (.amap kv'))::st.heap) st.ids ψ' S' w'/\RV ψ' (·∈st.ids) S' w' v .any/\Fr F w w'/\Ext (·∈st.ids) ψ ψ'/\(∀ id,id∈st.ids->id∈st.ids)/\(∀ b,S b->S' b)/\Same S w w':=by
  intro es' K R L;obtain ⟨q1,q2⟩:=MapKept.heap_set (o' := .map es' kv'.length) u;have X:({ w with heap:=w.heap.setIfInBounds b (.map es' kv'.length) }:World).heap.size=w.heap.size:=by simp
  have B:∀ k,k<w.heap.size->¬ Blk (ψ.val id) k->({ w with heap:=w.heap.setIfInBounds b (.map es' kv'.length) }:World).heap[k]?=w.heap[k]?:=fun k _ hk=>q2 k fun e=>hk (.of (by rw [f,e];rfl));have hk:Same S w { w with heap:=w.heap.setIfInBounds b (.map es' kv'.length) }:=fun k hk hl=>B k hl fun e=>(Q k e).1 hk;obtain ⟨c1,c2,c3⟩:=g.upd (n:=0) (v:=ψ.val id) (w':={ w with heap:=w.heap.setIfInBounds b (.map es' kv'.length) }) (ob' := .xo (.amap kv')) E (by omega) B (.inr ⟨h0,rfl⟩) (fun b u => .inl u) (by rw [A];refine ⟨h0,b,es',f,q1,K,fun i e p c hp=>?_⟩;obtain ⟨r1,r2,r3⟩:=R i e p c hp;exact ⟨r1,r2,r3.keep Ext.refl (fun _ h=>h) (fun _ h=>h) hk⟩);rw [A] at c1;exact kl2 _ L ⟨ψ,S,c1, .any,⟨rfl,rfl,rfl,by omega,c3,no0⟩,Ext.refl,fun _ h=>h,fun _ h=>h,c2⟩
 unfold vput at hp;split at hp
 ·rename_i j z0 C;injection hp with hp;subst hp;rcases ksy g3 es.toList kv 0 _ (by simpa using l) (fun j e p c hp=>(hr j e p (by simpa using c) hp).1) C with ⟨h,_⟩ | ⟨j',z,e,f1,f2,f3,f4⟩;cases h
  ·simp only [Nat.zero_add,qc,qq] at f1;obtain ⟨rfl,rfl⟩:=f1;have C:=MapKept.run_findKey (w:=w) g1 f4;simp only [Nat.zero_add] at C;have Z:j<kv.length:=(qj.1 f2).1;have s:es[j]?=some e:=(by simpa using f3);have M:e.key=k:=(hr j e _ s f2).1;refine main (es.modify j fun e=>{ e with key:=k,val:=a.eval v }) (by simpa using l) (fun i e' p c hp=>?_) ?_
   ·rw [Array.getElem?_modify] at c;by_cases hi:j=i;subst hi;rw [qs rfl,s] at c;simp only [qa9,qc] at c;subst c;rw [List.getElem?_set_self Z] at hp;injection hp with hp;subst hp;exact ⟨rfl,(hr j e _ s f2).2.1,I⟩
    ·rw [ql hi] at c;rw [List.getElem?_set_ne hi] at hp;exact hr i e' p c hp
   ·have N:(Instr.keyThatStays (((es[j]?).map (·.key)).getD k) k).run P w = .ok k w:=(by rw [s];simp only [qa9,qbk,M];exact MapKept.run_keyThatStays (d:=td) g2);simp [execOp,U,m,H,f,Instr.mapUpdate,run_underlying (hd.mpX hk),MapKept.run_getObj_map u,J,C,MapKept.run_setObj_map _ u];simp [N,MapKept.run_setObj_map _ u]
 ·rename_i C;injection hp with hp;subst hp;rcases ksy g3 es.toList kv 0 _ (by simpa using l) (fun j e p c hp=>(hr j e p (by simpa using c) hp).1) C with ⟨_,f1⟩ | ⟨j',z,e,f1,_⟩
  ·have C:=MapKept.run_findKey (w:=w) g1 f1;refine main (es.push { key:=k,val:=a.eval v,born:=kv.length }) (by simpa using l) (fun i e p c hp=>?_) ?_
   ·rw [Array.getElem?_push] at c;by_cases hi:i=es.size;rw [qs hi] at c;injection c with c;subst c;rw [qao (by omega),hi,l,Nat.sub_self] at hp;simp only [List.getElem?_cons_zero,qc] at hp;subst hp;exact ⟨rfl,by show kv.length=i;omega,I⟩
    ·rw [ql hi] at c;have aa:i<es.size:=(qai.1 c).1;rw [qah (by omega)] at hp;exact hr i e p c hp
   ·simp [execOp,U,m,H,f,Instr.mapUpdate,run_underlying (hd.mpX hk),MapKept.run_getObj_map u,J,C,MapKept.run_setObj_map _ u]
  ·cases f1
 ·cases hp
theorem kajr {x:Operand} {kt et:TypeId} (i:o.op = .call { callee := .builtin .len,args:=#[x],argTypes:=#[t] }) (hd:TdOk P t d) (hk:d.kind = .map kt et) (hx:st.eval x = .mp id) (f:kaa st.heap id=some (.xo (.amap kv))):NStep P o st (.fz (.atom (.int .i64 kv.length))):=by intro ψ S a w ht j;have hv:=Sim.eval_tmps ht x;rw [hx] at hv;have c:XobR ψ (·∈st.ids) S w id (.amap kv):=j id _ f;have g:=kyv c hv;obtain ⟨h0,b,es,e,k,h,hr⟩:=c;refine kad w (.int .i64 kv.length) ?_ ⟨kaf _, .fz (.atom rfl)⟩;simp [execOp,i,resolve,invoke,builtin,Builtin.len_,run_underlying (hd.mpX hk),g,e,MapKept.run_getObj_map k,h,goInt]
theorem kad6 {x:Operand} {m:Nat} {kt et:TypeId} (r:o.op = .range t x) (hd:TdOk P t d) (hk:d.kind = .map kt et) (hx:st.eval x = .mp m) (l:kaa st.heap m=some (.xo (.amap kv))) (f:st.ids.contains id=false):
  StepA P o st (.ref id 0 0) ((id, .xo (.mit m kv.length [] kv.length))::st.heap) (id::st.ids):=by
 have f:id∉st.ids:=by simpa using f
 intro F S0 N0 ψ S a w j;have c:=j.core;obtain ⟨k,g,_⟩:=c.obj m _ l;have g:XobR ψ (·∈st.ids) S w m (.amap kv):=g;have hv:=j.eval x;rw [hx] at hv;have n:=kyv g hv;obtain ⟨h0,b,es,i,p,s,hr⟩:=g;have q:m≠id:=fun e=>f (e ▸ k);refine kad (w.alloc (.mapIter (some b) kv.length #[] kv.length)) (.pointer (some ⟨w.heap.size,0,none⟩)) ?_ ⟨ψ.set id 0 (.pointer (some ⟨w.heap.size,0,none⟩)),S,?_,?_,kiv _ c.fr,kbm f _ _,fun _ h=>qk _ h,fun _ h=>h,Same.of_grow (kbn _ _)⟩;simp [execOp,r,Instr.range,run_underlying (hd.mpX hk),n,i,MapKept.run_getObj_map p];refine c.add (kbn _ _) f (fun b p=>by simp [kay] at p;omega) ⟨kbv _ _,qk _ k,w.heap.size,b,kan _ _,heap_alloc_new w _,fun _=>?_⟩;rw [(kd0 ψ q _ _).2];exact i
 ·exact .ref (qx ..) (qaj _) rfl fun _=>⟨w.heap.size,by rw [kan];rfl,rfl⟩
theorem kql (seen:List Nat):∀ {n i:Nat},i∈ks9 seen n↔i<n/\i∉seen
 | 0,i=>by simp [ks9]
 | n+1,i=>by
  simp only [ks9];cases h:seen.contains n with
  | true=>
   have h:n∈seen:=(by simpa using h);simp only [qe,kql _];constructor;rintro ⟨h1,a⟩;exact ⟨by omega,a⟩
   ·rintro ⟨h1,a⟩;refine ⟨?_,a⟩;rcases qba i n with b | b;exact b
    ·have:i=n:=(by omega);exact absurd (this ▸ h) a
  | false=>
   have h:n∉seen:=(by simpa using h);simp only [qd,qab,kql _];constructor
   ·rintro (rfl | ⟨h1,a⟩);exact ⟨by omega,h⟩
    ·exact ⟨by omega,a⟩
   ·rintro ⟨h1,a⟩;rcases qba i n with b | b;exact .inr ⟨b,a⟩
    ·exact .inl (by omega)
theorem k2i {m since stepped:Nat} {seen:List Nat} {v:Value} (c:XobR ψ K S w m (.amap kv)) (d:XobR ψ K S w id (.mit m since seen stepped)) (hv:RV ψ K S w v (.ref id 0 0)):
  ∃ r bm es,ψ.val id = .pointer (some ⟨r,0,none⟩)/\v = .pointer (some ⟨r,0,none⟩)/\w.heap[r]?=some (.mapIter (some bm) since seen.toArray stepped)/\w.heap[bm]?=some (.map es kv.length)/\es.size=kv.length /\
   ∀ (i:Nat) (e:MapEntry) (p:Value×AV),es[i]?=some e->kv[i]?=some p->e.key=p.1/\e.born=i/\RV ψ K S w e.val p.2:=by
 obtain ⟨h0,b,es,h1,g,h,j⟩:=c;obtain ⟨k0,km,r,bm,k1,k2,k3⟩:=d;have:=k3 h0.symm;rw [h1] at this;simp only [Value.map.injEq,qc] at this;subst this;refine ⟨r,b,es,k1,?_,k2,g,h,j⟩;cases hv with
 | ref hK hn k f=>
  obtain ⟨b',a,rfl⟩:=f k0.symm;rw [k1] at a;simp only [kay,qc] at a;rw [a]
theorem kaia {x:Operand} {m stepped j:Nat} {seen:List Nat} {p:Value×AV} (ho:o.op = .next x false) (hx:st.eval x = .ref id 0 0) (B:kaa st.heap id=some (.xo (.mit m kv.length seen stepped))) (J:kaa st.heap m=some (.xo (.amap kv))) (K:kv.length<=stepped)
  (hl:ks9 seen kv.length=[j]) (hp:kv[j]?=some p) (L:p.1.oneCell'=true):
  StepA P o st (.tup [.fz (.atom (.bool true)), .fz (.atom p.1),p.2]) ((id, .xo (.mit m kv.length (seen++[j]) kv.length))::st.heap) st.ids:=by
 intro F S0 N0 ψ S a w C;have d:=C.core;obtain ⟨ac,g,M⟩:=d.obj id _ B;have g:XobR ψ (·∈st.ids) S w id (.mit m kv.length seen stepped):=g;obtain ⟨N,y,_⟩:=d.obj m _ J;have y:XobR ψ (·∈st.ids) S w m (.amap kv):=y;have hv:=C.eval x;rw [hx] at hv;obtain ⟨r,bm,es,l,O,hr,Q,ad,R⟩:=k2i y g hv;have born:∀ e,e∈es.toList->∃ i,i<kv.length/\es[i]?=some e/\e.born=i:=fun e hm=>by
  obtain ⟨i,hi,rfl⟩:=qaf.1 hm;have D:i<es.size:=by simpa using hi
  have E:i<kv.length:=by omega
  exact ⟨i,E,by simp [D],(R i _ _ (by simp [D]) (qb E)).2.1⟩
 have hj:=(kql (i:=j) (n:=kv.length) seen).1 (by rw [hl];exact qbh.2 rfl);rcases run_next_at (P:=P) w o.type r bm kv.length stepped seen.toArray es kv.length hr Q (fun e hm=>by obtain ⟨i,h1,_,h3⟩:=born e hm;omega) K with ⟨h0,_⟩ | ⟨e,f,w1,T,s⟩
 ·exfalso;have U:j<es.size:=by omega
  have V:es[j]∈(leftOf es seen.toArray).toList:=by unfold leftOf;simp only [Array.toList_filter,List.mem_filter];refine ⟨by simp,?_⟩;have:=(R j es[j] kv[j] (by simp [U]) (qb hj.1)).2.1;rw [this];simpa using hj.2
  have:=List.length_pos_of_mem V;simp at this;omega
 ·unfold leftOf at f;simp only [Array.toList_filter,List.mem_filter] at f;obtain ⟨i,X,Y,G⟩:=born e f.1;have Z:i=j:=by have aa:i∉seen:=(by have:=f.2;rw [G] at this;simpa using this);have:=(kql (i:=i) (n:=kv.length) seen).2 ⟨X,aa⟩;rw [hl] at this;exact qbh.1 this
  subst Z;obtain ⟨q1,q2,q3⟩:=R i e p Y hp;obtain ⟨w',H⟩:∃ w',w'=setBlock w1 r (.mapIter (some bm) kv.length (seen.toArray.push e.born) kv.length):=⟨_,rfl⟩;rw [<- H] at s;have c:w'.heap=w.heap.setIfInBounds r (.mapIter (some bm) kv.length (seen.toArray.push e.born) kv.length)/\w'.os=w.os/\w'.tape=w.tape/\w'.output=w.output:=by rw [H];rcases T with rfl | rfl <;> exact ⟨rfl,rfl,rfl,rfl⟩
  have I:r<w.heap.size:=(qai.1 hr).1;have q:w'.heap[r]?=some (.mapIter (some bm) kv.length (seen++[i]).toArray kv.length):=by rw [c.1,Array.getElem?_setIfInBounds_self_of_lt I,G];simp
  have ab:w'.heap.size=w.heap.size:=by rw [c.1];simp
  have t:∀ k,k<w.heap.size->¬ Blk (ψ.val id) k->w'.heap[k]?=w.heap[k]?:=fun k _ hk=>by rw [c.1,Array.getElem?_setIfInBounds_ne];intro e;subst e;exact hk (.of (by rw [l];rfl))
  have hk:Same S w w':=fun k hk hl=>t k hl fun e=>(M k e).1 hk;have h0:=g.1;have u:=k33 h0;obtain ⟨c1,c2,c3⟩:=d.upd (n:=0) (v:=ψ.val id) (w':=w') (ob' := .xo (.mit m kv.length (seen++[i]) kv.length)) B (by omega) t (.inr ⟨h0,rfl⟩) (fun b Q => .inl Q) (by rw [u];obtain ⟨_,_,r',bm',z1,z2,z3⟩:=g;refine ⟨h0,N,r,bm,l,q,fun h=>?_⟩;have e1:=z3 h;rw [l] at z1;simp only [Value.pointer.injEq,qc,Addr.mk.injEq,and_true] at z1;subst z1;rw [hr] at z2;injection z2 with z2;injection z2 with z2;injection z2 with z2;rw [z2];exact e1);rw [u] at c1;refine kad w' (.tuple #[.bool true,e.key,e.val]) ?_ ⟨ψ,S,c1,?_,⟨c.2.1,c.2.2.1,c.2.2.2,by omega,c3,no0⟩,Ext.refl,fun _ h=>h,fun _ h=>h,c2⟩;simp [execOp,ho,O,s]
  ·refine .tup rfl fun i v z hv A=>?_
   match i with
   | 0=>simp at hv A;subst hv A;exact .fz (.atom rfl)
   | 1=>simp at hv A;subst hv A;rw [q1];exact .fz (.atom L)
   | 2=>simp at hv A;subst hv A;exact q3.keep Ext.refl (fun _ h=>h) (fun _ h=>h) hk
   | i+3=>simp at A
theorem kadh {x:Operand} {m stepped:Nat} {seen:List Nat} (B:o.op = .next x false) (hx:st.eval x = .ref id 0 0) (g:kaa st.heap id=some (.xo (.mit m kv.length seen stepped))) (h:kaa st.heap m=some (.xo (.amap kv))) (j:kv.length<=stepped)
  (hl:ks9 seen kv.length=[]):NStep P o st (.fz (.tup [.atom (.bool false)])):=by
 intro ψ S a w ht y;have k:XobR ψ (·∈st.ids) S w id (.mit m kv.length seen stepped):=y id _ g;have l:XobR ψ (·∈st.ids) S w m (.amap kv):=y m _ h;have hv:=Sim.eval_tmps ht x;rw [hx] at hv;obtain ⟨r,bm,es,A,p,hr,C,D,E⟩:=k2i l k hv;have born:∀ e,e∈es.toList->∃ i,i<kv.length/\es[i]?=some e/\e.born=i:=fun e hm=>by
  obtain ⟨i,hi,rfl⟩:=qaf.1 hm;have c:i<es.size:=by simpa using hi
  have d:i<kv.length:=by omega
  exact ⟨i,d,by simp [c],(E i _ _ (by simp [c]) (qb d)).2.1⟩
 rcases run_next_at (P:=P) w o.type r bm kv.length stepped seen.toArray es kv.length hr C (fun e hm=>by obtain ⟨i,h1,_,G⟩:=born e hm;omega) j with ⟨_,f⟩ | ⟨e,b,_⟩
 ·refine kad w (.tuple #[.bool false]) ?_ ⟨kaf _, .fz (.tup rfl fun i v z hv q=>?_)⟩;simp [execOp,B,p,f]
  ·match i with
   | 0=>simp at hv q;subst hv q;exact .atom rfl
   | i+1=>simp at q
 ·exfalso;unfold leftOf at b;simp only [Array.toList_filter,List.mem_filter] at b;obtain ⟨i,s,F,t⟩:=born e b.1;have u:i∉seen:=by have:=b.2;rw [t] at this;simpa using this
  have:=(kql (i:=i) (n:=kv.length) seen).2 ⟨s,u⟩;rw [hl] at this;cases this
theorem kafq {x:Operand} {m since j:Nat} {seen:List Nat} {p:Value×AV} (y:o.op = .entry x) (hx:st.eval x = .ref id 0 0) (e:kaa st.heap id=some (.xo (.mit m since (seen++[j]) kv.length))) (f:kaa st.heap m=some (.xo (.amap kv)))
  (hp:kv[j]?=some p) (g:p.1.oneCell'=true):NStep P o st (.tup [.fz (.atom p.1),p.2]):=by
 intro ψ S a w ht s;have h:XobR ψ (·∈st.ids) S w id (.mit m since (seen++[j]) kv.length):=s id _ e;have k:XobR ψ (·∈st.ids) S w m (.amap kv):=s m _ f;have hv:=Sim.eval_tmps ht x;rw [hx] at hv;obtain ⟨r,bm,es,t,l,hr,A,B,u⟩:=k2i k h hv;have C:j<kv.length:=(qj.1 hp).1;have n:j<es.size:=by omega
 obtain ⟨q1,q2,q3⟩:=u j es[j] p (by simp [n]) hp;have q:(es.toList.map (·.born)).Nodup:=by
  have:es.toList.map (·.born)=List.range kv.length:=by
   apply List.ext_getElem?;intro i;by_cases hi:i<kv.length;have b:i<es.size:=(by omega);have:=(u i es[i] kv[i] (by simp [b]) (qb hi)).2.1;simp [b,hi,this]
   ·rw [qbp (by simp;omega),qbp (by simp;omega)]
  rw [this];exact List.nodup_range
 have c:=run_entry_at (P:=P) w r bm since seen.toArray es kv.length es[j] (by rw [q2];simpa using hr) A (by simp) q;refine kad w (.tuple #[es[j].key,es[j].val]) ?_ ⟨kaf _,(RV.tup rfl fun i v z hv d=>?_).here⟩;simp [execOp,y,l,c]
 ·match i with
  | 0=>simp at hv d;subst hv d;rw [q1];exact .fz (.atom g)
  | 1=>simp at hv d;subst hv d;exact q3
  | i+2=>simp at d
end
end Go.Proofs.YtgebfaidgikieaaGreatDoor
