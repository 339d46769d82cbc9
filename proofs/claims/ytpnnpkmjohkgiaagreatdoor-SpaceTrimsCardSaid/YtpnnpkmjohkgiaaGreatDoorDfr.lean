import Derived.Test.YtpnnpkmjohkgiaaGreatDoorOpo
import Derived.Recover
set_option linter.all false
namespace Go.Proofs.YtpnnpkmjohkgiaaGreatDoor
open Go Go.RowKit
def kjj:List FV->Option (List Value)
 | []=>some []
 | .atom v::l=>match kjj l with
  | some r=>some (v::r)
  | none=>none
 | _::_=>none
def toV:AV->Option Value
 | .fz (.atom v)=>bif v.oneCell' then some v else none
 | .fz (.agg xs)=>match kjj xs with
  | some l=>bif l.all (·.oneCell') then some (.agg l.toArray) else none
  | none=>none
 | _=>none
def ofV:Value->Option FV
 | .agg cs=>bif cs.toList.all (·.oneCell') then some (.agg (cs.toList.map .atom)) else none
 | .tuple _=>none
 | v=>some (.atom v)
section
variable {P:Program} {w w':World} {S S':Nat->Prop} {ψ:Env} {K:Nat->Prop} {T:List (TypeId×TD)} {o:Oper} {a:Act} {st:St} {t:TypeId} {d:TD}
theorem knc:∀ {xs:List FV} {l:List Value},kjj xs=some l->xs=l.map .atom
 | [],l,h=>by simp only [kjj,qb] at h;subst h;rfl
 | .atom v::xs,l,h=>by
  simp only [kjj] at h;split at h;rename_i r hr;injection h with h;subst h;rw [knc hr];rfl
  ·cases h
 | .agg _::_,l,h=>by cases h
 | .tup _::_,l,h=>by cases h
 | .lst _ _ _::_,l,h=>by cases h
 | .fp _::_,l,h=>by cases h
 | .bx _::_,l,h=>by cases h
theorem k2m {u v:Value} {x:AV} (h:RV ψ K S w u x) (a:toV x=some v):u=v:=by
 unfold toV at a;split at a
 ·rename_i v';cases c:v'.oneCell' with
  | false=>rw [c] at a;cases a
  | true=>rw [c] at a;injection a with a;subst a;exact h.atom
 ·rename_i xs;split at a
  ·rename_i l hl;cases c:l.all (·.oneCell') with
   | false=>rw [c] at a;cases a
   | true=>
    rw [c] at a;injection a with a;subst a;have h:=h.inv;cases h with
    | @agg cs _ h h1 hr=>
     rw [knc hl] at hr h;congr 1;apply qa8;apply List.ext_getElem?;intro i;simp only [qav];rcases qau i cs.size with hi | hi;have b:i<l.length:=(by simp at h;omega);have:=hr i cs[i] (.atom l[i]) (by simp [hi]) (by simp [b]);rw [Array.getElem?_eq_getElem hi,this.atom_eq];simp [b]
     ·have b:l.length<=i:=(by simp at h;omega);simp [hi,b]
  ·cases a
 ·cases a
theorem k14 {v:Value} {x:FV} (h:ofV v=some x):RF S w v x:=by
 unfold ofV at h;split at h
 ·rename_i cs;cases b:cs.toList.all (·.oneCell') with
  | false=>rw [b] at h;cases h
  | true=>
   rw [b] at h;injection h with h;subst h;refine .agg (by simp) ?_ ?_;intro x a;simp only [qaf] at a;obtain ⟨v,hv,rfl⟩:=a;exact ql.1 b v hv
   ·intro i v x hv a;simp only [qr,qp,qav] at a;obtain ⟨u,c,rfl⟩:=a;rw [hv] at c;injection c with c;subst c;exact .atom (ql.1 b v (by rw [Array.mem_toList_iff];exact Array.mem_of_getElem? hv))
 cases h
 ·rename_i d e;injection h with h;subst h;refine .atom ?_;cases v <;> first | rfl | exact absurd rfl (d _) | exact absurd rfl (e _)
theorem k00 {x:Operand} {v:Value} (ho:o.op = .makeInterface t x) (g:TdOk P t d) (hk:∀ h:d.kind = .ifc,False) (i:toV (st.eval x)=some v):NStep P o st (.fz (.atom (.iface t v))):=by
 intro ψ S a w ht k;have hv:=k2m (Sim.eval_tmps ht x) i;obtain ⟨_,e,h1,f⟩:=g;refine kaf (w':=w) (v := .iface t v) ?_ ⟨kag _, .fz (.atom rfl)⟩;have c:∀ ms,e ≠ .interface ms:=fun ms j=>by subst j;cases b:d.kind <;> rw [b] at f <;> first | exact hk b | exact f
 simp only [execOp,ho,hv,Instr.makeInterface,Sem.run_bind,Result.andThen_ok,run_underlying h1];cases e <;> first | exact absurd rfl (c _) | rfl
theorem ktu {x:Operand} {xt:TypeId} {v:Value} {y:FV} (ho:o.op = .typeAssert x xt t true) (k:TdOk P t d) (hk:∀ h:d.kind = .ifc,False) (l:st.eval x = .fz (.atom (.iface t v))) (hy:ofV v=some y):
  NStep P o st (.fz (.tup [y, .atom (.bool true)])):=by
 intro ψ S a w ht n;have hv:=Sim.eval_tmps ht x;rw [l] at hv;have hv:=hv.atom;obtain ⟨_,e,h1,j⟩:=k;have g:∀ ms,e ≠ .interface ms:=fun ms m=>by subst m;cases b:d.kind <;> rw [b] at j <;> first | exact hk b | exact j
 refine kaf (w':=w) (v := .tuple #[v, .bool true]) ?_ ⟨kag _, .fz (.tup rfl ?_)⟩
 ·simp only [execOp,ho,hv,Instr.typeAssert,Sem.run_bind,Result.andThen_ok,run_underlying h1];cases e <;> first | exact absurd rfl (g _) | simp
 ·intro i u z f c
  match i with
  | 0=>simp at f c;subst f c;exact k14 hy
  | 1=>simp at f c;subst f c;exact .atom rfl
  | i+2=>simp at c
theorem kp9 {op:BinOp} {x y:Operand} {u v:Value} (h:(∃ s z,u = .iface s z)\/∃ c,y = .const c) (hv:v = .nilIface) (a:(∃ s z,u = .iface s z)\/u = .nilIface):(eqGuard op t x y u v).run P w = .ok () w:=by
 unfold eqGuard;subst hv;rcases a with ⟨s,z,rfl⟩ | rfl;cases op <;> simp
 ·rcases h with ⟨s,z,h⟩ | ⟨c,rfl⟩;cases h
  ·cases op <;> simp
theorem TdOk.ifc (h:TdOk P t d) (hk:d.kind = .ifc):∃ ms,P.underlying t=some (.interface ms):=by obtain ⟨_,e,h1,a⟩:=h;rw [hk] at a;cases e <;> simp [kai] at a;exact ⟨_,h1⟩
theorem kg9 {x:Operand} {yt:TypeId} {u:Value} (neg r:Bool) (ho:o.op = .binOp (if neg then .neq else .eql) t x (.const .nilIface) yt) (g:TdOk P t d) (hk:d.kind = .ifc) (i:st.eval x = .fz (.atom u)) (b:(r=false/\∃ s z,u = .iface s z)\/(r=true/\u = .nilIface)):
  NStep P o st (.fz (.atom (.bool (bif neg then !r else r)))):=by
 obtain ⟨ms,c⟩:=g.ifc hk;intro ψ S a w ht k;have hv:=Sim.eval_tmps ht x;rw [i] at hv;have hv:=hv.atom;have j:∀ d:Nat,(Op.equalIn (d+1) t u .nilIface).run P w = .ok r w:=fun d=>by rcases b with ⟨rfl,s,z,rfl⟩ | ⟨rfl,rfl⟩ <;> simp [Op.equalIn,run_underlying c]
 have e:∀ op,(eqGuard op t x (.const .nilIface) u .nilIface).run P w = .ok () w:=fun op=>kp9 (.inr ⟨_,rfl⟩) rfl (b.elim (fun h => .inl h.2) fun h => .inr h.2);refine kaf (w':=w) (v := .bool (bif neg then !r else r)) ?_ ⟨kag _, .fz (.atom rfl)⟩;have hc:a.eval (.const .nilIface) = .nilIface:=rfl;have f:(binOp .eql t u .nilIface).run P w = .ok (.bool r) w/\(binOp .neq t u .nilIface).run P w = .ok (.bool !r) w:=by rcases b with ⟨hr,s,z,rfl⟩ | ⟨hr,rfl⟩ <;> subst hr <;> constructor <;> (simp only [binOp];simp [Op.equal,Op.maxDepth,j 9999])
 cases neg;simp [execOp,ho,hv,hc,e,f.1]
 ·simp [execOp,ho,hv,hc,e,f.2]
end
def dfn (f:FuncId) (cs:List Value):Deferred:={ target := .fn (.func f) cs.toArray,args:=#[] }
def kkg (fn:Func):Option (Nat×Nat×Code):=match fn.body with
 | some (.seq (.region _ os false) c)=>match os.toList with
  | [o1,o2]=>match o1.op,o1.dst,o1.guard with
   | .call c1,some t1,none=>match o2.op,o2.dst,o2.guard with
    | .assign (.tmp t),some t2,none=>match c1.callee,c1.args.toList with
     | .builtin .recover,[]=>bif Nat.beq t t1 && (Nat.blt t1 fn.ntmps && (Nat.blt t2 fn.ntmps && fn.results.isEmpty)) then some (t1,t2,c) else none
     | _,_=>none
    | _,_,_=>none
   | _,_,_=>none
  | [o1]=>match o1.op,o1.dst,o1.guard with
   | .call c1,some t1,none=>match c1.callee,c1.args.toList with
    | .builtin .recover,[]=>bif Nat.blt t1 fn.ntmps && fn.results.isEmpty then some (t1,t1,c) else none
    | _,_=>none
   | _,_,_=>none
  | _=>none
 | _=>none
section
variable {P:Program} {F S0:Nat->Prop} {N0:Nat} {w w':World} {S S':Nat->Prop} {ψ ψ':Env} {T:List (TypeId×TD)} {st:St} {ids:List Nat} {a:Act}
theorem kmh {fn:Func} {t1 t2:Nat} {c2:Code} (h:kkg fn=some (t1,t2,c2)):∃ id os o1 c1,fn.body=some (.seq (.region id os false) c2)/\o1.op = .call c1/\c1.callee = .builtin .recover/\c1.args=#[]/\o1.dst=some t1/\o1.guard=none /\
  t1<fn.ntmps/\t2<fn.ntmps/\fn.results=#[]/\((∃ o2,os=#[o1,o2]/\o2.op = .assign (.tmp t1)/\o2.dst=some t2/\o2.guard=none)\/(os=#[o1]/\t2=t1)):=by
 unfold kkg at h;split at h
 ·rename_i id os c i;split at h
  ·rename_i o1 o2 b;split at h
   ·rename_i c1 t1' h1 d e;split at h
    ·rename_i tt t2' j k l;split at h
     ·rename_i f g;cases hc:(Nat.beq tt t1' && (Nat.blt t1' fn.ntmps && (Nat.blt t2' fn.ntmps && fn.results.isEmpty))) with
      | false=>rw [hc] at h;cases h
      | true=>
       rw [hc] at h;simp only [qe,qb,qj] at h;obtain ⟨rfl,rfl,rfl⟩:=h;simp only [qn] at hc;obtain ⟨b1,b2,b3,b4⟩:=hc;obtain rfl:=qf b1;have a:os=#[o1,o2]:=(by apply qa8;simpa using b);exact ⟨id,os,o1,c1,i,h1,f,by apply qa8;simpa using g,d,e,by simpa [qbd] using b2,by simpa [qbd] using b3,by simpa using b4, .inl ⟨o2,a,j,k,l⟩⟩
     ·cases h
    ·cases h
   ·cases h
  ·rename_i o1 b;split at h
   ·rename_i c1 t1' h1 d e;split at h
    ·rename_i f g;cases hc:(Nat.blt t1' fn.ntmps && fn.results.isEmpty) with
     | false=>rw [hc] at h;cases h
     | true=>
      rw [hc] at h;simp only [qe,qb,qj] at h;obtain ⟨rfl,rfl,rfl⟩:=h;simp only [qn] at hc;obtain ⟨b2,b4⟩:=hc;have a:os=#[o1]:=(by apply qa8;simpa using b);exact ⟨id,os,o1,c1,i,h1,f,by apply qa8;simpa using g,d,e,by simpa [qbd] using b2,by simpa [qbd] using b2,by simpa using b4, .inr ⟨a,rfl⟩⟩
    ·cases h
   ·cases h
  ·cases h
 ·cases h
end
end Go.Proofs.YtpnnpkmjohkgiaaGreatDoor
