import Derived.Test.YtpcfkflhnkfjjaaGreatOpo
import Derived.Recover
set_option linter.all false
namespace Go.Proofs.YtpcfkflhnkfjjaaGreat
open Go Go.RowKit
def kr4:List FV->Option (List Value)
 | []=>some []
 | .atom v::l=>match kr4 l with
  | some r=>some (v::r)
  | none=>none
 | _::_=>none
def toV:AV->Option Value
 | .fz (.atom v)=>bif v.oneCell' then some v else none
 | .fz (.agg xs)=>match kr4 xs with
  | some l=>bif l.all (·.oneCell') then some (.agg l.toArray) else none
  | none=>none
 | _=>none
def ofV:Value->Option FV
 | .agg cs=>bif cs.toList.all (·.oneCell') then some (.agg (cs.toList.map .atom)) else none
 | .tuple _=>none
 | v=>some (.atom v)
section
variable {P:Program} {w w':World} {S S':Nat->Prop} {ψ:Env} {K:Nat->Prop} {T:List (TypeId×TD)} {o:Oper} {a:Act} {st:St} {t:TypeId} {d:TD}
theorem kww:∀ {xs:List FV} {l:List Value},kr4 xs=some l->xs=l.map .atom
 | [],l,h=>by simp only [kr4,ql] at h;subst h;rfl
 | .atom v::xs,l,h=>by
  simp only [kr4] at h;split at h;rename_i r hr;injection h with h;subst h;rw [kww hr];rfl
  ·cases h
 | .agg _::_,l,h=>by cases h
 | .tup _::_,l,h=>by cases h
 | .lst _ _ _::_,l,h=>by cases h
 | .fp _::_,l,h=>by cases h
 | .bx _::_,l,h=>by cases h
theorem kabk {u v:Value} {x:AV} (h:RV ψ K S w u x) (a:toV x=some v):u=v:=by
 unfold toV at a;split at a
 ·rename_i v';cases c:v'.oneCell' with
  | false=>rw [c] at a;cases a
  | true=>rw [c] at a;injection a with a;subst a;exact h.atom
 ·rename_i xs;split at a
  ·rename_i l hl;cases c:l.all (·.oneCell') with
   | false=>rw [c] at a;cases a
   | true=>
    rw [c] at a;injection a with a;subst a;have h:=h.inv;cases h with
    | @agg cs _ h h1 hr=>
     rw [kww hl] at hr h;congr 1;apply Array.ext';apply qbn;intro i;simp only [qa7];rcases qbg i cs.size with hi | hi;have b:i<l.length:=(by simp at h;omega);have:=hr i cs[i] (.atom l[i]) (by simp [hi]) (by simp [b]);rw [qbl hi,this.atom_eq];simp [b]
     ·have b:l.length<=i:=(by simp at h;omega);simp [hi,b]
  ·cases a
 ·cases a
theorem kabc {v:Value} {x:FV} (h:ofV v=some x):RF S w v x:=by
 unfold ofV at h;split at h
 ·rename_i cs;cases b:cs.toList.all (·.oneCell') with
  | false=>rw [b] at h;cases h
  | true=>
   rw [b] at h;injection h with h;subst h;refine .agg (by simp) ?_ ?_;intro x a;simp only [qae] at a;obtain ⟨v,hv,rfl⟩:=a;exact qr.1 b v hv
   ·intro i v x hv a;simp only [qp,qt,qa7] at a;obtain ⟨u,c,rfl⟩:=a;rw [hv] at c;injection c with c;subst c;exact .atom (qr.1 b v (by rw [Array.mem_toList_iff];exact Array.mem_of_getElem? hv))
 cases h
 ·rename_i d e;injection h with h;subst h;refine .atom ?_;cases v <;> first | rfl | exact absurd rfl (d _) | exact absurd rfl (e _)
theorem kaat {x:Operand} {v:Value} (ho:o.op = .makeInterface t x) (g:TdOk P t d) (hk:∀ h:d.kind = .ifc,False) (i:toV (st.eval x)=some v):NStep P o st (.fz (.atom (.iface t v))):=by
 intro ψ S a w ht k;have hv:=kabk (Sim.eval_tmps ht x) i;obtain ⟨_,e,h1,f⟩:=g;refine kai (w':=w) (v := .iface t v) ?_ ⟨kaj _, .fz (.atom rfl)⟩;have c:∀ ms,e ≠ .interface ms:=fun ms j=>by subst j;cases b:d.kind <;> rw [b] at f <;> first | exact hk b | exact f
 simp only [execOp,ho,hv,Instr.makeInterface,Sem.run_bind,Result.andThen_ok,run_underlying h1];cases e <;> first | exact absurd rfl (c _) | rfl
theorem k3z {x:Operand} {xt:TypeId} {v:Value} {y:FV} (ho:o.op = .typeAssert x xt t true) (k:TdOk P t d) (hk:∀ h:d.kind = .ifc,False) (l:st.eval x = .fz (.atom (.iface t v))) (m:ofV v=some y):
  NStep P o st (.fz (.tup [y, .atom (.bool true)])):=by
 intro ψ S a w ht p;have hv:=Sim.eval_tmps ht x;rw [l] at hv;have hv:=hv.atom;obtain ⟨_,e,h1,j⟩:=k;have g:∀ ms,e ≠ .interface ms:=fun ms n=>by subst n;cases b:d.kind <;> rw [b] at j <;> first | exact hk b | exact j
 refine kai (w':=w) (v := .tuple #[v, .bool true]) ?_ ⟨kaj _, .fz (.tup rfl ?_)⟩;simp only [execOp,ho,hv,Instr.typeAssert,Sem.run_bind,Result.andThen_ok,run_underlying h1];cases e <;> first | exact absurd rfl (g _) | simp
 ·intro i u z f c
  match i with
  | 0=>simp at f c;subst f c;exact kabc m
  | 1=>simp at f c;subst f c;exact .atom rfl
  | i+2=>simp at c
theorem k0e {op:BinOp} {x y:Operand} {u v:Value} (h:(∃ s z,u = .iface s z)\/∃ c,y = .const c) (hv:v = .nilIface) (a:(∃ s z,u = .iface s z)\/u = .nilIface):(eqGuard op t x y u v).run P w = .ok () w:=by
 unfold eqGuard;subst hv;rcases a with ⟨s,z,rfl⟩ | rfl;cases op <;> simp
 ·rcases h with ⟨s,z,h⟩ | ⟨c,rfl⟩;cases h
  ·cases op <;> simp
theorem TdOk.ifc (h:TdOk P t d) (hk:d.kind = .ifc):∃ ms,P.underlying t=some (.interface ms):=by obtain ⟨_,e,h1,a⟩:=h;rw [hk] at a;cases e <;> simp [kau] at a;exact ⟨_,h1⟩
theorem kql {x:Operand} {yt:TypeId} {u:Value} (neg r:Bool) (ho:o.op = .binOp (if neg then .neq else .eql) t x (.const .nilIface) yt) (g:TdOk P t d) (hk:d.kind = .ifc) (i:st.eval x = .fz (.atom u)) (b:(r=false/\∃ s z,u = .iface s z)\/(r=true/\u = .nilIface)):
  NStep P o st (.fz (.atom (.bool (bif neg then !r else r)))):=by
 obtain ⟨ms,c⟩:=g.ifc hk;intro ψ S a w ht k;have hv:=Sim.eval_tmps ht x;rw [i] at hv;have hv:=hv.atom;have j:∀ d:Nat,(Op.equalIn (d+1) t u .nilIface).run P w = .ok r w:=fun d=>by rcases b with ⟨rfl,s,z,rfl⟩ | ⟨rfl,rfl⟩ <;> simp [Op.equalIn,run_underlying c]
 have e:∀ op,(eqGuard op t x (.const .nilIface) u .nilIface).run P w = .ok () w:=fun op=>k0e (.inr ⟨_,rfl⟩) rfl (b.elim (fun h => .inl h.2) fun h => .inr h.2);refine kai (w':=w) (v := .bool (bif neg then !r else r)) ?_ ⟨kaj _, .fz (.atom rfl)⟩;have hc:a.eval (.const .nilIface) = .nilIface:=rfl;have f:(binOp .eql t u .nilIface).run P w = .ok (.bool r) w/\(binOp .neq t u .nilIface).run P w = .ok (.bool !r) w:=by rcases b with ⟨hr,s,z,rfl⟩ | ⟨hr,rfl⟩ <;> subst hr <;> constructor <;> (simp only [binOp];simp [Op.equal,Op.maxDepth,j 9999])
 cases neg;simp [execOp,ho,hv,hc,e,f.1]
 ·simp [execOp,ho,hv,hc,e,f.2]
end
section
variable {P:Program} {F S0:Nat->Prop} {N0:Nat} {w w':World} {S S':Nat->Prop} {ψ ψ':Env} {T:List (TypeId×TD)} {st:St} {ids:List Nat} {a:Act}
end
end Go.Proofs.YtpcfkflhnkfjjaaGreat
