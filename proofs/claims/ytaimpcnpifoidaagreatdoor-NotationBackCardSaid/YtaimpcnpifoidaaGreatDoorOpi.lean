import Derived.Test.YtaimpcnpifoidaaGreatDoorOpo
set_option linter.unusedVariables false
set_option linter.unusedSimpArgs false
namespace Go.Proofs.YtaimpcnpifoidaaGreatDoor
open Go Go.RowKit
def kv0:List FV→Option (List Value)
 | []=>some []
 | .atom v::l=>match kv0 l with
  | some r=>some (v::r)
  | none=>none
 | _::_=>none
def toV:AV→Option Value
 | .fz (.atom v)=>bif v.oneCell' then some v else none
 | .fz (.agg xs)=>match kv0 xs with
  | some l=>bif l.all (·.oneCell') then some (.agg l.toArray) else none
  | none=>none
 | _=>none
def ofV:Value→Option FV
 | .agg cs=>bif cs.toList.all (·.oneCell') then some (.agg (cs.toList.map .atom)) else none
 | .tuple _=>none
 | v=>some (.atom v)
section
variable {P:Program} {w w':World} {S S':Nat→Prop} {ψ:Env} {K:Nat→Prop} {T:List (TypeId×TD)} {o:Oper} {a:Act} {st:St} {t:TypeId} {d:TD}
theorem k06:∀ {xs:List FV} {l:List Value},kv0 xs=some l→xs=l.map .atom
 | [],l,h=>by simp only [kv0,qh] at h;subst h;rfl
 | .atom v::xs,l,h=>by
  simp only [kv0] at h
  split at h
  ·rename_i r hr
   injection h with h
   subst h
   rw [k06 hr];rfl
  ·cases h
 | .agg _::_,l,h=>by cases h
 | .tup _::_,l,h=>by cases h
 | .lst _ _ _::_,l,h=>by cases h
 | .fp _::_,l,h=>by cases h
 | .bx _::_,l,h=>by cases h
theorem kakq {u v:Value} {x:AV} (h:RV ψ K S w u x) (hx:toV x=some v):u=v:=by
 unfold toV at hx
 split at hx
 ·rename_i v'
  cases hb:v'.oneCell' with
  | false=>rw [hb] at hx;cases hx
  | true=>rw [hb] at hx;injection hx with hx;subst hx;exact h.atom
 ·rename_i xs
  split at hx
  ·rename_i l hl
   cases hb:l.all (·.oneCell') with
   | false=>rw [hb] at hx;cases hx
   | true=>
    rw [hb] at hx
    injection hx with hx
    subst hx
    have h:=h.inv
    cases h with
    | @agg cs _ h h1 hr=>
     rw [k06 hl] at hr h
     congr 1
     apply Array.ext'
     apply List.ext_getElem?
     intro i
     simp only [Array.getElem?_toList]
     rcases qaz i cs.size with hi | hi
     ·have hi':i<l.length:=by simp at h;omega
      have:=hr i cs[i] (.atom l[i]) (by simp [hi]) (by simp [hi'])
      rw [Array.getElem?_eq_getElem hi,this.atom_eq]
      simp [hi']
     ·have hi':l.length≤i:=by simp at h;omega
      simp [hi,hi']
  ·cases hx
 ·cases hx
theorem kakn {v:Value} {x:FV} (h:ofV v=some x):RF S w v x:=by
 unfold ofV at h
 split at h
 ·rename_i cs
  cases hb:cs.toList.all (·.oneCell') with
  | false=>rw [hb] at h;cases h
  | true=>
   rw [hb] at h
   injection h with h
   subst h
   refine .agg (by simp) ?_ ?_
   ·intro x hx
    simp only [qao] at hx
    obtain ⟨v,hv,rfl⟩:=hx
    exact qm.1 hb v hv
   ·intro i v x hv hx
    simp only [List.getElem?_map,qj,Array.getElem?_toList] at hx
    obtain ⟨u,hu,rfl⟩:=hx
    rw [hv] at hu
    injection hu with hu
    subst hu
    exact .atom (qm.1 hb v (by rw [Array.mem_toList_iff];exact Array.mem_of_getElem? hv))
 ·cases h
 ·rename_i hn1 hn2
  injection h with h
  subst h
  refine .atom ?_
  cases v <;> first | rfl | exact absurd rfl (hn1 _) | exact absurd rfl (hn2 _)
theorem kajz {x:Operand} {v:Value} (ho:o.op = .makeInterface t x) (hd:TdOk P t d) (hk:∀ h:d.kind = .ifc,False) (hx:toV (st.eval x)=some v):NStep P o st (.fz (.atom (.iface t v))):=by
 intro ψ S a w ht hO
 have hv:=kakq (Sim.eval_tmps ht x) hx
 obtain ⟨_,e,h1,h2⟩:=hd
 refine kam (w':=w) (v := .iface t v) ?_ ⟨kaj _, .fz (.atom rfl)⟩
 have hne:∀ ms,e ≠ .interface ms:=fun ms he=>by
  subst he
  cases hkk:d.kind <;> rw [hkk] at h2 <;> first | exact hk hkk | exact h2
 simp only [execOp,ho,hv,Instr.makeInterface,Sem.run_bind,Result.andThen_ok,run_underlying h1]
 cases e <;> first | exact absurd rfl (hne _) | rfl
theorem kaa1 {x:Operand} {xt:TypeId} {v:Value} {y:FV} (ho:o.op = .typeAssert x xt t true) (hd:TdOk P t d) (hk:∀ h:d.kind = .ifc,False) (hx:st.eval x = .fz (.atom (.iface t v))) (hy:ofV v=some y):
  NStep P o st (.fz (.tup [y, .atom (.bool true)])):=by
 intro ψ S a w ht hO
 have hv:=Sim.eval_tmps ht x
 rw [hx] at hv
 have hv:=hv.atom
 obtain ⟨_,e,h1,h2⟩:=hd
 have hne:∀ ms,e ≠ .interface ms:=fun ms he=>by
  subst he
  cases hkk:d.kind <;> rw [hkk] at h2 <;> first | exact hk hkk | exact h2
 refine kam (w':=w) (v := .tuple #[v, .bool true]) ?_ ⟨kaj _, .fz (.tup rfl ?_)⟩
 ·simp only [execOp,ho,hv,Instr.typeAssert,Sem.run_bind,Result.andThen_ok,run_underlying h1]
  cases e <;> first | exact absurd rfl (hne _) | simp
 ·intro i u z hu hz
  match i with
  | 0=>simp at hu hz;subst hu hz;exact kakn hy
  | 1=>simp at hu hz;subst hu hz;exact .atom rfl
  | i+2=>simp at hz
theorem k55 {op:BinOp} {x y:Operand} {u v:Value} (h:(∃ s z,u = .iface s z)∨∃ c,y = .const c) (hv:v = .nilIface) (hu:(∃ s z,u = .iface s z)∨u = .nilIface):(eqGuard op t x y u v).run P w = .ok () w:=by
 unfold eqGuard
 subst hv
 rcases hu with ⟨s,z,rfl⟩ | rfl
 ·cases op <;> simp
 ·rcases h with ⟨s,z,h⟩ | ⟨c,rfl⟩
  ·cases h
  ·cases op <;> simp
theorem TdOk.ifc (h:TdOk P t d) (hk:d.kind = .ifc):∃ ms,P.underlying t=some (.interface ms):=by
 obtain ⟨_,e,h1,h2⟩:=h
 rw [hk] at h2
 cases e <;> simp [kap] at h2
 exact ⟨_,h1⟩
theorem kuy {x:Operand} {yt:TypeId} {u:Value} (neg r:Bool) (ho:o.op = .binOp (if neg then .neq else .eql) t x (.const .nilIface) yt) (hd:TdOk P t d) (hk:d.kind = .ifc) (hx:st.eval x = .fz (.atom u)) (hu:(r=false∧∃ s z,u = .iface s z)∨(r=true∧u = .nilIface)):
  NStep P o st (.fz (.atom (.bool (bif neg then !r else r)))):=by
 obtain ⟨ms,hms⟩:=hd.ifc hk
 intro ψ S a w ht hO
 have hv:=Sim.eval_tmps ht x
 rw [hx] at hv
 have hv:=hv.atom
 have hq:∀ d:Nat,(Op.equalIn (d+1) t u .nilIface).run P w = .ok r w:=fun d=>by
  rcases hu with ⟨rfl,s,z,rfl⟩ | ⟨rfl,rfl⟩ <;> simp [Op.equalIn,run_underlying hms]
 have hg:∀ op,(eqGuard op t x (.const .nilIface) u .nilIface).run P w = .ok () w:=fun op=>k55 (.inr ⟨_,rfl⟩) rfl (hu.elim (fun h => .inl h.2) fun h => .inr h.2)
 refine kam (w':=w) (v := .bool (bif neg then !r else r)) ?_ ⟨kaj _, .fz (.atom rfl)⟩
 have hc:a.eval (.const .nilIface) = .nilIface:=rfl
 have hb:(binOp .eql t u .nilIface).run P w = .ok (.bool r) w∧(binOp .neq t u .nilIface).run P w = .ok (.bool !r) w:=by
  rcases hu with ⟨hr,s,z,rfl⟩ | ⟨hr,rfl⟩ <;> subst hr <;> constructor <;> (simp only [binOp];simp [Op.equal,Op.maxDepth,hq 9999])
 cases neg
 ·simp [execOp,ho,hv,hc,hg,hb.1]
 ·simp [execOp,ho,hv,hc,hg,hb.2]
end
end Go.Proofs.YtaimpcnpifoidaaGreatDoor
