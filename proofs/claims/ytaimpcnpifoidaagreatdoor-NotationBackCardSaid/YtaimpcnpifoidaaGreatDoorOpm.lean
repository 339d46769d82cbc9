import Derived.Test.YtaimpcnpifoidaaGreatDoorHd
import Derived.Laws.StructEq
import Derived.Laws.BytesString
import Derived.Lib.ConvBytes
import Derived.Deep.AppendSrc
import Derived.Lib.Builder
import Derived.Lib.AppendStr
import Derived.Lib.UnsafeStr
set_option linter.unusedVariables false
set_option linter.unusedSimpArgs false
namespace Go.Proofs.YtaimpcnpifoidaaGreatDoor
open Go Go.RowKit
def eqF (T:List (TypeId×TD)):List (TypeId×Nat)→List FV→List FV→Option Bool
 | [],_,_=>some true
 | (ft,off)::fs,xs,ys=>match ka3 T ft,xs[off]?,ys[off]?,eqF T fs xs ys with
  | some d,some (.atom u),some (.atom v),some r=>match d.kind,u,v with
   | .str, .string a, .string b=>some (a.toList == b.toList && r)
   | .int k, .int k1 a, .int k2 b=>if k1=k2 then some ((a == b) && r) else none
   | .bool, .bool a, .bool b=>some ((a == b) && r)
   | _,_,_=>none
  | _,_,_,_=>none
def toBA (xs:List Int):BA:=xs.foldl (fun r n=>r.push (UInt8.ofNat n.toNat)) ByteArray.empty
def ofBA (s:BA):List Int:=s.data.toList.map fun b=>(b.toNat:Int)
def appS (xs:List Int) (s:BA):Option (List Int):=if xs.length+s.size≤140737488355328 then some (xs++ofBA s) else none
section
variable {P:Program} {F S0:Nat→Prop} {N0:Nat} {w w':World} {S S':Nat→Prop} {ψ:Env} {K:Nat→Prop} {T:List (TypeId×TD)} {o:Oper} {a:Act} {st:St} {t:TypeId} {d:TD} {id:Nat}
theorem k09 {ft off:Nat} {cs:Array Value} {v:Value} {df:TD} (hd:TdOk P ft df) (hk:df.kind.agg=false) (h:cs[off]?=some v):(part ft cs off).run P w = .ok v w:=by
 simp [part,hd.isAgg,hk,h]
theorem kach (hT:TOk P T) {cs1 cs2:Array Value} {xs ys:List FV} (h1:∀ (i:Nat) (v:Value) (x:FV),cs1[i]?=some v→xs[i]?=some x→RF S w v x) (h2:∀ (i:Nat) (v:Value) (x:FV),cs2[i]?=some v→ys[i]?=some x→RF S w v x)
  (l1 : cs1.size = xs.length) (l2 : cs2.size = ys.length) : ∀ {gs : List Field} {r : Bool}, (gs.all fun f => f.name != "_") = true → eqF T (gs.map fun f => (f.type, f.offset)) xs ys = some r → (Op.eqFields 9999 cs1 cs2 gs).run P w = .ok r w
 | [],r,_,h=>by simp only [List.map_nil,eqF,qh] at h;subst h;rfl
 | f::gs,r,hn,h=>by
  simp only [List.all_cons,qu,qas,ne_eq] at hn
  simp only [qah,eqF] at h
  split at h
  ·rename_i d u v r' hd hu hv hr
   have ih:=kach hT h1 h2 l1 l2 hn.2 hr
   have hu':cs1[f.offset]?=some u:=by
    have hlt:f.offset<cs1.size:=by rw [l1];exact (List.getElem?_eq_some_iff.1 hu).1
    rw [Array.getElem?_eq_getElem hlt,(h1 f.offset _ _ (Array.getElem?_eq_getElem hlt) hu).atom_eq]
   have hv':cs2[f.offset]?=some v:=by
    have hlt:f.offset<cs2.size:=by rw [l2];exact (List.getElem?_eq_some_iff.1 hv).1
    rw [Array.getElem?_eq_getElem hlt,(h2 f.offset _ _ (Array.getElem?_eq_getElem hlt) hv).atom_eq]
   have hT':=hT.get hd
   obtain ⟨_,e,he1,he2⟩:=hT'
   have key:∀ b:Bool,d.kind.agg=false→(Op.equalIn 9999 f.type u v).run P w = .ok b w→(Op.eqFields 9999 cs1 cs2 (f::gs)).run P w = .ok (b && r') w:=fun b hagg hb=>by
    simp only [Op.eqFields,hn.1,not_false_eq_true,if_true,ne_eq,Sem.run_bind,k09 (hT.get hd) hagg hu',k09 (hT.get hd) hagg hv',Result.andThen_ok,hb]
    cases b
    ·rfl
    ·simpa using ih
   split at h
   ·rename_i a b hk
    injection h with h
    subst h
    rw [hk] at he2
    cases e <;> simp only [kap] at he2
    exact key _ (by rw [hk];rfl) (run_equalIn_string w 9998 _ a b he1)
   ·rename_i k k1 a k2 b hk
    split at h
    ·rename_i hkk
     subst hkk
     injection h with h
     subst h
     rw [hk] at he2
     cases e <;> simp only [kap] at he2
     exact key _ (by rw [hk];rfl) (run_equalIn_int w 9998 _ _ _ a b he1)
    ·cases h
   ·rename_i a b hk
    injection h with h
    subst h
    rw [hk] at he2
    cases e <;> simp only [kap] at he2
    exact key _ (by rw [hk];rfl) (run_equalIn_bool' w 9998 _ a b he1)
   ·cases h
  ·cases h
theorem k8o {x y : Operand} {yt : TypeId} {fs : List (TypeId × Nat)} {xs ys : List FV} {r : Bool} (neg : Bool) (hT : TOk P T) (ho : o.op = .binOp (if neg then .neq else .eql) t x y yt) (hd : ka3 T t = some d) (hk : d.kind = .st fs) (hn : ((P.fieldsOf t).toList.all fun f => f.name != "_") = true := by kernel_rfl) (hp : P.stoodInHeld t = false := by kernel_rfl) (hm : P.eqGuardType P.depth t = false := by kernel_rfl) (hx : st.eval x = .fz (.agg xs) := by kernel_rfl) (hy : st.eval y = .fz (.agg ys) := by kernel_rfl) (he : eqF T fs xs ys = some r := by kernel_rfl) : NStep P o st (.fz (.atom (.bool (bif neg then !r else r)))) := by
 intro ψ S a w ht hO
 have v1:=Sim.eval_tmps ht x
 rw [hx] at v1
 have v2:=Sim.eval_tmps ht y
 rw [hy] at v2
 have v1:=v1.inv
 have v2:=v2.inv
 obtain ⟨_,e,he1,he2⟩:=hT.get hd
 rw [hk] at he2
 cases e <;> simp only [kap] at he2
 rename_i gs
 have hf:P.fieldsOf t=gs:=by simp [Program.fieldsOf,he1]
 rw [hf] at hn
 refine kam (w':=w) (v := .bool (bif neg then !r else r)) ?_ ⟨kaj _, .fz (.atom rfl)⟩
 generalize hu1:a.eval x=u1 at v1
 generalize hu2:a.eval y=u2 at v2
 cases v1 with
 | agg l1 s1 r1=>
  cases v2 with
  | agg l2 s2 r2=>
   rename_i cs1 cs2
   rw [← he2] at he
   have hq:=kach (w:=w) hT r1 r2 l1 l2 hn he
   have hq':(Op.equalIn 10000 t (.agg cs1) (.agg cs2)).run P w = .ok r w:=by
    rw [show (10000:Nat)=9999+1 from rfl,run_equalIn_agg w 9999 t cs1 cs2 (by rw [hf];exact he1) hp,hf]
    exact hq
   cases neg
   ·simp [execOp,ho,hu1,hu2,run_eqGuard_agg w _ t x y cs1 cs2 hm,run_eql_struct,hq']
   ·simp [execOp,ho,hu1,hu2,run_eqGuard_agg w _ t x y cs1 cs2 hm,run_neq_struct,hq']
theorem kakh {sr:TypeId} {x:Operand} {k k':IntKind} {n:Int} {ds:TD} (hT:TOk P T) (ho:o.op = .convert sr t x) (hs:ka3 T sr=some ds) (hd:ka3 T t=some d) (hk:d.kind = .int k) (hx:st.eval x = .fz (.atom (.int k' n))):NStep P o st (.fz (.atom (.int k (k.wrap n)))):=by
 obtain ⟨_,e,h1,_⟩:=hT.get hs
 obtain ⟨_,e',h2,h3⟩:=hT.get hd
 rw [hk] at h3
 cases e' <;> simp only [kap] at h3
 subst h3
 exact kakr (ds:=ds) ho ⟨_,h1⟩ h2 hx
theorem kahc {sr:TypeId} {x:Operand} {s:BA} {ds:TD} (hT:TOk P T) (ho:o.op = .convert sr t x) (hs:ka3 T sr=some ds) (hks:ds.kind = .str) (hd:ka3 T t=some d) (hk:d.kind = .str) (hx:st.eval x = .fz (.atom (.string s))):NStep P o st (.fz (.atom (.string s))):=by
 intro ψ S a w ht hO
 have h1:=Sim.eval_tmps ht x
 rw [hx] at h1
 refine kam (w':=w) (v := .string s) ?_ ⟨kaj _, .fz (.atom rfl)⟩
 simp [execOp,ho,h1.atom,convert,run_underlying ((hT.get hs).str hks),run_underlying ((hT.get hd).str hk)]
theorem kahe {v:Value} {n:Int} (h:RF S w v (eU8 n)):v = .int .u8 n:=h.atom_eq
theorem kaed {n:Nat} {parts:Array (Nat×Operand)} {e:TypeId} {de:TD} {xs:List FV} (ho:o.op = .buildSlice t n parts) (hd:TdOk P t d) (hk:d.kind = .slice e) (hde:TdOk P e de) (hsz:0<de.size) (hn:xs.length=n) (hb:n*de.size≤16777216)
  (hp:kpi de.size 0 (ke9 st parts)=some xs) (hid:st.ids.contains id=false):kdf P o st (.row id n) ((id, .frow e de.size xs)::st.heap) (id::st.ids):=by
 have hid:id∉st.ids:=by simpa using hid
 subst hn
 intro F S0 N0 ψ S a w hs'
 have ht:=hs'.tmps
 obtain ⟨e1,e2⟩:=kn2 ht parts
 obtain ⟨p1,p2⟩:=kvz hp
 obtain ⟨vs,hvs⟩:∃ vs:List Value,vs=parts.toList.map (fun p=>a.eval p.2):=⟨_,rfl⟩
 have hlen:parts.toList.length=xs.length:=by
  have:(ke9 st parts).length=xs.length:=by rw [p1];simp
  simpa [ke9] using this
 have hvl:vs.length=xs.length:=by rw [hvs];simp at hlen ⊢; exact hlen
 have helt:∀ (i:Nat) (x:FV),xs[i]?=some x→∃ v p,vs[i]?=some v∧parts.toList[i]?=some p∧p.1=i∧RF S w v x:=fun i x hx=>by
  have hi:i<parts.toList.length:=by rw [hlen];exact (List.getElem?_eq_some_iff.1 hx).1
  have hq:(ke9 st parts)[i]?=some (i, .fz x):=by rw [p1];simp [hx]
  have hpi:parts.toList[i]?=some parts.toList[i]:=List.getElem?_eq_getElem hi
  have hp':(parts.map fun (i,x)=>(i,a.eval x)).toList[i]?=some (parts.toList[i].1,a.eval parts.toList[i].2):=by simp [hpi]
  obtain ⟨r1,r2⟩:=e2 i _ _ hp' hq
  exact ⟨a.eval parts.toList[i].2,parts.toList[i],by rw [hvs,List.getElem?_map,hpi];rfl,hpi,r1,r2.inv⟩
 have hpz:(parts.map fun (i,x)=>(i,a.eval x)).toList=(vs.zipIdx 0).map (fun x=>(x.2,x.1)):=by
  apply List.ext_getElem?
  intro i
  by_cases hi:i<xs.length
  ·obtain ⟨v,p,h1,h2,h3,_⟩:=helt i xs[i] (List.getElem?_eq_getElem hi)
   have:v=a.eval p.2:=by rw [hvs,List.getElem?_map,h2] at h1;simpa using h1.symm
   simp only [Array.toList_map,List.getElem?_map,List.getElem?_zipIdx,h1,h2,qa6,Nat.zero_add]
   rw [this,h3]
  ·rw [List.getElem?_eq_none (by simp at hlen ⊢; omega),List.getElem?_eq_none (by simp [hvl];omega)]
 have hcells:∀ v∈vs,v.cells.size=de.size:=fun v hv=>by
  obtain ⟨i,hi,rfl⟩:=qs.1 hv
  obtain ⟨v,p,h1,_,_,h4⟩:=helt i xs[i] (List.getElem?_eq_getElem (by omega))
  rw [List.getElem?_eq_getElem hi] at h1
  injection h1 with h1
  rw [h1,(h4.cells (p2 _ (qn _)).2).1,(p2 _ (qn _)).1]
 obtain ⟨z,hz1,hz2⟩:=hde.zero (P:=P) (w:=w)
 obtain ⟨cells,hcl⟩:∃ cells:Array Value,cells=(vs.flatMap fun v=>v.cells.toList).toArray:=⟨_,rfl⟩
 have hrow:(Instr.buildSlice t xs.length (parts.map fun (i,x)=>(i,a.eval x))).run P w = .ok (.slice (some ⟨w.heap.size,0,none⟩) xs.length xs.length) (w.alloc (.cells cells e)):=by
  have hb':¬ xs.length*de.size > 2 ^ 24:=by omega
  have hfill:∀ c0:Array Value,xs.length*de.size=c0.size→Instr.fill (fun i=>some (i*de.size,de.size)) c0 (parts.map fun (i,x)=>(i,a.eval x)).toList=some cells:=fun c0 hc0=>by
   rw [hpz,Great.fill_whole hsz vs c0 hcells (by rw [hvl];exact hc0),hcl]
  unfold Instr.buildSlice
  rw [Sem.run_bind,run_underlying (hd.slice hk),Result.andThen_ok]
  simp only [Sem.run_bind,hde.size,Result.andThen_ok,if_neg hb']
  by_cases h0:xs.length*de.size=0
  ·simp only [if_pos h0,Sem.run_bind,Sem.run_pure,Result.andThen_ok]
   rw [hfill]
   ·rfl
   ·simp
  ·simp only [if_neg h0,Sem.run_bind,hz1,Result.andThen_ok,Sem.run_pure]
   rw [hfill]
   ·rfl
   ·simp
 have hcl2:cells.toList.length=xs.length*de.size:=by
  rw [hcl]
  have:∀ l:List Value,(∀ v∈l,v.cells.size=de.size)→(l.flatMap fun v=>v.cells.toList).length=l.length*de.size:=fun l=>by
   induction l with
   | nil=>intro _;simp
   | cons v l ih=>
    intro h
    rw [qal,ql,ih fun u hu=>h u (qk _ hu),qav,h v (qo ..),qq,Nat.succ_mul,Nat.add_comm]
  simpa [hvl] using this vs hcells
 have hcore:=hs'.core
 have hgr:Grow w (w.alloc (.cells cells e)):=kde _ _
 refine kam (w':=w.alloc (.cells cells e)) (v := .slice (some ⟨w.heap.size,0,none⟩) xs.length xs.length) ?_ ⟨ψ.set id xs.length (.slice (some ⟨w.heap.size,0,none⟩) xs.length xs.length),S,?_,?_,kov _ hcore.fr,keo hid _ _,fun _ h=>qk _ h,fun _ h=>h,Same.of_grow hgr⟩
 ·have hrow':=hrow
  simp only [execOp,ho,Sem.run_bind]
  rw [show (parts.map fun (i,x)=>(i,a.eval x))=parts.map (fun x=>(x.1,a.eval x.2)) from rfl] at hrow'
  simp [hrow']
 ·refine hcore.add hgr hid (fun b hb=>by simp [kb1] at hb;omega) ⟨ke1 _ _,hsz,cells.toList,?_,fun x hx=>p2 x hx,fun i x j v y hx hv hy=>?_⟩
  ·rw [kbn]
   refine ⟨hcl2, .inr ⟨w.heap.size,xs.length,cells,rfl,qx _,heap_alloc_new w _,qw _,?_,by simpa using hcl2,?_⟩⟩
   ·have:xs.length*1≤xs.length*de.size:=Nat.mul_le_mul_left _ hsz
    unfold maxLen
    omega
   ·rw [← hcl2,List.take_length]
  ·obtain ⟨u,p,h1,_,_,h4⟩:=helt i x hx
   have hj:j<de.size:=by
    have:=(List.getElem?_eq_some_iff.1 hy).1
    rw [(p2 x (qt hx)).1] at this
    exact this
   have hfl:=Great.flat_get hsz vs hcells (i*de.size+j)
   rw [show (i*de.size+j) / de.size=i by rw [Nat.mul_comm,Nat.mul_add_div hsz,Nat.div_eq_of_lt hj];omega,show (i*de.size+j) % de.size=j by rw [Nat.mul_comm,Nat.mul_add_mod,Nat.mod_eq_of_lt hj],h1] at hfl
   simp only [qa] at hfl
   rw [hcl] at hv
   simp only [] at hv
   rw [hfl] at hv
   have:=(h4.cells (p2 x (qt hx)).2).2.1 j v y (by simpa using hv) hy
   exact this.keep (Same.of_grow hgr)
 ·exact .row (qo ..) (by rw [ke1];exact qw _) rfl fun _=>(kbn _ _).symm
theorem kut {α:Type} {enc:α→FV} {n:Nat} {parts:Array (Nat×Operand)} {e:TypeId} {de:TD} {xs:List α} (hT:TOk P T) (ho:o.op = .buildSlice t n parts) (hd:ka3 T t=some d) (hk:d.kind = .slice e) (hde:ka3 T e=some de) (hz:Nat.ble 1 de.size=true) (hn:xs.length=n) (hb:Nat.ble (n*de.size) 16777216=true:=by kernel_rfl) (hp:kpi de.size 0 (ke9 st parts)=some (xs.map enc):=by kernel_rfl) (hid:st.ids.contains id=false:=by kernel_rfl):kdf P o st (.row id xs.length) ((id, .frow e de.size (xs.map enc))::st.heap) (id::st.ids):=by
 have:=kaed (id:=id) ho (hT.get hd) hk (hT.get hde) (qac hz) (by simpa using hn) (qac hb) hp hid
 rw [← hn] at this
 exact this
end
end Go.Proofs.YtaimpcnpifoidaaGreatDoor
set_option linter.unusedVariables false
set_option linter.unusedSimpArgs false
namespace Go.Proofs.YtaimpcnpifoidaaGreatDoor
open Go Go.RowKit
def k6c (id:Nat):List AV→Option (List AV)
 | .fz (.atom (.pointer none))::cs=>some (.opt id::cs)
 | .ref i n off::cs=>bif Nat.beq i id && (Nat.beq n 0 && Nat.beq off 0) then some (.opt id::cs) else none
 | _=>none
section
variable {P:Program} {F S0:Nat→Prop} {N0:Nat} {w w':World} {S S':Nat→Prop} {ψ:Env} {K:Nat→Prop} {T:List (TypeId×TD)} {o:Oper} {a:Act} {st:St} {t:TypeId} {d:TD} {id:Nat}
theorem k36 {e:TypeId} {c c':AV} {cells:List AV} (hob:kab st.heap id=some (.box e (c::cells))) (hs1:c'.single=true) (hs:Sim F S0 N0 st ψ S a w)
  (hv:∀ v b,ψ.len id=0→ψ.val id = .pointer (some ⟨b,0,none⟩)→RV ψ (·∈st.ids) S w v c→RV ψ (·∈st.ids) S w v c'):Sim F S0 N0 { st with heap:=(id, .box e (c'::cells))::st.heap } ψ S a w:=by
 obtain ⟨k1,⟨k0,b,cs,k2,k3,k4,k5,k6⟩,k7⟩:=hs.core.obj id _ hob
 refine ⟨hs.defers,hs.size,hs.tmps,⟨fun i ob ho=>?_,fun i i' ob ob' bb ho ho' hne hb=>?_,hs.core.lt,hs.core.s0,hs.core.n0,hs.core.fr⟩⟩
 ·rw [kai] at ho
  by_cases hi:id=i
  ·subst hi
   rw [if_pos rfl] at ho
   injection ho with ho
   subst ho
   refine ⟨k1,⟨k0,b,cs,k2,k3,by simpa using k4,fun x hx=>?_,fun i v x hv' hx=>?_⟩,k7⟩
   ·rcases q8.1 hx with rfl | hx
    ·exact hs1
    ·exact k5 x (qk _ hx)
   ·cases i with
    | zero=>
     simp at hx
     subst hx
     exact hv v b k0 k2 (k6 0 v c hv' rfl)
    | succ i=>exact k6 (i+1) v x hv' (by simpa using hx)
  ·rw [if_neg hi] at ho
   exact hs.core.obj i ob ho
 ·have f:∀ {i:Nat} {o:AObj},kab ((id,AObj.box e (c'::cells))::st.heap) i=some o→∃ o',kab st.heap i=some o':=fun {i o} h=>by
   rw [kai] at h
   by_cases hi:id=i
   ·subst hi;exact ⟨_,hob⟩
   ·rw [if_neg hi] at h;exact ⟨_,h⟩
  obtain ⟨o1,h1⟩:=f ho
  obtain ⟨o2,h2⟩:=f ho'
  exact hs.core.inj i i' o1 o2 bb h1 h2 hne hb
theorem kku {e2:TypeId} {cells cells':List AV} (hob:kab st.heap id=some (.box e2 cells):=by kernel_rfl) (hc:k6c id cells=some cells':=by kernel_rfl):LeSt st { st with heap:=(id, .box e2 cells')::st.heap }:=by
 intro F S0 N0 ψ S a w hs
 have hid:=(hs.core.obj id _ hob).1
 unfold k6c at hc
 split at hc
 ·injection hc with hc
  subst hc
  refine ⟨ψ,S,k36 hob rfl hs fun v b h0 h1 hv=>?_⟩
  rw [hv.atom]
  exact .opt hid rfl fun _ => .inl rfl
 ·rename_i i n off cs
  cases hb:(Nat.beq i id && (Nat.beq n 0 && Nat.beq off 0)) with
  | false=>rw [hb] at hc;cases hc
  | true=>
   rw [hb] at hc
   simp only [qd,qh] at hc
   subst hc
   simp only [qu] at hb
   obtain ⟨h1,h2,h3⟩:=hb
   obtain rfl:=qr h1
   obtain rfl:=qr h2
   obtain rfl:=qr h3
   refine ⟨ψ,S,k36 hob rfl hs fun v b h0 h1 hv=>?_⟩
   cases hv with
   | ref hK hn ho hv=>exact .opt hK ho fun h => .inr (hv h)
 ·cases hc
theorem kai6 {e:TypeId} {cells:List AV} (hob:kab st.heap id=some (.box e (.opt id::cells))) (hs:Sim F S0 N0 st ψ S a w):
  Sim F S0 N0 { st with heap:=(id, .box e (.fz (.atom (.pointer none))::cells))::st.heap } ψ S a w∨Sim F S0 N0 { st with heap:=(id, .box e (.ref id 0 0::cells))::st.heap } ψ S a w:=by
 obtain ⟨k1,⟨k0,b,cs,k2,k3,k4,k5,k6⟩,k7⟩:=hs.core.obj id _ hob
 have hc0:cs[0]?=some (cs[0]'(by simp at k4;omega)):=Array.getElem?_eq_getElem _
 have hv:=k6 0 _ _ hc0 rfl
 generalize cs[0]'(by simp at k4;omega)=u at hc0 hv
 cases hv with
 | opt hK h1 hv=>
  have key:∀ c',c'.single=true→RV ψ (·∈st.ids) S w u c'→Sim F S0 N0 { st with heap:=(id, .box e (c'::cells))::st.heap } ψ S a w:=fun c' hs1 hr=>by
   refine ⟨hs.defers,hs.size,hs.tmps,⟨fun i ob ho=>?_,fun i i' ob ob' bb ho ho' hne hb=>?_,hs.core.lt,hs.core.s0,hs.core.n0,hs.core.fr⟩⟩
   ·rw [kai] at ho
    by_cases hi:id=i
    ·subst hi
     rw [if_pos rfl] at ho
     injection ho with ho
     subst ho
     refine ⟨k1,⟨k0,b,cs,k2,k3,by simpa using k4,fun x hx=>?_,fun i v x hv' hx=>?_⟩,k7⟩
     ·rcases q8.1 hx with rfl | hx
      ·exact hs1
      ·exact k5 x (qk _ hx)
     ·cases i with
      | zero=>
       simp at hx
       subst hx
       rw [hc0] at hv'
       injection hv' with hv'
       exact hv' ▸ hr
      | succ i=>exact k6 (i+1) v x hv' (by simpa using hx)
    ·rw [if_neg hi] at ho
     exact hs.core.obj i ob ho
   ·have f:∀ {i:Nat} {o:AObj},kab ((id,AObj.box e (c'::cells))::st.heap) i=some o→∃ o',kab st.heap i=some o':=fun {i o} h=>by
     rw [kai] at h
     by_cases hi:id=i
     ·subst hi;exact ⟨_,hob⟩
     ·rw [if_neg hi] at h;exact ⟨_,h⟩
    obtain ⟨o1,h1⟩:=f ho
    obtain ⟨o2,h2⟩:=f ho'
    exact hs.core.inj i i' o1 o2 bb h1 h2 hne hb
  rcases hv k0.symm with rfl | ⟨b',hb',rfl⟩
  ·exact .inl (key _ rfl (.fz (.atom rfl)))
  ·exact .inr (key _ rfl (.ref hK (qx _) rfl fun _=>⟨b',hb',rfl⟩))
theorem k46 {c:Code} {Q:Exit→St→Prop} {e:TypeId} {cells:List AV} (hob:kab st.heap id=some (.box e (.opt id::cells))) (h1:awp P c { st with heap:=(id, .box e (.fz (.atom (.pointer none))::cells))::st.heap } Q)
  (h2:awp P c { st with heap:=(id, .box e (.ref id 0 0::cells))::st.heap } Q):awp P c st Q:=fun F S0 N0 ψ S a w hs=>by
 rcases kai6 hob hs with h | h
 ·exact h1 F S0 N0 ψ S a w h
 ·exact h2 F S0 N0 ψ S a w h
theorem kwf {e:TypeId} {cells:List AV} {off:Nat} {v:Value} (hob:ObR ψ K S w id (.box e cells)) (hv:RV ψ K S w v (.ref id 0 off)):∃ b cs,v = .pointer (some ⟨b,off,none⟩)∧w.heap[b]?=some (.cells cs e (0,0))∧cs.size=cells.length:=by
 obtain ⟨k0,b,cs,k2,k3,k4,_⟩:=hob
 cases hv with
 | ref hK hn h1 hv=>
  obtain ⟨b',hb',rfl⟩:=hv k0.symm
  rw [k2] at hb'
  simp only [kb1,qh] at hb'
  subst hb'
  exact ⟨b,cs,rfl,k3,k4⟩
theorem klf {op:BinOp} {x y:Operand} {u v:Option Addr}:(eqGuard op t x y (.pointer u) (.pointer v)).run P w = .ok () w:=by
 unfold eqGuard
 cases op <;> simp
theorem kun {u v:Option Addr} {r:Bool} (h:∀ d:Nat,(Op.equalIn (d+1) t (.pointer u) (.pointer v)).run P w = .ok r w):(binOp .eql t (.pointer u) (.pointer v)).run P w = .ok (.bool r) w∧(binOp .neq t (.pointer u) (.pointer v)).run P w = .ok (.bool !r) w:=by
 constructor <;> (simp only [binOp];simp [Op.equal,Op.maxDepth,h 9999])
theorem kae3 {x y:Operand} {yt te e:TypeId} {cells:List AV} {off:Nat} (neg:Bool) (ho:o.op = .binOp (if neg then .neq else .eql) t x y yt:=by kernel_rfl) (ht:P.underlying t=some (.pointer te):=by kernel_rfl) (hx:st.eval x = .ref id 0 off:=by kernel_rfl) (hob:kab st.heap id=some (.box e cells):=by kernel_rfl) (hy:st.eval y = .fz (.atom (.pointer none)):=by kernel_rfl):
  NStep P o st (.fz (.atom (.bool neg))):=by
 intro ψ S a w htm hO
 have h1:=Sim.eval_tmps htm x
 rw [hx] at h1
 obtain ⟨b,cs,h1,_⟩:=kwf (hO id _ hob) h1
 have h2:=Sim.eval_tmps htm y
 rw [hy] at h2
 have h2:=h2.atom
 refine kam (w':=w) (v := .bool neg) ?_ ⟨kaj _, .fz (.atom rfl)⟩
 obtain ⟨q1,q2⟩:=kun (P:=P) (w:=w) (t:=t) (r:=false) (u:=(some ⟨b,off,none⟩)) (v:=none) fun d=>by simp [Op.equalIn,run_underlying ht]
 cases neg
 ·simp [execOp,ho,h1,h2,klf,q1]
 ·simp [execOp,ho,h1,h2,klf,q2]
theorem kadt {x y:Operand} {yt te:TypeId} (neg:Bool) (ho:o.op = .binOp (if neg then .neq else .eql) t x y yt:=by kernel_rfl) (ht:P.underlying t=some (.pointer te):=by kernel_rfl) (hx:st.eval x = .fz (.atom (.pointer none)):=by kernel_rfl) (hy:st.eval y = .fz (.atom (.pointer none)):=by kernel_rfl):
  NStep P o st (.fz (.atom (.bool !neg))):=by
 intro ψ S a w htm hO
 have h1:=Sim.eval_tmps htm x
 rw [hx] at h1
 have h1:=h1.atom
 have h2:=Sim.eval_tmps htm y
 rw [hy] at h2
 have h2:=h2.atom
 refine kam (w':=w) (v := .bool !neg) ?_ ⟨kaj _, .fz (.atom rfl)⟩
 obtain ⟨q1,q2⟩:=kun (P:=P) (w:=w) (t:=t) (r:=true) (u:=none) (v:=none) fun d=>by simp [Op.equalIn,run_underlying ht]
 cases neg
 ·simp [execOp,ho,h1,h2,klf,q1]
 ·simp [execOp,ho,h1,h2,klf,q2]
theorem kabl {x y:Operand} {yt te e:TypeId} {cells:List AV} {off:Nat} {j:TypeInfo} (neg:Bool) (ho:o.op = .binOp (if neg then .neq else .eql) t x y yt:=by kernel_rfl) (ht:P.underlying t=some (.pointer te):=by kernel_rfl) (hj:P.info? te=some j:=by kernel_rfl) (hx:st.eval x = .ref id 0 off:=by kernel_rfl) (hob:kab st.heap id=some (.box e cells):=by kernel_rfl) (hy:st.eval y = .ref id 0 off:=by kernel_rfl):NStep P o st (.fz (.atom (.bool !neg))):=by
 intro ψ S a w htm hO
 have h1:=Sim.eval_tmps htm x
 rw [hx] at h1
 obtain ⟨b,cs,h1,g1,_⟩:=kwf (hO id _ hob) h1
 have h2:=Sim.eval_tmps htm y
 rw [hy] at h2
 obtain ⟨k0,b0,cs0,k2,_⟩:=hO id _ hob
 have hb:∀ v,RV ψ (·∈st.ids) S w v (.ref id 0 off)→v = .pointer (some ⟨b0,off,none⟩):=fun v hv=>by
  cases hv with
  | ref hK hn hh hv=>
   obtain ⟨b',hb',rfl⟩:=hv k0.symm
   rw [k2] at hb'
   simp only [kb1,qh] at hb'
   rw [hb']
 have h2:=hb _ h2
 have h1':=hb _ (by have:=Sim.eval_tmps htm x;rw [hx] at this;exact this)
 rw [h1] at h1'
 injection h1' with h1'
 injection h1' with h1'
 injection h1' with h1'
 subst h1'
 refine kam (w':=w) (v := .bool !neg) ?_ ⟨kaj _, .fz (.atom rfl)⟩
 obtain ⟨q1,q2⟩:=kun (P:=P) (w:=w) (t:=t) (r:=true) (u:=(some ⟨b,off,none⟩)) (v:=(some ⟨b,off,none⟩)) fun d=>by simp [Op.equalIn,run_underlying ht,sizeOf,typeInfo,hj,run_sameAddr_same]
 cases neg
 ·simp [execOp,ho,h1,h2,klf,q1]
 ·simp [execOp,ho,h1,h2,klf,q2]
theorem ktz {b:Nat} {cs:Array Value} {e:TypeId} (h:w.heap[b]?=some (.cells cs e (0,0))):w.shape? b=some (e,cs.size):=by
 simp [World.shape?,h]
theorem k82 {x:Operand} {src te e:TypeId} {cells:List AV} {j:TypeInfo} (ho:o.op = .convert src t x:=by kernel_rfl) (hs:P.underlying src=some (.pointer te):=by kernel_rfl) (hd:P.underlying t=some .unsafePointer:=by kernel_rfl) (hj:P.info? te=some j:=by kernel_rfl) (hj0:Nat.beq j.size 0=false:=by kernel_rfl) (hx:st.eval x = .ref id 0 0:=by kernel_rfl) (hob:kab st.heap id=some (.box e cells):=by kernel_rfl) (hc:Nat.ble 1 cells.length=true:=by kernel_rfl):NStep P o st (.ref id 0 0):=by
 intro ψ S a w htm hO
 have h0:=Sim.eval_tmps htm x
 rw [hx] at h0
 obtain ⟨b,cs,h1,g1,g2⟩:=kwf (hO id _ hob) h0
 refine kam (w':=w) (v:=a.eval x) ?_ ⟨kaj _,h0.here⟩
 simp only [execOp,ho,Sem.run_bind,h1]
 rw [Lib.run_to_unsafe w ⟨b,0,none⟩ hs hd hj (fun e=>by rw [e] at hj0;cases hj0) (ktz g1) (by rw [g2];exact qac hc)]
 rfl
theorem k4e {x:Operand} {src u e:TypeId} {cells:List AV} {j:TypeInfo} (ho:o.op = .convert src t x:=by kernel_rfl) (hs:P.underlying src=some .unsafePointer:=by kernel_rfl) (hd:P.underlying t=some (.pointer u):=by kernel_rfl) (hj:P.info? u=some j:=by kernel_rfl) (hx:st.eval x = .ref id 0 0:=by kernel_rfl) (hob:kab st.heap id=some (.box e cells):=by kernel_rfl) (hl:liesAt P P.depth e (cells.length / P.cellsOf e) 0 u 1=true:=by kernel_rfl):NStep P o st (.ref id 0 0):=by
 intro ψ S a w htm hO
 have h0:=Sim.eval_tmps htm x
 rw [hx] at h0
 obtain ⟨b,cs,h1,g1,g2⟩:=kwf (hO id _ hob) h0
 refine kam (w':=w) (v:=a.eval x) ?_ ⟨kaj _,h0.here⟩
 simp only [execOp,ho,Sem.run_bind,h1]
 rw [Lib.run_from_unsafe w ⟨b,0,none⟩ hs hd hj (ktz g1) (by rw [g2];exact hl)]
 rfl
theorem k9d {f : FuncId} {fn : Func} {ts : Array TypeId} {X : Operand} (ho : o.op = .call { callee := .value (.func f), args := #[X], argTypes := ts }) (hf : P.funcs[f]? = some fn) (hname : (fn.name == "runtime.NumGoroutine") = false := by kernel_rfl) (hb : fn.body.isNone = true := by kernel_rfl) (hn : Extern.findNext fn = none := by kernel_rfl) (he : Extern.find fn = some Extern.AbiNoEscape.same := by kernel_rfl) :
  NStep P o st (st.eval X):=by
 intro ψ S a w ht hO
 refine kam (w':=w) (v:=a.eval X) ?_ ⟨kaj _,(Sim.eval_tmps ht X).here⟩
 have h0:a.eval (.func f) = .func (.func f) #[] #[]:=rfl
 simp [execOp,ho,resolve,h0,Deferred.ofValue,invoke,run_callFunc_extern hf hname hb hn he,Lib.run_noEscape]
theorem ky6 {e:TypeId} {t u ty:TypeId} {i:TypeInfo} (ht:P.underlying t=some (.slice e)) (hu:P.underlying u=some .string) (hi:P.info? e=some i) (hz:i.zero=some (.int .u8 0)) (hsize:i.size=1) (hby:i.bytes=1) {v:Value} {n:Nat} {xs:List Value} (hown:w.ownsRow 0 e 1 v n xs) (s:BA)
  (hbytes:n+s.size≤140737488355328):∃ v' w',(Builtin.append_ #[t,u] ty #[v, .string s]).run P w = .ok v' w'∧w'.ownsRow 0 e 1 v' (n+s.size) (xs++Lib.strCells s)∧w.grownBy w' v.ownBlock∧(∀ b,v'.ownBlock=some b→v.ownBlock=some b∨w.heap.size≤b)∧(s.size=0→v'=v):=by
 have hm:n+s.size≤maxLen:=by unfold maxLen;omega
 have hxl:xs.length=n:=by simpa using hown.1
 obtain ⟨v',w',h1,h2,h3,h4⟩:=Lib.run_append_own_string w 0 t u ty e i ht hu hi hz hsize hby v n xs hown s hm hbytes (qx _)
 have hsl:s.size=0→xs++Lib.strCells s=xs:=fun h0=>by
  have:Lib.strCells s=[]:=qz (by rw [Lib.strCells_length];exact h0)
  rw [this,List.append_nil]
 rcases hown.2 with ⟨rfl,rfl⟩ | ⟨g,cap,cur,rfl,hbg,hg,hnc,hcm,hcs,htake⟩
 ·have hx:xs=[]:=qz hxl
  subst hx
  obtain ⟨v2,w2,k1,k2,k3,k4⟩:=Lib.run_append_own_string w w.heap.size t u ty e i ht hu hi hz hsize hby (.slice none 0 0) 0 [] (World.ownsRow_nil w _ e 1) s hm hbytes (qw _)
  rw [h1] at k1
  injection k1 with k5 k6
  subst k5 k6
  refine ⟨v',w',h1,h2,h3,fun b hb => .inr ?_,fun h0=>h4.2 ⟨rfl,h0⟩⟩
  rcases k2.2 with ⟨rfl,_⟩ | ⟨g,cap,cur,rfl,hbg,_⟩
  ·cases hb
  ·have:g=b:=by simpa [Value.ownBlock] using hb
   omega
 ·have hcs':cur.size=cap:=by simpa using hcs
  have hsrc:=Src.ofString (P:=P) w hu s
  by_cases hroom:n+s.size≤cap
  ·have hr:=run_append_room_src (P:=P) w t u ty e i ht hi g 0 n cap (.string s) s.size _ (by rw [hsize];exact hsrc) hroom (fun j hj=>by
     rw [byteCells_length] at hj
     rw [hsize,Lib.cell_of_heap hg,Array.getElem?_eq_getElem (by omega)];rfl) (fun j hj=>Lib.frozen_of_heap hg _)
   rw [h1] at hr
   injection hr with k5 k6
   refine ⟨v',w',h1,h2,h3,fun b hb => .inl ?_,fun h0=>?_⟩
   ·rw [k5] at hb;exact hb
   ·rw [k5,h0];rfl
  ·have holds:∀ j u,xs[j]?=some u→w.cell? ((⟨g,0,none⟩:Addr).add j)=some u:=hown.cells (g:=g) rfl
   have hr:=run_append_grow_src (P:=P) w t u ty e i (.int .u8 0) ht hi hz (some ⟨g,0,none⟩) n cap xs (run_firstCells_some w.drew i.size n ⟨g,0,none⟩ n cap xs (by rw [hsize];simpa using hxl) (by simpa using holds)) (.string s) s.size _ (by rw [hsize];exact hsrc) (by omega) (by omega) (by rw [hby];exact growslice_fits (by omega) (by omega))
   rw [h1] at hr
   injection hr with k5 k6
   refine ⟨v',w',h1,h2,h3,fun b hb => .inr ?_,fun h0=>?_⟩
   ·rw [k5] at hb;injection hb with hb;simp at hb;omega
   ·omega
theorem kaaw {x y:Operand} {e u:TypeId} {n:Nat} {xs:List FV} {s:BA} {i:TypeInfo} (ho:o.op = .call { callee := .builtin .append,args:=#[x,y],argTypes:=#[t,u] }) (hd:TdOk P t d) (hk:d.kind = .slice e) (hu:P.underlying u=some .string)
  (hi:P.info? e=some i) (hz:i.zero=some (.int .u8 0)) (hsize:i.size=1) (hby:i.bytes=1) (hx:st.eval x = .row id n) (hob:kab st.heap id=some (.frow e 1 xs)) (hn:n=xs.length) (hy:st.eval y = .fz (.atom (.string s))) (hlen:xs.length+s.size≤140737488355328):
  kdf P o st (.row id (xs.length+s.size)) ((id, .frow e 1 (xs++(ofBA s).map eU8))::st.heap) st.ids:=by
 subst hn
 intro F S0 N0 ψ S a w hs'
 have hcore:=hs'.core
 obtain ⟨hid,⟨h0,hsz,cs,hown,hel,hr⟩,hfr⟩:=hcore.obj id _ hob
 have hv:=hs'.eval x
 rw [hx] at hv
 have hvx:a.eval x=ψ.val id:=by
  generalize a.eval x=u at hv
  cases hv with
  | row hK hn h1 hv=>exact hv h0.symm
 have hvy:=hs'.eval y
 rw [hy] at hvy
 have hvy:=hvy.atom
 obtain ⟨v',w',hrun,hown',hgrow,hob',hnil⟩:=ky6 (ty:=o.type) (hd.slice hk) hu hi hz hsize hby hown s hlen
 have hcl:cs.length=xs.length:=by simpa using hown.1
 have hofl:((ofBA s).map eU8).length=s.size:=by
  simp [ofBA]
 have hlx:(xs++(ofBA s).map eU8).length=xs.length+s.size:=by rw [ql,hofl]
 have hx2:ψ.len id<xs.length+s.size∨(ψ.len id=xs.length+s.size∧v'=ψ.val id):=by
  by_cases h0':s.size=0
  ·refine .inr ⟨by omega,hnil h0'⟩
  ·exact .inl (by omega)
 have hoth:∀ k,k<w.heap.size→¬ Blk (ψ.val id) k→w'.heap[k]?=w.heap[k]?:=fun k hk hne=>hgrow.block k hk fun e=>hne (kwm hown e.symm)
 have hk2:Same S w w':=fun k hk hl=>hoth k hl fun e=>(hfr k e).1 hk
 obtain ⟨c1,c2,c3⟩:=hcore.upd (n:=xs.length+s.size) (v:=v') (w':=w') (ob' := .frow e 1 (xs++(ofBA s).map eU8)) hob hgrow.size hoth hx2 (fun b hb=>by
   rcases hob' b (k6r hown' hb) with h | h
   ·exact .inl (kwm hown h)
   ·exact .inr h)
  ⟨by rw [ke1,hlx],hsz,cs++Lib.strCells s,by rw [kbn,hlx];exact hown',fun z hz=>(qam.1 hz).elim (hel z) (fun h=>by
   obtain ⟨m,_,rfl⟩:=qao.1 h
   exact ⟨rfl,fun y hy=>by simp [eU8,FV.cells] at hy;subst hy;rfl⟩),(RowR.append hsz (fun i x j v y h1 h2 h3=>hr i x j v y h1 h2 h3) (fun i x j v y h1 h2 h3=>by
    simp only [List.getElem?_map,qj] at h1
    obtain ⟨m,hm,rfl⟩:=h1
    have hj:j=0:=by
     have:=(List.getElem?_eq_some_iff.1 h3).1
     simp [eU8,FV.cells] at this
     exact this
    subst hj
    simp [eU8,FV.cells] at h3
    subst h3
    simp only [ofBA,List.getElem?_map,qj] at hm
    obtain ⟨c,hc,rfl⟩:=hm
    simp only [Lib.strCells,List.getElem?_map,Nat.mul_one,Nat.add_zero,hc,qa6,qh] at h2
    subst h2
    exact .atom rfl) hown.1 hel).keep hk2⟩
 refine kam (w':=w') (v:=v') ?_ ⟨_,S,c1, .row hid (by rw [ke1];exact qw _) (k7a hown') (fun _=>(kbn _ _).symm),⟨hgrow.os,hgrow.tape,hgrow.output,hgrow.size,c3⟩,k0s hx2,fun _ h=>h,fun _ h=>h,c2⟩
 simp only [execOp,ho,resolve,invoke,builtin,Sem.run_bind,Sem.run_pure,Result.andThen_ok,List.map_toArray,qah,List.map_nil,hvx,hvy,hrun]
theorem kaai {x y:Operand} {e u:TypeId} {n:Nat} {xs r:List Int} {s:BA} {i:TypeInfo} (h:appS xs s=some r) (hT:TOk P T) (ho:o.op = .call { callee := .builtin .append,args:=#[x,y],argTypes:=#[t,u] }) (hd:ka3 T t=some d) (hk:d.kind = .slice e) (hu:P.underlying u=some .string)
  (hi:P.info? e=some i) (hz:i.zero=some (.int .u8 0)) (hsize:i.size=1) (hby:i.bytes=1) (hx:st.eval x = .row id n) (hob:kab st.heap id=some (.frow e 1 (xs.map eU8))) (hn:n=xs.length) (hy:st.eval y = .fz (.atom (.string s)):=by kernel_rfl):
  kdf P o st (.row id r.length) ((id, .frow e 1 (r.map eU8))::st.heap) st.ids:=by
 unfold appS at h
 split at h
 ·rename_i hl
  injection h with h
  subst h
  have:=kaaw (P:=P) (id:=id) (xs:=xs.map eU8) ho (hT.get hd) hk hu hi hz hsize hby hx hob (by rw [hn];simp) hy (by simpa using hl)
  rw [qan,← List.map_append] at this
  have hl:(xs++ofBA s).length=xs.length+s.size:=by simp [ofBA]
  rw [hl]
  exact this
 ·cases h
theorem k59 {x:Operand} {ts:Array TypeId} {e e':TypeId} {size n:Nat} {xs:List FV} (ho:o.op = .call { callee := .builtin .unsafeSliceData,args:=#[x],argTypes:=ts }) (hty:P.underlying o.type=some (.pointer e')) (hx:st.eval x = .row id n) (hob:kab st.heap id=some (.frow e size xs)) (hn0:n=xs.length):
  NStep P o st (.sdp id n):=by
 intro ψ S a w htm hO
 have h0:=Sim.eval_tmps htm x
 rw [hx] at h0
 obtain ⟨k0,hsz,cs,hown,_⟩:=hO id _ hob
 have key:∀ v w' u,(Builtin.unsafeSliceData_ ts o.type #[u]).run P w = .ok v w'→a.eval x=u→(execOp a.eval o).run P w = .ok (.value v) w':=fun v w' u h hu=>by
  simp only [execOp,ho,resolve,invoke,builtin,Sem.run_bind,Sem.run_pure,Result.andThen_ok,List.map_toArray,qah,List.map_nil,hu,h]
 generalize hu:a.eval x=u at h0
 cases h0 with
 | row hK hn h1 hv=>
  have hnl:n=ψ.len id:=by rw [k0,hn0]
  ·obtain rfl:=hv hnl
   rcases hown.2 with ⟨hval,hn0⟩ | ⟨g,cap,cur,hval,hbg,hg,hnc,hcm,hcs,htk⟩
   ·refine kam (w':=w) (v := .pointer none) (key _ _ _ (by rw [hval];exact Lib.run_unsafeSliceData_nil w _ _ _ _) hu) ⟨kaj _, .sdp hK hn rfl fun _=>⟨⟨_,rfl⟩,fun h=>by omega⟩⟩
   ·by_cases hc:cap=0
    ·subst hc
     have hr:=Lib.run_unsafeSliceData_zero (P:=P) w ts o.type e' hty ⟨g,0,none⟩ xs.length _ (ktz hg)
     refine kam (w':=w.alloc (.view ⟨g,0,none⟩ e')) (v := .pointer (some ⟨w.heap.size,0,none⟩)) (key _ _ _ (by rw [hval];exact hr) hu) ⟨kde _ _, .sdp hK hn rfl fun _=>⟨⟨_,rfl⟩,fun h=>by omega⟩⟩
    ·refine kam (w':=w) (v := .pointer (some ⟨g,0,none⟩)) (key _ _ _ (by rw [hval];exact Lib.run_unsafeSliceData_row w _ _ _ _ _ hc) hu) ⟨kaj _, .sdp hK hn rfl fun _=>⟨⟨_,rfl⟩,fun h=>⟨g,by rw [hval];rfl,rfl⟩⟩⟩
theorem kwe:∀ (l:List Int) (a:Addr) (acc:BA),(∀ (j:Nat) (x:Int),l[j]?=some x→w.cell? (a.add j)=some (.int .u8 x))→(loadBytes a acc l.length).run P w = .ok (l.foldl (fun r n=>r.push (UInt8.ofNat n.toNat)) acc) w
 | [],a,acc,_=>by simp [loadBytes]
 | x::l,a,acc,h=>by
  have h0:w.cell? a=some (.int .u8 x):=by
   have:=h 0 x rfl
   simpa [Addr.add] using this
  have ih:=kwe l (a.add 1) (acc.push x.toNat.toUInt8) (fun j y hy=>by
   have:=h (j+1) y (by simpa using hy)
   have e:(a.add 1).add j=a.add (j+1):=by
    unfold Addr.add
    by_cases hj:j=0
    ·subst hj;simp
    ·simp [hj];omega
   rw [e];exact this)
  simp only [qq,loadBytes,Sem.run_bind,run_load,h0,Result.andThen]
  rw [ih]
  rfl
theorem ks8 (pt it ty e:TypeId) (hp:P.underlying pt=some (.pointer e)) (hc:P.cellsOf e=1) (g cells:Nat) (hsh:w.shape? g=some (e,cells)) (l:List Int) (h0:l≠[]) (hn:l.length≤cells) (h63:l.length≤9223372036854775807)
  (hcell:∀ (j:Nat) (x:Int),l[j]?=some x→w.cell? ((⟨g,0,none⟩:Addr).add j)=some (.int .u8 x)):
  (Builtin.unsafeString_ #[pt,it] ty #[.pointer (some ⟨g,0,none⟩), .int .i64 l.length]).run P w = .ok (.string (toBA l)) (w.freeze ⟨g,0,none⟩ l.length):=by
 have hl:l.length≠0:=by simpa using h0
 have hlb:=kwe (P:=P) (w:=w) l ⟨g,0,none⟩ .empty hcell
 have hlies:=Lib.liesAt_bytes (P:=P) hc (cells / P.cellsOf e) l.length (by rw [hc];simpa using hn)
 have h63':¬ (9223372036854775807:Int)<(l.length:Int):=by omega
 have hdef:Builtin.unsafeString_ #[pt,it] ty #[.pointer (some ⟨g,0,none⟩), .int .i64 l.length] =
   (do
    let n ← asInt (.int .i64 l.length)
    if n < 0 then runtimePanic (.error "unsafe.String: len out of range")
    if n > IntKind.i64.max then unsupported (.unsafePointer "String: a length above the largest int")
    if n=0 then pure (.string .empty)
    else if ← variablesAt ⟨g,0,none⟩ (← elemOf pt) n.toNat then do
     let s ← loadBytes ⟨g,0,none⟩ .empty n.toNat
     freeze ⟨g,0,none⟩ n.toNat
     pure (.string s)
    else unsupported (.unsafePointer "String: not so many bytes at ptr")) := rfl
 rw [hdef]
 have hmax:IntKind.i64.max=9223372036854775807:=rfl
 have hneg:¬ (l.length:Int)<0:=by omega
 simp [asInt,asIntOf,hmax,h63',hneg,hl,variablesAt,hsh,elemOf,run_underlying hp,hlies,hlb,toBA]
theorem k02 {x y:Operand} {pt it e:TypeId} {n:Nat} {xs:List Int} (ho:o.op = .call { callee := .builtin .unsafeString,args:=#[x,y],argTypes:=#[pt,it] }) (hp:P.underlying pt=some (.pointer e)) (hc:P.cellsOf e=1) (hx:st.eval x = .sdp id n) (hob:kab st.heap id=some (.frow e 1 (xs.map eU8))) (hn:n=xs.length)
  (hy:st.eval y = .fz (.atom (.int .i64 (xs.length:Int))):=by kernel_rfl):kdf P o st (.fz (eS (toBA xs))) (kc2 id st.heap) st.ids:=by
 intro F S0 N0 ψ S a w hs
 have h0:=hs.eval x
 rw [hx] at h0
 have h2:=hs.eval y
 rw [hy] at h2
 have h2:=h2.atom
 have hcore:=hs.core
 obtain ⟨hid,⟨k0,hsz,cs,hown,_,hrr⟩,hfr⟩:=hcore.obj id _ hob
 have hl0:ψ.len id=xs.length:=by rw [k0];simp
 have hdrop:∀ w',(∀ k,¬ Blk (ψ.val id) k→w'.heap[k]?=w.heap[k]?)→w'.heap.size=w.heap.size→Same S w w'∧Core F S0 N0 (kc2 id st.heap) st.ids ψ S w':=fun w' hoth hsize=>by
  have hk:Same S w w':=fun k hk hl=>hoth k fun e=>(hfr k e).1 hk
  refine ⟨hk,fun i ob ho=>?_,fun i i' ob ob' b ho ho'=>hcore.inj i i' ob ob' b (keg id ho).2 (keg id ho').2,fun b hb=>by rw [hsize];exact hcore.lt b hb,hcore.s0,by rw [hsize];exact hcore.n0,fun b hb=>by rw [hsize];exact hcore.fr b hb⟩
  obtain ⟨hne,ho⟩:=keg id ho
  obtain ⟨m1,m2,m3⟩:=hcore.obj i ob ho
  exact ⟨m1,m2.keep Ext.refl (fun _ h=>h) (fun _ h=>h) hk ⟨rfl,rfl⟩ fun b hb=>hoth b fun e=>hcore.inj i id ob _ b ho hob hne hb e,m3⟩
 have fin:∀ w' u,a.eval x=u→(∀ k,¬ Blk (ψ.val id) k→w'.heap[k]?=w.heap[k]?)→w'.heap.size=w.heap.size→w'.os=w.os→w'.tape=w.tape→w'.output=w.output→(Builtin.unsafeString_ #[pt,it] o.type #[u, .int .i64 xs.length]).run P w = .ok (.string (toBA xs)) w' →
   khr P o a w fun v w'=>∃ ψ' S',Core F S0 N0 (kc2 id st.heap) st.ids ψ' S' w'∧RV ψ' (·∈st.ids) S' w' v (.fz (eS (toBA xs)))∧Fr F w w'∧Ext (·∈st.ids) ψ ψ'∧(∀ id,id∈st.ids→id∈st.ids)∧(∀ b,S b→S' b)∧Same S w w':=fun w' u hu hoth hsize ho1 ho2 ho3 hrun=>by
  obtain ⟨d1,d2⟩:=hdrop w' hoth hsize
  refine kam (w':=w') (v := .string (toBA xs)) ?_ ⟨ψ,S,d2, .fz (.atom rfl),⟨ho1,ho2,ho3,by omega,fun b hb=>hoth b fun e=>(hfr b e).2.1 hb⟩,Ext.refl,fun _ h=>h,fun _ h=>h,d1⟩
  simp only [execOp,ho,resolve,invoke,builtin,Sem.run_bind,Sem.run_pure,Result.andThen_ok,List.map_toArray,qah,List.map_nil,hu,h2,hrun]
 generalize hu:a.eval x=u at h0
 cases h0 with
 | sdp hK hnn h1 hv=>
  obtain ⟨⟨p,rfl⟩,hv2⟩:=hv (by rw [hn,hl0])
  by_cases he:xs=[]
  ·subst he
   exact fin w _ hu (fun _ _=>rfl) rfl rfl rfl rfl (Lib.run_unsafeString_none w pt it o.type p)
  ·have hpos:0<n:=by rw [hn];exact List.length_pos_iff.2 he
   obtain ⟨b,hb,hpv⟩:=hv2 hpos
   injection hpv with hpv
   subst hpv
   rcases hown.2 with ⟨hval,hn0⟩ | ⟨g,cap,cur,hval,hbg,hg,hnc,hcm,hcs,htk⟩
   ·rw [hval] at hb;cases hb
   ·rw [hval] at hb
    injection hb with hb
    simp at hb
    subst hb
    have hxl:(xs.map eU8).length=xs.length:=by simp
    have hcur:cur.size=cap:=by simpa using hcs
    refine fin (w.freeze ⟨g,0,none⟩ xs.length) _ hu (fun k hk=>?_) ?_ ?_ ?_ ?_ (ks8 pt it o.type e hp hc g cur.size (ktz hg) xs he (by omega) (by unfold maxLen at hcm;omega) fun j x hj=>?_)
    ·rw [hval] at hk
     have hne:k≠g:=fun e=>hk (.of (by rw [e];rfl))
     unfold World.freeze
     split
     ·rfl
     ·simp only [Array.getElem?_modify]
      rw [if_neg (fun e=>hne e.symm)]
    ·unfold World.freeze;split <;> simp
    ·unfold World.freeze;split <;> rfl
    ·unfold World.freeze;split <;> rfl
    ·unfold World.freeze;split <;> rfl
    ·have hjl:j<xs.length:=(List.getElem?_eq_some_iff.1 hj).1
     have hcl:cs.length=xs.length:=by simpa using hown.1
     have hcj:cs[j]?=some (cs[j]'(by omega)):=List.getElem?_eq_getElem _
     have hrj:=hrr j (eU8 x) 0 _ (eU8 x) (by rw [List.getElem?_map,hj];rfl) (by rw [Nat.mul_one,Nat.add_zero];exact hcj) rfl
     rw [kahe hrj] at hcj
     rw [kks,Lib.cell_of_heap hg]
     have:cur.toList[j]?=some (.int .u8 x):=by
      rw [← htk] at hcj
      rw [List.getElem?_take] at hcj
      split at hcj
      ·exact hcj
      ·cases hcj
     simpa using this
theorem kj0 {x:Operand} {e e2:TypeId} {size n:Nat} {xs:List FV} (hT:TOk P T) (ho:o.op = .call { callee := .builtin .len,args:=#[x],argTypes:=#[t] }) (hd:ka3 T t=some d) (hk:d.kind = .slice e2) (hx:st.eval x = .row id n) (hob:kab st.heap id=some (.frow e size xs)) (hn0:n=xs.length):
  NStep P o st (.fz (.atom (.int .i64 n))):=by
 intro ψ S a w htm hO
 have h0:=Sim.eval_tmps htm x
 rw [hx] at h0
 obtain ⟨k0,hsz,cs,hown,_⟩:=hO id _ hob
 have hv:∃ A cap,a.eval x = .slice A n cap:=by
  generalize a.eval x=u at h0
  cases h0 with
  | row hK hn h1 hv=>
   obtain rfl:=hv (by rw [k0,hn0])
   rcases hown.2 with ⟨hval,hn0'⟩ | ⟨g,cap,cur,hval,_⟩
   ·exact ⟨none,0,by rw [hval,hn0,hn0']⟩
   ·exact ⟨some ⟨g,0,none⟩,cap,by rw [hval,hn0]⟩
 obtain ⟨A,cap,hv⟩:=hv
 refine kam (w':=w) (v := .int .i64 n) ?_ ⟨kaj _, .fz (.atom rfl)⟩
 simp [execOp,ho,resolve,invoke,builtin,Builtin.len_,run_underlying ((hT.get hd).slice hk),hv,goInt]
end
def fI (x:Int):AV := .fz (eI x)
def fB (x:Bool):AV := .fz (eB x)
def fS (x:BA):AV := .fz (eS x)
end Go.Proofs.YtaimpcnpifoidaaGreatDoor
