import Derived.Test.YtaimpcnpifoidaaGreatDoorOpm
import Derived.MapKept
import Derived.Laws.OwnMore
set_option linter.unusedVariables false
set_option linter.unusedSimpArgs false
namespace Go.Proofs.YtaimpcnpifoidaaGreatDoor
open Go Go.RowKit
def kw8 (id:Nat):AV→List Nat
 | .row k m=>bif Nat.beq k id then [m] else []
 | _=>[]
def k9j (id:Nat):AV→List Nat
 | .agg cs=>cs.flatMap (kw8 id)
 | .fn _ cs=>cs.flatMap (kw8 id)
 | y=>kw8 id y
def k2o (id:Nat):AV→List Nat
 | .tup cs=>cs.flatMap (k9j id)
 | y=>k9j id y
def k8c (id:Nat):AObj→List Nat
 | .box _ cs=>cs.flatMap (kw8 id)
 | _=>[]
def frz1 (id:Nat) (x:FV):AV→AV
 | .row k m=>bif Nat.beq k id then .fz x else .row k m
 | y=>y
def frzG (id:Nat) (x:FV):AV→AV
 | .agg cs=>aggA (cs.map (frz1 id x))
 | .fn f cs => .fn f (cs.map (frz1 id x))
 | y=>frz1 id x y
def frzT (id:Nat) (x:FV):AV→AV
 | .tup cs=>tupA (cs.map (frzG id x))
 | y=>frzG id x y
def frzO (id:Nat) (x:FV):AObj→AObj
 | .box e cs => .box e (cs.map (frz1 id x))
 | y=>y
def kacr (id:Nat) (st:St):List Nat:=st.tmps.flatMap (fun p=>k2o id p.2)++(kc2 id st.heap).flatMap (fun p=>k8c id p.2)
def frzSt (id:Nat) (x:FV) (st:St):St:={ dfr:=st.dfr,n:=st.n,tmps:=st.tmps.map (fun p=>(p.1,frzT id x p.2)),heap:=(kc2 id st.heap).map (fun p=>(p.1,frzO id x p.2)),ids:=st.ids }
section
variable {F S0:Nat→Prop} {N0:Nat} {w:World} {S:Nat→Prop} {ψ:Env} {K:Nat→Prop} {id n:Nat} {x:FV} {st:St}
theorem kwq (hx:∀ v,RV ψ K S w v (.row id n)→RF S w v x) {v:Value} {y:AV} (h:RV ψ K S w v y) (hr:∀ m∈kw8 id y,m=n):RV ψ K S w v (frz1 id x y):=by
 cases y with
 | row k m=>
  simp only [frz1]
  cases hb:Nat.beq k id with
  | false=>exact h
  | true=>
   have hk:=qr hb
   subst hk
   have hm:m=n:=hr m (by simp [kw8])
   subst hm
   exact .fz (hx v h)
 | _=>exact h
theorem kxl (hs:x.single=true) {y:AV} (h:y.single=true):(frz1 id x y).single=true:=by
 cases y with
 | row k m=>
  simp only [frz1]
  cases Nat.beq k id with
  | false=>exact h
  | true=>exact hs
 | _=>exact h
theorem knb {α β γ:Type} {R Q:α→γ→Prop} {f:β→γ} {R':α→β→Prop} {cs:Array α} {xs:List β} (hr:∀ (i:Nat) (v:α) (y:β),cs[i]?=some v→xs[i]?=some y→R' v y) (hf:∀ v y,y∈xs→R' v y→Q v (f y)):
  ∀ (i:Nat) (v:α) (y:γ),cs[i]?=some v→(xs.map f)[i]?=some y→Q v y:=by
 intro i v y hv hy
 simp only [List.getElem?_map,qj] at hy
 obtain ⟨z,hz,rfl⟩:=hy
 exact hf v z (qt hz) (hr i v z hv hz)
theorem kwr (hs:x.single=true) (hx:∀ v,RV ψ K S w v (.row id n)→RF S w v x) {v:Value} {y:AV} (h:RV ψ K S w v y) (hr:∀ m∈k9j id y,m=n):RV ψ K S w v (frzG id x y):=by
 cases y with
 | agg cs=>
  cases h with
  | agg h h1 hr'=>
   refine RV.aggA (by simpa using h) (fun y hy=>?_) (knb (R:=fun _ _=>True) hr' fun v y hy hv=>kwq hx hv fun m hm=>hr m ?_)
   ·simp only [qao] at hy
    obtain ⟨z,hz,rfl⟩:=hy
    exact kxl hs (h1 z hz)
   ·exact List.mem_flatMap.2 ⟨y,hy,hm⟩
 | fn f cs=>
  cases h with
  | fn h hr'=>exact .fn (by simpa using h) (knb (R:=fun _ _=>True) hr' fun v y hy hv=>kwq hx hv fun m hm=>hr m (List.mem_flatMap.2 ⟨y,hy,hm⟩))
 | row k m=>exact kwq hx h hr
 | _=>exact h
theorem kahw (hs:x.single=true) (hx:∀ v,RV ψ K S w v (.row id n)→RF S w v x) {v:Value} {y:AV} (h:RV ψ K S w v y) (hr:∀ m∈k2o id y,m=n):RV ψ K S w v (frzT id x y):=by
 cases y with
 | tup cs=>
  cases h with
  | tup h hr'=>exact RV.tupA (by simpa using h) (knb (R:=fun _ _=>True) hr' fun v y hy hv=>kwr hs hx hv fun m hm=>hr m (List.mem_flatMap.2 ⟨y,hy,hm⟩))
 | agg cs=>exact kwr hs hx h hr
 | fn f cs=>exact kwr hs hx h hr
 | row k m=>exact kwr hs hx h hr
 | _=>exact h
theorem kady (l:List (Nat×AV)) (t:Nat):look .any (l.map fun p=>(p.1,frzT id x p.2)) t=frzT id x (look .any l t)∧∀ m∈k2o id (look .any l t),m∈l.flatMap (fun p=>k2o id p.2):=by
 induction l with
 | nil=>exact ⟨rfl,fun m hm=>by cases hm⟩
 | cons p l ih=>
  obtain ⟨k,v⟩:=p
  simp only [qah,kdg,qal,qam]
  by_cases h:k=t
  ·simp only [if_pos h]
   exact ⟨trivial,fun m hm => .inl hm⟩
  ·simp only [if_neg h]
   exact ⟨ih.1,fun m hm => .inr (ih.2 m hm)⟩
theorem kvr (l:List (Nat×AObj)) (t:Nat):kab (l.map fun p=>(p.1,frzO id x p.2)) t=(kab l t).map (frzO id x)∧∀ o,kab l t=some o→∀ m∈k8c id o,m∈l.flatMap (fun p=>k8c id p.2):=by
 induction l with
 | nil=>exact ⟨rfl,fun o h=>by cases h⟩
 | cons p l ih=>
  obtain ⟨k,v⟩:=p
  simp only [qah,kai,qal,qam]
  by_cases h:k=t
  ·simp only [if_pos h]
   exact ⟨rfl,fun o ho m hm=>by injection ho with ho;subst ho;exact .inl hm⟩
  ·simp only [if_neg h]
   exact ⟨ih.1,fun o ho m hm => .inr (ih.2 o ho m hm)⟩
theorem ky7 (id:Nat) {n k:Nat} {e:TypeId} {size:Nat} {xs:List FV} (hob:kab st.heap id=some (.frow e size xs)) (hn:n=xs.length) (hrow:kacr id st=List.replicate k n:=by kernel_rfl):LeSt st (frzSt id (.lst size n xs) st):=by
 subst hn
 intro F S0 N0 ψ S a w hs
 obtain ⟨c1,c2⟩:=ko3 hs.core hob
 have hall:∀ m∈kacr id st,m=xs.length:=fun m hm=>by rw [hrow] at hm;exact (List.mem_replicate.1 hm).2
 have h0:=(hs.core.obj id _ hob).2.1.1
 have hx:∀ v,RV ψ (·∈st.ids) (fun b=>S b∨kb1 (ψ.val id)=some b) w v (.row id xs.length)→RF (fun b=>S b∨kb1 (ψ.val id)=some b) w v (.lst size xs.length xs):=by
  intro v hv
  cases hv with
  | row hK hn' h1 hv=>rw [hv (by rw [h0])];exact c2
 refine ⟨ψ,_,hs.defers,hs.size,fun t=>?_,⟨fun i o ho=>?_,fun i i' o o' b ho ho' hne hb=>?_,c1.lt,c1.s0,c1.n0,c1.fr⟩⟩
 ·obtain ⟨l1,l2⟩:=kady (id:=id) (x := .lst size xs.length xs) st.tmps t
  show RV ψ (·∈st.ids) _ w (a.tmps.getD t undef) (look .any (st.tmps.map fun p=>(p.1,frzT id (.lst size xs.length xs) p.2)) t)
  rw [l1]
  refine kahw rfl hx ((hs.tmps t).mono (fun _ h=>h) fun _ h => .inl h) fun m hm=>hall m ?_
  exact qam.2 (.inl (l2 m hm))
 ·obtain ⟨l1,l2⟩:=kvr (id:=id) (x := .lst size xs.length xs) (kc2 id st.heap) i
  have ho':kab ((kc2 id st.heap).map fun p=>(p.1,frzO id (.lst size xs.length xs) p.2)) i=some o:=ho
  rw [l1,qj] at ho'
  obtain ⟨o',h1,rfl⟩:=ho'
  obtain ⟨k1,k2,k7⟩:=c1.obj i o' h1
  refine ⟨k1,?_,k7⟩
  cases o' with
  | box e2 cells=>
   obtain ⟨g0,b,cs,g2,g3,g4,g5,g6⟩:=k2
   refine ⟨g0,b,cs,g2,g3,by simpa using g4,fun y hy=>?_,knb (R:=fun _ _=>True) g6 fun v y hy hv=>kwq hx hv fun m hm=>hall m ?_⟩
   ·simp only [qao] at hy
    obtain ⟨z,hz,rfl⟩:=hy
    exact kxl rfl (g5 z hz)
   ·exact qam.2 (.inr (l2 _ h1 m (List.mem_flatMap.2 ⟨y,hy,hm⟩)))
  | _=>exact k2
 ·obtain ⟨l1,_⟩:=kvr (id:=id) (x := .lst size xs.length xs) (kc2 id st.heap) i
  obtain ⟨l2,_⟩:=kvr (id:=id) (x := .lst size xs.length xs) (kc2 id st.heap) i'
  have ho1:kab ((kc2 id st.heap).map fun p=>(p.1,frzO id (.lst size xs.length xs) p.2)) i=some o:=ho
  have ho2:kab ((kc2 id st.heap).map fun p=>(p.1,frzO id (.lst size xs.length xs) p.2)) i'=some o':=ho'
  rw [l1,qj] at ho1
  rw [l2,qj] at ho2
  obtain ⟨u,hu,_⟩:=ho1
  obtain ⟨u',hu',_⟩:=ho2
  exact c1.inj i i' u u' b hu hu' hne hb
end
end Go.Proofs.YtaimpcnpifoidaaGreatDoor
set_option linter.unusedVariables false
set_option linter.unusedSimpArgs false
namespace Go.Proofs.YtaimpcnpifoidaaGreatDoor
open Go Go.RowKit
def kgw {α:Type} (s:BA):List (BA×α)→Nat→Option (Nat×α)
 | [],_=>none
 | (k,v)::l,i=>bif s.toList == k.toList then some (i,v) else kgw s l (i+1)
def mget {α:Type} (m:List (BA×α)) (s:BA) (z:α):α:=match kgw s m 0 with
 | some (_,x)=>x
 | none=>z
def mhas {α:Type} (m:List (BA×α)) (s:BA):Bool:=(kgw s m 0).isSome
def mput {α:Type} (m:List (BA×α)) (s:BA) (y:α):List (BA×α):=match kgw s m 0 with
 | some (j,_)=>m.set j (s,y)
 | none=>m++[(s,y)]
theorem kn8 (a b:BA):(a.toList == b.toList)=(a == b):=by
 rw [Bool.eq_iff_iff,beq_iff_eq,MapKept.bytes_beq,ByteArray.toList_eq,ByteArray.toList_eq]
 constructor
 ·intro h;exact ByteArray.ext (Array.toList_inj.1 h)
 ·intro h;rw [h]
theorem kpx {α β:Type} (f:α→β) (s:BA):∀ (m:List (BA×α)) (i:Nat),kgw s (m.map fun p=>(p.1,f p.2)) i=(kgw s m i).map fun p=>(p.1,f p.2)
 | [],_=>rfl
 | (k,v)::l,i=>by
  simp only [qah,kgw]
  cases s.toList == k.toList with
  | true=>rfl
  | false=>exact kpx f s l (i+1)
theorem ktn {α β:Type} (f:α→β) (m:List (BA×α)) (s:BA) (z:α):mget (m.map fun p=>(p.1,f p.2)) s (f z)=f (mget m s z):=by
 unfold mget
 rw [kpx]
 cases kgw s m 0 with
 | none=>rfl
 | some p=>rfl
theorem k3l {α β:Type} (f:α→β) (m:List (BA×α)) (s:BA):mhas (m.map fun p=>(p.1,f p.2)) s=mhas m s:=by
 unfold mhas
 rw [kpx]
 cases kgw s m 0 with
 | none=>rfl
 | some p=>rfl
theorem k5f {α:Type} {s:BA}:∀ {m:List (BA×α)} {i j:Nat} {x:α},kgw s m i=some (j,x)→i≤j∧j - i<m.length∧∃ k,m[j - i]?=some (k,x)∧k=s
 | [],i,j,x,h=>by cases h
 | (k,v)::l,i,j,x,h=>by
  simp only [kgw] at h
  cases hb:s.toList == k.toList with
  | true=>
   rw [hb] at h
   simp only [qd,qh,qad] at h
   obtain ⟨rfl,rfl⟩:=h
   rw [kn8,MapKept.bytes_beq] at hb
   exact ⟨qw _,by simp,k,by simp,hb.symm⟩
  | false=>
   rw [hb] at h
   obtain ⟨h1,h2,k',h3,h4⟩:=k5f h
   have e:j - i=(j - (i+1))+1:=by omega
   exact ⟨by omega,by simp;omega,k',by rw [e,List.getElem?_cons_succ];exact h3,h4⟩
section
variable {P:Program} {F S0:Nat→Prop} {N0:Nat} {w w':World} {S S':Nat→Prop} {ψ:Env} {K:Nat→Prop} {T:List (TypeId×TD)} {o:Oper} {a:Act} {st:St} {t:TypeId} {d:TD} {id:Nat}
theorem ko1 (s:BA) {R:Value→FV→Prop}:∀ (es:List MapEntry) (kv:List (BA×FV)) (i:Nat),es.length=kv.length→(∀ (j:Nat) (e:MapEntry) (p:BA×FV),es[j]?=some e→kv[j]?=some p→e.key = .string p.1∧R e.val p.2) →
  (Instr.findNow .string (.string s) es i=some none∧kgw s kv i=none)∨∃ j v x,Instr.findNow .string (.string s) es i=some (some (j,v))∧kgw s kv i=some (j,x)∧R v x
 | [],[],i,_,_ => .inl ⟨rfl,rfl⟩
 | [],p::kv,i,h,_=>by cases h
 | e::es,[],i,h,_=>by cases h
 | e::es,(k,x)::kv,i,h,hr=>by
  obtain ⟨hk,hv⟩:=hr 0 e (k,x) rfl rfl
  simp only [Instr.findNow,hk,Instr.sameNow,kgw,kn8]
  cases hb:s == k with
  | true=>exact .inr ⟨i,e.val,x,rfl,rfl,hv⟩
  | false=>exact ko1 s es kv (i+1) (by simpa using h) fun j e p he hp=>hr (j+1) e p (by simpa using he) (by simpa using hp)
theorem TdOk.mp {k e:Nat} (h:TdOk P t d) (hk:d.kind = .map k e):P.underlying t=some (.map k e):=by
 obtain ⟨_,e',h1,h2⟩:=h
 rw [hk] at h2
 cases e' <;> simp [kap] at h2
 rw [h1,h2.1,h2.2]
theorem k1l (ho:o.op = .makeMap t none:=by kernel_rfl) (hid:st.ids.contains id=false:=by kernel_rfl):kdf P o st (.mp id) ((id, .smap [])::st.heap) (id::st.ids):=by
 have hid:id∉st.ids:=by simpa using hid
 intro F S0 N0 ψ S a w hs'
 have hcore:=hs'.core
 refine kam (w':=w.alloc (.map #[] 0)) (v := .map (some w.heap.size)) ?_ ⟨ψ.set id 0 (.map (some w.heap.size)),S,?_,?_,kov _ hcore.fr,keo hid _ _,fun _ h=>qk _ h,fun _ h=>h,Same.of_grow (kde _ _)⟩
 ·simp [execOp,ho,Instr.makeMap]
 ·exact hcore.add (kde _ _) hid (fun b hb=>by simp [kb1] at hb;omega) ⟨ke1 _ _,w.heap.size,_,_,kbn _ _,heap_alloc_new w _,rfl,fun i e p he hp=>by simp at he⟩
 ·exact .mp (qo ..) rfl fun _=>by rw [kbn]
theorem k3r {kv:List (BA×FV)} {v:Value} (hs:ObR ψ K S w id (.smap kv)) (hv:RV ψ K S w v (.mp id)):v=ψ.val id:=by
 cases hv with
 | mp hK h1 hv=>exact hv hs.1.symm
theorem kaf5 {α:Type} {enc:α→FV} {m:List (BA×α)} {s:BA} {z:α} {x y:Operand} {kt et:TypeId} {kd:TD} (zv:Value) (ho:o.op = .lookup t x y false) (hT:TOk P T) (hd:ka3 T t=some d) (hk:d.kind = .map kt et) (hkd:ka3 T kt=some kd) (hks:kd.kind = .str) (inf:TypeInfo) (hi1:P.info? et=some inf) (hi2:inf.zero=some zv) (hze:enc z = .atom zv) (hzo:zv.oneCell'=true)
  (hx:st.eval x = .mp id:=by kernel_rfl) (hob:kab st.heap id=some (.smap (m.map fun p=>(p.1,enc p.2))):=by kernel_rfl) (hy:st.eval y = .fz (.atom (.string s)):=by kernel_rfl):NStep P o st (.fz (enc (mget m s z))):=by
 intro ψ S a w ht hO
 have hd:=hT.get hd
 have hkd:=hT.get hkd
 have hv:=Sim.eval_tmps ht x
 rw [hx] at hv
 have hb':=hO id _ hob
 have hpv:=k3r hb' hv
 obtain ⟨h0,b,es,clock,hval,hb,hsz,hr⟩:=hb'
 have hya:=Sim.eval_tmps ht y
 rw [hy] at hya
 have hya:=hya.atom
 have hz1:(zeroValue et).run P w = .ok zv w:=by simp [zeroValue,typeInfo,hi1,hi2]
 have hck:=MapKept.run_checkKey (w:=w) (hkd.str hks) (k := .string s) trivial es.isEmpty 9999
 rcases ko1 s (R:=fun v x=>RF S w v x) es.toList (m.map fun p=>(p.1,enc p.2)) 0 (by simpa using hsz) (fun j e p he hp=>hr j e p (by simpa using he) hp) with ⟨f1,f2⟩ | ⟨j,v,x',f1,f2,f3⟩
 ·have hf:=MapKept.run_findKey (w:=w) (hkd.str hks) f1
  refine kam (w':=w) (v:=zv) ?_ ⟨kaj _, .fz ?_⟩
  ·simp [execOp,ho,hya,hpv,hval,Instr.lookup,run_underlying (hd.mp hk),MapKept.run_getObj_map hb,hck,hf,hz1]
  ·rw [← ktn enc]
   unfold mget
   rw [f2]
   simp only
   rw [hze]
   exact .atom hzo
 ·have hf:=MapKept.run_findKey (w:=w) (hkd.str hks) f1
  refine kam (w':=w) (v:=v) ?_ ⟨kaj _, .fz ?_⟩
  ·simp [execOp,ho,hya,hpv,hval,Instr.lookup,run_underlying (hd.mp hk),MapKept.run_getObj_map hb,hck,hf]
  ·rw [← ktn enc]
   unfold mget
   rw [f2]
   exact f3.mono fun _ h => .inl h
theorem kxk {α:Type} {enc:α→FV} {m:List (BA×α)} {s:BA} {z:α} {x y v:Operand} {kt et:TypeId} {kd:TD} (ho:o.op = .mapUpdate t x y v) (hT:TOk P T) (hd:ka3 T t=some d) (hk:d.kind = .map kt et) (hkd:ka3 T kt=some kd) (hks:kd.kind = .str:=by kernel_rfl) (hx:st.eval x = .mp id:=by kernel_rfl) (hob:kab st.heap id=some (.smap (m.map fun p=>(p.1,enc p.2))):=by kernel_rfl) (hy:st.eval y = .fz (.atom (.string s)):=by kernel_rfl) (hv:st.eval v = .fz (enc z):=by kernel_rfl):kdf P o st .any ((id, .smap ((mput m s z).map fun p=>(p.1,enc p.2)))::st.heap) st.ids:=by
 intro F S0 N0 ψ S a w hs'
 have hd:=hT.get hd
 have hkd:=hT.get hkd
 have hcore:=hs'.core
 obtain ⟨hid,hb',hfr⟩:=hcore.obj id _ hob
 have hxv:=hs'.eval x
 rw [hx] at hxv
 have hpv:=k3r hb' hxv
 obtain ⟨h0,b,es,clock,hval,hb,hsz,hr⟩:=hb'
 have hya:=hs'.eval y
 rw [hy] at hya
 have hya:=hya.atom
 have hvv:=hs'.eval v
 rw [hv] at hvv
 have hvv:=hvv.inv
 have hck:=MapKept.run_checkKey (w:=w) (hkd.str hks) (k := .string s) trivial false 9999
 have hset:ψ.set id 0 (ψ.val id)=ψ:=by
  unfold Env.set
  congr 1
  ·funext i;split
   ·rename_i h;rw [h,h0]
   ·rfl
  ·funext i;split
   ·rename_i h;rw [h]
   ·rfl
 have main:∀ (es':Array MapEntry) (clock':Nat),es'.size=(mput m s z).length →
   (∀ (i:Nat) (e:MapEntry) (p:BA×FV),es'[i]?=some e→((mput m s z).map fun p=>(p.1,enc p.2))[i]?=some p→e.key = .string p.1∧RF S w e.val p.2) →
   (execOp a.eval o).run P w = .ok .skip { w with heap:=w.heap.setIfInBounds b (.map es' clock') } →
   khr P o a w fun v w'=>∃ ψ' S',Core F S0 N0 ((id, .smap ((mput m s z).map fun p=>(p.1,enc p.2)))::st.heap) st.ids ψ' S' w'∧RV ψ' (·∈st.ids) S' w' v .any∧Fr F w w'∧Ext (·∈st.ids) ψ ψ'∧(∀ id,id∈st.ids→id∈st.ids)∧(∀ b,S b→S' b)∧Same S w w':=by
  intro es' clock' hsz' hr' hrun
  obtain ⟨g1,g2⟩:=MapKept.heap_set (o' := .map es' clock') hb
  have hszw:({ w with heap:=w.heap.setIfInBounds b (.map es' clock') }:World).heap.size=w.heap.size:=by simp
  have hoth:∀ k,k<w.heap.size→¬ Blk (ψ.val id) k→({ w with heap:=w.heap.setIfInBounds b (.map es' clock') }:World).heap[k]?=w.heap[k]?:=fun k _ hk=>g2 k fun e=>hk (.of (by rw [hval,e];rfl))
  have hk:Same S w { w with heap:=w.heap.setIfInBounds b (.map es' clock') }:=fun k hk hl=>hoth k hl fun e=>(hfr k e).1 hk
  obtain ⟨c1,c2,c3⟩:=hcore.upd (n:=0) (v:=ψ.val id) (w':={ w with heap:=w.heap.setIfInBounds b (.map es' clock') }) (ob' := .smap ((mput m s z).map fun p=>(p.1,enc p.2))) hob (by omega) hoth (.inr ⟨h0,rfl⟩) (fun b hb => .inl hb) (by
   rw [hset]
   refine ⟨h0,b,es',clock',hval,g1,by simpa using hsz',fun i e p he hp=>?_⟩
   obtain ⟨q1,q2⟩:=hr' i e p he hp
   exact ⟨q1,q2.keep hk⟩)
  rw [hset] at c1
  exact ktj hrun ⟨ψ,S,c1, .any,⟨rfl,rfl,rfl,by omega,c3⟩,Ext.refl,fun _ h=>h,fun _ h=>h,c2⟩
 have hrl:∀ (j:Nat) (e:MapEntry) (p:BA×FV),es.toList[j]?=some e→(m.map fun p=>(p.1,enc p.2))[j]?=some p→e.key = .string p.1∧RF S w e.val p.2:=fun j e p he hp=>hr j e p (by simpa using he) hp
 rcases ko1 s (R:=fun v x=>RF S w v x) es.toList (m.map fun p=>(p.1,enc p.2)) 0 (by simpa using hsz) hrl with ⟨f1,f2⟩ | ⟨j,u,x',f1,f2,f3⟩
 ·have hf:=MapKept.run_findKey (w:=w) (hkd.str hks) f1
  have hm0:kgw s m 0=none:=by
   rw [kpx] at f2
   cases hq:kgw s m 0 with
   | none=>rfl
   | some q=>rw [hq] at f2;cases f2
  have hput:mput m s z=m++[(s,z)]:=by unfold mput;rw [hm0]
  refine main (es.push { key := .string s,val:=a.eval v,born:=clock }) (clock+1) (by rw [hput];simpa using hsz) (fun i e p he hp=>?_) ?_
  ·rw [hput,List.map_append] at hp
   rw [Array.getElem?_push] at he
   have hsz2:es.size=(m.map fun p=>(p.1,enc p.2)).length:=hsz
   by_cases hi:i=es.size
   ·rw [if_pos hi] at he
    injection he with he
    subst he
    rw [List.getElem?_append_right (by omega),hi,hsz2,Nat.sub_self] at hp
    simp only [qah,List.map_nil,List.getElem?_cons_zero,qh] at hp
    subst hp
    exact ⟨rfl,hvv⟩
   ·rw [if_neg hi] at he
    have hlt:i<es.size:=(Array.getElem?_eq_some_iff.1 he).1
    rw [List.getElem?_append_left (by omega)] at hp
    exact hr i e p he hp
  ·simp [execOp,ho,hya,hpv,hval,Instr.mapUpdate,run_underlying (hd.mp hk),MapKept.run_getObj_map hb,hck,hf,MapKept.run_setObj_map _ hb]
 ·have hf:=MapKept.run_findKey (w:=w) (hkd.str hks) f1
  rw [kpx,qj] at f2
  obtain ⟨⟨j',x0⟩,f4,f5⟩:=f2
  simp only [qad] at f5
  obtain ⟨rfl,rfl⟩:=f5
  obtain ⟨_,l2,k,l3,rfl⟩:=k5f f4
  simp only [Nat.sub_zero] at l2 l3
  have hput:mput m k z=m.set j' (k,z):=by unfold mput;rw [f4]
  have hjs:j'<es.size:=by rw [hsz,qan];exact l2
  have hje:es[j']?=some es[j']:=Array.getElem?_eq_getElem hjs
  have hkey:es[j'].key = .string k:=(hr j' _ (k,enc x0) hje (by rw [List.getElem?_map,l3];rfl)).1
  refine main (es.modify j' fun e=>{ e with key := .string k,val:=a.eval v }) clock (by rw [hput];simpa using hsz) (fun i e p he hp=>?_) ?_
  ·rw [hput,List.map_set] at hp
   rw [Array.getElem?_modify] at he
   by_cases hi:j'=i
   ·subst hi
    rw [if_pos rfl,hje] at he
    simp only [qa6,qh] at he
    subst he
    rw [List.getElem?_set_self (by rw [qan];exact l2)] at hp
    injection hp with hp
    subst hp
    exact ⟨rfl,hvv⟩
   ·rw [if_neg hi] at he
    rw [List.getElem?_set_ne hi] at hp
    exact hr i e p he hp
  ·have hks':(Instr.keyThatStays (((es[j']?).map (·.key)).getD (.string k)) (.string k)).run P w = .ok (.string k) w:=by
    rw [hje]
    simp only [qa6,qap,hkey]
    exact MapKept.run_keyThatStays (d := .string) trivial
   simp [execOp,ho,hya,hpv,hval,Instr.mapUpdate,run_underlying (hd.mp hk),MapKept.run_getObj_map hb,hck,hf,MapKept.run_setObj_map _ hb]
   simp [hks',MapKept.run_setObj_map _ hb]
end
end Go.Proofs.YtaimpcnpifoidaaGreatDoor
set_option linter.unusedVariables false
set_option linter.unusedSimpArgs false
namespace Go.Proofs.YtaimpcnpifoidaaGreatDoor
open Go Go.RowKit
mutual
def depV:Va→Nat
 | .mk _ _ _ l=>kr7 l+1
def kr7:List Va→Nat
 | []=>0
 | x::l=>Nat.max (depV x) (kr7 l)
end
section
variable {P:Program} {F S0:Nat→Prop} {N0:Nat} {w w':World} {S S':Nat→Prop} {ψ:Env} {K:Nat→Prop} {T:List (TypeId×TD)} {o:Oper} {a:Act} {st:St} {t:TypeId} {d:TD}
end
end Go.Proofs.YtaimpcnpifoidaaGreatDoor
set_option linter.unusedVariables false
set_option linter.unusedSimpArgs false
namespace Go.Proofs.YtaimpcnpifoidaaGreatDoor
open Go Go.RowKit
section
variable {P:Program} {F S0:Nat→Prop} {N0:Nat} {w w':World} {S S':Nat→Prop} {ψ:Env} {K:Nat→Prop} {T:List (TypeId×TD)} {o:Oper} {a:Act} {st:St} {t:TypeId} {d:TD} {id:Nat}
theorem k14 {v:Value} {e:TypeId} {n:Nat} {cs:List Value} (h:w.ownsRow 0 e 1 v n cs) (hn:0<n):∃ g cap cur,v = .slice (some ⟨g,0,none⟩) n cap∧w.heap[g]?=some (.cells cur e (0,0))∧n≤cap∧cap≤maxLen∧cur.size=cap∧cur.toList.take n=cs:=by
 rcases h.2 with ⟨_,h0⟩ | ⟨g,cap,cur,hv,_,hg,h1,h2,h3,h4⟩
 ·omega
 ·exact ⟨g,cap,cur,hv,hg,h1,h2,by simpa using h3,by simpa using h4⟩
theorem kab0 {α:Type} {enc:α→FV} {xs:List α} {x:α} {i:Int} {X Y:Operand} {e:TypeId} {de:TD} {k:IntKind} {n:Nat} (h:idx xs i=some x) (hT:TOk P T) (ho:o.op = .indexAddr t X Y) (hd:ka3 T t=some d) (hk:d.kind = .slice e) (hde:ka3 T e=some de) (hz:de.size=1)
  (hx:st.eval X = .row id n) (hob:kab st.heap id=some (.frow e 1 (xs.map enc))) (hn:n=xs.length) (hy:st.eval Y = .fz (.atom (.int k i)):=by kernel_rfl):NStep P o st (.ref id n i.toNat):=by
 intro ψ S a w ht hO
 subst hn
 have hd:=hT.get hd
 have hde:=hT.get hde
 unfold idx at h
 split at h
 ·rename_i h0
  have hlt:i.toNat<xs.length:=(List.getElem?_eq_some_iff.1 h).1
  have hxa:=Sim.eval_tmps ht X
  rw [hx] at hxa
  have hya:=Sim.eval_tmps ht Y
  rw [hy] at hya
  have hya:=hya.atom
  obtain ⟨hl,_,cs,hown,_,_⟩:=hO id _ hob
  rw [qan] at hl hown
  obtain ⟨g,cap,cur,hval,hg,_⟩:=k14 hown (by omega)
  have hK:id∈st.ids∧a.eval X=ψ.val id:=by
   generalize a.eval X=u at hxa
   cases hxa with
   | row hK hn' h1 hv=>exact ⟨hK,hv hl.symm⟩
  refine kam (w':=w) (v := .pointer (some ⟨g,i.toNat,none⟩)) ?_ ⟨kaj _, .ref hK.1 (by omega) rfl fun _=>⟨g,by rw [hval];rfl,rfl⟩⟩
  have hlt':i<(xs.length:Int):=by omega
  simp [execOp,ho,hK.2,hval,hya,Instr.indexAt,asIntOf,run_underlying (hd.slice hk),h0,hlt',hde.size,hz,kks]
 ·cases h
theorem kact {α:Type} {enc:α→FV} {xs:List α} {x:α} {i:Int} {X:Operand} {n:Nat} (h:idx xs i=some x) (hT:TOk P T) (ho:o.op = .load t X) (hd:ka3 T t=some d) (hk:d.kind.agg=false) (hx:st.eval X = .ref id n i.toNat) (hob:kab st.heap id=some (.frow t 1 (xs.map enc))) (hn:n=xs.length) (hce:∀ y,(enc y).cells=[enc y]):NStep P o st (.fz (enc x)):=by
 intro ψ S a w ht hO
 subst hn
 have hd:=hT.get hd
 unfold idx at h
 split at h
 ·rename_i h0
  have hlt:i.toNat<xs.length:=(List.getElem?_eq_some_iff.1 h).1
  have hxa:=Sim.eval_tmps ht X
  rw [hx] at hxa
  obtain ⟨hl,_,cs,hown,_,hr⟩:=hO id _ hob
  rw [qan] at hl hown
  obtain ⟨g,cap,cur,hval,hg,hc1,hc2,hc3,hc4⟩:=k14 hown (by omega)
  have hp:a.eval X = .pointer (some ⟨g,i.toNat,none⟩):=by
   generalize a.eval X=u at hxa
   cases hxa with
   | ref hK hn' h1 hv=>
    obtain ⟨b,hb,rfl⟩:=hv hl.symm
    rw [hval] at hb
    simp only [kb1,qh] at hb
    rw [hb]
  have hci:cs[i.toNat]?=some (cs[i.toNat]'(by rw [hown.1];omega)):=List.getElem?_eq_getElem _
  have hcell:w.cell? ⟨g,i.toNat,none⟩=some (cs[i.toNat]'(by rw [hown.1];omega)):=by
   rw [hval] at hown
   rw [World.ownsRow.cellAt hown i.toNat (by omega),hci]
  refine kam (w':=w) (v:=cs[i.toNat]'(by rw [hown.1];omega)) ?_ ⟨kaj _, .fz ((hr i.toNat (enc x) 0 _ (enc x) (by rw [List.getElem?_map,h];rfl) (by simp) (by rw [hce];rfl)).mono fun _ h => .inl h)⟩
  simp [execOp,ho,hp,Instr.loadAt,Instr.sureAddr,loadVar,hd.isAgg,hk,hcell]
 ·cases h
end
end Go.Proofs.YtaimpcnpifoidaaGreatDoor
