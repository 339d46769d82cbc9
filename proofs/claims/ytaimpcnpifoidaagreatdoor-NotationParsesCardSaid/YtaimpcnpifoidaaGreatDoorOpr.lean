import Derived.Test.YtaimpcnpifoidaaGreatDoorOpm
import Derived.MapKept
import Derived.Laws.OwnMore
import Derived.Laws.CopyRow
import Derived.Laws.IdiomCopy
set_option linter.all false
namespace Go.Proofs.YtaimpcnpifoidaaGreatDoor
open Go Go.RowKit
def kt4 (id:Nat):AV->List Nat
 | .row k m=>bif Nat.beq k id then [m] else []
 | _=>[]
def k5g (id:Nat):AV->List Nat
 | .agg cs=>cs.flatMap (kt4 id)
 | .fn _ cs=>cs.flatMap (kt4 id)
 | y=>kt4 id y
def kzd (id:Nat):AV->List Nat
 | .tup cs=>cs.flatMap (k5g id)
 | y=>k5g id y
def k1k (id:Nat):AObj->List Nat
 | .box _ cs=>cs.flatMap (kt4 id)
 | _=>[]
def frz1 (id:Nat) (x:FV):AV->AV
 | .row k m=>bif Nat.beq k id then .fz x else .row k m
 | y=>y
def frzG (id:Nat) (x:FV):AV->AV
 | .agg cs=>aggA (cs.map (frz1 id x))
 | .fn f cs => .fn f (cs.map (frz1 id x))
 | y=>frz1 id x y
def frzT (id:Nat) (x:FV):AV->AV
 | .tup cs=>tupA (cs.map (frzG id x))
 | y=>frzG id x y
def frzO (id:Nat) (x:FV):AObj->AObj
 | .box e cs => .box e (cs.map (frz1 id x))
 | y=>y
def kaer (id:Nat) (st:St):List Nat:=st.tmps.flatMap (fun p=>kzd id p.2)++(kde id st.heap).flatMap (fun p=>k1k id p.2)
def frzSt (id:Nat) (x:FV) (st:St):St:={ dfr:=st.dfr,n:=st.n,tmps:=st.tmps.map (fun p=>(p.1,frzT id x p.2)),heap:=(kde id st.heap).map (fun p=>(p.1,frzO id x p.2)),ids:=st.ids }
section
variable {F S0:Nat->Prop} {N0:Nat} {w:World} {S:Nat->Prop} {ψ:Env} {K:Nat->Prop} {id n:Nat} {x:FV} {st:St}
theorem kzg (a:∀ v,RV ψ K S w v (.row id n)->RF S w v x) {v:Value} {y:AV} (h:RV ψ K S w v y) (hr:∀ m∈kt4 id y,m=n):RV ψ K S w v (frz1 id x y):=by
 cases y with
 | row k m=>
  simp only [frz1];cases b:Nat.beq k id with
  | false=>exact h
  | true=>
   have hk:=qx b;subst hk;have hm:m=n:=hr m (by simp [kt4]);subst hm;exact .fz (a v h)
 | _=>exact h
theorem kz5 (hs:x.single=true) {y:AV} (h:y.single=true):(frz1 id x y).single=true:=by
 cases y with
 | row k m=>
  simp only [frz1];cases Nat.beq k id with
  | false=>exact h
  | true=>exact hs
 | _=>exact h
theorem kpa {α β γ:Type} {R Q:α->γ->Prop} {f:β->γ} {R':α->β->Prop} {cs:Array α} {xs:List β} (hr:∀ (i:Nat) (v:α) (y:β),cs[i]?=some v->xs[i]?=some y->R' v y) (c:∀ v y,y∈xs->R' v y->Q v (f y)):
  ∀ (i:Nat) (v:α) (y:γ),cs[i]?=some v->(xs.map f)[i]?=some y->Q v y:=by
 intro i v y hv a;simp only [qp,qm] at a;obtain ⟨z,b,rfl⟩:=a;exact c v z (qw b) (hr i v z hv b)
theorem kyn (hs:x.single=true) (c:∀ v,RV ψ K S w v (.row id n)->RF S w v x) {v:Value} {y:AV} (h:RV ψ K S w v y) (hr:∀ m∈k5g id y,m=n):RV ψ K S w v (frzG id x y):=by
 cases y with
 | agg cs=>
  cases h with
  | agg h h1 a=>
   refine RV.aggA (by simpa using h) (fun y b=>?_) (kpa (R:=fun _ _=>True) a fun v y b hv=>kzg c hv fun m hm=>hr m ?_);simp only [qa3] at b;obtain ⟨z,d,rfl⟩:=b;exact kz5 hs (h1 z d)
   ·exact qba.2 ⟨y,b,hm⟩
 | fn f cs=>
  cases h with
  | fn h a=>exact .fn (by simpa using h) (kpa (R:=fun _ _=>True) a fun v y b hv=>kzg c hv fun m hm=>hr m (qba.2 ⟨y,b,hm⟩))
 | row k m=>exact kzg c h hr
 | _=>exact h
theorem kajw (hs:x.single=true) (a:∀ v,RV ψ K S w v (.row id n)->RF S w v x) {v:Value} {y:AV} (h:RV ψ K S w v y) (hr:∀ m∈kzd id y,m=n):RV ψ K S w v (frzT id x y):=by
 cases y with
 | tup cs=>
  cases h with
  | tup h b=>exact RV.tupA (by simpa using h) (kpa (R:=fun _ _=>True) b fun v y c hv=>kyn hs a hv fun m hm=>hr m (qba.2 ⟨y,c,hm⟩))
 | agg cs=>exact kyn hs a h hr
 | fn f cs=>exact kyn hs a h hr
 | row k m=>exact kyn hs a h hr
 | _=>exact h
theorem kait (l:List (Nat×AV)) (t:Nat):look .any (l.map fun p=>(p.1,frzT id x p.2)) t=frzT id x (look .any l t)/\∀ m∈kzd id (look .any l t),m∈l.flatMap (fun p=>kzd id p.2):=by
 induction l with
 | nil=>exact ⟨rfl,fun m hm=>by cases hm⟩
 | cons p l ih=>
  obtain ⟨k,v⟩:=p;simp only [qa8,kdt,qa0,qao];by_cases h:k=t;simp only [qj h];exact ⟨trivial,fun m hm => .inl hm⟩
  ·simp only [qg h];exact ⟨ih.1,fun m hm => .inr (ih.2 m hm)⟩
theorem kxw (l:List (Nat×AObj)) (t:Nat):kab (l.map fun p=>(p.1,frzO id x p.2)) t=(kab l t).map (frzO id x)/\∀ o,kab l t=some o->∀ m∈k1k id o,m∈l.flatMap (fun p=>k1k id p.2):=by
 induction l with
 | nil=>exact ⟨rfl,fun o h=>by cases h⟩
 | cons p l ih=>
  obtain ⟨k,v⟩:=p;simp only [qa8,kae,qa0,qao];by_cases h:k=t;simp only [qj h];exact ⟨rfl,fun o ho m hm=>by injection ho with ho;subst ho;exact .inl hm⟩
  ·simp only [qg h];exact ⟨ih.1,fun o ho m hm => .inr (ih.2 o ho m hm)⟩
theorem k2p (id:Nat) {n k:Nat} {e:TypeId} {size:Nat} {xs:List FV} (f:kab st.heap id=some (.frow e size xs)) (hn:n=xs.length) (g:kaer id st=List.replicate k n:=by kernel_rfl):LeSt st (frzSt id (.lst size n xs) st):=by
 subst hn;intro F S0 N0 ψ S a w hs;obtain ⟨c1,c2⟩:=kqx hs.core f;have d:∀ m∈kaer id st,m=xs.length:=fun m hm=>by rw [g] at hm;exact (List.mem_replicate.1 hm).2
 have h0:=(hs.core.obj id _ f).2.1.1;have s:∀ v,RV ψ (·∈st.ids) (fun b=>S b\/kby (ψ.val id)=some b) w v (.row id xs.length)->RF (fun b=>S b\/kby (ψ.val id)=some b) w v (.lst size xs.length xs):=by
  intro v hv;cases hv with
  | row hK A h1 hv=>rw [hv (by rw [h0])];exact c2
 refine ⟨ψ,_,hs.defers,hs.size,fun t=>?_,⟨fun i o ho=>?_,fun i i' o o' b ho c hne B=>?_,c1.lt,c1.s0,c1.n0,c1.fr⟩⟩;obtain ⟨l1,l2⟩:=kait (id:=id) (x := .lst size xs.length xs) st.tmps t;show RV ψ (·∈st.ids) _ w (a.tmps.getD t undef) (look .any (st.tmps.map fun p=>(p.1,frzT id (.lst size xs.length xs) p.2)) t);rw [l1];refine kajw rfl s ((hs.tmps t).mono (fun _ h=>h) fun _ h => .inl h) fun m hm=>d m ?_;exact qao.2 (.inl (l2 m hm))
 ·obtain ⟨l1,l2⟩:=kxw (id:=id) (x := .lst size xs.length xs) (kde id st.heap) i;have c:kab ((kde id st.heap).map fun p=>(p.1,frzO id (.lst size xs.length xs) p.2)) i=some o:=ho;rw [l1,qm] at c;obtain ⟨o',h1,rfl⟩:=c;obtain ⟨k1,k2,k7⟩:=c1.obj i o' h1;refine ⟨k1,?_,k7⟩;cases o' with
  | box e2 cells=>
   obtain ⟨g0,b,cs,g2,g3,g4,g5,g6⟩:=k2;refine ⟨g0,b,cs,g2,g3,by simpa using g4,fun y q=>?_,kpa (R:=fun _ _=>True) g6 fun v y q hv=>kzg s hv fun m hm=>d m ?_⟩;simp only [qa3] at q;obtain ⟨z,C,rfl⟩:=q;exact kz5 rfl (g5 z C)
   ·exact qao.2 (.inr (l2 _ h1 m (qba.2 ⟨y,q,hm⟩)))
  | _=>exact k2
 ·obtain ⟨l1,_⟩:=kxw (id:=id) (x := .lst size xs.length xs) (kde id st.heap) i;obtain ⟨l2,_⟩:=kxw (id:=id) (x := .lst size xs.length xs) (kde id st.heap) i';have j:kab ((kde id st.heap).map fun p=>(p.1,frzO id (.lst size xs.length xs) p.2)) i=some o:=ho;have l:kab ((kde id st.heap).map fun p=>(p.1,frzO id (.lst size xs.length xs) p.2)) i'=some o':=c;rw [l1,qm] at j;rw [l2,qm] at l;obtain ⟨u,D,_⟩:=j;obtain ⟨u',r,_⟩:=l;exact c1.inj i i' u u' b D r hne B
end
def khv {α:Type} (s:BA):List (BA×α)->Nat->Option (Nat×α)
 | [],_=>none
 | (k,v)::l,i=>bif s.toList == k.toList then some (i,v) else khv s l (i+1)
def mget {α:Type} (m:List (BA×α)) (s:BA) (z:α):α:=match khv s m 0 with
 | some (_,x)=>x
 | none=>z
def mhas {α:Type} (m:List (BA×α)) (s:BA):Bool:=(khv s m 0).isSome
def mput {α:Type} (m:List (BA×α)) (s:BA) (y:α):List (BA×α):=match khv s m 0 with
 | some (j,_)=>m.set j (s,y)
 | none=>m++[(s,y)]
theorem kpi (a b:BA):(a.toList == b.toList)=(a == b):=by
 rw [Bool.eq_iff_iff,beq_iff_eq,MapKept.bytes_beq,ByteArray.toList_eq,ByteArray.toList_eq];constructor;intro h;exact ByteArray.ext (Array.toList_inj.1 h)
 ·intro h;rw [h]
theorem kq3 {α β:Type} (f:α->β) (s:BA):∀ (m:List (BA×α)) (i:Nat),khv s (m.map fun p=>(p.1,f p.2)) i=(khv s m i).map fun p=>(p.1,f p.2)
 | [],_=>rfl
 | (k,v)::l,i=>by
  simp only [qa8,khv];cases s.toList == k.toList with
  | true=>rfl
  | false=>exact kq3 f s l (i+1)
theorem kw5 {α β:Type} (f:α->β) (m:List (BA×α)) (s:BA) (z:α):mget (m.map fun p=>(p.1,f p.2)) s (f z)=f (mget m s z):=by
 unfold mget;rw [kq3];cases khv s m 0 with
 | none=>rfl
 | some p=>rfl
theorem k6t {α β:Type} (f:α->β) (m:List (BA×α)) (s:BA):mhas (m.map fun p=>(p.1,f p.2)) s=mhas m s:=by
 unfold mhas;rw [kq3];cases khv s m 0 with
 | none=>rfl
 | some p=>rfl
theorem k8g {α:Type} {s:BA}:∀ {m:List (BA×α)} {i j:Nat} {x:α},khv s m i=some (j,x)->i<=j/\j - i<m.length/\∃ k,m[j - i]?=some (k,x)/\k=s
 | [],i,j,x,h=>by cases h
 | (k,v)::l,i,j,x,h=>by
  simp only [khv] at h;cases a:s.toList == k.toList with
  | true=>
   rw [a] at h;simp only [qf,ql,qak] at h;obtain ⟨rfl,rfl⟩:=h;rw [kpi,MapKept.bytes_beq] at a;exact ⟨qy _,by simp,k,by simp,a.symm⟩
  | false=>
   rw [a] at h;obtain ⟨h1,h2,k',h3,b⟩:=k8g h;have e:j - i=(j - (i+1))+1:=(by omega);exact ⟨by omega,by simp;omega,k',by rw [e,List.getElem?_cons_succ];exact h3,b⟩
section
variable {P:Program} {F S0:Nat->Prop} {N0:Nat} {w w':World} {S S':Nat->Prop} {ψ:Env} {K:Nat->Prop} {T:List (TypeId×TD)} {o:Oper} {a:Act} {st:St} {t:TypeId} {d:TD} {id:Nat}
theorem kqy (s:BA) {R:Value->FV->Prop}:∀ (es:List MapEntry) (kv:List (BA×FV)) (i:Nat),es.length=kv.length->(∀ (j:Nat) (e:MapEntry) (p:BA×FV),es[j]?=some e->kv[j]?=some p->e.key = .string p.1/\R e.val p.2) ->
  (Instr.findNow .string (.string s) es i=some none/\khv s kv i=none)\/∃ j v x,Instr.findNow .string (.string s) es i=some (some (j,v))/\khv s kv i=some (j,x)/\R v x
 | [],[],i,_,_ => .inl ⟨rfl,rfl⟩
 | [],p::kv,i,h,_=>by cases h
 | e::es,[],i,h,_=>by cases h
 | e::es,(k,x)::kv,i,h,hr=>by
  obtain ⟨hk,hv⟩:=hr 0 e (k,x) rfl rfl;simp only [Instr.findNow,hk,Instr.sameNow,khv,kpi];cases b:s == k with
  | true=>exact .inr ⟨i,e.val,x,rfl,rfl,hv⟩
  | false=>exact kqy s es kv (i+1) (by simpa using h) fun j e p a hp=>hr (j+1) e p (by simpa using a) (by simpa using hp)
theorem TdOk.mp {k e:Nat} (h:TdOk P t d) (hk:d.kind = .map k e):P.underlying t=some (.map k e):=by obtain ⟨_,e',h1,h2⟩:=h;rw [hk] at h2;cases e' <;> simp [kan] at h2;rw [h1,h2.1,h2.2]
theorem k4t (ho:o.op = .makeMap t none:=by kernel_rfl) (hid:st.ids.contains id=false:=by kernel_rfl):kcx P o st (.mp id) ((id, .smap [])::st.heap) (id::st.ids):=by
 have hid:id∉st.ids:=by simpa using hid
 intro F S0 N0 ψ S a w d;have c:=d.core;refine kaj (w':=w.alloc (.map #[] 0)) (v := .map (some w.heap.size)) ?_ ⟨ψ.set id 0 (.map (some w.heap.size)),S,?_,?_,koz _ c.fr,ker hid _ _,fun _ h=>qn _ h,fun _ h=>h,Same.of_grow (kdd _ _)⟩;simp [execOp,ho,Instr.makeMap];exact c.add (kdd _ _) hid (fun b f=>by simp [kby] at f;omega) ⟨kes _ _,w.heap.size,_,_,kbp _ _,heap_alloc_new w _,rfl,fun i e p g hp=>by simp at g⟩
 ·exact .mp (qt ..) rfl fun _=>by rw [kbp]
theorem k76 {kv:List (BA×FV)} {v:Value} (hs:ObR ψ K S w id (.smap kv)) (hv:RV ψ K S w v (.mp id)):v=ψ.val id:=by
 cases hv with
 | mp hK h1 hv=>exact hv hs.1.symm
theorem kag1 {α:Type} {enc:α->FV} {m:List (BA×α)} {s:BA} {z:α} {x y:Operand} {kt et:TypeId} {kd:TD} (zv:Value) (ho:o.op = .lookup t x y false) (G:TOk P T) (hd:kat T t=some d) (hk:d.kind = .map kt et) (c:kat T kt=some kd) (i:kd.kind = .str) (inf:TypeInfo) (r:P.info? et=some inf) (u:inf.zero=some zv) (A:enc z = .atom zv) (B:zv.oneCell'=true)
  (I:st.eval x = .mp id:=by kernel_rfl) (C:kab st.heap id=some (.smap (m.map fun p=>(p.1,enc p.2))):=by kernel_rfl) (J:st.eval y = .fz (.atom (.string s)):=by kernel_rfl):NStep P o st (.fz (enc (mget m s z))):=by
 intro ψ S a w ht K;have hd:=G.get hd;have c:=G.get c;have hv:=Sim.eval_tmps ht x;rw [I] at hv;have l:=K id _ C;have n:=k76 l hv;obtain ⟨h0,b,es,clock,g,H,D,hr⟩:=l;have f:=Sim.eval_tmps ht y;rw [J] at f;have f:=f.atom;have E:(zeroValue et).run P w = .ok zv w:=by simp [zeroValue,typeInfo,r,u]
 have q:=MapKept.run_checkKey (w:=w) (c.str i) (k := .string s) trivial es.isEmpty 9999;rcases kqy s (R:=fun v x=>RF S w v x) es.toList (m.map fun p=>(p.1,enc p.2)) 0 (by simpa using D) (fun j e p L hp=>hr j e p (by simpa using L) hp) with ⟨f1,f2⟩ | ⟨j,v,x',f1,f2,f3⟩
 ·have F:=MapKept.run_findKey (w:=w) (c.str i) f1;refine kaj (w':=w) (v:=zv) ?_ ⟨kai _, .fz ?_⟩;simp [execOp,ho,f,n,g,Instr.lookup,run_underlying (hd.mp hk),MapKept.run_getObj_map H,q,F,E]
  ·rw [<- kw5 enc];unfold mget;rw [f2];simp only;rw [A];exact .atom B
 ·have F:=MapKept.run_findKey (w:=w) (c.str i) f1;refine kaj (w':=w) (v:=v) ?_ ⟨kai _, .fz ?_⟩;simp [execOp,ho,f,n,g,Instr.lookup,run_underlying (hd.mp hk),MapKept.run_getObj_map H,q,F]
  ·rw [<- kw5 enc];unfold mget;rw [f2];exact f3.mono fun _ h => .inl h
theorem kzx {α:Type} {enc:α->FV} {m:List (BA×α)} {s:BA} {z:α} {x y v:Operand} {kt et:TypeId} {kd:TD} (ho:o.op = .mapUpdate t x y v) (hT:TOk P T) (hd:kat T t=some d) (hk:d.kind = .map kt et) (l:kat T kt=some kd) (I:kd.kind = .str:=by kernel_rfl) (hx:st.eval x = .mp id:=by kernel_rfl) (K:kab st.heap id=some (.smap (m.map fun p=>(p.1,enc p.2))):=by kernel_rfl) (hy:st.eval y = .fz (.atom (.string s)):=by kernel_rfl) (hv:st.eval v = .fz (enc z):=by kernel_rfl):kcx P o st .any ((id, .smap ((mput m s z).map fun p=>(p.1,enc p.2)))::st.heap) st.ids:=by
 intro F S0 N0 ψ S a w D;have hd:=hT.get hd;have l:=hT.get l;have r:=D.core;obtain ⟨hid,L,Z⟩:=r.obj id _ K;have M:=D.eval x;rw [hx] at M;have N:=k76 L M;obtain ⟨h0,b,es,clock,g,E,A,hr⟩:=L;have B:=D.eval y;rw [hy] at B;have B:=B.atom;have C:=D.eval v;rw [hv] at C;have C:=C.inv;have O:=MapKept.run_checkKey (w:=w) (l.str I) (k := .string s) trivial false 9999;have G:ψ.set id 0 (ψ.val id)=ψ:=by
  unfold Env.set;congr 1
  ·funext i;split;rename_i h;rw [h,h0]
   ·rfl
  ·funext i;split;rename_i h;rw [h]
   ·rfl
 have main:∀ (es':Array MapEntry) (clock':Nat),es'.size=(mput m s z).length ->
   (∀ (i:Nat) (e:MapEntry) (p:BA×FV),es'[i]?=some e->((mput m s z).map fun p=>(p.1,enc p.2))[i]?=some p->e.key = .string p.1/\RF S w e.val p.2) ->
   (execOp a.eval o).run P w = .ok .skip { w with heap:=w.heap.setIfInBounds b (.map es' clock') } ->
   kis P o a w fun v w'=>∃ ψ' S',Core F S0 N0 ((id, .smap ((mput m s z).map fun p=>(p.1,enc p.2)))::st.heap) st.ids ψ' S' w'/\RV ψ' (·∈st.ids) S' w' v .any/\Fr F w w'/\Ext (·∈st.ids) ψ ψ'/\(∀ id,id∈st.ids->id∈st.ids)/\(∀ b,S b->S' b)/\Same S w w':=by
  intro es' clock' Q aa U;obtain ⟨g1,g2⟩:=MapKept.heap_set (o' := .map es' clock') E;have ae:({ w with heap:=w.heap.setIfInBounds b (.map es' clock') }:World).heap.size=w.heap.size:=by simp
  have H:∀ k,k<w.heap.size->¬ Blk (ψ.val id) k->({ w with heap:=w.heap.setIfInBounds b (.map es' clock') }:World).heap[k]?=w.heap[k]?:=fun k _ hk=>g2 k fun e=>hk (.of (by rw [g,e];rfl));have hk:Same S w { w with heap:=w.heap.setIfInBounds b (.map es' clock') }:=fun k hk hl=>H k hl fun e=>(Z k e).1 hk;obtain ⟨c1,c2,c3⟩:=r.upd (n:=0) (v:=ψ.val id) (w':={ w with heap:=w.heap.setIfInBounds b (.map es' clock') }) (ob' := .smap ((mput m s z).map fun p=>(p.1,enc p.2))) K (by omega) H (.inr ⟨h0,rfl⟩) (fun b E => .inl E) (by rw [G];refine ⟨h0,b,es',clock',g,g1,by simpa using Q,fun i e p c hp=>?_⟩;obtain ⟨q1,q2⟩:=aa i e p c hp;exact ⟨q1,q2.keep hk⟩);rw [G] at c1;exact kps U ⟨ψ,S,c1, .any,⟨rfl,rfl,rfl,by omega,c3⟩,Ext.refl,fun _ h=>h,fun _ h=>h,c2⟩
 have ab:∀ (j:Nat) (e:MapEntry) (p:BA×FV),es.toList[j]?=some e->(m.map fun p=>(p.1,enc p.2))[j]?=some p->e.key = .string p.1/\RF S w e.val p.2:=fun j e p c hp=>hr j e p (by simpa using c) hp;rcases kqy s (R:=fun v x=>RF S w v x) es.toList (m.map fun p=>(p.1,enc p.2)) 0 (by simpa using A) ab with ⟨f1,f2⟩ | ⟨j,u,x',f1,f2,f3⟩
 ·have hf:=MapKept.run_findKey (w:=w) (l.str I) f1;have ac:khv s m 0=none:=by
   rw [kq3] at f2;cases hq:khv s m 0 with
   | none=>rfl
   | some q=>rw [hq] at f2;cases f2
  have f:mput m s z=m++[(s,z)]:=by unfold mput;rw [ac]
  refine main (es.push { key := .string s,val:=a.eval v,born:=clock }) (clock+1) (by rw [f];simpa using A) (fun i e p c hp=>?_) ?_
  ·rw [f,List.map_append] at hp;rw [Array.getElem?_push] at c;have V:es.size=(m.map fun p=>(p.1,enc p.2)).length:=A;by_cases hi:i=es.size;rw [qj hi] at c;injection c with c;subst c;rw [qa5 (by omega),hi,V,Nat.sub_self] at hp;simp only [qa8,List.map_nil,List.getElem?_cons_zero,ql] at hp;subst hp;exact ⟨rfl,C⟩
   ·rw [qg hi] at c;have af:i<es.size:=(qbi.1 c).1;rw [qav (by omega)] at hp;exact hr i e p c hp
  ·simp [execOp,ho,B,N,g,Instr.mapUpdate,run_underlying (hd.mp hk),MapKept.run_getObj_map E,O,hf,MapKept.run_setObj_map _ E]
 ·have hf:=MapKept.run_findKey (w:=w) (l.str I) f1;rw [kq3,qm] at f2;obtain ⟨⟨j',x0⟩,f4,f5⟩:=f2;simp only [qak] at f5;obtain ⟨rfl,rfl⟩:=f5;obtain ⟨_,l2,k,l3,rfl⟩:=k8g f4;simp only [Nat.sub_zero] at l2 l3;have f:mput m k z=m.set j' (k,z):=by unfold mput;rw [f4]
  have ad:j'<es.size:=by rw [A,qag];exact l2
  have J:es[j']?=some es[j']:=qaw ad;have X:es[j'].key = .string k:=(hr j' _ (k,enc x0) J (by rw [qp,l3];rfl)).1;refine main (es.modify j' fun e=>{ e with key := .string k,val:=a.eval v }) clock (by rw [f];simpa using A) (fun i e p c hp=>?_) ?_
  ·rw [f,List.map_set] at hp;rw [Array.getElem?_modify] at c;by_cases hi:j'=i;subst hi;rw [qj rfl,J] at c;simp only [qbk,ql] at c;subst c;rw [List.getElem?_set_self (by rw [qag];exact l2)] at hp;injection hp with hp;subst hp;exact ⟨rfl,C⟩
   ·rw [qg hi] at c;rw [List.getElem?_set_ne hi] at hp;exact hr i e p c hp
  ·have Y:(Instr.keyThatStays (((es[j']?).map (·.key)).getD (.string k)) (.string k)).run P w = .ok (.string k) w:=(by rw [J];simp only [qbk,qa2,X];exact MapKept.run_keyThatStays (d := .string) trivial);simp [execOp,ho,B,N,g,Instr.mapUpdate,run_underlying (hd.mp hk),MapKept.run_getObj_map E,O,hf,MapKept.run_setObj_map _ E];simp [Y,MapKept.run_setObj_map _ E]
end
mutual
def depV:Va->Nat
 | .mk _ _ _ l=>kt8 l+1
def kt8:List Va->Nat
 | []=>0
 | x::l=>Nat.max (depV x) (kt8 l)
end
section
variable {P:Program} {F S0:Nat->Prop} {N0:Nat} {w w':World} {S S':Nat->Prop} {ψ:Env} {K:Nat->Prop} {T:List (TypeId×TD)} {o:Oper} {a:Act} {st:St} {t:TypeId} {d:TD}
end
def mkL {α:Type} (bytes:Nat) (z:α) (n:Int):Option (List α):=if 0<=n/\(bytes:Int)*n<=281474976710656/\n<=9223372036854775807 then some (List.replicate n.toNat z) else none
theorem kaia {α:Type} {bytes:Nat} {z:α} {n:Int} {xs:List α} (h:mkL bytes z n=some xs):xs=List.replicate n.toNat z/\0<=n/\(bytes:Int)*n<=281474976710656/\n<=9223372036854775807:=by
 unfold mkL at h;split at h;rename_i hc;injection h with h;exact ⟨h.symm,hc⟩
 ·cases h
section
variable {P:Program} {F S0:Nat->Prop} {N0:Nat} {w w':World} {S S':Nat->Prop} {ψ:Env} {K:Nat->Prop} {T:List (TypeId×TD)} {o:Oper} {a:Act} {st:St} {t:TypeId} {d:TD} {id:Nat}
theorem kxj {v:Value} {e:TypeId} {n:Nat} {cs:List Value} (h:w.ownsRow 0 e 1 v n cs) (hn:0<n):∃ g cap cur,v = .slice (some ⟨g,0,none⟩) n cap/\w.heap[g]?=some (.cells cur e (0,0))/\n<=cap/\cap<=maxLen/\cur.size=cap/\cur.toList.take n=cs:=by
 rcases h.2 with ⟨_,h0⟩ | ⟨g,cap,cur,hv,_,a,h1,h2,h3,b⟩;omega
 ·exact ⟨g,cap,cur,hv,a,h1,h2,by simpa using h3,by simpa using b⟩
theorem kq1 {α:Type} {enc:α->FV} {xs:List α} {x:α} {i:Int} {X Y:Operand} {e:TypeId} {de:TD} {k:IntKind} {n:Nat} (h:idx xs i=some x) (q:TOk P T) (ho:o.op = .indexAddr t X Y) (hd:kat T t=some d) (hk:d.kind = .slice e) (j:kat T e=some de) (r:de.size=1)
  (s:st.eval X = .row id n) (p:kab st.heap id=some (.frow e 1 (xs.map enc))) (hn:n=xs.length) (y:st.eval Y = .fz (.atom (.int k i)):=by kernel_rfl):NStep P o st (.ref id n i.toNat):=by
 intro ψ S a w ht z;subst hn;have hd:=q.get hd;have j:=q.get j;unfold idx at h;split at h
 ·rename_i h0;have A:i.toNat<xs.length:=(qo.1 h).1;have l:=Sim.eval_tmps ht X;rw [s] at l;have b:=Sim.eval_tmps ht Y;rw [y] at b;have b:=b.atom;obtain ⟨hl,_,cs,c,_,_⟩:=z id _ p;rw [qag] at hl c;obtain ⟨g,cap,cur,f,C,_⟩:=kxj c (by omega);have hK:id∈st.ids/\a.eval X=ψ.val id:=by
   generalize a.eval X=u at l;cases l with
   | row hK B h1 hv=>exact ⟨hK,hv hl.symm⟩
  refine kaj (w':=w) (v := .pointer (some ⟨g,i.toNat,none⟩)) ?_ ⟨kai _, .ref hK.1 (by omega) rfl fun _=>⟨g,by rw [f];rfl,rfl⟩⟩;have m:i<(xs.length:Int):=by omega
  simp [execOp,ho,hK.2,f,b,Instr.indexAt,asIntOf,run_underlying (hd.slice hk),h0,m,j.size,r,kjj]
 ·cases h
theorem kt5 {α:Type} {enc:α->FV} {xs:List α} {x:α} {i:Int} {X:Operand} {n:Nat} (h:idx xs i=some x) (q:TOk P T) (ho:o.op = .load t X) (hd:kat T t=some d) (hk:d.kind.agg=false) (r:st.eval X = .ref id n i.toNat) (k:kab st.heap id=some (.frow t 1 (xs.map enc))) (hn:n=xs.length) (l:∀ y,(enc y).cells=[enc y]):NStep P o st (.fz (enc x)):=by
 intro ψ S a w ht s;subst hn;have hd:=q.get hd;unfold idx at h;split at h
 ·rename_i h0;have z:i.toNat<xs.length:=(qo.1 h).1;have f:=Sim.eval_tmps ht X;rw [r] at f;obtain ⟨hl,_,cs,c,_,hr⟩:=s id _ k;rw [qag] at hl c;obtain ⟨g,cap,cur,e,F,A,B,C,D⟩:=kxj c (by omega);have hp:a.eval X = .pointer (some ⟨g,i.toNat,none⟩):=by
   generalize a.eval X=u at f;cases f with
   | ref hK E h1 hv=>
    obtain ⟨b,m,rfl⟩:=hv hl.symm;rw [e] at m;simp only [kby,ql] at m;rw [m]
  have p:cs[i.toNat]?=some (cs[i.toNat]'(by rw [c.1];omega)):=qc _;have j:w.cell? ⟨g,i.toNat,none⟩=some (cs[i.toNat]'(by rw [c.1];omega)):=by rw [e] at c;rw [World.ownsRow.cellAt c i.toNat (by omega),p]
  refine kaj (w':=w) (v:=cs[i.toNat]'(by rw [c.1];omega)) ?_ ⟨kai _, .fz ((hr i.toNat (enc x) 0 _ (enc x) (by rw [qp,h];rfl) (by simp) (by rw [l];rfl)).mono fun _ h => .inl h)⟩;simp [execOp,ho,hp,Instr.loadAt,Instr.sureAddr,loadVar,hd.isAgg,hk,j]
 ·cases h
theorem kab0 {α:Type} {enc:α->FV} {xs:List α} {x y:α} {i:Int} {X Y:Operand} {n:Nat} (h:idx xs i=some x) (hT:TOk P T) (ho:o.op = .store t X Y) (hd:kat T t=some d) (hz:d.size=1) (hx:st.eval X = .ref id n i.toNat) (I:kab st.heap id=some (.frow t 1 (xs.map enc))) (hn:n=xs.length) (hy:st.eval Y = .fz (enc y))
  (D:∀ y,∃ u,enc y = .atom u/\u.oneCell'=true):kcx P o st .any ((id, .frow t 1 ((xs.set i.toNat y).map enc))::st.heap) st.ids:=by
 subst hn;intro F S0 N0 ψ S a w E;have hd:=hT.get hd;unfold idx at h;split at h
 ·rename_i h0;have ac:i.toNat<xs.length:=(qo.1 h).1;have f:=E.core;obtain ⟨hid,⟨hl,J,cs,l,ad,hr⟩,Q⟩:=f.obj id _ I;rw [qag] at hl l;have hcl:cs.length=xs.length:=by rw [l.1,Nat.mul_one]
  obtain ⟨g,cap,cur,m,hg,R,U,V,Z⟩:=kxj l (by omega);have G:=E.eval X;rw [hx] at G;have hp:a.eval X = .pointer (some ⟨g,i.toNat,none⟩):=by
   generalize a.eval X=u at G;cases G with
   | ref hK ae h1 hv=>
    obtain ⟨b,K,rfl⟩:=hv hl.symm;rw [m] at K;simp only [kby,ql] at K;rw [K]
  obtain ⟨u,hu,H⟩:=D y;have p:=E.eval Y;rw [hy,hu] at p;have p:=p.atom;have L:u.cells=#[u]:=by cases u <;> first | rfl | cases H
  have hst:=run_storeCells_at (P:=P) g i.toNat t [u] 0 cur w hg (by simp;omega) (fun v hv=>by simp at hv;rw [hv];exact H);obtain ⟨new,s⟩:∃ new:Array Value,new=(cur.toList.take (i.toNat+0)++[u]++cur.toList.drop (i.toNat+0+[u].length)).toArray:=⟨_,rfl⟩;rw [<- s] at hst;have M:new.toList=cur.toList.set i.toNat u:=by rw [s,List.set_eq_take_append_cons_drop,qj (by simp;omega)];simp
  have aa:new.size=cap:=by rw [<- qas,M,List.length_set,qas,V]
  have A:∀ k,k<w.heap.size->¬ Blk (ψ.val id) k->(w.setRow g new).heap[k]?=w.heap[k]?:=fun k _ hk=>kwp g new k fun e=>hk (.of (by rw [m,e];rfl));have af:(w.setRow g new).heap.size=w.heap.size:=by simp [World.setRow]
  have B:ψ.set id xs.length (ψ.val id)=ψ:=by
   unfold Env.set;congr 1
   ·funext j;split;rename_i N;rw [N,hl]
    ·rfl
   ·funext j;split;rename_i N;rw [N]
    ·rfl
  have hk:Same S w (w.setRow g new):=fun k hk hl=>A k hl fun e=>(Q k e).1 hk;obtain ⟨c1,c2,c3⟩:=f.upd (n:=xs.length) (v:=ψ.val id) (w':=w.setRow g new) (ob' := .frow t 1 ((xs.set i.toNat y).map enc)) I (by omega) A (.inr ⟨hl,rfl⟩) (fun b K => .inl K) (by
   rw [B];refine ⟨by simp [hl],J,cs.set i.toNat u,?_,fun z r=>?_,fun k z j v q r hv C=>?_⟩;rw [qag,List.length_set,m];refine ⟨by rw [List.length_set,hcl,Nat.mul_one], .inr ⟨g,cap,new,rfl,qz _,kuy g hg,R,U,by rw [aa,Nat.mul_one],?_⟩⟩;rw [Nat.mul_one,M,List.take_set,Z];obtain ⟨z0,_,rfl⟩:=qa3.1 r;obtain ⟨u0,h1,h2⟩:=D z0;rw [h1];exact ⟨rfl,fun q C=>by simp [FV.cells] at C;subst C;exact h2⟩
   ·obtain ⟨z0,c,rfl⟩:∃ z0,(xs.set i.toNat y)[k]?=some z0/\enc z0=z:=(by rw [qp,qm] at r;exact r);obtain ⟨u0,h1,h2⟩:=D z0;have N:j=0:=(by rw [h1] at C;have:=(qo.1 C).1;simp [FV.cells] at this;exact this);subst N;have ab:q=enc z0:=(by rw [h1] at C ⊢; simp [FV.cells] at C;exact C.symm);subst ab;simp only [Nat.mul_one,Nat.add_zero] at hv;by_cases O:i.toNat=k;subst O;rw [List.getElem?_set_self (by omega)] at hv c;injection hv with hv;injection c with c;subst hv c;rw [hu];exact .atom H
    ·rw [List.getElem?_set_ne O] at hv c;exact (hr k (enc z0) 0 v (enc z0) (by rw [qp,c];rfl) (by simpa using hv) (by rw [h1];rfl)).keep hk)
  rw [B] at c1;refine kps (w':=w.setRow g new) ?_ ⟨ψ,S,c1, .any,⟨rfl,rfl,rfl,by omega,c3⟩,Ext.refl,fun _ h=>h,fun _ h=>h,c2⟩;simp only [execOp,ho,Instr.storeAt,hp,p,Instr.sureAddr,storeVar,hd.size,Sem.run_bind,Sem.run_pure,Result.andThen_ok];rw [qg (by rw [L,hz];simp)];simp [L,hst]
 ·cases h
end
def rel1 (id n:Nat):AV->AV
 | .row k m=>bif Nat.beq k id then .row k n else .row k m
 | y=>y
def relG (id n:Nat):AV->AV
 | .agg cs => .agg (cs.map (rel1 id n))
 | .fn f cs => .fn f (cs.map (rel1 id n))
 | y=>rel1 id n y
def relT (id n:Nat):AV->AV
 | .tup cs => .tup (cs.map (relG id n))
 | y=>relG id n y
def relO (id n:Nat):AObj->AObj
 | .box e cs => .box e (cs.map (rel1 id n))
 | y=>y
def k9l (id:Nat) (st:St):List Nat:=st.tmps.flatMap (fun p=>kzd id p.2)++st.heap.flatMap (fun p=>k1k id p.2)
def kab1 (id n:Nat) (st:St):St:={ dfr:=st.dfr,n:=st.n,tmps:=st.tmps.map (fun p=>(p.1,relT id n p.2)),heap:=st.heap.map (fun p=>(p.1,relO id n p.2)),ids:=st.ids }
theorem kzj {id n:Nat} {y:AV} (h:∀ m∈kt4 id y,m=n):rel1 id n y=y:=by
 cases y with
 | row k m=>
  simp only [rel1];cases a:Nat.beq k id with
  | false=>rfl
  | true=>rw [h m (by simp [kt4,a])];rfl
 | _=>rfl
theorem kqq {α:Type} {f:α->α} {l:List α} (h:∀ x∈l,f x=x):l.map f=l:=by rw [List.map_congr_left h];simp
theorem kzq {id n:Nat} {y:AV} (h:∀ m∈k5g id y,m=n):relG id n y=y:=by
 cases y with
 | agg cs=>exact q9 AV.agg (kqq fun x a=>kzj fun m hm=>h m (qba.2 ⟨x,a,hm⟩))
 | fn f cs=>exact q9 (AV.fn f) (kqq fun x a=>kzj fun m hm=>h m (qba.2 ⟨x,a,hm⟩))
 | row k m=>exact kzj (y := .row k m) h
 | _=>rfl
theorem kalh {id n:Nat} {y:AV} (h:∀ m∈kzd id y,m=n):relT id n y=y:=by
 cases y with
 | tup cs=>exact q9 AV.tup (kqq fun x a=>kzq fun m hm=>h m (qba.2 ⟨x,a,hm⟩))
 | agg cs=>exact kzq (y := .agg cs) h
 | fn f cs=>exact kzq (y := .fn f cs) h
 | row k m=>exact kzq (y := .row k m) h
 | _=>rfl
theorem kals {id n:Nat} {y:AObj} (h:∀ m∈k1k id y,m=n):relO id n y=y:=by
 cases y with
 | box e cs=>exact q9 (AObj.box e) (kqq fun x a=>kzj fun m hm=>h m (qba.2 ⟨x,a,hm⟩))
 | _=>rfl
theorem k7o {st:St} (id:Nat) {k m n:Nat} (h:k9l id st=List.replicate k m) (b:m=n):LeSt st (kab1 id n st):=by
 have a:∀ x∈k9l id st,x=n:=fun x c=>by rw [h] at c;rw [(List.mem_replicate.1 c).2,b]
 have:kab1 id n st=st:=by
  unfold kab1;have h1:st.tmps.map (fun p=>(p.1,relT id n p.2))=st.tmps:=kqq fun p hp=>by rw [kalh fun m hm=>a m (qao.2 (.inl (qba.2 ⟨p,hp,hm⟩)))]
  have h2:st.heap.map (fun p=>(p.1,relO id n p.2))=st.heap:=kqq fun p hp=>by rw [kals fun m hm=>a m (qao.2 (.inr (qba.2 ⟨p,hp,hm⟩)))]
  rw [h1,h2]
 rw [this];exact LeSt.refl
section
variable {P:Program} {F S0:Nat->Prop} {N0:Nat} {w w':World} {S S':Nat->Prop} {ψ:Env} {K:Nat->Prop} {T:List (TypeId×TD)} {o:Oper} {a:Act} {st:St} {t:TypeId} {d:TD} {id:Nat}
end
def tabF (rows:List (List Value)):FV := .lst 1 rows.length (rows.map fun r => .lst 1 r.length (r.map .atom))
def kajm:FV->Bool
 | .atom _=>true
 | .tup vs=>vs.all fun x=>match x with
  | .atom _=>true
  | _=>false
 | _=>false
section
variable {P:Program} {F S0:Nat->Prop} {N0:Nat} {w w':World} {S S':Nat->Prop} {ψ ψ':Env} {K:Nat->Prop} {T:List (TypeId×TD)} {o:Oper} {a:Act} {st:St} {t:TypeId} {d:TD} {id:Nat} {ids:List Nat} {heap:List (Nat×AObj)}
end
section
variable {P:Program} {F S0:Nat->Prop} {N0:Nat} {w w':World} {S S':Nat->Prop} {ψ ψ':Env} {K:Nat->Prop} {T:List (TypeId×TD)} {o:Oper} {a:Act} {st:St} {t:TypeId} {d:TD} {id:Nat} {ids:List Nat} {heap:List (Nat×AObj)}
end
section
variable {P:Program} {F S0:Nat->Prop} {N0:Nat} {w w':World} {S S':Nat->Prop} {ψ ψ':Env} {K:Nat->Prop} {T:List (TypeId×TD)} {o:Oper} {a:Act} {st:St} {t:TypeId} {d:TD} {id:Nat} {ids:List Nat} {heap:List (Nat×AObj)}
theorem k62 (r:List Value) (h:∀ u∈r,u.oneCell'=true):ElR 1 (r.map .atom):=fun x b=>by obtain ⟨u,c,rfl⟩:=qa3.1 b;exact ⟨rfl,fun y a=>by simp [FV.cells] at a;subst a;exact h u c⟩
theorem k4u (r:List Value) (h:∀ u∈r,u.oneCell'=true):RowR S w 1 (r.map .atom) r:=fun i x j v y b hv a=>by
 rw [qp,qm] at b;obtain ⟨u,c,rfl⟩:=b;have d:j=0:=by have:=(qo.1 a).1;simp [FV.cells] at this;exact this
 subst d;simp [FV.cells] at a;subst a;rw [Nat.mul_one,Nat.add_zero,c] at hv;cases hv;exact .atom (h _ (qw c))
theorem kah8 {g:Nat} {ov:Value} {eo ei:TypeId} {rows:List (List Value)} (h:ObR ψ K S w id (.tab g ov eo ei rows)):RF (fun b=>S b\/Blk (ψ.val id) b) w ov (tabF rows):=by
 obtain ⟨z,vs,e,q,f,m,o⟩:=h;have p:∀ u b,u∈ov::vs->kby u=some b->Blk (ψ.val id) b:=fun u b s k=>by rw [e];exact .inr ⟨u,by simpa [kot] using s,k⟩
 have c:rows.length=(rows.map fun r:List Value=>FV.lst 1 r.length (r.map .atom)).length:=by simp
 have a:∀ (j:Nat) (v:Value) (r:List Value),vs[j]?=some v->rows[j]?=some r->RF (fun b=>S b\/Blk (ψ.val id) b) w v (.lst 1 r.length (r.map .atom)):=fun j v r hv hr=>by obtain ⟨k1,k2⟩:=m j v r hv hr;have:=kyr (S:=S) (xs:=r.map .atom) (by omega) (by simpa using k1) (k62 r k2) (k4u r k2);rw [qag] at this;exact this.mono fun b k=>k.imp _root_.id fun h=>p v b (qn _ (qw hv)) h
 have n:ElR 1 (rows.map fun r:List Value=>FV.lst 1 r.length (r.map .atom)):=fun x l=>by obtain ⟨r,hr,rfl⟩:=qa3.1 l;exact ⟨rfl,fun y d=>by simp [FV.cells] at d;subst d;rfl⟩
 have:=kyr (S:=fun b=>S b\/Blk (ψ.val id) b) (xs:=rows.map fun r:List Value=>FV.lst 1 r.length (r.map .atom)) (by omega) (by rw [<- c];exact f) n (fun i x j v y l hv d=>by
  rw [qp,qm] at l;obtain ⟨r,hr,rfl⟩:=l;have t:j=0:=by have:=(qo.1 d).1;simp [FV.cells] at this;exact this
  subst t;simp [FV.cells] at d;subst d;rw [Nat.mul_one,Nat.add_zero] at hv;exact a i v r hv hr)
 rw [<- c] at this;exact this.mono fun b k=>k.elim _root_.id fun h => .inr (p ov b (qt ..) h)
inductive LendI where
 | row (t id n:Nat) (e:TypeId) (size:Nat) (xs:List FV)
 | tab (t id g:Nat) (ov:Value) (eo ei:TypeId) (rows:List (List Value)) (x:FV)
 | inn (t id g:Nat) (ov:Value) (eo ei:TypeId) (rows:List (List Value)) (i:Nat) (x:FV)
def LendI.ok (st:St):LendI->Prop
 | .row t id n e size xs=>st.get t = .row id n/\kab st.heap id=some (.frow e size xs)/\n=xs.length
 | .tab t id g ov eo ei rows x=>st.get t = .fz (.atom ov)/\kab st.heap id=some (.tab g ov eo ei rows)/\x=tabF rows
 | .inn t id g ov eo ei rows i x=>st.get t = .irow id g (i+1)/\kab st.heap id=some (.tab g ov eo ei rows)/\∃ r,rows[i]?=some r/\x = .lst 1 r.length (r.map .atom)
def LendI.slot:LendI->Nat×AV
 | .row t _ n _ size xs=>(t, .fz (.lst size n xs))
 | .tab t _ _ _ _ _ _ x=>(t, .fz x)
 | .inn t _ _ _ _ _ _ _ x=>(t, .fz x)
def kajd (ls:List LendI) (st:St):St:={ st with tmps:=ls.map LendI.slot++st.tmps }
theorem kahj {e:TypeId} {size:Nat} {xs:List FV} (h:ObR ψ K S w id (.frow e size xs)):RF (fun b=>S b\/Blk (ψ.val id) b) w (ψ.val id) (.lst size xs.length xs):=by obtain ⟨h0,c,cs,a,d,hr⟩:=h;exact (kyr c a d hr).mono fun b f=>f.imp _root_.id .of
theorem k6q {SB:Nat->Prop}:∀ (ls:List LendI),(∀ l∈ls,l.ok st)->(∀ t,RV ψ (·∈st.ids) S w (a.tmps.getD t undef) (st.get t))->(∀ id ob,kab st.heap id=some ob->ObR ψ (·∈st.ids) S w id ob)->(∀ id ob,kab st.heap id=some ob->∀ b,(S b\/Blk (ψ.val id) b)->SB b)->(∀ b,S b->SB b) ->
  ∀ t,RV ψ (·∈st.ids) SB w (a.tmps.getD t undef) (look .any (ls.map LendI.slot++st.tmps) t)
 | [],_,ht,_,_,hS,t=>(ht t).mono (fun _ h=>h) hS
 | l::ls,hl,ht,q,c,hS,t=>by
  have f:=hl l (qt ..);have j:=k6q ls (fun k hk=>hl k (qn _ hk)) ht q c hS t;cases l with
  | row t' id n e size xs=>
   obtain ⟨q1,q2,rfl⟩:=f;show RV ψ (·∈st.ids) SB w _ (look .any ((t',AV.fz (.lst size xs.length xs))::(ls.map LendI.slot++st.tmps)) t);rw [kdt];split
   ·rename_i o;subst o;have hv:=ht t';rw [q1] at hv;have p:=q id _ q2;refine .fz ?_;generalize a.tmps.getD t' undef=u at hv;cases hv with
    | row hK s h1 hv=>
     rw [hv p.1.symm];exact (kahj p).mono (c id _ q2)
   ·exact j
  | tab t' id g ov eo ei rows x=>
   obtain ⟨q1,q2,rfl⟩:=f;show RV ψ (·∈st.ids) SB w _ (look .any ((t',AV.fz (tabF rows))::(ls.map LendI.slot++st.tmps)) t);rw [kdt];split;rename_i o;subst o;have hv:=ht t';rw [q1] at hv;rw [hv.atom];exact .fz ((kah8 (q id _ q2)).mono (c id _ q2))
   ·exact j
  | inn t' id g ov eo ei rows i x=>
   obtain ⟨q1,q2,r,q3,rfl⟩:=f;show RV ψ (·∈st.ids) SB w _ (look .any ((t',AV.fz (.lst 1 r.length (r.map .atom)))::(ls.map LendI.slot++st.tmps)) t);rw [kdt];split
   ·rename_i o;subst o;have hv:=ht t';rw [q1] at hv;obtain ⟨C,vs,d,v,A,y,B⟩:=q id _ q2;have m:i<vs.length:=(by rw [v];exact (qo.1 q3).1);obtain ⟨k1,k2⟩:=y i vs[i] r (qc m) q3;refine .fz ?_;have hd:=kyr (S:=S) (xs:=r.map .atom) (by omega) (by simpa using k1) (k62 r k2) (k4u r k2);rw [qag] at hd;have hd:=hd.mono fun b z=>c id _ q2 b (z.imp _root_.id fun z=>by rw [d];exact .inr ⟨vs[i],by simp only [kot];exact qn _ (qv m),z⟩);generalize a.tmps.getD t' undef=u at hv;cases hv with
    | irow hK s h1 hv=>
     have:=hv C.symm;rw [d] at this;simp only [kot,List.getElem?_cons_succ] at this;rw [qc m] at this;cases this;exact hd
   ·exact j
theorem kam6 (ls:List LendI) {c:FV} (hl:∀ l∈ls,l.ok st) (hn:NStep P o (kajd ls st) (.fz c)) (hc:kajm c=true):NStep P o st (.fz c):=by
 intro ψ S a w ht g
 let SB:Nat->Prop:=fun b=>S b\/∃ id ob,kab st.heap id=some ob/\Blk (ψ.val id) b
 have d:∀ id ob,kab st.heap id=some ob->∀ b,(S b\/Blk (ψ.val id) b)->SB b:=fun id ob h b e=>e.imp _root_.id fun e=>⟨id,ob,h,e⟩;refine kw7 ?_ (hn ψ SB a w (fun t=>?_) fun id ob ho=>?_)
 ·rintro v w' ⟨k,hv⟩;refine ⟨k, .fz ?_⟩;have hv:=hv.inv;cases c with
  | atom u=>cases hv with | atom h=>exact .atom h
  | tup vs=>
   cases hv with
   | tup h hr=>
    refine .tup h fun i v x hv j=>?_;have f:=qs.1 hc x (qw j);have:=hr i v x hv j;cases x with
    | atom u=>cases this with | atom h=>exact .atom h
    | _=>cases f
  | _=>cases hc
 exact k6q ls hl (fun t=>ht t) g d (fun b h => .inl h) t
 ·exact (g id ob ho).keep Ext.refl (fun _ h=>h) (fun b e => .inl e) (fun _ _ _=>rfl) ⟨rfl,rfl⟩ fun _ _=>rfl
theorem k33 {α:Type} {enc:α->FV} {m:List (BA×α)} {s:BA} {z:α} {x y:Operand} {kt et:TypeId} {kd:TD} (zv:Value) (ho:o.op = .lookup t x y true) (L:TOk P T) (hd:kat T t=some d) (hk:d.kind = .map kt et) (c:kat T kt=some kd) (l:kd.kind = .str) (inf:TypeInfo) (C:P.info? et=some inf) (D:inf.zero=some zv) (E:enc z = .atom zv) (F:zv.oneCell'=true)
  (N:st.eval x = .mp id:=by kernel_rfl) (G:kab st.heap id=some (.smap (m.map fun p=>(p.1,enc p.2))):=by kernel_rfl) (n:st.eval y = .fz (.atom (.string s)):=by kernel_rfl):NStep P o st (.fz (.tup [enc (mget m s z), .atom (.bool (mhas m s))])):=by
 intro ψ S a w ht O;have hd:=L.get hd;have c:=L.get c;have hv:=Sim.eval_tmps ht x;rw [N] at hv;have q:=O id _ G;have r:=k76 q hv;obtain ⟨h0,b,es,clock,g,M,H,hr⟩:=q;have f:=Sim.eval_tmps ht y;rw [n] at f;have f:=f.atom;have I:(zeroValue et).run P w = .ok zv w:=by simp [zeroValue,typeInfo,C,D]
 have A:=MapKept.run_checkKey (w:=w) (c.str l) (k := .string s) trivial es.isEmpty 9999;have two:∀ {v:Value} {x:FV} {ok:Bool},RF (fun b=>S b\/w.heap.size<=b) w v x->RF (fun b=>S b\/w.heap.size<=b) w (.tuple #[v, .bool ok]) (.tup [x, .atom (.bool ok)]):=fun {v x ok} h => .tup rfl fun i u y B n=>by
  match i with
  | 0=>simp at B n;subst B n;exact h
  | 1=>simp at B n;subst B n;exact .atom rfl
  | i+2=>simp at B
 rcases kqy s (R:=fun v x=>RF S w v x) es.toList (m.map fun p=>(p.1,enc p.2)) 0 (by simpa using H) (fun j e p Q hp=>hr j e p (by simpa using Q) hp) with ⟨f1,f2⟩ | ⟨j,v,x',f1,f2,f3⟩
 ·have J:=MapKept.run_findKey (w:=w) (c.str l) f1;have K:mhas m s=false:=by rw [<- k6t enc];unfold mhas;rw [f2];rfl
  refine kaj (w':=w) (v := .tuple #[zv, .bool false]) ?_ ⟨kai _, .fz ?_⟩;simp [execOp,ho,f,r,g,Instr.lookup,run_underlying (hd.mp hk),MapKept.run_getObj_map M,A,J,I]
  ·rw [K];refine two ?_;rw [<- kw5 enc];unfold mget;rw [f2];simp only;rw [E];exact .atom F
 ·have J:=MapKept.run_findKey (w:=w) (c.str l) f1;have K:mhas m s=true:=by rw [<- k6t enc];unfold mhas;rw [f2];rfl
  refine kaj (w':=w) (v := .tuple #[v, .bool true]) ?_ ⟨kai _, .fz ?_⟩;simp [execOp,ho,f,r,g,Instr.lookup,run_underlying (hd.mp hk),MapKept.run_getObj_map M,A,J]
  ·rw [K];refine two ?_;rw [<- kw5 enc];unfold mget;rw [f2];exact f3.mono fun _ h => .inl h
theorem kagw {t id n:Nat} {e:TypeId} {size:Nat} {xs:List FV} (h1:st.get t = .row id n) (h2:kab st.heap id=some (.frow e size xs)) (h3:n=xs.length):LendI.ok st (.row t id n e size xs):=⟨h1,h2,h3⟩
theorem kahh:∀ l∈([]:List LendI),l.ok st:=fun l h=>by cases h
theorem kafh {l:LendI} {ls:List LendI} (h:l.ok st) (hs:∀ k∈ls,k.ok st):∀ k∈l::ls,k.ok st:=fun k hk=>by
 rcases qac.1 hk with rfl | hk;exact h
 ·exact hs k hk
end
end Go.Proofs.YtaimpcnpifoidaaGreatDoor
