import Derived.Test.YtpcfkflhnkfjjaaGreatOpm
import Derived.MapKept
import Derived.Laws.OwnMore
set_option linter.all false
namespace Go.Proofs.YtpcfkflhnkfjjaaGreat
open Go Go.RowKit
def koz (id:Nat):AV->List Nat
 | .row k m=>bif Nat.beq k id then [m] else []
 | _=>[]
def kxw (id:Nat):AV->List Nat
 | .agg cs=>cs.flatMap (koz id)
 | .fn _ cs=>cs.flatMap (koz id)
 | y=>koz id y
def ksr (id:Nat):AV->List Nat
 | .tup cs=>cs.flatMap (kxw id)
 | y=>kxw id y
def ku0 (id:Nat):AObj->List Nat
 | .box _ cs=>cs.flatMap (koz id)
 | _=>[]
def frz1 (id:Nat) (x:FV):AV->AV
 | .row k m=>bif Nat.beq k id then .fz x else .row k m
 | y=>y
def frzG (id:Nat) (x:FV):AV->AV
 | .agg cs=>aggA (cs.map (frz1 id x))
 | .fn f cs => .fn f (cs.map (frz1 id x))
 | y=>frz1 id x y
def frzT (id:Nat) (x:FV):AV->AV
 | .tup cs=>tupA (cs.map (frzG id x))
 | y=>frzG id x y
def frzO (id:Nat) (x:FV):AObj->AObj
 | .box e cs => .box e (cs.map (frz1 id x))
 | y=>y
def k34 (id:Nat) (st:St):List Nat:=st.tmps.flatMap (fun p=>ksr id p.2)++(kci id st.heap).flatMap (fun p=>ku0 id p.2)
def frzSt (id:Nat) (x:FV) (st:St):St:={ dfr:=st.dfr,n:=st.n,tmps:=st.tmps.map (fun p=>(p.1,frzT id x p.2)),heap:=(kci id st.heap).map (fun p=>(p.1,frzO id x p.2)),ids:=st.ids }
section
variable {F S0:Nat->Prop} {N0:Nat} {w:World} {S:Nat->Prop} {ψ:Env} {K:Nat->Prop} {id n:Nat} {x:FV} {st:St}
theorem ktd (a:∀ v,RV ψ K S w v (.row id n)->RF S w v x) {v:Value} {y:AV} (h:RV ψ K S w v y) (hr:∀ m∈koz id y,m=n):RV ψ K S w v (frz1 id x y):=by
 cases y with
 | row k m=>
  simp only [frz1];cases b:Nat.beq k id with
  | false=>exact h
  | true=>
   have hk:=qv b;subst hk;have hm:m=n:=hr m (by simp [koz]);subst hm;exact .fz (a v h)
 | _=>exact h
theorem kto (hs:x.single=true) {y:AV} (h:y.single=true):(frz1 id x y).single=true:=by
 cases y with
 | row k m=>
  simp only [frz1];cases Nat.beq k id with
  | false=>exact h
  | true=>exact hs
 | _=>exact h
theorem kst {α β γ:Type} {R Q:α->γ->Prop} {f:β->γ} {R':α->β->Prop} {cs:Array α} {xs:List β} (hr:∀ (i:Nat) (v:α) (y:β),cs[i]?=some v->xs[i]?=some y->R' v y) (hf:∀ v y,y∈xs->R' v y->Q v (f y)):
  ∀ (i:Nat) (v:α) (y:γ),cs[i]?=some v->(xs.map f)[i]?=some y->Q v y:=by
 intro i v y hv a;simp only [qp,qt] at a;obtain ⟨z,b,rfl⟩:=a;exact hf v z (qm b) (hr i v z hv b)
theorem ks0 (hs:x.single=true) (c:∀ v,RV ψ K S w v (.row id n)->RF S w v x) {v:Value} {y:AV} (h:RV ψ K S w v y) (hr:∀ m∈kxw id y,m=n):RV ψ K S w v (frzG id x y):=by
 cases y with
 | agg cs=>
  cases h with
  | agg h h1 a=>
   refine RV.aggA (by simpa using h) (fun y b=>?_) (kst (R:=fun _ _=>True) a fun v y b hv=>ktd c hv fun m hm=>hr m ?_);simp only [qae] at b;obtain ⟨z,d,rfl⟩:=b;exact kto hs (h1 z d)
   ·exact qa2.2 ⟨y,b,hm⟩
 | fn f cs=>
  cases h with
  | fn h a=>exact .fn (by simpa using h) (kst (R:=fun _ _=>True) a fun v y b hv=>ktd c hv fun m hm=>hr m (qa2.2 ⟨y,b,hm⟩))
 | row k m=>exact ktd c h hr
 | _=>exact h
theorem k9e (hs:x.single=true) (a:∀ v,RV ψ K S w v (.row id n)->RF S w v x) {v:Value} {y:AV} (h:RV ψ K S w v y) (hr:∀ m∈ksr id y,m=n):RV ψ K S w v (frzT id x y):=by
 cases y with
 | tup cs=>
  cases h with
  | tup h b=>exact RV.tupA (by simpa using h) (kst (R:=fun _ _=>True) b fun v y c hv=>ks0 hs a hv fun m hm=>hr m (qa2.2 ⟨y,c,hm⟩))
 | agg cs=>exact ks0 hs a h hr
 | fn f cs=>exact ks0 hs a h hr
 | row k m=>exact ks0 hs a h hr
 | _=>exact h
theorem k5t (l:List (Nat×AV)) (t:Nat):look .any (l.map fun p=>(p.1,frzT id x p.2)) t=frzT id x (look .any l t)/\∀ m∈ksr id (look .any l t),m∈l.flatMap (fun p=>ksr id p.2):=by
 induction l with
 | nil=>exact ⟨rfl,fun m hm=>by cases hm⟩
 | cons p l ih=>
  obtain ⟨k,v⟩:=p;simp only [qbi,kcd,List.flatMap_cons,qac];by_cases h:k=t;simp only [qn h];exact ⟨trivial,fun m hm => .inl hm⟩
  ·simp only [qk h];exact ⟨ih.1,fun m hm => .inr (ih.2 m hm)⟩
theorem krx (l:List (Nat×AObj)) (t:Nat):kae (l.map fun p=>(p.1,frzO id x p.2)) t=(kae l t).map (frzO id x)/\∀ o,kae l t=some o->∀ m∈ku0 id o,m∈l.flatMap (fun p=>ku0 id p.2):=by
 induction l with
 | nil=>exact ⟨rfl,fun o h=>by cases h⟩
 | cons p l ih=>
  obtain ⟨k,v⟩:=p;simp only [qbi,kah,List.flatMap_cons,qac];by_cases h:k=t;simp only [qn h];exact ⟨rfl,fun o ho m hm=>by injection ho with ho;subst ho;exact .inl hm⟩
  ·simp only [qk h];exact ⟨ih.1,fun o ho m hm => .inr (ih.2 o ho m hm)⟩
theorem knz (id:Nat) {n k:Nat} {e:TypeId} {size:Nat} {xs:List FV} (f:kae st.heap id=some (.frow e size xs)) (hn:n=xs.length) (g:k34 id st=List.replicate k n:=by kernel_rfl):LeSt st (frzSt id (.lst size n xs) st):=by
 subst hn;intro F S0 N0 ψ S a w hs;obtain ⟨c1,c2⟩:=kke hs.core f;have d:∀ m∈k34 id st,m=xs.length:=fun m hm=>by rw [g] at hm;exact (List.mem_replicate.1 hm).2
 have h0:=(hs.core.obj id _ f).2.1.1;have A:∀ v,RV ψ (·∈st.ids) (fun b=>S b\/ka1 (ψ.val id)=some b) w v (.row id xs.length)->RF (fun b=>S b\/ka1 (ψ.val id)=some b) w v (.lst size xs.length xs):=by
  intro v hv;cases hv with
  | row hK B h1 hv=>rw [hv (by rw [h0])];exact c2
 refine ⟨ψ,_,hs.defers,hs.size,fun t=>?_,⟨fun i o ho=>?_,fun i i' o o' b ho c r C=>?_,c1.lt,c1.s0,c1.n0,c1.fr⟩⟩;obtain ⟨l1,l2⟩:=k5t (id:=id) (x := .lst size xs.length xs) st.tmps t;show RV ψ (·∈st.ids) _ w (a.tmps.getD t undef) (look .any (st.tmps.map fun p=>(p.1,frzT id (.lst size xs.length xs) p.2)) t);rw [l1];refine k9e rfl A ((hs.tmps t).mono (fun _ h=>h) fun _ h => .inl h) fun m hm=>d m ?_;exact qac.2 (.inl (l2 m hm))
 ·obtain ⟨l1,l2⟩:=krx (id:=id) (x := .lst size xs.length xs) (kci id st.heap) i;have c:kae ((kci id st.heap).map fun p=>(p.1,frzO id (.lst size xs.length xs) p.2)) i=some o:=ho;rw [l1,qt] at c;obtain ⟨o',h1,rfl⟩:=c;obtain ⟨k1,k2,k7⟩:=c1.obj i o' h1;refine ⟨k1,?_,k7⟩;cases o' with
  | box e2 cells=>
   obtain ⟨g0,b,cs,g2,g3,g4,g5,g6⟩:=k2;refine ⟨g0,b,cs,g2,g3,by simpa using g4,fun y q=>?_,kst (R:=fun _ _=>True) g6 fun v y q hv=>ktd A hv fun m hm=>d m ?_⟩;simp only [qae] at q;obtain ⟨z,D,rfl⟩:=q;exact kto rfl (g5 z D)
   ·exact qac.2 (.inr (l2 _ h1 m (qa2.2 ⟨y,q,hm⟩)))
  | _=>exact k2
 ·obtain ⟨l1,_⟩:=krx (id:=id) (x := .lst size xs.length xs) (kci id st.heap) i;obtain ⟨l2,_⟩:=krx (id:=id) (x := .lst size xs.length xs) (kci id st.heap) i';have j:kae ((kci id st.heap).map fun p=>(p.1,frzO id (.lst size xs.length xs) p.2)) i=some o:=ho;have l:kae ((kci id st.heap).map fun p=>(p.1,frzO id (.lst size xs.length xs) p.2)) i'=some o':=c;rw [l1,qt] at j;rw [l2,qt] at l;obtain ⟨u,E,_⟩:=j;obtain ⟨u',s,_⟩:=l;exact c1.inj i i' u u' b E s r C
end
def kgs {α:Type} (s:BA):List (BA×α)->Nat->Option (Nat×α)
 | [],_=>none
 | (k,v)::l,i=>bif s.toList == k.toList then some (i,v) else kgs s l (i+1)
def mget {α:Type} (m:List (BA×α)) (s:BA) (z:α):α:=match kgs s m 0 with
 | some (_,x)=>x
 | none=>z
def mput {α:Type} (m:List (BA×α)) (s:BA) (y:α):List (BA×α):=match kgs s m 0 with
 | some (j,_)=>m.set j (s,y)
 | none=>m++[(s,y)]
theorem kk4 (a b:BA):(a.toList == b.toList)=(a == b):=by
 rw [Bool.eq_iff_iff,beq_iff_eq,MapKept.bytes_beq,ByteArray.toList_eq,ByteArray.toList_eq];constructor;intro h;exact ByteArray.ext (Array.toList_inj.1 h)
 ·intro h;rw [h]
theorem kov {α β:Type} (f:α->β) (s:BA):∀ (m:List (BA×α)) (i:Nat),kgs s (m.map fun p=>(p.1,f p.2)) i=(kgs s m i).map fun p=>(p.1,f p.2)
 | [],_=>rfl
 | (k,v)::l,i=>by
  simp only [qbi,kgs];cases s.toList == k.toList with
  | true=>rfl
  | false=>exact kov f s l (i+1)
theorem ky5 {α β:Type} (f:α->β) (m:List (BA×α)) (s:BA) (z:α):mget (m.map fun p=>(p.1,f p.2)) s (f z)=f (mget m s z):=by
 unfold mget;rw [kov];cases kgs s m 0 with
 | none=>rfl
 | some p=>rfl
theorem kzc {α:Type} {s:BA}:∀ {m:List (BA×α)} {i j:Nat} {x:α},kgs s m i=some (j,x)->i<=j/\j - i<m.length/\∃ k,m[j - i]?=some (k,x)/\k=s
 | [],i,j,x,h=>by cases h
 | (k,v)::l,i,j,x,h=>by
  simp only [kgs] at h;cases a:s.toList == k.toList with
  | true=>
   rw [a] at h;simp only [qf,ql,qad] at h;obtain ⟨rfl,rfl⟩:=h;rw [kk4,MapKept.bytes_beq] at a;exact ⟨qx _,by simp,k,by simp,a.symm⟩
  | false=>
   rw [a] at h;obtain ⟨h1,d,k',b,c⟩:=kzc h;have e:j - i=(j - (i+1))+1:=(by omega);exact ⟨by omega,by simp;omega,k',by rw [e,qav];exact b,c⟩
section
variable {P:Program} {F S0:Nat->Prop} {N0:Nat} {w w':World} {S S':Nat->Prop} {ψ:Env} {K:Nat->Prop} {T:List (TypeId×TD)} {o:Oper} {a:Act} {st:St} {t:TypeId} {d:TD} {id:Nat}
theorem kpn (s:BA) {R:Value->FV->Prop}:∀ (es:List MapEntry) (kv:List (BA×FV)) (i:Nat),es.length=kv.length->(∀ (j:Nat) (e:MapEntry) (p:BA×FV),es[j]?=some e->kv[j]?=some p->e.key = .string p.1/\R e.val p.2) ->
  (Instr.findNow .string (.string s) es i=some none/\kgs s kv i=none)\/∃ j v x,Instr.findNow .string (.string s) es i=some (some (j,v))/\kgs s kv i=some (j,x)/\R v x
 | [],[],i,_,_ => .inl ⟨rfl,rfl⟩
 | [],p::kv,i,h,_=>by cases h
 | e::es,[],i,h,_=>by cases h
 | e::es,(k,x)::kv,i,h,hr=>by
  obtain ⟨hk,hv⟩:=hr 0 e (k,x) rfl rfl;simp only [Instr.findNow,hk,Instr.sameNow,kgs,kk4];cases b:s == k with
  | true=>exact .inr ⟨i,e.val,x,rfl,rfl,hv⟩
  | false=>exact kpn s es kv (i+1) (by simpa using h) fun j e p a hp=>hr (j+1) e p (by simpa using a) (by simpa using hp)
theorem TdOk.mp {k e:Nat} (h:TdOk P t d) (hk:d.kind = .map k e):P.underlying t=some (.map k e):=by obtain ⟨_,e',h1,a⟩:=h;rw [hk] at a;cases e' <;> simp [kau] at a;rw [h1,a.1,a.2]
theorem k3c (ho:o.op = .makeMap t none:=by kernel_rfl) (d:st.ids.contains id=false:=by kernel_rfl):StepA P o st (.mp id) ((id, .smap [])::st.heap) (id::st.ids):=by
 have d:id∉st.ids:=by simpa using d
 intro F S0 N0 ψ S a w f;have c:=f.core;refine kai (w':=w.alloc (.map #[] 0)) (v := .map (some w.heap.size)) ?_ ⟨ψ.set id 0 (.map (some w.heap.size)),S,?_,?_,kn9 _ c.fr,kfq d _ _,fun _ h=>qo _ h,fun _ h=>h,Same.of_grow (kdm _ _)⟩;simp [execOp,ho,Instr.makeMap];exact c.add (kdm _ _) d (fun b g=>by simp [ka1] at g;omega) ⟨keq _ _,w.heap.size,_,_,kbb _ _,heap_alloc_new w _,rfl,fun i e p j hp=>by simp at j⟩
 ·exact .mp (qs ..) rfl fun _=>by rw [kbb]
theorem k37 {kv:List (BA×FV)} {v:Value} (hs:ObR ψ K S w id (.smap kv)) (hv:RV ψ K S w v (.mp id)):v=ψ.val id:=by
 cases hv with
 | mp hK h1 hv=>exact hv hs.1.symm
theorem k5e {α:Type} {enc:α->FV} {m:List (BA×α)} {s:BA} {z:α} {x y:Operand} {kt et:TypeId} {kd:TD} (zv:Value) (ho:o.op = .lookup t x y false) (F:TOk P T) (r:kak T t=some d) (hk:d.kind = .map kt et) (c:kak T kt=some kd) (i:kd.kind = .str) (inf:TypeInfo) (u:P.info? et=some inf) (hi2:inf.zero=some zv) (A:enc z = .atom zv) (B:zv.oneCell'=true)
  (H:st.eval x = .mp id:=by kernel_rfl) (C:kae st.heap id=some (.smap (m.map fun p=>(p.1,enc p.2))):=by kernel_rfl) (I:st.eval y = .fz (.atom (.string s)):=by kernel_rfl):NStep P o st (.fz (enc (mget m s z))):=by
 intro ψ S a w ht J;have r:=F.get r;have c:=F.get c;have hv:=Sim.eval_tmps ht x;rw [H] at hv;have l:=J id _ C;have n:=k37 l hv;obtain ⟨h0,b,es,clock,g,G,D,hr⟩:=l;have f:=Sim.eval_tmps ht y;rw [I] at f;have f:=f.atom;have E:(zeroValue et).run P w = .ok zv w:=by simp [zeroValue,typeInfo,u,hi2]
 have q:=MapKept.run_checkKey (w:=w) (c.str i) (k := .string s) trivial es.isEmpty 9999;rcases kpn s (R:=fun v x=>RF S w v x) es.toList (m.map fun p=>(p.1,enc p.2)) 0 (by simpa using D) (fun j e p K hp=>hr j e p (by simpa using K) hp) with ⟨f1,f2⟩ | ⟨j,v,x',f1,f2,f3⟩
 ·have hf:=MapKept.run_findKey (w:=w) (c.str i) f1;refine kai (w':=w) (v:=zv) ?_ ⟨kaj _, .fz ?_⟩;simp [execOp,ho,f,n,g,Instr.lookup,run_underlying (r.mp hk),MapKept.run_getObj_map G,q,hf,E]
  ·rw [<- ky5 enc];unfold mget;rw [f2];simp only;rw [A];exact .atom B
 ·have hf:=MapKept.run_findKey (w:=w) (c.str i) f1;refine kai (w':=w) (v:=v) ?_ ⟨kaj _, .fz ?_⟩;simp [execOp,ho,f,n,g,Instr.lookup,run_underlying (r.mp hk),MapKept.run_getObj_map G,q,hf]
  ·rw [<- ky5 enc];unfold mget;rw [f2];exact f3.mono fun _ h => .inl h
theorem kz8 {α:Type} {enc:α->FV} {m:List (BA×α)} {s:BA} {z:α} {x y v:Operand} {kt et:TypeId} {kd:TD} (ho:o.op = .mapUpdate t x y v) (hT:TOk P T) (Z:kak T t=some d) (hk:d.kind = .map kt et) (l:kak T kt=some kd) (I:kd.kind = .str:=by kernel_rfl) (hx:st.eval x = .mp id:=by kernel_rfl) (K:kae st.heap id=some (.smap (m.map fun p=>(p.1,enc p.2))):=by kernel_rfl) (hy:st.eval y = .fz (.atom (.string s)):=by kernel_rfl) (hv:st.eval v = .fz (enc z):=by kernel_rfl):StepA P o st .any ((id, .smap ((mput m s z).map fun p=>(p.1,enc p.2)))::st.heap) st.ids:=by
 intro F S0 N0 ψ S a w D;have Z:=hT.get Z;have l:=hT.get l;have r:=D.core;obtain ⟨ag,L,aa⟩:=r.obj id _ K;have M:=D.eval x;rw [hx] at M;have N:=k37 L M;obtain ⟨h0,b,es,clock,g,E,A,hr⟩:=L;have B:=D.eval y;rw [hy] at B;have B:=B.atom;have C:=D.eval v;rw [hv] at C;have C:=C.inv;have O:=MapKept.run_checkKey (w:=w) (l.str I) (k := .string s) trivial false 9999;have G:ψ.set id 0 (ψ.val id)=ψ:=by
  unfold Env.set;congr 1
  ·funext i;split;rename_i h;rw [h,h0]
   ·rfl
  ·funext i;split;rename_i h;rw [h]
   ·rfl
 have main:∀ (es':Array MapEntry) (clock':Nat),es'.size=(mput m s z).length ->
   (∀ (i:Nat) (e:MapEntry) (p:BA×FV),es'[i]?=some e->((mput m s z).map fun p=>(p.1,enc p.2))[i]?=some p->e.key = .string p.1/\RF S w e.val p.2) ->
   (execOp a.eval o).run P w = .ok .skip { w with heap:=w.heap.setIfInBounds b (.map es' clock') } ->
   kh2 P o a w fun v w'=>∃ ψ' S',Core F S0 N0 ((id, .smap ((mput m s z).map fun p=>(p.1,enc p.2)))::st.heap) st.ids ψ' S' w'/\RV ψ' (·∈st.ids) S' w' v .any/\Fr F w w'/\Ext (·∈st.ids) ψ ψ'/\(∀ id,id∈st.ids->id∈st.ids)/\(∀ b,S b->S' b)/\Same S w w':=by
  intro es' clock' Q ab U;obtain ⟨g1,g2⟩:=MapKept.heap_set (o' := .map es' clock') E;have af:({ w with heap:=w.heap.setIfInBounds b (.map es' clock') }:World).heap.size=w.heap.size:=by simp
  have H:∀ k,k<w.heap.size->¬ Blk (ψ.val id) k->({ w with heap:=w.heap.setIfInBounds b (.map es' clock') }:World).heap[k]?=w.heap[k]?:=fun k _ hk=>g2 k fun e=>hk (.of (by rw [g,e];rfl));have hk:Same S w { w with heap:=w.heap.setIfInBounds b (.map es' clock') }:=fun k hk hl=>H k hl fun e=>(aa k e).1 hk;obtain ⟨c1,c2,c3⟩:=r.upd (n:=0) (v:=ψ.val id) (w':={ w with heap:=w.heap.setIfInBounds b (.map es' clock') }) (ob' := .smap ((mput m s z).map fun p=>(p.1,enc p.2))) K (by omega) H (.inr ⟨h0,rfl⟩) (fun b E => .inl E) (by rw [G];refine ⟨h0,b,es',clock',g,g1,by simpa using Q,fun i e p c hp=>?_⟩;obtain ⟨q1,q2⟩:=ab i e p c hp;exact ⟨q1,q2.keep hk⟩);rw [G] at c1;exact klf U ⟨ψ,S,c1, .any,⟨rfl,rfl,rfl,by omega,c3⟩,Ext.refl,fun _ h=>h,fun _ h=>h,c2⟩
 have ac:∀ (j:Nat) (e:MapEntry) (p:BA×FV),es.toList[j]?=some e->(m.map fun p=>(p.1,enc p.2))[j]?=some p->e.key = .string p.1/\RF S w e.val p.2:=fun j e p c hp=>hr j e p (by simpa using c) hp;rcases kpn s (R:=fun v x=>RF S w v x) es.toList (m.map fun p=>(p.1,enc p.2)) 0 (by simpa using A) ac with ⟨f1,f2⟩ | ⟨j,u,x',f1,f2,f3⟩
 ·have hf:=MapKept.run_findKey (w:=w) (l.str I) f1;have ad:kgs s m 0=none:=by
   rw [kov] at f2;cases hq:kgs s m 0 with
   | none=>rfl
   | some q=>rw [hq] at f2;cases f2
  have f:mput m s z=m++[(s,z)]:=by unfold mput;rw [ad]
  refine main (es.push { key := .string s,val:=a.eval v,born:=clock }) (clock+1) (by rw [f];simpa using A) (fun i e p c hp=>?_) ?_
  ·rw [f,qa5] at hp;rw [Array.getElem?_push] at c;have V:es.size=(m.map fun p=>(p.1,enc p.2)).length:=A;by_cases hi:i=es.size;rw [qn hi] at c;injection c with c;subst c;rw [qai (by omega),hi,V,Nat.sub_self] at hp;simp only [qbi,List.map_nil,List.getElem?_cons_zero,ql] at hp;subst hp;exact ⟨rfl,C⟩
   ·rw [qk hi] at c;have ah:i<es.size:=(qbh.1 c).1;rw [q9 (by omega)] at hp;exact hr i e p c hp
  ·simp [execOp,ho,B,N,g,Instr.mapUpdate,run_underlying (Z.mp hk),MapKept.run_getObj_map E,O,hf,MapKept.run_setObj_map _ E]
 ·have hf:=MapKept.run_findKey (w:=w) (l.str I) f1;rw [kov,qt] at f2;obtain ⟨⟨j',x0⟩,f4,f5⟩:=f2;simp only [qad] at f5;obtain ⟨rfl,rfl⟩:=f5;obtain ⟨_,l2,k,l3,rfl⟩:=kzc f4;simp only [Nat.sub_zero] at l2 l3;have f:mput m k z=m.set j' (k,z):=by unfold mput;rw [f4]
  have ae:j'<es.size:=by rw [A,qu];exact l2
  have J:es[j']?=some es[j']:=qbl ae;have X:es[j'].key = .string k:=(hr j' _ (k,enc x0) J (by rw [qp,l3];rfl)).1;refine main (es.modify j' fun e=>{ e with key := .string k,val:=a.eval v }) clock (by rw [f];simpa using A) (fun i e p c hp=>?_) ?_
  ·rw [f,List.map_set] at hp;rw [Array.getElem?_modify] at c;by_cases hi:j'=i;subst hi;rw [qn rfl,J] at c;simp only [qbf,ql] at c;subst c;rw [qbk (by rw [qu];exact l2)] at hp;injection hp with hp;subst hp;exact ⟨rfl,C⟩
   ·rw [qk hi] at c;rw [List.getElem?_set_ne hi] at hp;exact hr i e p c hp
  ·have Y:(Instr.keyThatStays (((es[j']?).map (·.key)).getD (.string k)) (.string k)).run P w = .ok (.string k) w:=(by rw [J];simp only [qbf,qw,X];exact MapKept.run_keyThatStays (d := .string) trivial);simp [execOp,ho,B,N,g,Instr.mapUpdate,run_underlying (Z.mp hk),MapKept.run_getObj_map E,O,hf,MapKept.run_setObj_map _ E];simp [Y,MapKept.run_setObj_map _ E]
end
mutual
def depV:Va->Nat
 | .mk _ _ _ l=>ko9 l+1
def ko9:List Va->Nat
 | []=>0
 | x::l=>Nat.max (depV x) (ko9 l)
end
def k3p (st:St) (c:C1) (x:Operand):Option AV:=match co1 c (st.eval x) with
 | .fz y=>some (.fz y)
 | .fn f []=>some (.fn f [])
 | _=>none
def kp8 (st:St):List C1->List Operand->Option (List AV)
 | [],[]=>some []
 | c::cs,x::xs=>match k3p st c x,kp8 st cs xs with
  | some y,some ys=>some (y::ys)
  | _,_=>none
 | _,_=>none
section
variable {P:Program} {F S0:Nat->Prop} {N0:Nat} {w w':World} {S S':Nat->Prop} {ψ:Env} {K:Nat->Prop} {T:List (TypeId×TD)} {o:Oper} {a:Act} {st:St} {t:TypeId} {d:TD}
theorem kuo {ids:List Nat} (h:∀ t,RV ψ (·∈ids) S w (a.tmps.getD t undef) (st.get t)):∀ {cs:List C1} {xs:List Operand} {ys:List AV},kp8 st cs xs=some ys ->
  ys.length=xs.length/\∀ (i:Nat) (x:Operand) (y:AV),xs[i]?=some x->ys[i]?=some y->∀ ψ0,RV ψ0 (·∈[]) S w (a.eval x) y
 | [],[],ys,h=>by simp only [kp8,ql] at h;subst h;exact ⟨rfl,fun i x y h=>by simp at h⟩
 | c::cs,x::xs,ys,b=>by
  simp only [kp8] at b;split at b
  ·rename_i y ys' h1 j;injection b with b;subst b;obtain ⟨e1,e2⟩:=kuo h j;refine ⟨by simp [e1],fun i x' y' d e=>?_⟩;cases i with
   | zero=>
    simp at d e;subst d e;unfold k3p at h1;have hv:=kns (c:=c) (Sim.eval_tmps h x);split at h1;rename_i z g;injection h1 with h1;subst h1;rw [g] at hv;exact fun ψ0 => .fz hv.inv
    ·rename_i f g;injection h1 with h1;subst h1;rw [g] at hv;intro ψ0;generalize a.eval x=u at hv;cases hv with
     | fn h hr=>exact .fn h fun i v x hv d=>by simp at d
    ·cases h1
   | succ i=>exact e2 i x' y' (by simpa using d) (by simpa using e)
  ·cases b
 | [],_::_,ys,h=>by cases h
 | _::_,[],ys,h=>by cases h
theorem k8r {f:FuncId} {args:Array Operand} {ts:Array TypeId} {cs:List C1} {as_:List AV} {res:AV} {post:List (Nat×AObj)} {ids1:List Nat} {r:FV} (ho:o.op = .call { callee := .value (.func f),args:=args,argTypes:=ts }) (hc:kp8 st cs args.toList=some as_)
  (hp:kb7 P f (as_++[]) [] [] (.ret res) post ids1) (hr:res = .fz r\/∃ (id n:Nat) (e:TypeId) (size:Nat) (xs:List FV),res = .row id n/\kae post id=some (.frow e size xs)/\n=xs.length/\r = .lst size n xs):NStep P o st (.fz r):=by
 intro ψ S a w ht q;rw [qbo] at hp;obtain ⟨e1,e2⟩:=kuo (fun t=>(ht t).bound) hc;unfold kh2;rw [kw7 ho hp.1];refine (hp.2 (fun b=>b<w.heap.size) (fun b=>S b/\b<w.heap.size) w.heap.size ψ (fun b=>S b/\b<w.heap.size) w (args.map a.eval) (by simp [e1]) (fun i v x hv k=>?_) ⟨fun id o h=>(by cases h),fun id id' o o' b h=>(by cases h),fun b h=>h.2,fun b h => .inl h,qx _,fun b h=>h⟩).mono ?_;simp only [Array.getElem?_map,qt] at hv;obtain ⟨y,l,rfl⟩:=hv;exact e2 i y x (by simpa using l) k ψ
 ·rintro e w' ⟨ψ',S',⟨v,rfl,hv⟩,c,d,_,_,hS,_⟩;have m:Grow w w':=⟨d.os,d.tape,d.output,d.size,fun b g=>d.block b g⟩;refine ⟨v,rfl,m, .fz ?_⟩;rcases hr with rfl | ⟨id,n,e,size,xs,rfl,j,rfl,rfl⟩;exact hv.inv.mono fun b g=>(c.s0 b g).imp And.left id
  ·obtain ⟨c1,c2⟩:=kke c j;obtain ⟨_,k2,k3⟩:=c.obj id _ j;have h0:=k2.1;cases hv with
   | row hK p h1 hv=>
    rw [hv (by rw [h0])];exact c2.mono fun b g=>g.elim (fun g=>(c.s0 b g).imp And.left _root_.id) fun g=>((k3 b (.of g)).2.2).imp And.left _root_.id
end
def mkL {α:Type} (bytes:Nat) (z:α) (n:Int):Option (List α):=if 0<=n/\(bytes:Int)*n<=281474976710656/\n<=9223372036854775807 then some (List.replicate n.toNat z) else none
theorem kys {α:Type} {bytes:Nat} {z:α} {n:Int} {xs:List α} (h:mkL bytes z n=some xs):xs=List.replicate n.toNat z/\0<=n/\(bytes:Int)*n<=281474976710656/\n<=9223372036854775807:=by
 unfold mkL at h;split at h;rename_i hc;injection h with h;exact ⟨h.symm,hc⟩
 ·cases h
section
variable {P:Program} {F S0:Nat->Prop} {N0:Nat} {w w':World} {S S':Nat->Prop} {ψ:Env} {K:Nat->Prop} {T:List (TypeId×TD)} {o:Oper} {a:Act} {st:St} {t:TypeId} {d:TD} {id:Nat}
theorem kmg {α:Type} {enc:α->FV} {bytes:Nat} {z:α} {n:Int} {xs:List α} {X Y:Operand} {e:TypeId} {de:TD} {k k':IntKind} {zv:Value} (h:mkL bytes z n=some xs) (ho:o.op = .makeSlice t X Y) (Q:TOk P T) (G:kak T t=some d) (hk:d.kind = .slice e) (m:kak T e=some de)
  (H:de.size=1) (I:de.zero=[zv]) (s:enc z = .atom zv) (u:zv.oneCell'=true) (J:de.bytes=bytes) (r:st.eval X = .fz (.atom (.int k n)):=by kernel_rfl) (p:st.eval Y = .fz (.atom (.int k' n)):=by kernel_rfl) (f:st.ids.contains id=false:=by kernel_rfl):
  StepA P o st (.row id xs.length) ((id, .frow e 1 (xs.map enc))::st.heap) (id::st.ids):=by
 have f:id∉st.ids:=by simpa using f
 obtain ⟨rfl,h0,K,L⟩:=kys h;have G:=Q.get G;have m:=Q.get m;subst J;intro F S0 N0 ψ S a w q;have g:=q.eval X;rw [r] at g;have g:=g.atom;have l:=q.eval Y;rw [p] at l;have l:=l.atom;obtain ⟨⟨i,z',hi,M,N,R,O⟩,_⟩:=m;have c:=q.core;have hcl:z'.cells=#[zv]:=by apply Array.ext';rw [O,I]
 have hr:=run_make (P:=P) w t e i z' (G.slice hk) hi R k k' n n h0 (Int.le_refl _) (by rw [N];exact K) L;rw [M,H,hcl,qaz] at hr;have A:Grow w (w.alloc (.cells (madeCells #[zv] n.toNat) e)):=kdm _ _;have B:(List.replicate n.toNat z).length=n.toNat:=qap;rw [B];refine kai (w':=w.alloc (.cells (madeCells #[zv] n.toNat) e)) (v := .slice (some ⟨w.heap.size,0,none⟩) n.toNat n.toNat) ?_ ⟨ψ.set id n.toNat (.slice (some ⟨w.heap.size,0,none⟩) n.toNat n.toNat),S,?_,?_,kn9 _ c.fr,kfq f _ _,fun _ h=>qo _ h,fun _ h=>h,Same.of_grow A⟩;simp [execOp,ho,g,l,hr]
 ·refine c.add A f (fun b K=>by simp [ka1] at K;omega) ⟨by rw [keq];simp,by omega,(madeCells #[zv] n.toNat).toList,?_,fun x r=>?_,fun i x j v y r hv p=>?_⟩;rw [kbb];have:=World.ownsRow_lit (base:=0) (size:=1) (e:=e) w (madeCells #[zv] n.toNat) n.toNat (qaj _) (by unfold maxLen;omega) (by rw [size_madeCells,qaz]);simpa using this;simp only [List.map_replicate,List.mem_replicate] at r;rw [r.2,s];refine ⟨rfl,fun y p=>?_⟩;simp [FV.cells] at p;subst p;exact u
  ·have C:=qm r;simp only [List.map_replicate,List.mem_replicate] at C;rw [C.2,s] at p;rw [toList_madeCells_one] at hv;have D:=qm hv;rw [List.mem_replicate] at D;rw [D.2];have E:=qm p;simp [FV.cells] at E;subst E;exact .atom u
 ·exact .row (qs ..) (by rw [keq];exact qx _) rfl fun _=>by rw [kbb]
theorem kgx {v:Value} {e:TypeId} {n:Nat} {cs:List Value} (h:w.ownsRow 0 e 1 v n cs) (hn:0<n):∃ g cap cur,v = .slice (some ⟨g,0,none⟩) n cap/\w.heap[g]?=some (.cells cur e (0,0))/\n<=cap/\cap<=maxLen/\cur.size=cap/\cur.toList.take n=cs:=by
 rcases h.2 with ⟨_,h0⟩ | ⟨g,cap,cur,hv,_,a,h1,b,c,d⟩;omega
 ·exact ⟨g,cap,cur,hv,a,h1,b,by simpa using c,by simpa using d⟩
theorem kbe {α:Type} {enc:α->FV} {xs:List α} {x:α} {i:Int} {X Y:Operand} {e:TypeId} {de:TD} {k:IntKind} {n:Nat} (h:idx xs i=some x) (r:TOk P T) (ho:o.op = .indexAddr t X Y) (p:kak T t=some d) (hk:d.kind = .slice e) (j:kak T e=some de) (s:de.size=1)
  (y:st.eval X = .row id n) (q:kae st.heap id=some (.frow e 1 (xs.map enc))) (hn:n=xs.length) (z:st.eval Y = .fz (.atom (.int k i)):=by kernel_rfl):NStep P o st (.ref id n i.toNat):=by
 intro ψ S a w ht A;subst hn;have p:=r.get p;have j:=r.get j;unfold idx at h;split at h
 ·rename_i h0;have B:i.toNat<xs.length:=(qj.1 h).1;have l:=Sim.eval_tmps ht X;rw [y] at l;have b:=Sim.eval_tmps ht Y;rw [z] at b;have b:=b.atom;obtain ⟨hl,_,cs,c,_,_⟩:=A id _ q;rw [qu] at hl c;obtain ⟨g,cap,cur,f,D,_⟩:=kgx c (by omega);have hK:id∈st.ids/\a.eval X=ψ.val id:=by
   generalize a.eval X=u at l;cases l with
   | row hK C h1 hv=>exact ⟨hK,hv hl.symm⟩
  refine kai (w':=w) (v := .pointer (some ⟨g,i.toNat,none⟩)) ?_ ⟨kaj _, .ref hK.1 (by omega) rfl fun _=>⟨g,by rw [f];rfl,rfl⟩⟩;have m:i<(xs.length:Int):=by omega
  simp [execOp,ho,hK.2,f,b,Instr.indexAt,asIntOf,run_underlying (p.slice hk),h0,m,j.size,s,kfj]
 ·cases h
theorem kc9 {α:Type} {enc:α->FV} {xs:List α} {x:α} {i:Int} {X:Operand} {n:Nat} (h:idx xs i=some x) (r:TOk P T) (ho:o.op = .load t X) (k:kak T t=some d) (hk:d.kind.agg=false) (s:st.eval X = .ref id n i.toNat) (l:kae st.heap id=some (.frow t 1 (xs.map enc))) (hn:n=xs.length) (m:∀ y,(enc y).cells=[enc y]):NStep P o st (.fz (enc x)):=by
 intro ψ S a w ht z;subst hn;have k:=r.get k;unfold idx at h;split at h
 ·rename_i h0;have A:i.toNat<xs.length:=(qj.1 h).1;have f:=Sim.eval_tmps ht X;rw [s] at f;obtain ⟨hl,_,cs,c,_,hr⟩:=z id _ l;rw [qu] at hl c;obtain ⟨g,cap,cur,e,G,B,C,D,E⟩:=kgx c (by omega);have hp:a.eval X = .pointer (some ⟨g,i.toNat,none⟩):=by
   generalize a.eval X=u at f;cases f with
   | ref hK F h1 hv=>
    obtain ⟨b,p,rfl⟩:=hv hl.symm;rw [e] at p;simp only [ka1,ql] at p;rw [p]
  have q:cs[i.toNat]?=some (cs[i.toNat]'(by rw [c.1];omega)):=qb _;have j:w.cell? ⟨g,i.toNat,none⟩=some (cs[i.toNat]'(by rw [c.1];omega)):=by rw [e] at c;rw [World.ownsRow.cellAt c i.toNat (by omega),q]
  refine kai (w':=w) (v:=cs[i.toNat]'(by rw [c.1];omega)) ?_ ⟨kaj _, .fz ((hr i.toNat (enc x) 0 _ (enc x) (by rw [qp,h];rfl) (by simp) (by rw [m];rfl)).mono fun _ h => .inl h)⟩;simp [execOp,ho,hp,Instr.loadAt,Instr.sureAddr,loadVar,k.isAgg,hk,j]
 ·cases h
theorem kgo {α:Type} {enc:α->FV} {xs:List α} {x y:α} {i:Int} {X Y:Operand} {n:Nat} (h:idx xs i=some x) (hT:TOk P T) (ho:o.op = .store t X Y) (Q:kak T t=some d) (hz:d.size=1) (hx:st.eval X = .ref id n i.toNat) (I:kae st.heap id=some (.frow t 1 (xs.map enc))) (hn:n=xs.length) (hy:st.eval Y = .fz (enc y))
  (D:∀ y,∃ u,enc y = .atom u/\u.oneCell'=true):StepA P o st .any ((id, .frow t 1 ((xs.set i.toNat y).map enc))::st.heap) st.ids:=by
 subst hn;intro F S0 N0 ψ S a w E;have Q:=hT.get Q;unfold idx at h;split at h
 ·rename_i h0;have ad:i.toNat<xs.length:=(qj.1 h).1;have f:=E.core;obtain ⟨ae,⟨hl,J,cs,l,af,hr⟩,R⟩:=f.obj id _ I;rw [qu] at hl l;have hcl:cs.length=xs.length:=by rw [l.1,qaz]
  obtain ⟨g,cap,cur,m,hg,U,V,Z,aa⟩:=kgx l (by omega);have G:=E.eval X;rw [hx] at G;have hp:a.eval X = .pointer (some ⟨g,i.toNat,none⟩):=by
   generalize a.eval X=u at G;cases G with
   | ref hK ag h1 hv=>
    obtain ⟨b,K,rfl⟩:=hv hl.symm;rw [m] at K;simp only [ka1,ql] at K;rw [K]
  obtain ⟨u,hu,H⟩:=D y;have p:=E.eval Y;rw [hy,hu] at p;have p:=p.atom;have L:u.cells=#[u]:=by cases u <;> first | rfl | cases H
  have hst:=run_storeCells_at (P:=P) g i.toNat t [u] 0 cur w hg (by simp;omega) (fun v hv=>by simp at hv;rw [hv];exact H);obtain ⟨new,s⟩:∃ new:Array Value,new=(cur.toList.take (i.toNat+0)++[u]++cur.toList.drop (i.toNat+0+[u].length)).toArray:=⟨_,rfl⟩;rw [<- s] at hst;have M:new.toList=cur.toList.set i.toNat u:=by rw [s,List.set_eq_take_append_cons_drop,qn (by simp;omega)];simp
  have ab:new.size=cap:=by rw [<- qa4,M,qbp,qa4,Z]
  have A:∀ k,k<w.heap.size->¬ Blk (ψ.val id) k->(w.setRow g new).heap[k]?=w.heap[k]?:=fun k _ hk=>kk8 g new k fun e=>hk (.of (by rw [m,e];rfl));have ah:(w.setRow g new).heap.size=w.heap.size:=by simp [World.setRow]
  have B:ψ.set id xs.length (ψ.val id)=ψ:=by
   unfold Env.set;congr 1
   ·funext j;split;rename_i N;rw [N,hl]
    ·rfl
   ·funext j;split;rename_i N;rw [N]
    ·rfl
  have hk:Same S w (w.setRow g new):=fun k hk hl=>A k hl fun e=>(R k e).1 hk;obtain ⟨c1,c2,c3⟩:=f.upd (n:=xs.length) (v:=ψ.val id) (w':=w.setRow g new) (ob' := .frow t 1 ((xs.set i.toNat y).map enc)) I (by omega) A (.inr ⟨hl,rfl⟩) (fun b K => .inl K) (by
   rw [B];refine ⟨by simp [hl],J,cs.set i.toNat u,?_,fun z r=>?_,fun k z j v q r hv C=>?_⟩;rw [qu,qbp,m];refine ⟨by rw [qbp,hcl,qaz], .inr ⟨g,cap,new,rfl,qaj _,kl6 g hg,U,V,by rw [ab,qaz],?_⟩⟩;rw [qaz,M,List.take_set,aa];obtain ⟨z0,_,rfl⟩:=qae.1 r;obtain ⟨u0,h1,h2⟩:=D z0;rw [h1];exact ⟨rfl,fun q C=>by simp [FV.cells] at C;subst C;exact h2⟩
   ·obtain ⟨z0,c,rfl⟩:∃ z0,(xs.set i.toNat y)[k]?=some z0/\enc z0=z:=(by rw [qp,qt] at r;exact r);obtain ⟨u0,h1,h2⟩:=D z0;have N:j=0:=(by rw [h1] at C;have:=(qj.1 C).1;simp [FV.cells] at this;exact this);subst N;have ac:q=enc z0:=(by rw [h1] at C ⊢; simp [FV.cells] at C;exact C.symm);subst ac;simp only [qaz,Nat.add_zero] at hv;by_cases O:i.toNat=k;subst O;rw [qbk (by omega)] at hv c;injection hv with hv;injection c with c;subst hv c;rw [hu];exact .atom H
    ·rw [List.getElem?_set_ne O] at hv c;exact (hr k (enc z0) 0 v (enc z0) (by rw [qp,c];rfl) (by simpa using hv) (by rw [h1];rfl)).keep hk)
  rw [B] at c1;refine klf (w':=w.setRow g new) ?_ ⟨ψ,S,c1, .any,⟨rfl,rfl,rfl,by omega,c3⟩,Ext.refl,fun _ h=>h,fun _ h=>h,c2⟩;simp only [execOp,ho,Instr.storeAt,hp,p,Instr.sureAddr,storeVar,Q.size,Sem.run_bind,Sem.run_pure,Result.andThen_ok];rw [qk (by rw [L,hz];simp)];simp [L,hst]
 ·cases h
end
def rel1 (id n:Nat):AV->AV
 | .row k m=>bif Nat.beq k id then .row k n else .row k m
 | y=>y
def relG (id n:Nat):AV->AV
 | .agg cs => .agg (cs.map (rel1 id n))
 | .fn f cs => .fn f (cs.map (rel1 id n))
 | y=>rel1 id n y
def relT (id n:Nat):AV->AV
 | .tup cs => .tup (cs.map (relG id n))
 | y=>relG id n y
def relO (id n:Nat):AObj->AObj
 | .box e cs => .box e (cs.map (rel1 id n))
 | y=>y
def k06 (id:Nat) (st:St):List Nat:=st.tmps.flatMap (fun p=>ksr id p.2)++st.heap.flatMap (fun p=>ku0 id p.2)
def k2p (id n:Nat) (st:St):St:={ dfr:=st.dfr,n:=st.n,tmps:=st.tmps.map (fun p=>(p.1,relT id n p.2)),heap:=st.heap.map (fun p=>(p.1,relO id n p.2)),ids:=st.ids }
theorem ksy {id n:Nat} {y:AV} (h:∀ m∈koz id y,m=n):rel1 id n y=y:=by
 cases y with
 | row k m=>
  simp only [rel1];cases a:Nat.beq k id with
  | false=>rfl
  | true=>rw [h m (by simp [koz,a])];rfl
 | _=>rfl
theorem klq {α:Type} {f:α->α} {l:List α} (h:∀ x∈l,f x=x):l.map f=l:=by rw [List.map_congr_left h];simp
theorem kso {id n:Nat} {y:AV} (h:∀ m∈kxw id y,m=n):relG id n y=y:=by
 cases y with
 | agg cs=>exact congrArg AV.agg (klq fun x a=>ksy fun m hm=>h m (qa2.2 ⟨x,a,hm⟩))
 | fn f cs=>exact congrArg (AV.fn f) (klq fun x a=>ksy fun m hm=>h m (qa2.2 ⟨x,a,hm⟩))
 | row k m=>exact ksy (y := .row k m) h
 | _=>rfl
theorem kaag {id n:Nat} {y:AV} (h:∀ m∈ksr id y,m=n):relT id n y=y:=by
 cases y with
 | tup cs=>exact congrArg AV.tup (klq fun x a=>kso fun m hm=>h m (qa2.2 ⟨x,a,hm⟩))
 | agg cs=>exact kso (y := .agg cs) h
 | fn f cs=>exact kso (y := .fn f cs) h
 | row k m=>exact kso (y := .row k m) h
 | _=>rfl
theorem k97 {id n:Nat} {y:AObj} (h:∀ m∈ku0 id y,m=n):relO id n y=y:=by
 cases y with
 | box e cs=>exact congrArg (AObj.box e) (klq fun x a=>ksy fun m hm=>h m (qa2.2 ⟨x,a,hm⟩))
 | _=>rfl
theorem kfz {st:St} (id:Nat) {k m n:Nat} (h:k06 id st=List.replicate k m) (b:m=n):LeSt st (k2p id n st):=by
 have a:∀ x∈k06 id st,x=n:=fun x c=>by rw [h] at c;rw [(List.mem_replicate.1 c).2,b]
 have:k2p id n st=st:=by
  unfold k2p;have h1:st.tmps.map (fun p=>(p.1,relT id n p.2))=st.tmps:=klq fun p hp=>by rw [kaag fun m hm=>a m (qac.2 (.inl (qa2.2 ⟨p,hp,hm⟩)))]
  have d:st.heap.map (fun p=>(p.1,relO id n p.2))=st.heap:=klq fun p hp=>by rw [k97 fun m hm=>a m (qac.2 (.inr (qa2.2 ⟨p,hp,hm⟩)))]
  rw [h1,d]
 rw [this];exact LeSt.refl
end Go.Proofs.YtpcfkflhnkfjjaaGreat
