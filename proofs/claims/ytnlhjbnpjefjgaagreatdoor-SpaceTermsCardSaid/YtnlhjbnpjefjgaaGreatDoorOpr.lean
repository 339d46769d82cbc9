import Derived.Test.YtnlhjbnpjefjgaaGreatDoorOpm
import Derived.MapKept
import Derived.Laws.OwnMore
import Derived.Recover
import Derived.Laws.CopyRow
import Derived.Laws.IdiomCopy
set_option linter.all false
set_option linter.unusedSectionVars false
namespace Go.Proofs.YtnlhjbnpjefjgaaGreatDoor
open Go Go.RowKit
variable [Dr]
def kns (id:Nat):AV->List Nat
 | .row k m=>bif Nat.beq k id then [m] else []
 | _=>[]
def kwb (id:Nat):AV->List Nat
 | .agg cs=>cs.flatMap (kns id)
 | .fn _ cs=>cs.flatMap (kns id)
 | y=>kns id y
def krc (id:Nat):AV->List Nat
 | .tup cs=>cs.flatMap (kwb id)
 | y=>kwb id y
def ktl (id:Nat):AObj->List Nat
 | .box _ cs=>cs.flatMap (kns id)
 | _=>[]
def frz1 (id:Nat) (x:FV):AV->AV
 | .row k m=>bif Nat.beq k id then .fz x else .row k m
 | y=>y
def frzG (id:Nat) (x:FV):AV->AV
 | .agg cs=>aggA (cs.map (frz1 id x))
 | .fn f cs => .fn f (cs.map (frz1 id x))
 | y=>frz1 id x y
def frzT (id:Nat) (x:FV):AV->AV
 | .tup cs=>tupA (cs.map (frzG id x))
 | y=>frzG id x y
def frzO (id:Nat) (x:FV):AObj->AObj
 | .box e cs => .box e (cs.map (frz1 id x))
 | y=>y
def k23 (id:Nat) (st:St):List Nat:=st.tmps.flatMap (fun p=>krc id p.2)++(kcv id st.heap).flatMap (fun p=>ktl id p.2)
def frzSt (id:Nat) (x:FV) (st:St):St:={ dfr:=st.dfr,n:=st.n,tmps:=st.tmps.map (fun p=>(p.1,frzT id x p.2)),heap:=(kcv id st.heap).map (fun p=>(p.1,frzO id x p.2)),ids:=st.ids }
variable {F S0:Nat->Prop} {N0:Nat} {w:World} {S:Nat->Prop} {ψ:Env} {K:Nat->Prop} {id n:Nat} {x:FV} {st:St}
theorem kr3 (a:∀ v,RV ψ K S w v (.row id n)->RF S w v x) {v:Value} {y:AV} (h:RV ψ K S w v y) (hr:∀ m∈kns id y,m=n):RV ψ K S w v (frz1 id x y):=by
 cases y with
 | row k m=>
  simp only [frz1];cases b:Nat.beq k id with
  | false=>exact h
  | true=>
   have hk:=qi b;subst hk;have hm:m=n:=hr m (by simp [kns]);subst hm;exact .fz (a v h)
 | _=>exact h
theorem ksc (hs:x.single=true) {y:AV} (h:y.single=true):(frz1 id x y).single=true:=by
 cases y with
 | row k m=>
  simp only [frz1];cases Nat.beq k id with
  | false=>exact h
  | true=>exact hs
 | _=>exact h
theorem kre {α β γ:Type} (R:α->γ->Prop) {Q:α->γ->Prop} {f:β->γ} {R':α->β->Prop} {cs:Array α} {xs:List β} (hr:∀ (i:Nat) (v:α) (y:β),cs[i]?=some v->xs[i]?=some y->R' v y) (hf:∀ v y,y∈xs->R' v y->Q v (f y)):
  ∀ (i:Nat) (v:α) (y:γ),cs[i]?=some v->(xs.map f)[i]?=some y->Q v y:=by
 intro i v y hv hy;simp only [ql,qw] at hy;obtain ⟨z,a,rfl⟩:=hy;exact hf v z (qk a) (hr i v z hv a)
theorem krn (hs:x.single=true) (b:∀ v,RV ψ K S w v (.row id n)->RF S w v x) {v:Value} {y:AV} (h:RV ψ K S w v y) (hr:∀ m∈kwb id y,m=n):RV ψ K S w v (frzG id x y):=by
 cases y with
 | agg cs=>
  cases h with
  | agg h h1 a=>
   refine RV.aggA (by simpa using h) (fun y hy=>?_) (kre (fun _ _=>True) a fun v y hy hv=>kr3 b hv fun m hm=>hr m ?_);simp only [qaf] at hy;obtain ⟨z,c,rfl⟩:=hy;exact ksc hs (h1 z c)
   ·exact qa5.2 ⟨y,hy,hm⟩
 | fn f cs=>
  cases h with
  | fn h a=>exact .fn (by simpa using h) (kre (fun _ _=>True) a fun v y hy hv=>kr3 b hv fun m hm=>hr m (qa5.2 ⟨y,hy,hm⟩))
 | row k m=>exact kr3 b h hr
 | _=>exact h
theorem k8l (hs:x.single=true) (a:∀ v,RV ψ K S w v (.row id n)->RF S w v x) {v:Value} {y:AV} (h:RV ψ K S w v y) (hr:∀ m∈krc id y,m=n):RV ψ K S w v (frzT id x y):=by
 cases y with
 | tup cs=>
  cases h with
  | tup h b=>exact RV.tupA (by simpa using h) (kre (fun _ _=>True) b fun v y hy hv=>krn hs a hv fun m hm=>hr m (qa5.2 ⟨y,hy,hm⟩))
 | agg cs=>exact krn hs a h hr
 | fn f cs=>exact krn hs a h hr
 | row k m=>exact krn hs a h hr
 | _=>exact h
theorem k4t (l:List (Nat×AV)) (t:Nat):look .any (l.map fun p=>(p.1,frzT id x p.2)) t=frzT id x (look .any l t)/\∀ m∈krc id (look .any l t),m∈l.flatMap (fun p=>krc id p.2):=by
 induction l with
 | nil=>exact ⟨rfl,fun m hm=>by cases hm⟩
 | cons p l ih=>
  obtain ⟨k,v⟩:=p;simp only [qao,kbc,qbv,qab];by_cases h:k=t;simp only [qn h];exact ⟨trivial,fun m hm => .inl hm⟩
  ·simp only [qj h];exact ⟨ih.1,fun m hm => .inr (ih.2 m hm)⟩
theorem kqa (id:Nat) (x:FV) (l:List (Nat×AObj)) (t:Nat):kaa (l.map fun p=>(p.1,frzO id x p.2)) t=(kaa l t).map (frzO id x)/\∀ o,kaa l t=some o->∀ m∈ktl id o,m∈l.flatMap (fun p=>ktl id p.2):=by
 induction l with
 | nil=>exact ⟨rfl,fun o h=>by cases h⟩
 | cons p l ih=>
  obtain ⟨k,v⟩:=p;simp only [qao,kah,qbv,qab];by_cases h:k=t;simp only [qn h];exact ⟨rfl,fun o ho m hm=>by injection ho with ho;subst ho;exact .inl hm⟩
  ·simp only [qj h];exact ⟨ih.1,fun o ho m hm => .inr (ih.2 o ho m hm)⟩
theorem ktp (id:Nat) (n k:Nat) (e:TypeId) (size:Nat) (xs:List FV) (g:k23 id st=List.replicate k n:=by kernel_rfl) (f:kaa st.heap id=some (.frow e size xs):=by kernel_rfl) (hn:n=xs.length:=by simp):LeSt st (frzSt id (.lst size n xs) st):=by
 subst hn;intro F S0 N0 ψ S a w hs;obtain ⟨c1,c2⟩:=kjo hs.core f;have d:∀ m∈k23 id st,m=xs.length:=fun m hm=>by rw [g] at hm;exact (qbz.1 hm).2
 have h0:=(hs.core.obj id _ f).2.1.1;have s:∀ v,RV ψ (·∈st.ids) (fun b=>S b\/kar (ψ.val id)=some b) w v (.row id xs.length)->RF (fun b=>S b\/kar (ψ.val id)=some b) w v (.lst size xs.length xs):=by
  intro v hv;cases hv with
  | row hK A h1 hv=>rw [hv (by rw [h0])];exact c2
 refine ⟨ψ,_,hs.defers,hs.size,fun t=>?_,⟨fun i o ho=>?_,fun i i' o o' b ho c q B=>?_,c1.lt,c1.s0,c1.n0,c1.fr⟩⟩;obtain ⟨l1,l2⟩:=k4t (id:=id) (x := .lst size xs.length xs) st.tmps t;show RV ψ (·∈st.ids) _ w (a.tmps.getD t undef) (look .any (st.tmps.map fun p=>(p.1,frzT id (.lst size xs.length xs) p.2)) t);rw [l1];refine k8l rfl s ((hs.tmps t).mono (fun _ h=>h) fun _ h => .inl h) fun m hm=>d m ?_;exact qab.2 (.inl (l2 m hm))
 ·obtain ⟨l1,l2⟩:=kqa id (.lst size xs.length xs) (kcv id st.heap) i;have c:kaa ((kcv id st.heap).map fun p=>(p.1,frzO id (.lst size xs.length xs) p.2)) i=some o:=ho;rw [l1,qw] at c;obtain ⟨o',h1,rfl⟩:=c;obtain ⟨k1,k2,k7⟩:=c1.obj i o' h1;refine ⟨k1,?_,k7⟩;cases o' with
  | box e2 cells=>
   obtain ⟨g0,b,cs,g2,g3,g4,g5,g6⟩:=k2;refine ⟨g0,b,cs,g2,g3,by simpa using g4,fun y hy=>?_,kre (fun _ _=>True) g6 fun v y hy hv=>kr3 s hv fun m hm=>d m ?_⟩;simp only [qaf] at hy;obtain ⟨z,C,rfl⟩:=hy;exact ksc rfl (g5 z C)
   ·exact qab.2 (.inr (l2 _ h1 m (qa5.2 ⟨y,hy,hm⟩)))
  | _=>exact k2
 ·obtain ⟨l1,_⟩:=kqa id (.lst size xs.length xs) (kcv id st.heap) i;obtain ⟨l2,_⟩:=kqa id (.lst size xs.length xs) (kcv id st.heap) i';have j:kaa ((kcv id st.heap).map fun p=>(p.1,frzO id (.lst size xs.length xs) p.2)) i=some o:=ho;have l:kaa ((kcv id st.heap).map fun p=>(p.1,frzO id (.lst size xs.length xs) p.2)) i'=some o':=c;rw [l1,qw] at j;rw [l2,qw] at l;obtain ⟨u,D,_⟩:=j;obtain ⟨u',r,_⟩:=l;exact c1.inj i i' u u' b D r q B
end Go.Proofs.YtnlhjbnpjefjgaaGreatDoor
set_option linter.all false
namespace Go.Proofs.YtnlhjbnpjefjgaaGreatDoor
open Go Go.RowKit
variable [Dr]
def keu {α:Type} (s:BA):List (BA×α)->Nat->Option (Nat×α)
 | [],_=>none
 | (k,v)::l,i=>bif s.toList == k.toList then some (i,v) else keu s l (i+1)
def mget {α:Type} (m:List (BA×α)) (s:BA) (z:α):α:=match keu s m 0 with
 | some (_,x)=>x
 | none=>z
def mhas {α:Type} (m:List (BA×α)) (s:BA):Bool:=(keu s m 0).isSome
def mput {α:Type} (m:List (BA×α)) (s:BA) (y:α):List (BA×α):=match keu s m 0 with
 | some (j,_)=>m.set j (s,y)
 | none=>m++[(s,y)]
theorem kmb (a b:BA):(a.toList == b.toList)=(a == b):=by
 rw [Bool.eq_iff_iff,beq_iff_eq,MapKept.bytes_beq,ByteArray.toList_eq,ByteArray.toList_eq];constructor;intro h;exact ByteArray.ext (Array.toList_inj.1 h)
 ·intro h;rw [h]
theorem klm {α β:Type} (f:α->β) (s:BA):∀ (m:List (BA×α)) (i:Nat),keu s (m.map fun p=>(p.1,f p.2)) i=(keu s m i).map fun p=>(p.1,f p.2)
 | [],_=>rfl
 | (k,v)::l,i=>by
  simp only [qao,keu];cases s.toList == k.toList with
  | true=>rfl
  | false=>exact klm f s l (i+1)
theorem kxw {α β:Type} (f:α->β) (m:List (BA×α)) (s:BA) (z:α):mget (m.map fun p=>(p.1,f p.2)) s (f z)=f (mget m s z):=by
 unfold mget;rw [klm];cases keu s m 0 with
 | none=>rfl
 | some p=>rfl
theorem kyu {α β:Type} (f:α->β) (m:List (BA×α)) (s:BA):mhas (m.map fun p=>(p.1,f p.2)) s=mhas m s:=by
 unfold mhas;rw [klm];cases keu s m 0 with
 | none=>rfl
 | some p=>rfl
theorem kx3 {α:Type} {s:BA}:∀ {m:List (BA×α)} {i j:Nat} {x:α},keu s m i=some (j,x)->i<=j/\j - i<m.length/\∃ k,m[j - i]?=some (k,x)/\k=s
 | [],i,j,x,h=>by cases h
 | (k,v)::l,i,j,x,h=>by
  simp only [keu] at h;cases a:s.toList == k.toList with
  | true=>
   rw [a] at h;simp only [qe,qc,qt] at h;obtain ⟨rfl,rfl⟩:=h;rw [kmb,MapKept.bytes_beq] at a;exact ⟨qy _,by simp,k,by simp,a.symm⟩
  | false=>
   rw [a] at h;obtain ⟨h1,d,k',b,c⟩:=kx3 h;have e:j - i=(j - (i+1))+1:=(by omega);exact ⟨by omega,by simp;omega,k',by rw [e,qax];exact b,c⟩
variable {P:Program} {F S0:Nat->Prop} {N0:Nat} {w w':World} {S S':Nat->Prop} {ψ:Env} {K:Nat->Prop} {T:List (TypeId×TD)} {o:Oper} {a:Act} {st:St} {t:TypeId} {d:TD} {id:Nat}
theorem koa (s:BA) {R:Value->FV->Prop}:∀ (es:List MapEntry) (kv:List (BA×FV)) (i:Nat),es.length=kv.length->(∀ (j:Nat) (e:MapEntry) (p:BA×FV),es[j]?=some e->kv[j]?=some p->e.key = .string p.1/\R e.val p.2) ->
  (Instr.findNow .string (.string s) es i=some none/\keu s kv i=none)\/∃ j v x,Instr.findNow .string (.string s) es i=some (some (j,v))/\keu s kv i=some (j,x)/\R v x
 | [],[],i,_,_ => .inl ⟨rfl,rfl⟩
 | [],p::kv,i,h,_=>by cases h
 | e::es,[],i,h,_=>by cases h
 | e::es,(k,x)::kv,i,h,hr=>by
  obtain ⟨hk,hv⟩:=hr 0 e (k,x) rfl rfl;simp only [Instr.findNow,hk,Instr.sameNow,keu,kmb];cases b:s == k with
  | true=>exact .inr ⟨i,e.val,x,rfl,rfl,hv⟩
  | false=>exact koa s es kv (i+1) (by simpa using h) fun j e p a hp=>hr (j+1) e p (by simpa using a) (by simpa using hp)
theorem TdOk.mp {k e:Nat} (h:TdOk P t d) (hk:d.kind = .map k e):P.underlying t=some (.map k e):=by obtain ⟨_,e',h1,a⟩:=h;rw [hk] at a;cases e' <;> simp [kff] at a;rw [h1,a.1,a.2]
theorem k2e (ho:o.op = .makeMap t none:=by kernel_rfl) (d:st.ids.contains id=false:=by kernel_rfl):StepA P o st (.mp id) ((id, .smap [])::st.heap) (id::st.ids):=by
 have d:id∉st.ids:=by simpa using d
 intro F S0 N0 ψ S a w f;have c:=f.core;refine kaf (w.alloc (.map #[] 0)) (.map (some w.heap.size)) ?_ ⟨ψ.set id 0 (.map (some w.heap.size)),S,?_,?_,kf9 _ c.fr,kbs d _ _,fun _ h=>qh _ h,fun _ h=>h,Same.of_grow (kax _ _)⟩;simp [execOp,ho,Instr.makeMap];exact c.add (kax _ _) d (fun b g=>by simp [kar] at g;omega) ⟨kbq _ _,w.heap.size,_,_,kap _ _,heap_alloc_new w _,rfl,fun i e p j hp=>by simp at j⟩
 ·exact .mp (qq ..) rfl fun _=>by rw [kap]
theorem k3a {kv:List (BA×FV)} {v:Value} (hs:ObR ψ K S w id (.smap kv)) (hv:RV ψ K S w v (.mp id)):v=ψ.val id:=by
 cases hv with
 | mp hK h1 hv=>exact hv hs.1.symm
theorem ky3 {α:Type} (enc:α->FV) (m:List (BA×α)) (s:BA) (z:α) (x y v:Operand) (kt et:TypeId) (kd:TD) (ho:o.op = .mapUpdate t x y v) (hT:TOk P T) (Z:kad T t=some d) (hk:d.kind = .map kt et) (l:kad T kt=some kd) (I:kd.kind = .str:=by kernel_rfl) (hx:st.eval x = .mp id:=by kernel_rfl) (K:kaa st.heap id=some (.smap (m.map fun p=>(p.1,enc p.2))):=by kernel_rfl) (hy:st.eval y = .fz (.atom (.string s)):=by kernel_rfl) (hv:st.eval v = .fz (enc z):=by kernel_rfl):StepA P o st .any ((id, .smap ((mput m s z).map fun p=>(p.1,enc p.2)))::st.heap) st.ids:=by
 intro F S0 N0 ψ S a w D;have Z:=hT.get Z;have l:=hT.get l;have r:=D.core;obtain ⟨ag,L,aa⟩:=r.obj id _ K;have M:=D.eval x;rw [hx] at M;have N:=k3a L M;obtain ⟨h0,b,es,clock,g,E,A,hr⟩:=L;have B:=D.eval y;rw [hy] at B;have B:=B.atom;have C:=D.eval v;rw [hv] at C;have C:=C.inv;have O:=MapKept.run_checkKey (w:=w) (l.str I) (k := .string s) trivial false 9999;have G:ψ.set id 0 (ψ.val id)=ψ:=by
  unfold Env.set;congr 1
  ·funext i;split;rename_i h;rw [h,h0]
   ·rfl
  ·funext i;split;rename_i h;rw [h]
   ·rfl
 have main:∀ (es':Array MapEntry) (clock':Nat),es'.size=(mput m s z).length ->
   (∀ (i:Nat) (e:MapEntry) (p:BA×FV),es'[i]?=some e->((mput m s z).map fun p=>(p.1,enc p.2))[i]?=some p->e.key = .string p.1/\RF S w e.val p.2) ->
   (execOp a.eval o).run P w = .ok .skip { w with heap:=w.heap.setIfInBounds b (.map es' clock') } ->
   kcm P o a w fun v w'=>∃ ψ' S',Core F S0 N0 ((id, .smap ((mput m s z).map fun p=>(p.1,enc p.2)))::st.heap) st.ids ψ' S' w'/\RV ψ' (·∈st.ids) S' w' v .any/\Fr F w w'/\Ext (·∈st.ids) ψ ψ'/\(∀ id,id∈st.ids->id∈st.ids)/\(∀ b,S b->S' b)/\Same S w w':=by
  intro es' clock' Q ab U;obtain ⟨g1,g2⟩:=MapKept.heap_set (o' := .map es' clock') E;have af:({ w with heap:=w.heap.setIfInBounds b (.map es' clock') }:World).heap.size=w.heap.size:=by simp
  have H:∀ k,k<w.heap.size->¬ Blk (ψ.val id) k->({ w with heap:=w.heap.setIfInBounds b (.map es' clock') }:World).heap[k]?=w.heap[k]?:=fun k _ hk=>g2 k fun e=>hk (.of (by rw [g,e];rfl));have hk:Same S w { w with heap:=w.heap.setIfInBounds b (.map es' clock') }:=fun k hk hl=>H k hl fun e=>(aa k e).1 hk;obtain ⟨c1,c2,c3⟩:=r.upd (n:=0) (v:=ψ.val id) (w':={ w with heap:=w.heap.setIfInBounds b (.map es' clock') }) (ob' := .smap ((mput m s z).map fun p=>(p.1,enc p.2))) K (by omega) H (.inr ⟨h0,rfl⟩) (fun b E => .inl E) (by rw [G];refine ⟨h0,b,es',clock',g,g1,by simpa using Q,fun i e p c hp=>?_⟩;obtain ⟨q1,q2⟩:=ab i e p c hp;exact ⟨q1,q2.keep hk⟩);rw [G] at c1;exact kia _ U ⟨ψ,S,c1, .any,⟨rfl,rfl,rfl,by omega,c3,fun _=>qy _⟩,Ext.refl,fun _ h=>h,fun _ h=>h,c2⟩
 have ac:∀ (j:Nat) (e:MapEntry) (p:BA×FV),es.toList[j]?=some e->(m.map fun p=>(p.1,enc p.2))[j]?=some p->e.key = .string p.1/\RF S w e.val p.2:=fun j e p c hp=>hr j e p (by simpa using c) hp;rcases koa s (R:=fun v x=>RF S w v x) es.toList (m.map fun p=>(p.1,enc p.2)) 0 (by simpa using A) ac with ⟨f1,f2⟩ | ⟨j,u,x',f1,f2,f3⟩
 ·have hf:=MapKept.run_findKey (w:=w) (l.str I) f1;have ad:keu s m 0=none:=by
   rw [klm] at f2;cases hq:keu s m 0 with
   | none=>rfl
   | some q=>rw [hq] at f2;cases f2
  have f:mput m s z=m++[(s,z)]:=by unfold mput;rw [ad]
  refine main (es.push { key := .string s,val:=a.eval v,born:=clock }) (clock+1) (by rw [f];simpa using A) (fun i e p c hp=>?_) ?_
  ·rw [f,qas] at hp;rw [Array.getElem?_push] at c;have V:es.size=(m.map fun p=>(p.1,enc p.2)).length:=A;by_cases hi:i=es.size;rw [qn hi] at c;injection c with c;subst c;rw [qai (by omega),hi,V,Nat.sub_self] at hp;simp only [qao,List.map_nil,List.getElem?_cons_zero,qc] at hp;subst hp;exact ⟨rfl,C⟩
   ·rw [qj hi] at c;have ah:i<es.size:=(qa2.1 c).1;rw [qac (by omega)] at hp;exact hr i e p c hp
  ·simp [execOp,ho,B,N,g,Instr.mapUpdate,run_underlying (Z.mp hk),MapKept.run_getObj_map E,O,hf,MapKept.run_setObj_map _ E]
 ·have hf:=MapKept.run_findKey (w:=w) (l.str I) f1;rw [klm,qw] at f2;obtain ⟨⟨j',x0⟩,f4,f5⟩:=f2;simp only [qt] at f5;obtain ⟨rfl,rfl⟩:=f5;obtain ⟨_,l2,k,l3,rfl⟩:=kx3 f4;simp only [Nat.sub_zero] at l2 l3;have f:mput m k z=m.set j' (k,z):=by unfold mput;rw [f4]
  have ae:j'<es.size:=by rw [A,qaa];exact l2
  have J:es[j']?=some es[j']:=qbg ae;have X:es[j'].key = .string k:=(hr j' _ (k,enc x0) J (by rw [ql,l3];rfl)).1;refine main (es.modify j' fun e=>{ e with key := .string k,val:=a.eval v }) clock (by rw [f];simpa using A) (fun i e p c hp=>?_) ?_
  ·rw [f,List.map_set] at hp;rw [qb4] at c;by_cases hi:j'=i;subst hi;rw [qn rfl,J] at c;simp only [qaw,qc] at c;subst c;rw [qbj (by rw [qaa];exact l2)] at hp;injection hp with hp;subst hp;exact ⟨rfl,C⟩
   ·rw [qj hi] at c;rw [qbm hi] at hp;exact hr i e p c hp
  ·have Y:(Instr.keyThatStays (((es[j']?).map (·.key)).getD (.string k)) (.string k)).run P w = .ok (.string k) w:=(by rw [J];simp only [qaw,qam,X];exact MapKept.run_keyThatStays (d := .string) trivial);simp [execOp,ho,B,N,g,Instr.mapUpdate,run_underlying (Z.mp hk),MapKept.run_getObj_map E,O,hf,MapKept.run_setObj_map _ E];simp [Y,MapKept.run_setObj_map _ E]
end Go.Proofs.YtnlhjbnpjefjgaaGreatDoor
set_option linter.all false
namespace Go.Proofs.YtnlhjbnpjefjgaaGreatDoor
open Go Go.RowKit
variable [Dr]
def k2t (st:St) (c:C1) (x:Operand):Option AV:=match co1 c (st.eval x) with
 | .fz y=>some (.fz y)
 | .fn f []=>some (.fn f [])
 | _=>none
def koq (st:St):List C1->List Operand->Option (List AV)
 | [],[]=>some []
 | c::cs,x::xs=>match k2t st c x,koq st cs xs with
  | some y,some ys=>some (y::ys)
  | _,_=>none
 | _,_=>none
variable {P:Program} {F S0:Nat->Prop} {N0:Nat} {w w':World} {S S':Nat->Prop} {ψ:Env} {K:Nat->Prop} {T:List (TypeId×TD)} {o:Oper} {a:Act} {st:St} {t:TypeId} {d:TD}
theorem ktc {ids:List Nat} (h:∀ t,RV ψ (·∈ids) S w (a.tmps.getD t undef) (st.get t)):∀ {cs:List C1} {xs:List Operand} {ys:List AV},koq st cs xs=some ys ->
  ys.length=xs.length/\∀ (i:Nat) (x:Operand) (y:AV),xs[i]?=some x->ys[i]?=some y->∀ ψ0,RV ψ0 (·∈[]) S w (a.eval x) y
 | [],[],ys,h=>by simp only [koq,qc] at h;subst h;exact ⟨rfl,fun i x y h=>by simp at h⟩
 | c::cs,x::xs,ys,b=>by
  simp only [koq] at b;split at b
  ·rename_i y ys' h1 g;injection b with b;subst b;obtain ⟨e1,e2⟩:=ktc h g;refine ⟨by simp [e1],fun i x' y' d hy=>?_⟩;cases i with
   | zero=>
    simp at d hy;subst d hy;unfold k2t at h1;have hv:=kmz c (Sim.eval_tmps h x);split at h1;rename_i z e;injection h1 with h1;subst h1;rw [e] at hv;exact fun ψ0 => .fz hv.inv
    ·rename_i f e;injection h1 with h1;subst h1;rw [e] at hv;intro ψ0;generalize a.eval x=u at hv;cases hv with
     | fn h hr=>exact .fn h fun i v x hv d=>by simp at d
    ·cases h1
   | succ i=>exact e2 i x' y' (by simpa using d) (by simpa using hy)
  ·cases b
 | [],_::_,ys,h=>by cases h
 | _::_,[],ys,h=>by cases h
theorem k7q (f:FuncId) (args:Array Operand) (ts:Array TypeId) (cs:List C1) {as_:List AV} {res:AV} {post:List (Nat×AObj)} {ids1:List Nat} {r:FV} (ho:o.op = .call { callee := .value (.func f),args:=args,argTypes:=ts }) (hc:koq st cs args.toList=some as_) (hp:ka3 P f (as_++[]) [] [] (.ret res) post ids1) (hr:res = .fz r\/∃ (id n:Nat) (e:TypeId) (size:Nat) (xs:List FV),res = .row id n/\kaa post id=some (.frow e size xs)/\n=xs.length/\r = .lst size n xs):NStep P o st (.fz r):=by
 intro ψ S a w ht p;rw [qbh] at hp;obtain ⟨e1,e2⟩:=ktc (fun t=>(ht t).bound) hc;unfold kcm;rw [knr ho hp.1];refine (hp.2 (fun b=>b<w.heap.size) (fun b=>S b/\b<w.heap.size) w.heap.size ψ (fun b=>S b/\b<w.heap.size) w (args.map a.eval) (by simp [e1]) (fun i v x hv k=>?_) ⟨fun id o h=>(by cases h),fun id id' o o' b h=>(by cases h),fun b h=>h.2,fun b h => .inl h,qy _,fun b h=>h⟩).mono ?_;simp only [Array.getElem?_map,qw] at hv;obtain ⟨y,hy,rfl⟩:=hv;exact e2 i y x (by simpa using hy) k ψ
 ·rintro e w' ⟨ψ',S',⟨v,rfl,hv⟩,c,d,_,_,hS,_⟩;have l:Grow w w':=⟨⟨d.os,d.tape,d.output,d.size,fun b g=>d.block b g⟩,d.drawn⟩;refine ⟨v,rfl,l, .fz ?_⟩;rcases hr with rfl | ⟨id,n,e,size,xs,rfl,j,rfl,rfl⟩;exact hv.inv.mono fun b g=>(c.s0 b g).imp And.left id
  ·obtain ⟨c1,c2⟩:=kjo c j;obtain ⟨_,k2,k3⟩:=c.obj id _ j;have h0:=k2.1;cases hv with
   | row hK m h1 hv=>
    rw [hv (by rw [h0])];exact c2.mono fun b g=>g.elim (fun g=>(c.s0 b g).imp And.left _root_.id) fun g=>((k3 b (.of g)).2.2).imp And.left _root_.id
end Go.Proofs.YtnlhjbnpjefjgaaGreatDoor
set_option linter.all false
namespace Go.Proofs.YtnlhjbnpjefjgaaGreatDoor
open Go Go.RowKit
variable [Dr]
def mkL {α:Type} (bytes:Nat) (z:α) (n:Int):Option (List α):=if 0<=n/\(bytes:Int)*n<=281474976710656/\n<=9223372036854775807 then some (List.replicate n.toNat z) else none
theorem kxm {α:Type} {bytes:Nat} {z:α} {n:Int} {xs:List α} (h:mkL bytes z n=some xs):xs=List.replicate n.toNat z/\0<=n/\(bytes:Int)*n<=281474976710656/\n<=9223372036854775807:=by
 unfold mkL at h;split at h;rename_i hc;injection h with h;exact ⟨h.symm,hc⟩
 ·cases h
variable {P:Program} {F S0:Nat->Prop} {N0:Nat} {w w':World} {S S':Nat->Prop} {ψ:Env} {K:Nat->Prop} {T:List (TypeId×TD)} {o:Oper} {a:Act} {st:St} {t:TypeId} {d:TD} {id:Nat}
theorem kmx (t:TypeId) (d:TD) (id:Nat) {α:Type} (enc:α->FV) {bytes:Nat} {z:α} {n:Int} {xs:List α} (X Y:Operand) (e:TypeId) (de:TD) (k k':IntKind) (zv:Value) (h:mkL bytes z n=some xs) (O:TOk P T:=by exact kaj) (q:st.eval X = .fz (.atom (.int k n)):=by kernel_rfl) (hy:st.eval Y = .fz (.atom (.int k' n)):=by kernel_rfl) (f:st.ids.contains id=false:=by kernel_rfl) (ho:o.op = .makeSlice t X Y:=by kernel_rfl) (E:kad T t=some d:=by kernel_rfl) (hk:d.kind = .slice e:=by kernel_rfl) (m:kad T e=some de:=by kernel_rfl) (G:de.size=1:=by rfl) (H:de.zero=[zv]:=by rfl) (r:enc z = .atom zv:=by rfl) (s:zv.oneCell'=true:=by rfl) (I:de.bytes=bytes:=by rfl):
  StepA P o st (.row id xs.length) ((id, .frow e 1 (xs.map enc))::st.heap) (id::st.ids):=by
 have f:id∉st.ids:=by simpa using f
 obtain ⟨rfl,h0,J,K⟩:=kxm h;have E:=O.get E;have m:=O.get m;subst I;intro F S0 N0 ψ S a w p;have g:=p.eval X;rw [q] at g;have g:=g.atom;have l:=p.eval Y;rw [hy] at l;have l:=l.atom;obtain ⟨⟨i,z',hi,L,M,Q,N⟩,_⟩:=m;have c:=p.core;have hcl:z'.cells=#[zv]:=by apply qbr;rw [N,H]
 have hr:=run_make (P:=P) w t e i z' (E.slice hk) hi Q k k' n n h0 (Int.le_refl _) (by rw [M];exact J) K;rw [L,G,hcl,qbt] at hr;have u:Grow w (w.alloc (.cells (madeCells #[zv] n.toNat) e)):=kax _ _;have A:(List.replicate n.toNat z).length=n.toNat:=List.length_replicate;rw [A];refine kaf (w.alloc (.cells (madeCells #[zv] n.toNat) e)) (.slice (some ⟨w.heap.size,0,none⟩) n.toNat n.toNat) ?_ ⟨ψ.set id n.toNat (.slice (some ⟨w.heap.size,0,none⟩) n.toNat n.toNat),S,?_,?_,kf9 _ c.fr,kbs f _ _,fun _ h=>qh _ h,fun _ h=>h,Same.of_grow u⟩;simp [execOp,ho,g,l,hr]
 ·refine c.add u f (fun b J=>by simp [kar] at J;omega) ⟨by rw [kbq];simp,by omega,(madeCells #[zv] n.toNat).toList,?_,fun x q=>?_,fun i x j v y q hv hy=>?_⟩;rw [kap];have:=World.ownsRow_lit (base:=0) (size:=1) (e:=e) w (madeCells #[zv] n.toNat) n.toNat (qar _) (by unfold maxLen;omega) (by rw [size_madeCells,qbt]);simpa using this;simp only [List.map_replicate,qbz] at q;rw [q.2,r];refine ⟨rfl,fun y hy=>?_⟩;simp [FV.cells] at hy;subst hy;exact s
  ·have B:=qk q;simp only [List.map_replicate,qbz] at B;rw [B.2,r] at hy;rw [toList_madeCells_one] at hv;have C:=qk hv;rw [qbz] at C;rw [C.2];have D:=qk hy;simp [FV.cells] at D;subst D;exact .atom s
 ·exact .row (qq ..) (by rw [kbq];exact qy _) rfl fun _=>by rw [kap]
theorem kh2 {v:Value} {e:TypeId} {n:Nat} {cs:List Value} (h:w.ownsRow 0 e 1 v n cs) (hn:0<n:=by omega):∃ g cap cur,v = .slice (some ⟨g,0,none⟩) n cap/\w.heap[g]?=some (.cells cur e (0,0))/\n<=cap/\cap<=maxLen/\cur.size=cap/\cur.toList.take n=cs:=by
 rcases h.2 with ⟨_,h0⟩ | ⟨g,cap,cur,hv,_,a,h1,b,c,d⟩;omega
 ·exact ⟨g,cap,cur,hv,a,h1,b,by simpa using c,by simpa using d⟩
theorem kay (t:TypeId) (d:TD) (id:Nat) {α:Type} (enc:α->FV) (xs:List α) {x:α} {i:Int} (X Y:Operand) (e:TypeId) (de:TD) (k:IntKind) (n:Nat) (h:idx xs i=some x) (r:TOk P T:=by exact kaj) (hy:st.eval Y = .fz (.atom (.int k i)):=by kernel_rfl) (ho:o.op = .indexAddr t X Y:=by kernel_rfl) (p:kad T t=some d:=by kernel_rfl) (hk:d.kind = .slice e:=by kernel_rfl) (j:kad T e=some de:=by kernel_rfl) (s:de.size=1:=by kernel_rfl) (y:st.eval X = .row id n:=by kernel_rfl) (q:kaa st.heap id=some (.frow e 1 (xs.map enc)):=by kernel_rfl) (hn:n=xs.length:=by rfl):NStep P o st (.ref id n i.toNat):=by
 intro ψ S a w ht z;subst hn;have p:=r.get p;have j:=r.get j;unfold idx at h;split at h
 ·rename_i h0;have A:i.toNat<xs.length:=(qd.1 h).1;have l:=Sim.eval_tmps ht X;rw [y] at l;have b:=Sim.eval_tmps ht Y;rw [hy] at b;have b:=b.atom;obtain ⟨hl,_,cs,c,_,_⟩:=z id _ q;rw [qaa] at hl c;obtain ⟨g,cap,cur,f,C,_⟩:=kh2 c;have hK:id∈st.ids/\a.eval X=ψ.val id:=by
   generalize a.eval X=u at l;cases l with
   | row hK B h1 hv=>exact ⟨hK,hv hl.symm⟩
  refine kaf w (.pointer (some ⟨g,i.toNat,none⟩)) ?_ ⟨kai _, .ref hK.1 (by omega) rfl fun _=>⟨g,by rw [f];rfl,rfl⟩⟩;have m:i<(xs.length:Int):=by omega
  simp [execOp,ho,hK.2,f,b,Instr.indexAt,asIntOf,run_underlying (p.slice hk),h0,m,j.size,s,kbo]
 ·cases h
theorem kce (t:TypeId) (d:TD) (id:Nat) {α:Type} (enc:α->FV) (xs:List α) (x:α) (i:Int) (X:Operand) (n:Nat) (h:idx xs i=some x) (r:TOk P T:=by exact kaj) (ho:o.op = .load t X:=by kernel_rfl) (k:kad T t=some d:=by kernel_rfl) (hk:d.kind.agg=false:=by kernel_rfl) (s:st.eval X = .ref id n i.toNat:=by kernel_rfl) (l:kaa st.heap id=some (.frow t 1 (xs.map enc)):=by kernel_rfl) (hn:n=xs.length:=by rfl) (m:∀ y,(enc y).cells=[enc y]:=by exact fun _=>rfl):NStep P o st (.fz (enc x)):=by
 intro ψ S a w ht z;subst hn;have k:=r.get k;unfold idx at h;split at h
 ·rename_i h0;have A:i.toNat<xs.length:=(qd.1 h).1;have f:=Sim.eval_tmps ht X;rw [s] at f;obtain ⟨hl,_,cs,c,_,hr⟩:=z id _ l;rw [qaa] at hl c;obtain ⟨g,cap,cur,e,F,B,hc2,C,D⟩:=kh2 c;have hp:a.eval X = .pointer (some ⟨g,i.toNat,none⟩):=by
   generalize a.eval X=u at f;cases f with
   | ref hK E h1 hv=>
    obtain ⟨b,p,rfl⟩:=hv hl.symm;rw [e] at p;simp only [kar,qc] at p;rw [p]
  have q:cs[i.toNat]?=some (cs[i.toNat]'(by rw [c.1];omega)):=qa _;have j:w.cell? ⟨g,i.toNat,none⟩=some (cs[i.toNat]'(by rw [c.1];omega)):=by rw [e] at c;rw [World.ownsRow.cellAt c i.toNat (by omega),q]
  refine kaf w (cs[i.toNat]'(by rw [c.1];omega)) ?_ ⟨kai _, .fz ((hr i.toNat (enc x) 0 _ (enc x) (by rw [ql,h];rfl) (by simp) (by rw [m];rfl)).mono fun _ h => .inl h)⟩;simp [execOp,ho,hp,Instr.loadAt,Instr.sureAddr,loadVar,k.isAgg,hk,j]
 ·cases h
theorem kej (t:TypeId) (d:TD) (id:Nat) {α:Type} (enc:α->FV) (xs:List α) (x y:α) (i:Int) (X Y:Operand) (n:Nat) (h:idx xs i=some x) (hT:TOk P T:=by exact kaj) (ho:o.op = .store t X Y:=by kernel_rfl) (Q:kad T t=some d:=by kernel_rfl) (hz:d.size=1:=by kernel_rfl) (hx:st.eval X = .ref id n i.toNat:=by kernel_rfl) (I:kaa st.heap id=some (.frow t 1 (xs.map enc)):=by kernel_rfl) (hn:n=xs.length:=by rfl) (hy:st.eval Y = .fz (enc y):=by kernel_rfl) (D:∀ y,∃ u,enc y = .atom u/\u.oneCell'=true:=by exact fun _=>⟨_,rfl,rfl⟩):StepA P o st .any ((id, .frow t 1 ((xs.set i.toNat y).map enc))::st.heap) st.ids:=by
 subst hn;intro F S0 N0 ψ S a w E;have Q:=hT.get Q;unfold idx at h;split at h
 ·rename_i h0;have ac:i.toNat<xs.length:=(qd.1 h).1;have f:=E.core;obtain ⟨ad,⟨hl,J,cs,l,ae,hr⟩,R⟩:=f.obj id _ I;rw [qaa] at hl l;have hcl:cs.length=xs.length:=by rw [l.1,qbt]
  obtain ⟨g,cap,cur,m,hg,U,hc2,V,Z⟩:=kh2 l;have G:=E.eval X;rw [hx] at G;have hp:a.eval X = .pointer (some ⟨g,i.toNat,none⟩):=by
   generalize a.eval X=u at G;cases G with
   | ref hK af h1 hv=>
    obtain ⟨b,K,rfl⟩:=hv hl.symm;rw [m] at K;simp only [kar,qc] at K;rw [K]
  obtain ⟨u,hu,H⟩:=D y;have p:=E.eval Y;rw [hy,hu] at p;have p:=p.atom;have L:u.cells=#[u]:=by cases u <;> first | rfl | cases H
  have hst:=run_storeCells_at (P:=P) g i.toNat t [u] 0 cur w hg (by simp;omega) (fun v hv=>by simp at hv;rw [hv];exact H);obtain ⟨new,s⟩:∃ new:Array Value,new=(cur.toList.take (i.toNat+0)++[u]++cur.toList.drop (i.toNat+0+[u].length)).toArray:=⟨_,rfl⟩;rw [<- s] at hst;have M:new.toList=cur.toList.set i.toNat u:=by rw [s,List.set_eq_take_append_cons_drop,qn (by simp;omega)];simp
  have aa:new.size=cap:=by rw [<- qa7,M,qbs,qa7,V]
  have A:∀ k,k<w.heap.size->¬ Blk (ψ.val id) k->(w.setRow g new).heap[k]?=w.heap[k]?:=fun k _ hk=>kkp g new k fun e=>hk (.of (by rw [m,e];rfl));have ag:(w.setRow g new).heap.size=w.heap.size:=by simp [World.setRow]
  have B:ψ.set id xs.length (ψ.val id)=ψ:=by
   unfold Env.set;congr 1
   ·funext j;split;rename_i N;rw [N,hl]
    ·rfl
   ·funext j;split;rename_i N;rw [N]
    ·rfl
  have hk:Same S w (w.setRow g new):=fun k hk hl=>A k hl fun e=>(R k e).1 hk;obtain ⟨c1,c2,c3⟩:=f.upd (n:=xs.length) (v:=ψ.val id) (w':=w.setRow g new) (ob' := .frow t 1 ((xs.set i.toNat y).map enc)) I (by omega) A (.inr ⟨hl,rfl⟩) (fun b K => .inl K) (by
   rw [B];refine ⟨by simp [hl],J,cs.set i.toNat u,?_,fun z r=>?_,fun k z j v q r hv C=>?_⟩;rw [qaa,qbs,m];refine ⟨by rw [qbs,hcl,qbt], .inr ⟨g,cap,new,rfl,qar _,kii g hg,U,hc2,by rw [aa,qbt],?_⟩⟩;rw [qbt,M,List.take_set,Z];obtain ⟨z0,_,rfl⟩:=qaf.1 r;obtain ⟨u0,h1,h2⟩:=D z0;rw [h1];exact ⟨rfl,fun q C=>by simp [FV.cells] at C;subst C;exact h2⟩
   ·obtain ⟨z0,c,rfl⟩:∃ z0,(xs.set i.toNat y)[k]?=some z0/\enc z0=z:=(by rw [ql,qw] at r;exact r);obtain ⟨u0,h1,h2⟩:=D z0;have N:j=0:=(by rw [h1] at C;have:=(qd.1 C).1;simp [FV.cells] at this;exact this);subst N;have ab:q=enc z0:=(by rw [h1] at C ⊢; simp [FV.cells] at C;exact C.symm);subst ab;simp only [qbt,Nat.add_zero] at hv;by_cases O:i.toNat=k;subst O;rw [qbj (by omega)] at hv c;injection hv with hv;injection c with c;subst hv c;rw [hu];exact .atom H
    ·rw [qbm O] at hv c;exact (hr k (enc z0) 0 v (enc z0) (by rw [ql,c];rfl) (by simpa using hv) (by rw [h1];rfl)).keep hk)
  rw [B] at c1;refine kia (w.setRow g new) ?_ ⟨ψ,S,c1, .any,⟨rfl,rfl,rfl,by omega,c3,fun _=>qy _⟩,Ext.refl,fun _ h=>h,fun _ h=>h,c2⟩;simp only [execOp,ho,Instr.storeAt,hp,p,Instr.sureAddr,storeVar,Q.size,Sem.run_bind,Sem.run_pure,Result.andThen_ok];rw [qj (by rw [L,hz];simp)];simp [L,hst]
 ·cases h
def rel1 (id n:Nat):AV->AV
 | .row k m=>bif Nat.beq k id then .row k n else .row k m
 | y=>y
def relG (id n:Nat):AV->AV
 | .agg cs => .agg (cs.map (rel1 id n))
 | .fn f cs => .fn f (cs.map (rel1 id n))
 | y=>rel1 id n y
def relT (id n:Nat):AV->AV
 | .tup cs => .tup (cs.map (relG id n))
 | y=>relG id n y
def relO (id n:Nat):AObj->AObj
 | .box e cs => .box e (cs.map (rel1 id n))
 | y=>y
def kuu (id:Nat) (st:St):List Nat:=st.tmps.flatMap (fun p=>krc id p.2)++st.heap.flatMap (fun p=>ktl id p.2)
def kwr (id n:Nat) (st:St):St:={ dfr:=st.dfr,n:=st.n,tmps:=st.tmps.map (fun p=>(p.1,relT id n p.2)),heap:=st.heap.map (fun p=>(p.1,relO id n p.2)),ids:=st.ids }
theorem krk {id n:Nat} {y:AV} (h:∀ m∈kns id y,m=n):rel1 id n y=y:=by
 cases y with
 | row k m=>
  simp only [rel1];cases a:Nat.beq k id with
  | false=>rfl
  | true=>rw [h m (by simp [kns,a])];rfl
 | _=>rfl
theorem kkx {α:Type} {f:α->α} {l:List α} (h:∀ x∈l,f x=x):l.map f=l:=by rw [List.map_congr_left h];simp
theorem kq8 {id n:Nat} (y:AV) (h:∀ m∈kwb id y,m=n):relG id n y=y:=by
 cases y with
 | agg cs=>exact qau AV.agg (kkx fun x a=>krk fun m hm=>h m (qa5.2 ⟨x,a,hm⟩))
 | fn f cs=>exact qau (AV.fn f) (kkx fun x a=>krk fun m hm=>h m (qa5.2 ⟨x,a,hm⟩))
 | row k m=>exact krk (y := .row k m) h
 | _=>rfl
theorem k9u {id n:Nat} {y:AV} (h:∀ m∈krc id y,m=n):relT id n y=y:=by
 cases y with
 | tup cs=>exact qau AV.tup (kkx fun x a=>kq8 _ fun m hm=>h m (qa5.2 ⟨x,a,hm⟩))
 | agg cs=>exact kq8 (.agg cs) h
 | fn f cs=>exact kq8 (.fn f cs) h
 | row k m=>exact kq8 (.row k m) h
 | _=>rfl
theorem k9e {id n:Nat} {y:AObj} (h:∀ m∈ktl id y,m=n):relO id n y=y:=by
 cases y with
 | box e cs=>exact qau (AObj.box e) (kkx fun x a=>krk fun m hm=>h m (qa5.2 ⟨x,a,hm⟩))
 | _=>rfl
theorem k41 {st:St} (id:Nat) {k m n:Nat} (h:kuu id st=List.replicate k m) (hmn:m=n):LeSt st (kwr id n st):=by
 have a:∀ x∈kuu id st,x=n:=fun x b=>by rw [h] at b;rw [(qbz.1 b).2,hmn]
 have:kwr id n st=st:=by
  unfold kwr;have h1:st.tmps.map (fun p=>(p.1,relT id n p.2))=st.tmps:=kkx fun p hp=>by rw [k9u fun m hm=>a m (qab.2 (.inl (qa5.2 ⟨p,hp,hm⟩)))]
  have c:st.heap.map (fun p=>(p.1,relO id n p.2))=st.heap:=kkx fun p hp=>by rw [k9e fun m hm=>a m (qab.2 (.inr (qa5.2 ⟨p,hp,hm⟩)))]
  rw [h1,c]
 rw [this];exact LeSt.refl
end Go.Proofs.YtnlhjbnpjefjgaaGreatDoor
set_option linter.all false
set_option linter.unusedSectionVars false
namespace Go.Proofs.YtnlhjbnpjefjgaaGreatDoor
open Go Go.RowKit
variable [Dr]
def kqd:List FV->Option (List Value)
 | []=>some []
 | .atom v::l=>match kqd l with
  | some r=>some (v::r)
  | none=>none
 | _::_=>none
def toV:AV->Option Value
 | .fz (.atom v)=>bif v.oneCell' then some v else none
 | .fz (.agg xs)=>match kqd xs with
  | some l=>bif l.all (·.oneCell') then some (.agg l.toArray) else none
  | none=>none
 | _=>none
def ofV:Value->Option FV
 | .agg cs=>bif cs.toList.all (·.oneCell') then some (.agg (cs.toList.map .atom)) else none
 | .tuple _=>none
 | v=>some (.atom v)
variable {P:Program} {w w':World} {S S':Nat->Prop} {ψ:Env} {K:Nat->Prop} {T:List (TypeId×TD)} {o:Oper} {a:Act} {st:St} {t:TypeId} {d:TD}
theorem ku9:∀ {xs:List FV} {l:List Value},kqd xs=some l->xs=l.map .atom
 | [],l,h=>by simp only [kqd,qc] at h;subst h;rfl
 | .atom v::xs,l,h=>by
  simp only [kqd] at h;split at h;rename_i r hr;injection h with h;subst h;rw [ku9 hr];rfl
  ·cases h
 | .agg _::_,l,h=>by cases h
 | .tup _::_,l,h=>by cases h
 | .lst _ _ _::_,l,h=>by cases h
 | .fp _::_,l,h=>by cases h
 | .bx _::_,l,h=>by cases h
theorem kab0 {u v:Value} {x:AV} (h:RV ψ K S w u x) (a:toV x=some v):u=v:=by
 unfold toV at a;split at a
 ·rename_i v';cases c:v'.oneCell' with
  | false=>rw [c] at a;cases a
  | true=>rw [c] at a;injection a with a;subst a;exact h.atom
 ·rename_i xs;split at a
  ·rename_i l hl;cases c:l.all (·.oneCell') with
   | false=>rw [c] at a;cases a
   | true=>
    rw [c] at a;injection a with a;subst a;have h:=h.inv;cases h with
    | @agg cs _ h h1 hr=>
     rw [ku9 hl] at hr h;congr 1;apply qbr;apply qb1;intro i;simp only [qaz];rcases qbl i cs.size with hi | hi;have b:i<l.length:=(by simp at h;omega);have:=hr i cs[i] (.atom l[i]) (by simp [hi]) (by simp [b]);rw [qbg hi,this.atom_eq];simp [b]
     ·have b:l.length<=i:=(by simp at h;omega);simp [hi,b]
  ·cases a
 ·cases a
theorem kabj {v:Value} {x:FV} (h:ofV v=some x):RF S w v x:=by
 unfold ofV at h;split at h
 ·rename_i cs;cases b:cs.toList.all (·.oneCell') with
  | false=>rw [b] at h;cases h
  | true=>
   rw [b] at h;injection h with h;subst h;refine .agg (by simp) ?_ ?_;intro x a;simp only [qaf] at a;obtain ⟨v,hv,rfl⟩:=a;exact qu.1 b v hv
   ·intro i v x hv a;simp only [ql,qw,qaz] at a;obtain ⟨u,c,rfl⟩:=a;rw [hv] at c;injection c with c;subst c;exact .atom (qu.1 b v (by rw [Array.mem_toList_iff];exact Array.mem_of_getElem? hv))
 cases h
 ·rename_i d e;injection h with h;subst h;refine .atom ?_;cases v <;> first | rfl | exact absurd rfl (d _) | exact absurd rfl (e _)
theorem kaab {x:Operand} {v:Value} (ho:o.op = .makeInterface t x) (g:TdOk P t d) (hk:∀ h:d.kind = .ifc,False) (i:toV (st.eval x)=some v):NStep P o st (.fz (.atom (.iface t v))):=by
 intro ψ S a w ht k;have hv:=kab0 (Sim.eval_tmps ht x) i;obtain ⟨_,e,h1,f⟩:=g;refine kaf w (.iface t v) ?_ ⟨kai _, .fz (.atom rfl)⟩;have c:∀ ms,e ≠ .interface ms:=fun ms j=>by subst j;cases b:d.kind <;> rw [b] at f <;> first | exact hk b | exact f
 simp only [execOp,ho,hv,Instr.makeInterface,Sem.run_bind,Result.andThen_ok,run_underlying h1];cases e <;> first | exact absurd rfl (c _) | rfl
theorem k2y {x:Operand} {xt:TypeId} {v:Value} {y:FV} (ho:o.op = .typeAssert x xt t true) (k:TdOk P t d) (hk:∀ h:d.kind = .ifc,False) (l:st.eval x = .fz (.atom (.iface t v))) (hy:ofV v=some y):
  NStep P o st (.fz (.tup [y, .atom (.bool true)])):=by
 intro ψ S a w ht n;have hv:=Sim.eval_tmps ht x;rw [l] at hv;have hv:=hv.atom;obtain ⟨_,e,h1,j⟩:=k;have g:∀ ms,e ≠ .interface ms:=fun ms m=>by subst m;cases b:d.kind <;> rw [b] at j <;> first | exact hk b | exact j
 refine kaf w (.tuple #[v, .bool true]) ?_ ⟨kai _, .fz (.tup rfl ?_)⟩
 ·simp only [execOp,ho,hv,Instr.typeAssert,Sem.run_bind,Result.andThen_ok,run_underlying h1];cases e <;> first | exact absurd rfl (g _) | simp
 ·intro i u z f c
  match i with
  | 0=>simp at f c;subst f c;exact kabj hy
  | 1=>simp at f c;subst f c;exact .atom rfl
  | i+2=>simp at c
theorem kzb {op:BinOp} {x y:Operand} {u v:Value} (h:(∃ s z,u = .iface s z)\/∃ c,y = .const c) (hv:v = .nilIface) (a:(∃ s z,u = .iface s z)\/u = .nilIface):(eqGuard op t x y u v).run P w = .ok () w:=by
 unfold eqGuard;subst hv;rcases a with ⟨s,z,rfl⟩ | rfl;cases op <;> simp
 ·rcases h with ⟨s,z,h⟩ | ⟨c,rfl⟩;cases h
  ·cases op <;> simp
theorem TdOk.ifc (h:TdOk P t d) (hk:d.kind = .ifc):∃ ms,P.underlying t=some (.interface ms):=by obtain ⟨_,e,h1,a⟩:=h;rw [hk] at a;cases e <;> simp [kff] at a;exact ⟨_,h1⟩
theorem kmt {x:Operand} {yt:TypeId} {u:Value} (neg r:Bool) (ho:o.op = .binOp (if neg then .neq else .eql) t x (.const .nilIface) yt) (g:TdOk P t d) (hk:d.kind = .ifc) (i:st.eval x = .fz (.atom u)) (b:(r=false/\∃ s z,u = .iface s z)\/(r=true/\u = .nilIface)):
  NStep P o st (.fz (.atom (.bool (bif neg then !r else r)))):=by
 obtain ⟨ms,c⟩:=g.ifc hk;intro ψ S a w ht k;have hv:=Sim.eval_tmps ht x;rw [i] at hv;have hv:=hv.atom;have j:∀ d:Nat,(Op.equalIn (d+1) t u .nilIface).run P w = .ok r w:=fun d=>by rcases b with ⟨rfl,s,z,rfl⟩ | ⟨rfl,rfl⟩ <;> simp [Op.equalIn,run_underlying c]
 have e:∀ op,(eqGuard op t x (.const .nilIface) u .nilIface).run P w = .ok () w:=fun op=>kzb (.inr ⟨_,rfl⟩) rfl (b.elim (fun h => .inl h.2) fun h => .inr h.2);refine kaf w (.bool (bif neg then !r else r)) ?_ ⟨kai _, .fz (.atom rfl)⟩;have hc:a.eval (.const .nilIface) = .nilIface:=rfl;have f:(binOp .eql t u .nilIface).run P w = .ok (.bool r) w/\(binOp .neq t u .nilIface).run P w = .ok (.bool !r) w:=by rcases b with ⟨hr,s,z,rfl⟩ | ⟨hr,rfl⟩ <;> subst hr <;> constructor <;> (simp only [binOp];simp [Op.equal,Op.maxDepth,j 9999])
 cases neg;simp [execOp,ho,hv,hc,e,f.1]
 ·simp [execOp,ho,hv,hc,e,f.2]
end Go.Proofs.YtnlhjbnpjefjgaaGreatDoor
set_option linter.all false
set_option linter.unusedSectionVars false
namespace Go.Proofs.YtnlhjbnpjefjgaaGreatDoor
open Go Go.RowKit
variable [Dr]
def dfn (f:FuncId) (cs:List Value):Deferred:={ target := .fn (.func f) cs.toArray,args:=#[] }
def krl (fn:Func):Option (Nat×Nat×Code):=match fn.body with
 | some (.seq (.region _ os false) c)=>match os.toList with
  | [o1,o2]=>match o1.op,o1.dst,o1.guard with
   | .call c1,some t1,none=>match o2.op,o2.dst,o2.guard with
    | .assign (.tmp t),some t2,none=>match c1.callee,c1.args.toList with
     | .builtin .recover,[]=>bif Nat.beq t t1 && (Nat.blt t1 fn.ntmps && (Nat.blt t2 fn.ntmps && fn.results.isEmpty)) then some (t1,t2,c) else none
     | _,_=>none
    | _,_,_=>none
   | _,_,_=>none
  | [o1]=>match o1.op,o1.dst,o1.guard with
   | .call c1,some t1,none=>match c1.callee,c1.args.toList with
    | .builtin .recover,[]=>bif Nat.blt t1 fn.ntmps && fn.results.isEmpty then some (t1,t1,c) else none
    | _,_=>none
   | _,_,_=>none
  | _=>none
 | _=>none
variable {P:Program} {F S0:Nat->Prop} {N0:Nat} {w w':World} {S S':Nat->Prop} {ψ ψ':Env} {T:List (TypeId×TD)} {st:St} {ids:List Nat} {a:Act}
theorem kt8 {fn:Func} {t1 t2:Nat} {c2:Code} (h:krl fn=some (t1,t2,c2)):∃ id os o1 c1,fn.body=some (.seq (.region id os false) c2)/\o1.op = .call c1/\c1.callee = .builtin .recover/\c1.args=#[]/\o1.dst=some t1/\o1.guard=none /\
  t1<fn.ntmps/\t2<fn.ntmps/\fn.results=#[]/\((∃ o2,os=#[o1,o2]/\o2.op = .assign (.tmp t1)/\o2.dst=some t2/\o2.guard=none)\/(os=#[o1]/\t2=t1)):=by
 unfold krl at h;split at h
 ·rename_i id os c i;split at h
  ·rename_i o1 o2 b;split at h
   ·rename_i c1 t1' h1 d e;split at h
    ·rename_i tt t2' j k l;split at h
     ·rename_i f g;cases hc:(Nat.beq tt t1' && (Nat.blt t1' fn.ntmps && (Nat.blt t2' fn.ntmps && fn.results.isEmpty))) with
      | false=>rw [hc] at h;cases h
      | true=>
       rw [hc] at h;simp only [qe,qc,qt] at h;obtain ⟨rfl,rfl,rfl⟩:=h;simp only [qv] at hc;obtain ⟨b1,b2,b3,b4⟩:=hc;obtain rfl:=qi b1;have a:os=#[o1,o2]:=(by apply qbr;simpa using b);exact ⟨id,os,o1,c1,i,h1,f,by apply qbr;simpa using g,d,e,by simpa [Nat.blt_eq] using b2,by simpa [Nat.blt_eq] using b3,by simpa using b4, .inl ⟨o2,a,j,k,l⟩⟩
     ·cases h
    ·cases h
   ·cases h
  ·rename_i o1 b;split at h
   ·rename_i c1 t1' h1 d e;split at h
    ·rename_i f g;cases hc:(Nat.blt t1' fn.ntmps && fn.results.isEmpty) with
     | false=>rw [hc] at h;cases h
     | true=>
      rw [hc] at h;simp only [qe,qc,qt] at h;obtain ⟨rfl,rfl,rfl⟩:=h;simp only [qv] at hc;obtain ⟨b2,b4⟩:=hc;have a:os=#[o1]:=(by apply qbr;simpa using b);exact ⟨id,os,o1,c1,i,h1,f,by apply qbr;simpa using g,d,e,by simpa [Nat.blt_eq] using b2,by simpa [Nat.blt_eq] using b2,by simpa using b4, .inr ⟨a,rfl⟩⟩
    ·cases h
   ·cases h
  ·cases h
 ·cases h
end Go.Proofs.YtnlhjbnpjefjgaaGreatDoor
set_option linter.all false
set_option linter.unusedSectionVars false
namespace Go.Proofs.YtnlhjbnpjefjgaaGreatDoor
open Go Go.RowKit
variable [Dr]
variable {P:Program} {F S0:Nat->Prop} {N0:Nat} {w w':World} {S S':Nat->Prop} {ψ:Env} {K:Nat->Prop} {T:List (TypeId×TD)} {o:Oper} {a:Act} {st:St} {t:TypeId} {d:TD} {id:Nat}
end Go.Proofs.YtnlhjbnpjefjgaaGreatDoor
set_option linter.all false
namespace Go.Proofs.YtnlhjbnpjefjgaaGreatDoor
open Go Go.RowKit
variable [Dr]
def vI (x:Int):Value := .int .i64 x
def tabF (rows:List (List Value)):FV := .lst 1 rows.length (rows.map fun r => .lst 1 r.length (r.map .atom))
def k6o:FV->Bool
 | .atom _=>true
 | .tup vs=>vs.all fun x=>match x with
  | .atom _=>true
  | _=>false
 | _=>false
variable {P:Program} {F S0:Nat->Prop} {N0:Nat} {w w':World} {S S':Nat->Prop} {ψ ψ':Env} {K:Nat->Prop} {T:List (TypeId×TD)} {o:Oper} {a:Act} {st:St} {t:TypeId} {d:TD} {id:Nat} {ids:List Nat} {heap:List (Nat×AObj)}
theorem l_tab {ops:Array Oper} {l:List Oper} {Q:Exit->St->Prop} {X Y:Operand} {n:Int} {eo:TypeId} (ei:TypeId) {de:TD} {k k':IntKind} (ho:o.op = .makeSlice t X Y) (hT:TOk P T) (H:kad T t=some d) (hk:d.kind = .slice eo) (y:kad T eo=some de) (I:de.size=1) (J:de.zero=[.slice none 0 0]) (K:st.eval X = .fz (.atom (.int k n))) (hy:st.eval Y = .fz (.atom (.int k' n))) (h0:0<=n) (m:(de.bytes:Int)*n<=281474976710656) (L:n<=9223372036854775807) (p:st.ids.contains id=false) (hg:kbk ops st o=some true) (M:∀ t,o.dst=some t->t<st.n) (h:∀ ov,awpL P ops l (({ st with heap:=(id, .tab 0 ov eo ei (List.replicate n.toNat []))::st.heap,ids:=id::st.ids }:St).put o.dst (.fz (.atom ov))) Q):awpL P ops (o::l) st Q:=by
 have p:id∉st.ids:=by simpa using p
 have H:=hT.get H;have y:=hT.get y;intro F S0 N0 ψ S a w hs;have q:=hs.eval X;rw [K] at q;have q:=q.atom;have r:=hs.eval Y;rw [hy] at r;have r:=r.atom;obtain ⟨⟨i,z',hi,N,O,hz,U⟩,_⟩:=y;have g:=hs.core;have hcl:z'.cells=#[.slice none 0 0]:=by apply qbr;rw [U,J]
 have hr:=run_make (P:=P) w t eo i z' (H.slice hk) hi hz k k' n n h0 (Int.le_refl _) (by rw [O];exact m) L;rw [N,I,hcl,qbt] at hr;obtain ⟨w1,z⟩:∃ w1,w1=w.alloc (.cells (madeCells #[.slice none 0 0] n.toNat) eo):=⟨_,rfl⟩;have A:Grow w w1:=z ▸ kax _ _;obtain ⟨ov,s⟩:∃ ov:Value,ov = .slice (some ⟨w.heap.size,0,none⟩) n.toNat n.toNat:=⟨_,rfl⟩;have V:(madeCells #[.slice none 0 0] n.toNat).toList=List.replicate n.toNat (.slice none 0 0):=toList_madeCells_one _ _;obtain ⟨vs,B⟩:∃ vs:List Value,vs=List.replicate n.toNat (.slice none 0 0):=⟨_,rfl⟩;have C:w1.ownsRow 0 eo 1 ov n.toNat vs:=by have:=World.ownsRow_lit (base:=0) (size:=1) (e:=eo) w (madeCells #[.slice none 0 0] n.toNat) n.toNat (qar _) (by unfold maxLen;omega) (by rw [size_madeCells,qbt]);rw [V,<- B,<- s,<- z] at this;exact this
 have f:∀ (j:Nat) (v:Value),vs[j]?=some v->v = .slice none 0 0:=fun j v hv=>by have:=qk hv;rw [B,qbz] at this;exact this.2
 have hO:ObR (ψ.set id 0 (.tuple (ov::vs).toArray)) (·∈id::st.ids) S w1 id (.tab 0 ov eo ei (List.replicate n.toNat [])):=by
  refine ⟨kbq _ _,vs,kap _ _,by rw [B];simp,by simpa using C,fun j v xs hv K=>?_,fun i j u v b x hv Z D E=>?_⟩;rw [f j v hv];have:=qk K;rw [qbz] at this;rw [this.2];exact ⟨⟨rfl, .inl ⟨rfl,rfl⟩⟩,fun u x=>by cases x⟩
  ·cases i with
   | zero=>cases j with
    | zero=>exact Z rfl
    | succ j=>rw [qax] at hv;rw [f j v hv] at E;cases E
   | succ i=>rw [qax] at x;rw [f i u x] at D;cases D
 have hc:=g.addB A p (n:=0) (v := .tuple (ov::vs).toArray) (fun b m=>by
  rcases m with m | ⟨u,x,m⟩;cases m
  ·simp only [kfa] at x;rcases qat.1 x with rfl | x;rw [s] at m;simp [kar] at m;omega
   ·obtain ⟨i,hi,rfl⟩:=qah.1 x;rw [f i _ (qa hi)] at m;cases m) hO
 unfold wpList;rw [ke5 hs hg];refine .inl (kcg (R:=fun v w'=>v=ov/\w'=w1) ?_ ?_);rintro v w' ⟨rfl,rfl⟩;have G:=hs.put (st':={ st with heap:=(id, .tab 0 v eo ei (List.replicate n.toNat []))::st.heap,ids:=id::st.ids }) (d:=o.dst) (v:=v) (c := .fz (.atom v)) rfl rfl rfl hc (.fz (.atom (by rw [s];rfl))) (kbs p _ _) (fun _ h=>qh _ h) (fun _ h=>h) (Same.of_grow A) M;exact kbm (fun e a' w'' k=>k.pre (Fr.of_grow g.fr A)) _ _ _ (h v F S0 N0 _ S _ w' G)
 ·refine kaf w1 ov ?_ ⟨rfl,rfl⟩;rw [z,s];simp [execOp,ho,q,r,hr]
theorem kxo {α:Type} (f:α->Value) (x:Operand) (e2:TypeId) (g:Nat) (ov:Value) (eo ei:TypeId) (rows:List (List α)) (row:List α) (i:Int) (n:Nat) (h:idx rows i=some row) (y:TOk P T) (hk:d.kind = .slice e2) (hn:n=row.length) (ho:o.op = .call { callee := .builtin .len,args:=#[x],argTypes:=#[t] }:=by kernel_rfl) (z:kad T t=some d:=by kernel_rfl) (B:st.eval x = .irow id g (i.toNat+1):=by kernel_rfl) (j:kaa st.heap id=some (.tab g ov eo ei (rows.map (List.map f))):=by kernel_rfl):NStep P o st (.fz (.atom (.int .i64 n))):=by
 subst hn;intro ψ S a w k C;unfold idx at h;split at h
 ·rename_i D;have h0:=Sim.eval_tmps k x;rw [B] at h0;obtain ⟨E,vs,b,l,r,m,s⟩:=C id _ j;have p:i.toNat<rows.length:=(qd.1 h).1;have c:i.toNat<vs.length:=by rw [l];simpa using p
  have e:a.eval x=vs[i.toNat]:=by
   generalize a.eval x=u at h0;cases h0 with
   | irow hK hn h1 hv=>
    have:=hv E.symm;rw [b] at this;simp only [kfa,qax] at this;rw [qa c] at this;exact (qag this).symm
  obtain ⟨k1,_⟩:=m i.toNat vs[i.toNat] (row.map f) (qa c) (by rw [ql,h];rfl);rw [qaa] at k1;have hv:∃ A cap,a.eval x = .slice A row.length cap:=by
   rw [e];rcases k1.2 with ⟨b,q⟩ | ⟨g,cap,cur,b,_⟩;exact ⟨none,0,by rw [b,q]⟩
   ·exact ⟨some ⟨g,0,none⟩,cap,b⟩
  obtain ⟨A,cap,hv⟩:=hv;refine kaf w (.int .i64 row.length) ?_ ⟨kai _, .fz (.atom rfl)⟩;simp [execOp,ho,resolve,invoke,builtin,Builtin.len_,run_underlying ((y.get z).slice hk),hv,goInt]
 ·cases h
theorem kqh (d:TD) (id:Nat) {α:Type} (f:α->Value) (rows:List (List α)) (row:List α) (i:Int) (X Y:Operand) (e:TypeId) (de:TD) (k:IntKind) (g:Nat) (ov:Value) (ei:TypeId) (h:idx rows i=some row) (u:TOk P T) (ho:o.op = .indexAddr t X Y:=by kernel_rfl) (q:kad T t=some d:=by kernel_rfl) (hk:d.kind = .slice e:=by kernel_rfl) (l:kad T e=some de:=by kernel_rfl) (y:de.size=1:=by kernel_rfl) (z:st.eval X = .fz (.atom ov):=by kernel_rfl) (r:kaa st.heap id=some (.tab g ov e ei (rows.map (List.map f))):=by kernel_rfl) (hK:st.ids.contains id=true:=by kernel_rfl) (hy:st.eval Y = .fz (.atom (.int k i)):=by kernel_rfl):NStep P o st (.iref id g 0 i.toNat):=by
 intro ψ S a w ht A;have q:=u.get q;have l:=u.get l;unfold idx at h;split at h
 ·rename_i h0;have B:i.toNat<rows.length:=(qd.1 h).1;have b:=Sim.eval_tmps ht X;rw [z] at b;have b:=b.atom;have c:=Sim.eval_tmps ht Y;rw [hy] at c;have c:=c.atom;obtain ⟨E,vs,m,s,j,C,x⟩:=A id _ r;rw [qaa] at s j;obtain ⟨gb,cap,cur,n,D,_⟩:=kh2 j;refine kaf w (.pointer (some ⟨gb,i.toNat,none⟩)) ?_ ⟨kai _, .iref (by simpa using hK) (by omega) rfl fun _=>⟨ov,gb,by rw [m];rfl,by rw [n];rfl,rfl⟩⟩;have p:i<(rows.length:Int):=by omega
  simp [execOp,ho,b,n,c,Instr.indexAt,asIntOf,run_underlying (q.slice hk),h0,p,l.size,y,kbo]
 ·cases h
theorem kqs (d:TD) (id:Nat) {α:Type} (f:α->Value) (rows:List (List α)) (row:List α) (i:Int) (X:Operand) (g:Nat) (ov:Value) (ei:TypeId) (h:idx rows i=some row) (z:TOk P T) (ho:o.op = .load t X:=by kernel_rfl) (n:kad T t=some d:=by kernel_rfl) (hk:d.kind.agg=false:=by kernel_rfl) (A:st.eval X = .iref id g 0 i.toNat:=by kernel_rfl) (p:kaa st.heap id=some (.tab g ov t ei (rows.map (List.map f))):=by kernel_rfl) (hK:st.ids.contains id=true:=by kernel_rfl):NStep P o st (.irow id g (i.toNat+1)):=by
 intro ψ S a w ht B;have n:=z.get n;unfold idx at h;split at h
 ·rename_i h0;have C:i.toNat<rows.length:=(qd.1 h).1;have j:=Sim.eval_tmps ht X;rw [A] at j;obtain ⟨D,vs,e,q,c,r,y⟩:=B id _ p;rw [qaa] at q c;obtain ⟨gb,cap,cur,m,E,F,hc2,G,H⟩:=kh2 c;have hp:a.eval X = .pointer (some ⟨gb,i.toNat,none⟩):=by
   generalize a.eval X=u at j;cases j with
   | iref hK I h1 hv=>
    obtain ⟨u,b,s,x,rfl⟩:=hv D.symm;rw [e] at s;simp only [kfa,List.getElem?_cons_zero,qc] at s;subst s;rw [m] at x;simp only [kar,qc] at x;rw [x]
  have k:vs[i.toNat]?=some (vs[i.toNat]'(by omega)):=qa _;have l:w.cell? ⟨gb,i.toNat,none⟩=some (vs[i.toNat]'(by omega)):=by rw [m] at c;rw [World.ownsRow.cellAt c i.toNat (by omega),k]
  obtain ⟨k1,_⟩:=r i.toNat _ (row.map f) k (by rw [ql,h];rfl);refine kaf w (vs[i.toNat]'(by omega)) ?_ ⟨kai _, .irow (by simpa using hK) (by omega) (kuj k1) fun _=>by rw [e];simp only [kfa,qax];exact k⟩;simp [execOp,ho,hp,Instr.loadAt,Instr.sureAddr,loadVar,n.isAgg,hk,l]
 ·cases h
theorem k0o {α:Type} {f:α->Value} {rows:List (List α)} {row:List α} {i:Int} {g:Nat} {ov:Value} {eo ei:TypeId} (h:idx rows i=some row) (l:ObR ψ K S w id (.tab g ov eo ei (rows.map (List.map f)))):
  ∃ v vs,ψ.len id=g/\ψ.val id = .tuple (ov::vs).toArray/\(kfa (ψ.val id))[i.toNat+1]?=some v/\vs[i.toNat]?=some v/\w.ownsRow 0 ei 1 v row.length (row.map f)/\rows[i.toNat]?=some row/\∀ u∈row.map f,u.oneCell'=true:=by
 unfold idx at h;split at h
 ·obtain ⟨m,vs,a,c,j,d,k⟩:=l;have e:i.toNat<rows.length:=(qd.1 h).1;have b:i.toNat<vs.length:=by rw [c];simpa using e
  obtain ⟨k1,k2⟩:=d i.toNat vs[i.toNat] (row.map f) (qa b) (by rw [ql,h];rfl);rw [qaa] at k1;exact ⟨vs[i.toNat],vs,m,a,by rw [a];simp only [kfa,qax];exact qa b,qa b,k1,h,k2⟩
 ·cases h
theorem ku3 {α:Type} (f:α->Value) (rows:List (List α)) (row:List α) (x:α) (i j:Int) (X Y:Operand) (e:TypeId) (de:TD) (k:IntKind) (g:Nat) (ov:Value) (eo:TypeId) (h:idx rows i=some row) (s:idx row j=some x) (A:TOk P T) (ho:o.op = .indexAddr t X Y:=by kernel_rfl) (y:kad T t=some d:=by kernel_rfl) (hk:d.kind = .slice e:=by kernel_rfl) (c:kad T e=some de:=by kernel_rfl) (C:de.size=1:=by kernel_rfl) (D:st.eval X = .irow id g (i.toNat+1):=by kernel_rfl) (z:kaa st.heap id=some (.tab g ov eo e (rows.map (List.map f))):=by kernel_rfl) (hK:st.ids.contains id=true:=by kernel_rfl) (hy:st.eval Y = .fz (.atom (.int k j)):=by kernel_rfl):NStep P o st (.iref id g (i.toNat+1) j.toNat):=by
 intro ψ S a w ht E;have y:=A.get y;have c:=A.get c;obtain ⟨v,vs,F,B,m,G,n,hr,_⟩:=k0o h (E id _ z);unfold idx at s;split at s
 ·rename_i h0;have H:j.toNat<row.length:=(qd.1 s).1;have l:=Sim.eval_tmps ht X;rw [D] at l;have b:=Sim.eval_tmps ht Y;rw [hy] at b;have b:=b.atom;obtain ⟨gb,cap,cur,p,I,_⟩:=kh2 n;have q:a.eval X = .slice (some ⟨gb,0,none⟩) row.length cap:=by
   generalize a.eval X=u at l;cases l with
   | irow hK hn h1 hv=>
    have:=hv F.symm;rw [m] at this;rw [<- qag this,p]
  refine kaf w (.pointer (some ⟨gb,j.toNat,none⟩)) ?_ ⟨kai _, .iref (by simpa using hK) (by omega) rfl fun _=>⟨v,gb,m,by rw [p];rfl,rfl⟩⟩;have r:j<(row.length:Int):=by omega
  simp [execOp,ho,q,b,Instr.indexAt,asIntOf,run_underlying (y.slice hk),h0,r,c.size,C,kbo]
 ·cases s
theorem k9h {X:Operand} {g i j b:Nat} {v:Value} (c:RV ψ K S w (a.eval X) (.iref id g i j)) (h:ψ.len id=g) (hv:(kfa (ψ.val id))[i]?=some v) (k:kar v=some b):a.eval X = .pointer (some ⟨b,j,none⟩):=by
 generalize a.eval X=u at c;cases c with
 | iref hK hn h1 e=>
  obtain ⟨u,b',f,d,rfl⟩:=e h.symm;rw [hv] at f;cases f;rw [k] at d;cases d;rfl
theorem kvd {α:Type} (f:α->Value) (rows:List (List α)) (row:List α) (x:α) (i j:Int) (X:Operand) (g:Nat) (ov:Value) (eo:TypeId) (h:idx rows i=some row) (e:idx row j=some x) (s:TOk P T) (ho:o.op = .load t X:=by kernel_rfl) (n:kad T t=some d:=by kernel_rfl) (hk:d.kind.agg=false:=by kernel_rfl) (u:st.eval X = .iref id g (i.toNat+1) j.toNat:=by kernel_rfl) (p:kaa st.heap id=some (.tab g ov eo t (rows.map (List.map f))):=by kernel_rfl):NStep P o st (.fz (.atom (f x))):=by
 intro ψ S a w ht y;have n:=s.get n;obtain ⟨v,vs,z,r,q,A,b,hr,k⟩:=k0o h (y id _ p);unfold idx at e;split at e
 ·rename_i h0;have B:j.toNat<row.length:=(qd.1 e).1;obtain ⟨gb,cap,cur,l,C,D,hc2,E,F⟩:=kh2 b;have m:=Sim.eval_tmps ht X;rw [u] at m;have hp:=k9h m z q (by rw [l];rfl);have c:w.cell? ⟨gb,j.toNat,none⟩=some (f x):=by rw [l] at b;rw [World.ownsRow.cellAt b j.toNat (by omega),ql,e];rfl
  refine kaf w (f x) ?_ ⟨kai _, .fz (.atom (k _ (qby (qk e))))⟩;simp [execOp,ho,hp,Instr.loadAt,Instr.sureAddr,loadVar,n.isAgg,hk,c]
 ·cases e
end Go.Proofs.YtnlhjbnpjefjgaaGreatDoor
set_option linter.all false
namespace Go.Proofs.YtnlhjbnpjefjgaaGreatDoor
open Go Go.RowKit
variable [Dr]
variable {P:Program} {F S0:Nat->Prop} {N0:Nat} {w w':World} {S S':Nat->Prop} {ψ ψ':Env} {K:Nat->Prop} {T:List (TypeId×TD)} {o:Oper} {a:Act} {st:St} {t:TypeId} {d:TD} {id:Nat} {ids:List Nat} {heap:List (Nat×AObj)}
theorem k7h {e:TypeId} {n cap g j:Nat} {cs:List Value} {cur:Array Value} {u:Value} (d:w.heap[g]?=some (.cells cur e (0,0))) (a:n<=cap) (hc2:cap<=maxLen) (b:cur.size=cap) (c:cur.toList.take n=cs) (hcl:cs.length=n) (f:j<n):
  (w.setRow g (cur.toList.set j u).toArray).ownsRow 0 e 1 (.slice (some ⟨g,0,none⟩) n cap) n (cs.set j u):=
 ⟨by rw [qbs,hcl,qbt], .inr ⟨g,cap,_,rfl,qar _,kii g d,a,hc2,by simp [b],by rw [qbt,List.take_set,c]⟩⟩
theorem k6k {e:TypeId} {cur:Array Value} {g:Nat} (j:Nat) (u:Value) (b:w.heap[g]?=some (.cells cur e (0,0))) (c:j<cur.size) (a:u.oneCell'=true):
  (storeCells ⟨g,j,none⟩ [u] 0).run P w = .ok () (w.setRow g (cur.toList.set j u).toArray):=by
 have hst:=run_storeCells_at (P:=P) g j e [u] 0 cur w b (by simp;omega) (fun v hv=>by simp at hv;rw [hv];exact a);have:(cur.toList.take (j+0)++[u]++cur.toList.drop (j+0+[u].length))=cur.toList.set j u:=by rw [List.set_eq_take_append_cons_drop,qn (by simpa using c)];simp
 rw [this] at hst;exact hst
theorem kv4 {u:Value} (h:u.oneCell'=true):u.cells=#[u]:=by cases u <;> first | rfl | cases h
end Go.Proofs.YtnlhjbnpjefjgaaGreatDoor
set_option linter.all false
namespace Go.Proofs.YtnlhjbnpjefjgaaGreatDoor
open Go Go.RowKit
variable [Dr]
def noI (id:Nat) (ids:List Nat) (st:St):Bool:=!ids.contains id && (st.tmps.all (fun p=>okA ids p.2) && st.heap.all (fun p=>Nat.beq p.1 id || (ids.contains p.1 && (match p.2 with
 | .box _ cs=>okAs ids cs
 | .frow _ _ _=>true
 | .smap _=>true
 | .tab _ _ _ _ _=>true
 | .xo (.imap _)=>true
 | .xo (.mit m _ _ _)=>ids.contains m
 | .gho _ vs=>okAs ids vs
 | .glb _=>true
 | .sit _ _=>true
 | .memo _ _=>true
 | .xo _=>false
 | .was _ ids0 _ _=>ids0.all ids.contains))))
variable {P:Program} {F S0:Nat->Prop} {N0:Nat} {w w':World} {S S':Nat->Prop} {ψ ψ':Env} {K:Nat->Prop} {T:List (TypeId×TD)} {o:Oper} {a:Act} {st:St} {t:TypeId} {d:TD} {id:Nat} {ids:List Nat} {heap:List (Nat×AObj)}
theorem kx1:∀ {l:List (Nat×AV)} {t:Nat},look .any l t = .any\/∃ p∈l,look .any l t=p.2
 | [],_ => .inl rfl
 | (k,v)::l,t=>by
  rw [kbc];split;exact .inr ⟨(k,v),qq ..,rfl⟩
  ·rcases kx1 (l:=l) (t:=t) with h | ⟨p,hp,h⟩;exact .inl h
   ·exact .inr ⟨p,qh _ hp,h⟩
theorem kvn:∀ {l:List (Nat×AObj)} {t:Nat} {ob:AObj},kaa l t=some ob->(t,ob)∈l
 | [],_,_,h=>by cases h
 | (k,v)::l,t,ob,h=>by
  rw [kah] at h;split at h;rename_i hk;cases hk;cases h;exact qq ..
  ·exact qh _ (kvn h)
theorem k9c (id:Nat) (ids:List Nat) (g:Nat) (ov:Value) (eo ei:TypeId) (rows:List (List Value)) (r:kaa st.heap id=some (.tab g ov eo ei rows):=by kernel_rfl) (hn:noI id ids st=true:=by kernel_rfl) (hi:ids.all st.ids.contains=true:=by kernel_rfl):LeSt st { st with heap:=(id, .tab 0 ov eo ei rows)::kcv id st.heap }:=by
 intro F S0 N0 ψ S a w hs;unfold noI at hn;simp only [qv,qb2,qu,qbx] at hn;obtain ⟨h1,R,T⟩:=hn;have n:id∉ids:=by simpa using h1
 have u:∀ i,i∈ids->i∈st.ids:=fun i K=>by simpa using qu.1 hi i K
 have d:=hs.core;obtain ⟨L,⟨U,vs,A,M,B,C,D⟩,N⟩:=d.obj id _ r;have E:Ext (·∈ids) ψ (ψ.set id 0 (ψ.val id)):=kbs n _ _;have hv:∀ j,(ψ.set id 0 (ψ.val id)).val j=ψ.val j:=fun j=>by
  by_cases G:j=id;subst G;rw [kap]
  ·exact (kc9 ψ G _ _).2
 have keepA:∀ {v x},RV ψ (·∈st.ids) S w v x->okA ids x=true->RV (ψ.set id 0 (ψ.val id)) (·∈st.ids) S w v x:=fun {v x} h ho=>
  (h.subA ho).keep E u (fun _ h=>h) (fun _ _ _=>rfl)
 refine ⟨ψ.set id 0 (ψ.val id),S,hs.defers,hs.size,fun t=>?_,⟨fun i ob ho=>?_,fun i i' ob ob' b ho O P o H=>?_,d.lt,d.s0,d.n0,d.fr⟩⟩
 ·have hk:=hs.tmps t;show RV _ _ S w _ (look .any st.tmps t);rcases kx1 (l:=st.tmps) (t:=t) with h | ⟨p,hp,h⟩;rw [h];exact .any
  ·unfold St.get at hk;rw [h] at hk ⊢;exact keepA hk (R p hp)
 ·rw [kah] at ho;by_cases q:id=i;subst q;rw [qn rfl] at ho;cases ho;exact ⟨L,⟨kbq _ _,vs,by rw [kap,A],M,B,C,D⟩,fun b o=>N b (by rwa [hv] at o)⟩
  ·rw [qj q] at ho;obtain ⟨_,ho⟩:=keq id ho;obtain ⟨k1,k2,k3⟩:=d.obj i ob ho;have c:=kc9 ψ (Ne.symm q) 0 (ψ.val id);refine ⟨k1,?_,fun b o=>k3 b (by rwa [hv] at o)⟩;rcases T _ (kvn ho) with h | h;exact absurd (qi h) (Ne.symm q)
   ·obtain ⟨hc,h⟩:=h;cases ob with
    | box e cells=>
     obtain ⟨q0,b,cs,q1,q2,q3,q4,q5⟩:=k2;simp only [kih] at h;exact ⟨by rw [c.1,q0],b,cs,by rw [c.2,q1],q2,q3,q4,fun j v x hv I=>keepA (q5 j v x hv I) (qu.1 h x (qk I))⟩
    | frow e size xs=>
     obtain ⟨q0,q1,cs,q2,q3,q4⟩:=k2;exact ⟨by rw [c.1,q0],q1,cs,by rw [c.2];exact q2,q3,q4⟩
    | sit s pos=>
     obtain ⟨q0,b,q1,q2⟩:=k2;exact ⟨by rw [c.1,q0],b,by rw [c.2,q1],q2⟩
    | glb gs=>
     obtain ⟨q0,q1,q2,q3⟩:=k2;exact ⟨by rw [c.1,q0],by rw [c.2,q1],by rw [c.2,q2],q3⟩
    | smap kv=>
     obtain ⟨q0,b,es,cl,q1,q2⟩:=k2;exact ⟨by rw [c.1,q0],b,es,cl,by rw [c.2,q1],q2⟩
    | xo k=>cases k with
     | imap kv=>
      obtain ⟨q0,b,es,q1,q2⟩:=k2;exact ⟨by rw [c.1,q0],b,es,by rw [c.2,q1],q2⟩
     | mit m x y z=>
      obtain ⟨q0,qm,b,bm,q1,q2,q3⟩:=k2;have hm:m∈ids:=(by simpa using h);have J:=kc9 (id:=id) (i:=m) ψ (fun (e:m=id)=>n (e ▸ hm)) 0 (ψ.val id);exact ⟨by rw [c.1,q0],qm,b,bm,by rw [c.2,q1],q2,fun e=>by rw [J.2];exact q3 (by rw [<- J.1];exact e)⟩
     | _=>cases h
    | memo Φ hi=>
     obtain ⟨q0,b,es,cl,q1,q2⟩:=k2;exact ⟨by rw [c.1,q0],b,es,cl,by rw [c.2,q1],q2⟩
    | tab g ov eo ei rows=>
     obtain ⟨q0,vs,q1,q2⟩:=k2;exact ⟨by rw [c.1,q0],vs,by rw [c.2,q1],q2⟩
    | gho cs vs=>
     obtain ⟨q0,q1,q2,q3⟩:=k2;simp only [kih] at h;exact ⟨by rw [c.1,q0],by rw [c.2,q1],by rw [c.2,q2],fun j v x hv I=>keepA (q3 j v x hv I) (qu.1 h x (qk I))⟩
    | was ψ0 ids0 S1 w0=>
     obtain ⟨q0,q1,q2,q3,q4,q5,q6⟩:=k2;refine ⟨by rw [c.1,q0],by rw [c.2,q1],by rw [c.2,q2],fun j G=>?_,q4,q5,q6⟩;have Q:j∈ids:=(by simpa using qu.1 h j G);have f:=kc9 (id:=id) (i:=j) ψ (fun e=>n (e ▸ Q)) 0 (ψ.val id);rw [f.1,f.2];exact q3 j G
 ·rw [hv] at o H;have up:∀ {i ob},kaa ((id,AObj.tab 0 ov eo ei rows)::kcv id st.heap) i=some ob->∃ ob',kaa st.heap i=some ob':=fun {i ob} h=>by
   rw [kah] at h;split at h;rename_i q;exact ⟨_,q ▸ r⟩
   ·exact ⟨_,(keq id h).2⟩
  obtain ⟨o1,g1⟩:=up ho;obtain ⟨o2,g2⟩:=up O;exact d.inj i i' o1 o2 b g1 g2 P o H
theorem k3i {ob:AObj} (h:Core F S0 N0 heap ids ψ S w) (ho:kaa heap id=some ob):Core F S0 N0 (kcv id heap) ids ψ (fun b=>S b\/Blk (ψ.val id) b) w:=by
 obtain ⟨j,e,f⟩:=h.obj id _ ho;refine ⟨fun k ob hk=>?_,fun k k' o o' b hk c d a g=>?_,fun b a=>?_,fun b a=>?_,h.n0,h.fr⟩
 ·obtain ⟨d,hk⟩:=keq id hk;obtain ⟨h1,l,i⟩:=h.obj k ob hk;refine ⟨h1,l.keep Ext.refl (fun _ h=>h) (fun b a => .inl a) (fun _ _ _=>rfl) ⟨rfl,rfl⟩ (fun _ _=>rfl),fun b a=>⟨fun hs=>?_,(i b a).2⟩⟩;rcases hs with hs | hs;exact (i b a).1 hs
  ·exact h.inj k id ob _ b hk ho d a hs
 obtain ⟨_,hk⟩:=keq id hk;obtain ⟨_,c⟩:=keq id c;exact h.inj k k' o o' b hk c d a g
 ·rcases a with a | a;exact h.lt b a
  ·exact e.lt a
 ·rcases a with a | a;exact h.s0 b a
  ·exact (f b a).2.2
theorem kw7 (r:List Value) (h:∀ u∈r,u.oneCell'=true):ElR 1 (r.map .atom):=fun x a=>by obtain ⟨u,b,rfl⟩:=qaf.1 a;exact ⟨rfl,fun y hy=>by simp [FV.cells] at hy;subst hy;exact h u b⟩
theorem kvh (r:List Value) (h:∀ u∈r,u.oneCell'=true):RowR S w 1 (r.map .atom) r:=fun i x j v y a hv hy=>by
 rw [ql,qw] at a;obtain ⟨u,b,rfl⟩:=a;have c:j=0:=by have:=(qd.1 hy).1;simp [FV.cells] at this;exact this
 subst c;simp [FV.cells] at hy;subst hy;rw [qbt,Nat.add_zero,b] at hv;cases hv;exact .atom (h _ (qk b))
theorem k6j {g:Nat} {ov:Value} {eo ei:TypeId} {rows:List (List Value)} (h:ObR ψ K S w id (.tab g ov eo ei rows)):RF (fun b=>S b\/Blk (ψ.val id) b) w ov (tabF rows):=by
 obtain ⟨t,vs,d,p,e,l,n⟩:=h;have o:∀ u b,u∈ov::vs->kar u=some b->Blk (ψ.val id) b:=fun u b q f=>by rw [d];exact .inr ⟨u,by simpa [kfa] using q,f⟩
 have c:rows.length=(rows.map fun r:List Value=>FV.lst 1 r.length (r.map .atom)).length:=by simp
 have a:∀ (j:Nat) (v:Value) (r:List Value),vs[j]?=some v->rows[j]?=some r->RF (fun b=>S b\/Blk (ψ.val id) b) w v (.lst 1 r.length (r.map .atom)):=fun j v r hv hr=>by obtain ⟨k1,k2⟩:=l j v r hv hr;have:=krr (S:=S) (r.map .atom) (by simpa using k1) (kw7 r k2) (kvh r k2);rw [qaa] at this;exact this.mono fun b f=>f.imp _root_.id fun h=>o v b (qh _ (qk hv)) h
 have m:ElR 1 (rows.map fun r:List Value=>FV.lst 1 r.length (r.map .atom)):=fun x k=>by obtain ⟨r,hr,rfl⟩:=qaf.1 k;exact ⟨rfl,fun y hy=>by simp [FV.cells] at hy;subst hy;rfl⟩
 have:=krr (S:=fun b=>S b\/Blk (ψ.val id) b) (rows.map fun r:List Value=>FV.lst 1 r.length (r.map .atom)) (by rw [<- c];exact e) m (fun i x j v y k hv hy=>by
  rw [ql,qw] at k;obtain ⟨r,hr,rfl⟩:=k;have s:j=0:=by have:=(qd.1 hy).1;simp [FV.cells] at this;exact this
  subst s;simp [FV.cells] at hy;subst hy;rw [qbt,Nat.add_zero] at hv;exact a i v r hv hr)
 rw [<- c] at this;exact this.mono fun b f=>f.elim _root_.id fun h => .inr (o ov b (qq ..) h)
inductive LendI where
 | row (t id n:Nat) (e:TypeId) (size:Nat) (xs:List FV)
 | tab (t id g:Nat) (ov:Value) (eo ei:TypeId) (rows:List (List Value)) (x:FV)
 | inn (t id g:Nat) (ov:Value) (eo ei:TypeId) (rows:List (List Value)) (i:Nat) (x:FV)
def LendI.ok (st:St):LendI->Prop
 | .row t id n e size xs=>st.get t = .row id n/\kaa st.heap id=some (.frow e size xs)/\n=xs.length
 | .tab t id g ov eo ei rows x=>st.get t = .fz (.atom ov)/\kaa st.heap id=some (.tab g ov eo ei rows)/\x=tabF rows
 | .inn t id g ov eo ei rows i x=>st.get t = .irow id g (i+1)/\kaa st.heap id=some (.tab g ov eo ei rows)/\∃ r,rows[i]?=some r/\x = .lst 1 r.length (r.map .atom)
def LendI.slot:LendI->Nat×AV
 | .row t _ n _ size xs=>(t, .fz (.lst size n xs))
 | .tab t _ _ _ _ _ _ x=>(t, .fz x)
 | .inn t _ _ _ _ _ _ _ x=>(t, .fz x)
def k66 (ls:List LendI) (st:St):St:={ st with tmps:=ls.map LendI.slot++st.tmps }
theorem kyk {e:TypeId} {size:Nat} {xs:List FV} (h:ObR ψ K S w id (.frow e size xs)):RF (fun b=>S b\/Blk (ψ.val id) b) w (ψ.val id) (.lst size xs.length xs):=by obtain ⟨h0,c,cs,a,d,hr⟩:=h;exact (krr _ a d hr (k:=c)).mono fun b f=>f.imp _root_.id .of
theorem kwx {SB:Nat->Prop}:∀ (ls:List LendI),(∀ l∈ls,l.ok st)->(∀ t,RV ψ (·∈st.ids) S w (a.tmps.getD t undef) (st.get t))->(∀ id ob,kaa st.heap id=some ob->ObR ψ (·∈st.ids) S w id ob)->(∀ id ob,kaa st.heap id=some ob->∀ b,(S b\/Blk (ψ.val id) b)->SB b)->(∀ b,S b->SB b) ->
  ∀ t,RV ψ (·∈st.ids) SB w (a.tmps.getD t undef) (look .any (ls.map LendI.slot++st.tmps) t)
 | [],_,ht,_,_,hS,t=>(ht t).mono (fun _ h=>h) hS
 | l::ls,hl,ht,q,c,hS,t=>by
  have f:=hl l (qq ..);have j:=kwx ls (fun k hk=>hl k (qh _ hk)) ht q c hS t;cases l with
  | row t' id n e size xs=>
   obtain ⟨q1,q2,rfl⟩:=f;show RV ψ (·∈st.ids) SB w _ (look .any ((t',AV.fz (.lst size xs.length xs))::(ls.map LendI.slot++st.tmps)) t);rw [kbc];split
   ·rename_i o;subst o;have hv:=ht t';rw [q1] at hv;have p:=q id _ q2;refine .fz ?_;generalize a.tmps.getD t' undef=u at hv;cases hv with
    | row hK v h1 hv=>
     rw [hv p.1.symm];exact (kyk p).mono (c id _ q2)
   ·exact j
  | tab t' id g ov eo ei rows x=>
   obtain ⟨q1,q2,rfl⟩:=f;show RV ψ (·∈st.ids) SB w _ (look .any ((t',AV.fz (tabF rows))::(ls.map LendI.slot++st.tmps)) t);rw [kbc];split;rename_i o;subst o;have hv:=ht t';rw [q1] at hv;rw [hv.atom];exact .fz ((k6j (q id _ q2)).mono (c id _ q2))
   ·exact j
  | inn t' id g ov eo ei rows i x=>
   obtain ⟨q1,q2,r,q3,rfl⟩:=f;show RV ψ (·∈st.ids) SB w _ (look .any ((t',AV.fz (.lst 1 r.length (r.map .atom)))::(ls.map LendI.slot++st.tmps)) t);rw [kbc];split
   ·rename_i o;subst o;have hv:=ht t';rw [q1] at hv;obtain ⟨D,vs,d,y,B,z,C⟩:=q id _ q2;have m:i<vs.length:=(by rw [y];exact (qd.1 q3).1);obtain ⟨k1,k2⟩:=z i vs[i] r (qa m) q3;refine .fz ?_;have s:=krr (S:=S) (r.map .atom) (by simpa using k1) (kw7 r k2) (kvh r k2);rw [qaa] at s;have s:=s.mono fun b A=>c id _ q2 b (A.imp _root_.id fun A=>by rw [d];exact .inr ⟨vs[i],by simp only [kfa];exact qh _ (qo m),A⟩);generalize a.tmps.getD t' undef=u at hv;cases hv with
    | irow hK v h1 hv=>
     have:=hv D.symm;rw [d] at this;simp only [kfa,qax] at this;rw [qa m] at this;cases this;exact s
   ·exact j
theorem kaal (ls:List LendI) {c:FV} (hl:∀ l∈ls,l.ok st) (hn:NStep P o (k66 ls st) (.fz c)) (hc:k6o c=true):NStep P o st (.fz c):=by
 intro ψ S a w ht g
 let SB:Nat->Prop:=fun b=>S b\/∃ id ob,kaa st.heap id=some ob/\Blk (ψ.val id) b
 have d:∀ id ob,kaa st.heap id=some ob->∀ b,(S b\/Blk (ψ.val id) b)->SB b:=fun id ob h b e=>e.imp _root_.id fun e=>⟨id,ob,h,e⟩;refine ki4 ?_ (hn ψ SB a w (fun t=>?_) fun id ob ho=>?_)
 ·rintro v w' ⟨k,hv⟩;refine ⟨k, .fz ?_⟩;have hv:=hv.inv;cases c with
  | atom u=>cases hv with | atom h=>exact .atom h
  | tup vs=>
   cases hv with
   | tup h hr=>
    refine .tup h fun i v x hv j=>?_;have f:=qu.1 hc x (qk j);have:=hr i v x hv j;cases x with
    | atom u=>cases this with | atom h=>exact .atom h
    | _=>cases f
  | _=>cases hc
 exact kwx ls hl (fun t=>ht t) g d (fun b h => .inl h) t
 ·exact (g id ob ho).keep Ext.refl (fun _ h=>h) (fun b e => .inl e) (fun _ _ _=>rfl) ⟨rfl,rfl⟩ fun _ _=>rfl
theorem k3z {α:Type} (enc:α->FV) (m:List (BA×α)) (s:BA) (z:α) (x y:Operand) (kt et:TypeId) (kd:TD) (zv:Value) (ho:o.op = .lookup t x y true) (K:TOk P T) (B:kad T t=some d) (hk:d.kind = .map kt et) (c:kad T kt=some kd) (l:kd.kind = .str) (inf:TypeInfo) (C:P.info? et=some inf) (D:inf.zero=some zv) (E:enc z = .atom zv) (F:zv.oneCell'=true) (M:st.eval x = .mp id:=by kernel_rfl) (G:kaa st.heap id=some (.smap (m.map fun p=>(p.1,enc p.2))):=by kernel_rfl) (hy:st.eval y = .fz (.atom (.string s)):=by kernel_rfl):NStep P o st (.fz (.tup [enc (mget m s z), .atom (.bool (mhas m s))])):=by
 intro ψ S a w ht N;have B:=K.get B;have c:=K.get c;have hv:=Sim.eval_tmps ht x;rw [M] at hv;have n:=N id _ G;have q:=k3a n hv;obtain ⟨h0,b,es,clock,g,L,H,hr⟩:=n;have f:=Sim.eval_tmps ht y;rw [hy] at f;have f:=f.atom;have I:(zeroValue et).run P w = .ok zv w:=by simp [zeroValue,typeInfo,C,D]
 have r:=MapKept.run_checkKey (w:=w) (c.str l) (k := .string s) trivial es.isEmpty 9999;have two:∀ {v:Value} {x:FV} {ok:Bool},RF (fun b=>S b\/w.heap.size<=b) w v x->RF (fun b=>S b\/w.heap.size<=b) w (.tuple #[v, .bool ok]) (.tup [x, .atom (.bool ok)]):=fun {v x ok} h => .tup rfl fun i u y A hy=>by
  match i with
  | 0=>simp at A hy;subst A hy;exact h
  | 1=>simp at A hy;subst A hy;exact .atom rfl
  | i+2=>simp at A
 rcases koa s (R:=fun v x=>RF S w v x) es.toList (m.map fun p=>(p.1,enc p.2)) 0 (by simpa using H) (fun j e p O hp=>hr j e p (by simpa using O) hp) with ⟨f1,f2⟩ | ⟨j,v,x',f1,f2,f3⟩
 ·have hf:=MapKept.run_findKey (w:=w) (c.str l) f1;have J:mhas m s=false:=by rw [<- kyu enc];unfold mhas;rw [f2];rfl
  refine kaf w (.tuple #[zv, .bool false]) ?_ ⟨kai _, .fz ?_⟩;simp [execOp,ho,f,q,g,Instr.lookup,run_underlying (B.mp hk),MapKept.run_getObj_map L,r,hf,I]
  ·rw [J];refine two ?_;rw [<- kxw enc];unfold mget;rw [f2];simp only;rw [E];exact .atom F
 ·have hf:=MapKept.run_findKey (w:=w) (c.str l) f1;have J:mhas m s=true:=by rw [<- kyu enc];unfold mhas;rw [f2];rfl
  refine kaf w (.tuple #[v, .bool true]) ?_ ⟨kai _, .fz ?_⟩;simp [execOp,ho,f,q,g,Instr.lookup,run_underlying (B.mp hk),MapKept.run_getObj_map L,r,hf]
  ·rw [J];refine two ?_;rw [<- kxw enc];unfold mget;rw [f2];exact f3.mono fun _ h => .inl h
theorem ko8 {t id n:Nat} {e:TypeId} {size:Nat} {xs:List FV} (h1:st.get t = .row id n) (a:kaa st.heap id=some (.frow e size xs)) (b:n=xs.length):LendI.ok st (.row t id n e size xs):=⟨h1,a,b⟩
theorem kpu:∀ l∈([]:List LendI),l.ok st:=fun l h=>by cases h
theorem kn7 {l:LendI} {ls:List LendI} (h:l.ok st) (hs:∀ k∈ls,k.ok st):∀ k∈l::ls,k.ok st:=fun k hk=>by
 rcases qat.1 hk with rfl | hk;exact h
 ·exact hs k hk
def cut3 {α:Type} (xs:List α) (l h m:Int):Option (List α):=if 0<=l/\l<=h/\h<=m/\m<=xs.length then some ((xs.take h.toNat).drop l.toNat) else none
theorem RF.take3 {A:Option Addr} {cap n size:Nat} {xs:List FV} (h:RF S w (.slice A n cap) (.lst size n xs)) (lo hi m:Nat) (h1:lo<=hi) (f:hi<=n) (g:hi<=m) (k:m<=cap):RF S w (.slice (if m=lo then A else A.map (·.add (lo*size))) (hi - lo) (m - lo)) (.lst size (hi - lo) ((xs.take hi).drop lo)):=by
 obtain ⟨A0,cap0,css,hv,hn,hc,hm,hs,ha,hl,hr⟩:=h.lst_inv;injection hv with e1 _ e3;subst e1 e3;have c:(xs.take hi).length=hi:=by rw [qav];omega
 have get:∀ (i:Nat) (x:FV),((xs.take hi).drop lo)[i]?=some x->xs[lo+i]?=some x:=fun i x a=>by
  rw [qan,qad] at a;split at a;exact a
  ·cases a
 refine .lst (fun i=>css (lo+i)) (by rw [qba,c]) (by omega) (by omega) hs (fun i x a=>?_) (fun i x a=>hl _ x (get i x a)) fun i x j v y a hv hy=>hr _ x j v y (get i x a) hv hy;obtain ⟨b,o,hA,hS,d⟩:=ha _ x (get i x a);have e:=(qd.1 a).1;rw [qba,c] at e;refine ⟨b,o+lo*size,?_,hS,by rw [Nat.add_assoc,<- qbi];exact d⟩;rw [qj (by omega),hA];simp only [qaw,kbo]
theorem k7u {α:Type} (enc:α->FV) (x y m:Operand) (lo:Option Operand) (l:Option Int) (h:Int) (xs:List α) {r:List α} (size:Nat) (e:TypeId) (de:TD) (k1 k2:IntKind) (hc:cut3 xs (l.getD 0) h h=some r) (p:TOk P T) (ho:o.op = .slice t x lo (some y) (some m):=by kernel_rfl) (s:kad T t=some d:=by kernel_rfl) (hk:d.kind = .slice e:=by kernel_rfl) (f:kad T e=some de:=by kernel_rfl) (g:de.size=size:=by kernel_rfl) (u:st.eval x = .fz (eL size enc xs):=by kernel_rfl) (hl:kqj st lo=some l:=by kernel_rfl) (z:st.eval y = .fz (.atom (.int k1 h)):=by kernel_rfl) (hm:st.eval m = .fz (.atom (.int k2 h)):=by kernel_rfl):NStep P o st (.lim size r.length (r.map enc)):=by
 intro ψ S a w ht F;have h1:=Sim.eval_tmps ht x;rw [u] at h1;have bl:=kq1 ht hl;have b:=Sim.eval_tmps ht y;rw [z] at b;have b:=b.atom;have c:=Sim.eval_tmps ht m;rw [hm] at c;have c:=c.atom;unfold cut3 at hc;split at hc
 ·rename_i q;injection hc with hc;subst hc;have h1:=h1.inv;obtain ⟨A,cap,css,hv,hn,B,C,hs,ha,D,hr⟩:=h1.lst_inv;rw [hv] at h1;have i:((xs.take h.toNat).drop (l.getD 0).toNat).length=h.toNat - (l.getD 0).toNat:=by rw [qba,qav];omega
  rw [i];have j:=h1.take3 (l.getD 0).toNat h.toNat h.toNat (by omega) (by omega) (by omega) (by omega);refine kaf w (.slice (if h.toNat=(l.getD 0).toNat then A else A.map (·.add ((l.getD 0).toNat*size))) (h.toNat - (l.getD 0).toNat) (h.toNat - (l.getD 0).toNat)) ?_ ⟨kai _,(RV.lim ?_).here⟩
  ·have E:=(p.get s).slice hk;have e1:(Instr.sliceBounds true xs.length cap (lo.map a.eval) ((some y).map a.eval) ((some m).map a.eval)).run P w = .ok ((l.getD 0).toNat,h.toNat,h.toNat) w:=by
    unfold Instr.sliceBounds;have q1:0<=h:=(by omega);have q2:h<=(cap:Int):=(by omega);have q3:0<=h:=(by omega);have q4:h<=(h.toNat:Int):=(by omega);rcases bl with ⟨rfl,rfl⟩ | ⟨y',k',n',rfl,rfl,k⟩;simp [Instr.sliceBound,b,c,asIntOf,q1,q2,q3,q4];intro hc;exfalso;omega
    ·simp only [qam] at q ⊢;have q5:n'<=(h.toNat:Int):=(by omega);simp [Instr.sliceBound,b,c,k,asIntOf,q1,q2,q3,q4,q5,q.1];rw [qn (by omega),qn (by omega)]
   have n:(sizeOf e).run P w = .ok size w:=(by rw [(p.get f).size,g]);simp only [qaw] at e1;simp [execOp,ho,Instr.sliceAt,Instr.slice,run_underlying E,hv,e1,n]
  ·rw [List.map_drop,List.map_take];exact j
 ·cases hc
end Go.Proofs.YtnlhjbnpjefjgaaGreatDoor
