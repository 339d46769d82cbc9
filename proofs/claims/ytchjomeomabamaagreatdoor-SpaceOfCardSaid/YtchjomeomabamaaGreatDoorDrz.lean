import Derived.Test.YtchjomeomabamaaGreatDoorOpm
import Derived.MapKept
import Derived.Laws.OwnMore
import Derived.Recover
import Derived.Laws.CopyRow
import Derived.Laws.IdiomCopy
set_option linter.all false
namespace Go.Proofs.YtchjomeomabamaaGreatDoor
open Go Go.RowKit
def kq0 (id:Nat):AV->List Nat
 | .row k m=>bif Nat.beq k id then [m] else []
 | _=>[]
def k0j (id:Nat):AV->List Nat
 | .agg cs=>cs.flatMap (kq0 id)
 | .fn _ cs=>cs.flatMap (kq0 id)
 | y=>kq0 id y
def kup (id:Nat):AV->List Nat
 | .tup cs=>cs.flatMap (k0j id)
 | y=>k0j id y
def kw7 (id:Nat):AObj->List Nat
 | .box _ cs=>cs.flatMap (kq0 id)
 | _=>[]
def frz1 (id:Nat) (x:FV):AV->AV
 | .row k m=>bif Nat.beq k id then .fz x else .row k m
 | y=>y
def frzG (id:Nat) (x:FV):AV->AV
 | .agg cs=>aggA (cs.map (frz1 id x))
 | .fn f cs => .fn f (cs.map (frz1 id x))
 | y=>frz1 id x y
def frzT (id:Nat) (x:FV):AV->AV
 | .tup cs=>tupA (cs.map (frzG id x))
 | y=>frzG id x y
def frzO (id:Nat) (x:FV):AObj->AObj
 | .box e cs => .box e (cs.map (frz1 id x))
 | y=>y
def k7o (id:Nat) (st:St):List Nat:=st.tmps.flatMap (fun p=>kup id p.2)++(kdz id st.heap).flatMap (fun p=>kw7 id p.2)
def frzSt (id:Nat) (x:FV) (st:St):St:={ dfr:=st.dfr,n:=st.n,tmps:=st.tmps.map (fun p=>(p.1,frzT id x p.2)),heap:=(kdz id st.heap).map (fun p=>(p.1,frzO id x p.2)),ids:=st.ids }
section
variable {F S0:Nat->Prop} {N0:Nat} {w:World} {S:Nat->Prop} {ψ:Env} {K:Nat->Prop} {id n:Nat} {x:FV} {st:St}
theorem kve (a:∀ v,RV ψ K S w v (.row id n)->RF S w v x) {v:Value} {y:AV} (h:RV ψ K S w v y) (hr:∀ m∈kq0 id y,m=n):RV ψ K S w v (frz1 id x y):=by
 cases y with
 | row k m=>
  simp only [frz1];cases b:Nat.beq k id with
  | false=>exact h
  | true=>
   have hk:=qk b;subst hk;have hm:m=n:=hr m (by simp [kq0]);subst hm;exact .fz (a v h)
 | _=>exact h
theorem kvl (hs:x.single=true) {y:AV} (h:y.single=true):(frz1 id x y).single=true:=by
 cases y with
 | row k m=>
  simp only [frz1];cases Nat.beq k id with
  | false=>exact h
  | true=>exact hs
 | _=>exact h
theorem kur {α β γ:Type} (R:α->γ->Prop) {Q:α->γ->Prop} {f:β->γ} {R':α->β->Prop} {cs:Array α} {xs:List β} (hr:∀ (i:Nat) (v:α) (y:β),cs[i]?=some v->xs[i]?=some y->R' v y) (hf:∀ v y,y∈xs->R' v y->Q v (f y)):
  ∀ (i:Nat) (v:α) (y:γ),cs[i]?=some v->(xs.map f)[i]?=some y->Q v y:=by
 intro i v y hv hy;simp only [qr,qu] at hy;obtain ⟨z,a,rfl⟩:=hy;exact hf v z (qo a) (hr i v z hv a)
theorem ku1 (hs:x.single=true) (b:∀ v,RV ψ K S w v (.row id n)->RF S w v x) {v:Value} {y:AV} (h:RV ψ K S w v y) (hr:∀ m∈k0j id y,m=n):RV ψ K S w v (frzG id x y):=by
 cases y with
 | agg cs=>
  cases h with
  | agg h h1 a=>
   refine RV.aggA (by simpa using h) (fun y hy=>?_) (kur (fun _ _=>True) a fun v y hy hv=>kve b hv fun m hm=>hr m ?_);simp only [qad] at hy;obtain ⟨z,c,rfl⟩:=hy;exact kvl hs (h1 z c)
   ·exact qbe.2 ⟨y,hy,hm⟩
 | fn f cs=>
  cases h with
  | fn h a=>exact .fn (by simpa using h) (kur (fun _ _=>True) a fun v y hy hv=>kve b hv fun m hm=>hr m (qbe.2 ⟨y,hy,hm⟩))
 | row k m=>exact kve b h hr
 | _=>exact h
theorem kadf (hs:x.single=true) (a:∀ v,RV ψ K S w v (.row id n)->RF S w v x) {v:Value} {y:AV} (h:RV ψ K S w v y) (hr:∀ m∈kup id y,m=n):RV ψ K S w v (frzT id x y):=by
 cases y with
 | tup cs=>
  cases h with
  | tup h b=>exact RV.tupA (by simpa using h) (kur (fun _ _=>True) b fun v y hy hv=>ku1 hs a hv fun m hm=>hr m (qbe.2 ⟨y,hy,hm⟩))
 | agg cs=>exact ku1 hs a h hr
 | fn f cs=>exact ku1 hs a h hr
 | row k m=>exact ku1 hs a h hr
 | _=>exact h
theorem k9p (l:List (Nat×AV)) (t:Nat):look .any (l.map fun p=>(p.1,frzT id x p.2)) t=frzT id x (look .any l t)/\∀ m∈kup id (look .any l t),m∈l.flatMap (fun p=>kup id p.2):=by
 induction l with
 | nil=>exact ⟨rfl,fun m hm=>by cases hm⟩
 | cons p l ih=>
  obtain ⟨k,v⟩:=p;simp only [qas,kbj,List.flatMap_cons,qab];by_cases h:k=t;simp only [qp h];exact ⟨trivial,fun m hm => .inl hm⟩
  ·simp only [ql h];exact ⟨ih.1,fun m hm => .inr (ih.2 m hm)⟩
theorem ktr (id:Nat) (x:FV) (l:List (Nat×AObj)) (t:Nat):kaa (l.map fun p=>(p.1,frzO id x p.2)) t=(kaa l t).map (frzO id x)/\∀ o,kaa l t=some o->∀ m∈kw7 id o,m∈l.flatMap (fun p=>kw7 id p.2):=by
 induction l with
 | nil=>exact ⟨rfl,fun o h=>by cases h⟩
 | cons p l ih=>
  obtain ⟨k,v⟩:=p;simp only [qas,kae,List.flatMap_cons,qab];by_cases h:k=t;simp only [qp h];exact ⟨rfl,fun o ho m hm=>by injection ho with ho;subst ho;exact .inl hm⟩
  ·simp only [ql h];exact ⟨ih.1,fun o ho m hm => .inr (ih.2 o ho m hm)⟩
theorem kxd (id:Nat) (n k:Nat) (e:TypeId) (size:Nat) (xs:List FV) (g:k7o id st=List.replicate k n:=by kernel_rfl) (f:kaa st.heap id=some (.frow e size xs):=by kernel_rfl) (hn:n=xs.length:=by simp):LeSt st (frzSt id (.lst size n xs) st):=by
 subst hn;intro F S0 N0 ψ S a w hs;obtain ⟨c1,c2⟩:=knt hs.core f;have d:∀ m∈k7o id st,m=xs.length:=fun m hm=>by rw [g] at hm;exact (List.mem_replicate.1 hm).2
 have h0:=(hs.core.obj id _ f).2.1.1;have s:∀ v,RV ψ (·∈st.ids) (fun b=>S b\/ka3 (ψ.val id)=some b) w v (.row id xs.length)->RF (fun b=>S b\/ka3 (ψ.val id)=some b) w v (.lst size xs.length xs):=by
  intro v hv;cases hv with
  | row hK A h1 hv=>rw [hv (by rw [h0])];exact c2
 refine ⟨ψ,_,hs.defers,hs.size,fun t=>?_,⟨fun i o ho=>?_,fun i i' o o' b ho c q B=>?_,c1.lt,c1.s0,c1.n0,c1.fr⟩⟩;obtain ⟨l1,l2⟩:=k9p (id:=id) (x := .lst size xs.length xs) st.tmps t;show RV ψ (·∈st.ids) _ w (a.tmps.getD t undef) (look .any (st.tmps.map fun p=>(p.1,frzT id (.lst size xs.length xs) p.2)) t);rw [l1];refine kadf rfl s ((hs.tmps t).mono (fun _ h=>h) fun _ h => .inl h) fun m hm=>d m ?_;exact qab.2 (.inl (l2 m hm))
 ·obtain ⟨l1,l2⟩:=ktr id (.lst size xs.length xs) (kdz id st.heap) i;have c:kaa ((kdz id st.heap).map fun p=>(p.1,frzO id (.lst size xs.length xs) p.2)) i=some o:=ho;rw [l1,qu] at c;obtain ⟨o',h1,rfl⟩:=c;obtain ⟨k1,k2,k7⟩:=c1.obj i o' h1;refine ⟨k1,?_,k7⟩;cases o' with
  | box e2 cells=>
   obtain ⟨g0,b,cs,g2,g3,g4,g5,g6⟩:=k2;refine ⟨g0,b,cs,g2,g3,by simpa using g4,fun y hy=>?_,kur (fun _ _=>True) g6 fun v y hy hv=>kve s hv fun m hm=>d m ?_⟩;simp only [qad] at hy;obtain ⟨z,C,rfl⟩:=hy;exact kvl rfl (g5 z C)
   ·exact qab.2 (.inr (l2 _ h1 m (qbe.2 ⟨y,hy,hm⟩)))
  | _=>exact k2
 ·obtain ⟨l1,_⟩:=ktr id (.lst size xs.length xs) (kdz id st.heap) i;obtain ⟨l2,_⟩:=ktr id (.lst size xs.length xs) (kdz id st.heap) i';have j:kaa ((kdz id st.heap).map fun p=>(p.1,frzO id (.lst size xs.length xs) p.2)) i=some o:=ho;have l:kaa ((kdz id st.heap).map fun p=>(p.1,frzO id (.lst size xs.length xs) p.2)) i'=some o':=c;rw [l1,qu] at j;rw [l2,qu] at l;obtain ⟨u,hu,_⟩:=j;obtain ⟨u',r,_⟩:=l;exact c1.inj i i' u u' b hu r q B
end
def kgo {α:Type} (s:BA):List (BA×α)->Nat->Option (Nat×α)
 | [],_=>none
 | (k,v)::l,i=>bif s.toList == k.toList then some (i,v) else kgo s l (i+1)
def mget {α:Type} (m:List (BA×α)) (s:BA) (z:α):α:=match kgo s m 0 with
 | some (_,x)=>x
 | none=>z
def mhas {α:Type} (m:List (BA×α)) (s:BA):Bool:=(kgo s m 0).isSome
def mput {α:Type} (m:List (BA×α)) (s:BA) (y:α):List (BA×α):=match kgo s m 0 with
 | some (j,_)=>m.set j (s,y)
 | none=>m++[(s,y)]
theorem kj9 (a b:BA):(a.toList == b.toList)=(a == b):=by
 rw [Bool.eq_iff_iff,beq_iff_eq,MapKept.bytes_beq,ByteArray.toList_eq,ByteArray.toList_eq];constructor;intro h;exact ByteArray.ext (Array.toList_inj.1 h)
 ·intro h;rw [h]
theorem kn6 {α β:Type} (f:α->β) (s:BA):∀ (m:List (BA×α)) (i:Nat),kgo s (m.map fun p=>(p.1,f p.2)) i=(kgo s m i).map fun p=>(p.1,f p.2)
 | [],_=>rfl
 | (k,v)::l,i=>by
  simp only [qas,kgo];cases s.toList == k.toList with
  | true=>rfl
  | false=>exact kn6 f s l (i+1)
theorem ksu {α β:Type} (f:α->β) (m:List (BA×α)) (s:BA) (z:α):mget (m.map fun p=>(p.1,f p.2)) s (f z)=f (mget m s z):=by
 unfold mget;rw [kn6];cases kgo s m 0 with
 | none=>rfl
 | some p=>rfl
theorem k3c {α β:Type} (f:α->β) (m:List (BA×α)) (s:BA):mhas (m.map fun p=>(p.1,f p.2)) s=mhas m s:=by
 unfold mhas;rw [kn6];cases kgo s m 0 with
 | none=>rfl
 | some p=>rfl
theorem k2l {α:Type} {s:BA}:∀ {m:List (BA×α)} {i j:Nat} {x:α},kgo s m i=some (j,x)->i<=j/\j - i<m.length/\∃ k,m[j - i]?=some (k,x)/\k=s
 | [],i,j,x,h=>by cases h
 | (k,v)::l,i,j,x,h=>by
  simp only [kgo] at h;cases a:s.toList == k.toList with
  | true=>
   rw [a] at h;simp only [qe,qc,qq] at h;obtain ⟨rfl,rfl⟩:=h;rw [kj9,MapKept.bytes_beq] at a;exact ⟨qx _,by simp,k,by simp,a.symm⟩
  | false=>
   rw [a] at h;obtain ⟨h1,d,k',b,c⟩:=k2l h;have e:j - i=(j - (i+1))+1:=(by omega);exact ⟨by omega,by simp;omega,k',by rw [e,List.getElem?_cons_succ];exact b,c⟩
section
variable {P:Program} {F S0:Nat->Prop} {N0:Nat} {w w':World} {S S':Nat->Prop} {ψ:Env} {K:Nat->Prop} {T:List (TypeId×TD)} {o:Oper} {a:Act} {st:St} {t:TypeId} {d:TD} {id:Nat}
theorem knn (s:BA) {R:Value->FV->Prop}:∀ (es:List MapEntry) (kv:List (BA×FV)) (i:Nat),es.length=kv.length->(∀ (j:Nat) (e:MapEntry) (p:BA×FV),es[j]?=some e->kv[j]?=some p->e.key = .string p.1/\R e.val p.2) ->
  (Instr.findNow .string (.string s) es i=some none/\kgo s kv i=none)\/∃ j v x,Instr.findNow .string (.string s) es i=some (some (j,v))/\kgo s kv i=some (j,x)/\R v x
 | [],[],i,_,_ => .inl ⟨rfl,rfl⟩
 | [],p::kv,i,h,_=>by cases h
 | e::es,[],i,h,_=>by cases h
 | e::es,(k,x)::kv,i,h,hr=>by
  obtain ⟨hk,hv⟩:=hr 0 e (k,x) rfl rfl;simp only [Instr.findNow,hk,Instr.sameNow,kgo,kj9];cases b:s == k with
  | true=>exact .inr ⟨i,e.val,x,rfl,rfl,hv⟩
  | false=>exact knn s es kv (i+1) (by simpa using h) fun j e p a hp=>hr (j+1) e p (by simpa using a) (by simpa using hp)
theorem TdOk.mp {k e:Nat} (h:TdOk P t d) (hk:d.kind = .map k e):P.underlying t=some (.map k e):=by obtain ⟨_,e',h1,a⟩:=h;rw [hk] at a;cases e' <;> simp [kh8] at a;rw [h1,a.1,a.2]
theorem ky7 (ho:o.op = .makeMap t none:=by kernel_rfl) (d:st.ids.contains id=false:=by kernel_rfl):kau P o st (.mp id) ((id, .smap [])::st.heap) (id::st.ids):=by
 have d:id∉st.ids:=by simpa using d
 intro F S0 N0 ψ S a w f;have c:=f.core;refine kaf (w.alloc (.map #[] 0)) (.map (some w.heap.size)) ?_ ⟨ψ.set id 0 (.map (some w.heap.size)),S,?_,?_,kjs _ c.fr,kdw d _ _,fun _ h=>qj _ h,fun _ h=>h,Same.of_grow (kbr _ _)⟩;simp [execOp,ho,Instr.makeMap];exact c.add (kbr _ _) d (fun b g=>by simp [ka3] at g;omega) ⟨kct _ _,w.heap.size,_,_,kav _ _,heap_alloc_new w _,rfl,fun i e p j hp=>by simp at j⟩
 ·exact .mp (qn ..) rfl fun _=>by rw [kav]
theorem k19 {kv:List (BA×FV)} {v:Value} (hs:ObR ψ K S w id (.smap kv)) (hv:RV ψ K S w v (.mp id)):v=ψ.val id:=by
 cases hv with
 | mp hK h1 hv=>exact hv hs.1.symm
theorem k9a {α:Type} (enc:α->FV) (m:List (BA×α)) (s:BA) (z:α) (x y:Operand) (kt et:TypeId) (kd:TD) (zv:Value) (ho:o.op = .lookup t x y false) (G:TOk P T) (r:kad T t=some d) (hk:d.kind = .map kt et) (c:kad T kt=some kd) (i:kd.kind = .str) (inf:TypeInfo) (u:P.info? et=some inf) (A:inf.zero=some zv) (B:enc z = .atom zv) (C:zv.oneCell'=true) (I:st.eval x = .mp id:=by kernel_rfl) (D:kaa st.heap id=some (.smap (m.map fun p=>(p.1,enc p.2))):=by kernel_rfl) (hy:st.eval y = .fz (.atom (.string s)):=by kernel_rfl):NStep P o st (.fz (enc (mget m s z))):=by
 intro ψ S a w ht J;have r:=G.get r;have c:=G.get c;have hv:=Sim.eval_tmps ht x;rw [I] at hv;have l:=J id _ D;have n:=k19 l hv;obtain ⟨h0,b,es,clock,g,H,E,hr⟩:=l;have f:=Sim.eval_tmps ht y;rw [hy] at f;have f:=f.atom;have F:(zeroValue et).run P w = .ok zv w:=by simp [zeroValue,typeInfo,u,A]
 have q:=MapKept.run_checkKey (w:=w) (c.str i) (k := .string s) trivial es.isEmpty 9999;rcases knn s (R:=fun v x=>RF S w v x) es.toList (m.map fun p=>(p.1,enc p.2)) 0 (by simpa using E) (fun j e p K hp=>hr j e p (by simpa using K) hp) with ⟨f1,f2⟩ | ⟨j,v,x',f1,f2,f3⟩
 ·have hf:=MapKept.run_findKey (w:=w) (c.str i) f1;refine kaf w zv ?_ ⟨kag _, .fz ?_⟩;simp [execOp,ho,f,n,g,Instr.lookup,run_underlying (r.mp hk),MapKept.run_getObj_map H,q,hf,F]
  ·rw [<- ksu enc];unfold mget;rw [f2];simp only;rw [B];exact .atom C
 ·have hf:=MapKept.run_findKey (w:=w) (c.str i) f1;refine kaf w v ?_ ⟨kag _, .fz ?_⟩;simp [execOp,ho,f,n,g,Instr.lookup,run_underlying (r.mp hk),MapKept.run_getObj_map H,q,hf]
  ·rw [<- ksu enc];unfold mget;rw [f2];exact f3.mono fun _ h => .inl h
theorem kvn {α:Type} (enc:α->FV) (m:List (BA×α)) (s:BA) (z:α) (x y v:Operand) (kt et:TypeId) (kd:TD) (hT:TOk P T) (Z:kad T t=some d) (l:kad T kt=some kd) (I:kd.kind = .str:=by kernel_rfl) (hx:st.eval x = .mp id:=by kernel_rfl) (K:kaa st.heap id=some (.smap (m.map fun p=>(p.1,enc p.2))):=by kernel_rfl) (hy:st.eval y = .fz (.atom (.string s)):=by kernel_rfl) (hv:st.eval v = .fz (enc z):=by kernel_rfl) (ho:o.op = .mapUpdate t x y v:=by kernel_rfl) (hk:d.kind = .map kt et:=by kernel_rfl):kau P o st .any ((id, .smap ((mput m s z).map fun p=>(p.1,enc p.2)))::st.heap) st.ids:=by
 intro F S0 N0 ψ S a w D;have Z:=hT.get Z;have l:=hT.get l;have r:=D.core;obtain ⟨ag,L,aa⟩:=r.obj id _ K;have M:=D.eval x;rw [hx] at M;have N:=k19 L M;obtain ⟨h0,b,es,clock,g,E,A,hr⟩:=L;have B:=D.eval y;rw [hy] at B;have B:=B.atom;have C:=D.eval v;rw [hv] at C;have C:=C.inv;have O:=MapKept.run_checkKey (w:=w) (l.str I) (k := .string s) trivial false 9999;have G:ψ.set id 0 (ψ.val id)=ψ:=by
  unfold Env.set;congr 1
  ·funext i;split;rename_i h;rw [h,h0]
   ·rfl
  ·funext i;split;rename_i h;rw [h]
   ·rfl
 have main:∀ (es':Array MapEntry) (clock':Nat),es'.size=(mput m s z).length ->
   (∀ (i:Nat) (e:MapEntry) (p:BA×FV),es'[i]?=some e->((mput m s z).map fun p=>(p.1,enc p.2))[i]?=some p->e.key = .string p.1/\RF S w e.val p.2) ->
   (execOp a.eval o).run P w = .ok .skip { w with heap:=w.heap.setIfInBounds b (.map es' clock') } ->
   keg P o a w fun v w'=>∃ ψ' S',Core F S0 N0 ((id, .smap ((mput m s z).map fun p=>(p.1,enc p.2)))::st.heap) st.ids ψ' S' w'/\RV ψ' (·∈st.ids) S' w' v .any/\Fr F w w'/\Ext (·∈st.ids) ψ ψ'/\(∀ id,id∈st.ids->id∈st.ids)/\(∀ b,S b->S' b)/\Same S w w':=by
  intro es' clock' Q ab U;obtain ⟨g1,g2⟩:=MapKept.heap_set (o' := .map es' clock') E;have af:({ w with heap:=w.heap.setIfInBounds b (.map es' clock') }:World).heap.size=w.heap.size:=by simp
  have H:∀ k,k<w.heap.size->¬ Blk (ψ.val id) k->({ w with heap:=w.heap.setIfInBounds b (.map es' clock') }:World).heap[k]?=w.heap[k]?:=fun k _ hk=>g2 k fun e=>hk (.of (by rw [g,e];rfl));have hk:Same S w { w with heap:=w.heap.setIfInBounds b (.map es' clock') }:=fun k hk hl=>H k hl fun e=>(aa k e).1 hk;obtain ⟨c1,c2,c3⟩:=r.upd (n:=0) (v:=ψ.val id) (w':={ w with heap:=w.heap.setIfInBounds b (.map es' clock') }) (ob' := .smap ((mput m s z).map fun p=>(p.1,enc p.2))) K (by omega) H (.inr ⟨h0,rfl⟩) (fun b E => .inl E) (by rw [G];refine ⟨h0,b,es',clock',g,g1,by simpa using Q,fun i e p c hp=>?_⟩;obtain ⟨q1,q2⟩:=ab i e p c hp;exact ⟨q1,q2.keep hk⟩);rw [G] at c1;exact km4 U ⟨ψ,S,c1, .any,⟨rfl,rfl,rfl,by omega,c3⟩,Ext.refl,fun _ h=>h,fun _ h=>h,c2⟩
 have ac:∀ (j:Nat) (e:MapEntry) (p:BA×FV),es.toList[j]?=some e->(m.map fun p=>(p.1,enc p.2))[j]?=some p->e.key = .string p.1/\RF S w e.val p.2:=fun j e p c hp=>hr j e p (by simpa using c) hp;rcases knn s (R:=fun v x=>RF S w v x) es.toList (m.map fun p=>(p.1,enc p.2)) 0 (by simpa using A) ac with ⟨f1,f2⟩ | ⟨j,u,x',f1,f2,f3⟩
 ·have hf:=MapKept.run_findKey (w:=w) (l.str I) f1;have ad:kgo s m 0=none:=by
   rw [kn6] at f2;cases hq:kgo s m 0 with
   | none=>rfl
   | some q=>rw [hq] at f2;cases f2
  have f:mput m s z=m++[(s,z)]:=by unfold mput;rw [ad]
  refine main (es.push { key := .string s,val:=a.eval v,born:=clock }) (clock+1) (by rw [f];simpa using A) (fun i e p c hp=>?_) ?_
  ·rw [f,qaw] at hp;rw [Array.getElem?_push] at c;have V:es.size=(m.map fun p=>(p.1,enc p.2)).length:=A;by_cases hi:i=es.size;rw [qp hi] at c;injection c with c;subst c;rw [qak (by omega),hi,V,Nat.sub_self] at hp;simp only [qas,List.map_nil,List.getElem?_cons_zero,qc] at hp;subst hp;exact ⟨rfl,C⟩
   ·rw [ql hi] at c;have ah:i<es.size:=(qbb.1 c).1;rw [qy (by omega)] at hp;exact hr i e p c hp
  ·simp [execOp,ho,B,N,g,Instr.mapUpdate,run_underlying (Z.mp hk),MapKept.run_getObj_map E,O,hf,MapKept.run_setObj_map _ E]
 ·have hf:=MapKept.run_findKey (w:=w) (l.str I) f1;rw [kn6,qu] at f2;obtain ⟨⟨j',x0⟩,f4,f5⟩:=f2;simp only [qq] at f5;obtain ⟨rfl,rfl⟩:=f5;obtain ⟨_,l2,k,l3,rfl⟩:=k2l f4;simp only [Nat.sub_zero] at l2 l3;have f:mput m k z=m.set j' (k,z):=by unfold mput;rw [f4]
  have ae:j'<es.size:=by rw [A,qaa];exact l2
  have J:es[j']?=some es[j']:=qby ae;have X:es[j'].key = .string k:=(hr j' _ (k,enc x0) J (by rw [qr,l3];rfl)).1;refine main (es.modify j' fun e=>{ e with key := .string k,val:=a.eval v }) clock (by rw [f];simpa using A) (fun i e p c hp=>?_) ?_
  ·rw [f,List.map_set] at hp;rw [Array.getElem?_modify] at c;by_cases hi:j'=i;subst hi;rw [qp rfl,J] at c;simp only [qax,qc] at c;subst c;rw [List.getElem?_set_self (by rw [qaa];exact l2)] at hp;injection hp with hp;subst hp;exact ⟨rfl,C⟩
   ·rw [ql hi] at c;rw [List.getElem?_set_ne hi] at hp;exact hr i e p c hp
  ·have Y:(Instr.keyThatStays (((es[j']?).map (·.key)).getD (.string k)) (.string k)).run P w = .ok (.string k) w:=(by rw [J];simp only [qax,qah,X];exact MapKept.run_keyThatStays (d := .string) trivial);simp [execOp,ho,B,N,g,Instr.mapUpdate,run_underlying (Z.mp hk),MapKept.run_getObj_map E,O,hf,MapKept.run_setObj_map _ E];simp [Y,MapKept.run_setObj_map _ E]
end
mutual
def depV:Va->Nat
 | .mk _ _ _ l=>kq8 l+1
def kq8:List Va->Nat
 | []=>0
 | x::l=>Nat.max (depV x) (kq8 l)
end
variable {P:Program} {F S0:Nat->Prop} {N0:Nat} {w w':World} {S S':Nat->Prop} {ψ:Env} {K:Nat->Prop} {T:List (TypeId×TD)} {o:Oper} {a:Act} {st:St} {t:TypeId} {d:TD}
def mkL {α:Type} (bytes:Nat) (z:α) (n:Int):Option (List α):=if 0<=n/\(bytes:Int)*n<=281474976710656/\n<=9223372036854775807 then some (List.replicate n.toNat z) else none
theorem kaaa {α:Type} {bytes:Nat} {z:α} {n:Int} {xs:List α} (h:mkL bytes z n=some xs):xs=List.replicate n.toNat z/\0<=n/\(bytes:Int)*n<=281474976710656/\n<=9223372036854775807:=by
 unfold mkL at h;split at h;rename_i hc;injection h with h;exact ⟨h.symm,hc⟩
 ·cases h
section
variable {P:Program} {F S0:Nat->Prop} {N0:Nat} {w w':World} {S S':Nat->Prop} {ψ:Env} {K:Nat->Prop} {T:List (TypeId×TD)} {o:Oper} {a:Act} {st:St} {t:TypeId} {d:TD} {id:Nat}
theorem kw2 (t:TypeId) (d:TD) (id:Nat) {α:Type} (enc:α->FV) {bytes:Nat} {z:α} {n:Int} {xs:List α} (X Y:Operand) (e:TypeId) (de:TD) (k k':IntKind) (zv:Value) (h:mkL bytes z n=some xs) (O:TOk P T:=by exact kak) (q:st.eval X = .fz (.atom (.int k n)):=by kernel_rfl) (hy:st.eval Y = .fz (.atom (.int k' n)):=by kernel_rfl) (f:st.ids.contains id=false:=by kernel_rfl) (ho:o.op = .makeSlice t X Y:=by kernel_rfl) (E:kad T t=some d:=by kernel_rfl) (hk:d.kind = .slice e:=by kernel_rfl) (m:kad T e=some de:=by kernel_rfl) (G:de.size=1:=by rfl) (H:de.zero=[zv]:=by rfl) (r:enc z = .atom zv:=by rfl) (s:zv.oneCell'=true:=by rfl) (I:de.bytes=bytes:=by rfl):
  kau P o st (.row id xs.length) ((id, .frow e 1 (xs.map enc))::st.heap) (id::st.ids):=by
 have f:id∉st.ids:=by simpa using f
 obtain ⟨rfl,h0,J,K⟩:=kaaa h;have E:=O.get E;have m:=O.get m;subst I;intro F S0 N0 ψ S a w p;have g:=p.eval X;rw [q] at g;have g:=g.atom;have l:=p.eval Y;rw [hy] at l;have l:=l.atom;obtain ⟨⟨i,z',hi,L,M,Q,N⟩,_⟩:=m;have c:=p.core;have hcl:z'.cells=#[zv]:=by apply qbs;rw [N,H]
 have hr:=run_make (P:=P) w t e i z' (E.slice hk) hi Q k k' n n h0 (Int.le_refl _) (by rw [M];exact J) K;rw [L,G,hcl,qbn] at hr;have u:Grow w (w.alloc (.cells (madeCells #[zv] n.toNat) e)):=kbr _ _;have A:(List.replicate n.toNat z).length=n.toNat:=List.length_replicate;rw [A];refine kaf (w.alloc (.cells (madeCells #[zv] n.toNat) e)) (.slice (some ⟨w.heap.size,0,none⟩) n.toNat n.toNat) ?_ ⟨ψ.set id n.toNat (.slice (some ⟨w.heap.size,0,none⟩) n.toNat n.toNat),S,?_,?_,kjs _ c.fr,kdw f _ _,fun _ h=>qj _ h,fun _ h=>h,Same.of_grow u⟩;simp [execOp,ho,g,l,hr]
 ·refine c.add u f (fun b J=>by simp [ka3] at J;omega) ⟨by rw [kct];simp,by omega,(madeCells #[zv] n.toNat).toList,?_,fun x q=>?_,fun i x j v y q hv hy=>?_⟩;rw [kav];have:=World.ownsRow_lit (base:=0) (size:=1) (e:=e) w (madeCells #[zv] n.toNat) n.toNat (qau _) (by unfold maxLen;omega) (by rw [size_madeCells,qbn]);simpa using this;simp only [List.map_replicate,List.mem_replicate] at q;rw [q.2,r];refine ⟨rfl,fun y hy=>?_⟩;simp [FV.cells] at hy;subst hy;exact s
  ·have B:=qo q;simp only [List.map_replicate,List.mem_replicate] at B;rw [B.2,r] at hy;rw [toList_madeCells_one] at hv;have C:=qo hv;rw [List.mem_replicate] at C;rw [C.2];have D:=qo hy;simp [FV.cells] at D;subst D;exact .atom s
 ·exact .row (qn ..) (by rw [kct];exact qx _) rfl fun _=>by rw [kav]
theorem kug {v:Value} {e:TypeId} {n:Nat} {cs:List Value} (h:w.ownsRow 0 e 1 v n cs) (hn:0<n:=by omega):∃ g cap cur,v = .slice (some ⟨g,0,none⟩) n cap/\w.heap[g]?=some (.cells cur e (0,0))/\n<=cap/\cap<=maxLen/\cur.size=cap/\cur.toList.take n=cs:=by
 rcases h.2 with ⟨_,h0⟩ | ⟨g,cap,cur,hv,_,a,h1,b,c,d⟩;omega
 ·exact ⟨g,cap,cur,hv,a,h1,b,by simpa using c,by simpa using d⟩
theorem kch (t:TypeId) (d:TD) (id:Nat) {α:Type} (enc:α->FV) (xs:List α) {x:α} {i:Int} (X Y:Operand) (e:TypeId) (de:TD) (k:IntKind) (n:Nat) (h:idx xs i=some x) (r:TOk P T:=by exact kak) (hy:st.eval Y = .fz (.atom (.int k i)):=by kernel_rfl) (ho:o.op = .indexAddr t X Y:=by kernel_rfl) (p:kad T t=some d:=by kernel_rfl) (hk:d.kind = .slice e:=by kernel_rfl) (j:kad T e=some de:=by kernel_rfl) (s:de.size=1:=by kernel_rfl) (y:st.eval X = .row id n:=by kernel_rfl) (q:kaa st.heap id=some (.frow e 1 (xs.map enc)):=by kernel_rfl) (hn:n=xs.length:=by rfl):NStep P o st (.ref id n i.toNat):=by
 intro ψ S a w ht z;subst hn;have p:=r.get p;have j:=r.get j;unfold idx at h;split at h
 ·rename_i h0;have A:i.toNat<xs.length:=(qf.1 h).1;have l:=Sim.eval_tmps ht X;rw [y] at l;have b:=Sim.eval_tmps ht Y;rw [hy] at b;have b:=b.atom;obtain ⟨hl,_,cs,c,_,_⟩:=z id _ q;rw [qaa] at hl c;obtain ⟨g,cap,cur,f,C,_⟩:=kug c;have hK:id∈st.ids/\a.eval X=ψ.val id:=by
   generalize a.eval X=u at l;cases l with
   | row hK B h1 hv=>exact ⟨hK,hv hl.symm⟩
  refine kaf w (.pointer (some ⟨g,i.toNat,none⟩)) ?_ ⟨kag _, .ref hK.1 (by omega) rfl fun _=>⟨g,by rw [f];rfl,rfl⟩⟩;have m:i<(xs.length:Int):=by omega
  simp [execOp,ho,hK.2,f,b,Instr.indexAt,asIntOf,run_underlying (p.slice hk),h0,m,j.size,s,kcq]
 ·cases h
theorem kfm (t:TypeId) (d:TD) (id:Nat) {α:Type} (enc:α->FV) (xs:List α) (x:α) (i:Int) (X:Operand) (n:Nat) (h:idx xs i=some x) (r:TOk P T:=by exact kak) (ho:o.op = .load t X:=by kernel_rfl) (k:kad T t=some d:=by kernel_rfl) (hk:d.kind.agg=false:=by kernel_rfl) (s:st.eval X = .ref id n i.toNat:=by kernel_rfl) (l:kaa st.heap id=some (.frow t 1 (xs.map enc)):=by kernel_rfl) (hn:n=xs.length:=by rfl) (m:∀ y,(enc y).cells=[enc y]:=by exact fun _=>rfl):NStep P o st (.fz (enc x)):=by
 intro ψ S a w ht z;subst hn;have k:=r.get k;unfold idx at h;split at h
 ·rename_i h0;have A:i.toNat<xs.length:=(qf.1 h).1;have f:=Sim.eval_tmps ht X;rw [s] at f;obtain ⟨hl,_,cs,c,_,hr⟩:=z id _ l;rw [qaa] at hl c;obtain ⟨g,cap,cur,e,F,B,hc2,C,D⟩:=kug c;have hp:a.eval X = .pointer (some ⟨g,i.toNat,none⟩):=by
   generalize a.eval X=u at f;cases f with
   | ref hK E h1 hv=>
    obtain ⟨b,p,rfl⟩:=hv hl.symm;rw [e] at p;simp only [ka3,qc] at p;rw [p]
  have q:cs[i.toNat]?=some (cs[i.toNat]'(by rw [c.1];omega)):=qa _;have j:w.cell? ⟨g,i.toNat,none⟩=some (cs[i.toNat]'(by rw [c.1];omega)):=by rw [e] at c;rw [World.ownsRow.cellAt c i.toNat (by omega),q]
  refine kaf w (cs[i.toNat]'(by rw [c.1];omega)) ?_ ⟨kag _, .fz ((hr i.toNat (enc x) 0 _ (enc x) (by rw [qr,h];rfl) (by simp) (by rw [m];rfl)).mono fun _ h => .inl h)⟩;simp [execOp,ho,hp,Instr.loadAt,Instr.sureAddr,loadVar,k.isAgg,hk,j]
 ·cases h
theorem kk0 (t:TypeId) (d:TD) (id:Nat) {α:Type} (enc:α->FV) (xs:List α) (x y:α) (i:Int) (X Y:Operand) (n:Nat) (h:idx xs i=some x) (hT:TOk P T:=by exact kak) (ho:o.op = .store t X Y:=by kernel_rfl) (Q:kad T t=some d:=by kernel_rfl) (hz:d.size=1:=by kernel_rfl) (hx:st.eval X = .ref id n i.toNat:=by kernel_rfl) (I:kaa st.heap id=some (.frow t 1 (xs.map enc)):=by kernel_rfl) (hn:n=xs.length:=by rfl) (hy:st.eval Y = .fz (enc y):=by kernel_rfl) (D:∀ y,∃ u,enc y = .atom u/\u.oneCell'=true:=by exact fun _=>⟨_,rfl,rfl⟩):kau P o st .any ((id, .frow t 1 ((xs.set i.toNat y).map enc))::st.heap) st.ids:=by
 subst hn;intro F S0 N0 ψ S a w E;have Q:=hT.get Q;unfold idx at h;split at h
 ·rename_i h0;have ac:i.toNat<xs.length:=(qf.1 h).1;have f:=E.core;obtain ⟨ad,⟨hl,J,cs,l,ae,hr⟩,R⟩:=f.obj id _ I;rw [qaa] at hl l;have hcl:cs.length=xs.length:=by rw [l.1,qbn]
  obtain ⟨g,cap,cur,m,hg,U,hc2,V,Z⟩:=kug l;have G:=E.eval X;rw [hx] at G;have hp:a.eval X = .pointer (some ⟨g,i.toNat,none⟩):=by
   generalize a.eval X=u at G;cases G with
   | ref hK af h1 hv=>
    obtain ⟨b,K,rfl⟩:=hv hl.symm;rw [m] at K;simp only [ka3,qc] at K;rw [K]
  obtain ⟨u,hu,H⟩:=D y;have p:=E.eval Y;rw [hy,hu] at p;have p:=p.atom;have L:u.cells=#[u]:=by cases u <;> first | rfl | cases H
  have hst:=run_storeCells_at (P:=P) g i.toNat t [u] 0 cur w hg (by simp;omega) (fun v hv=>by simp at hv;rw [hv];exact H);obtain ⟨new,s⟩:∃ new:Array Value,new=(cur.toList.take (i.toNat+0)++[u]++cur.toList.drop (i.toNat+0+[u].length)).toArray:=⟨_,rfl⟩;rw [<- s] at hst;have M:new.toList=cur.toList.set i.toNat u:=by rw [s,List.set_eq_take_append_cons_drop,qp (by simp;omega)];simp
  have aa:new.size=cap:=by rw [<- qa3,M,List.length_set,qa3,V]
  have A:∀ k,k<w.heap.size->¬ Blk (ψ.val id) k->(w.setRow g new).heap[k]?=w.heap[k]?:=fun k _ hk=>ko1 g new k fun e=>hk (.of (by rw [m,e];rfl));have ag:(w.setRow g new).heap.size=w.heap.size:=by simp [World.setRow]
  have B:ψ.set id xs.length (ψ.val id)=ψ:=by
   unfold Env.set;congr 1
   ·funext j;split;rename_i N;rw [N,hl]
    ·rfl
   ·funext j;split;rename_i N;rw [N]
    ·rfl
  have hk:Same S w (w.setRow g new):=fun k hk hl=>A k hl fun e=>(R k e).1 hk;obtain ⟨c1,c2,c3⟩:=f.upd (n:=xs.length) (v:=ψ.val id) (w':=w.setRow g new) (ob' := .frow t 1 ((xs.set i.toNat y).map enc)) I (by omega) A (.inr ⟨hl,rfl⟩) (fun b K => .inl K) (by
   rw [B];refine ⟨by simp [hl],J,cs.set i.toNat u,?_,fun z r=>?_,fun k z j v q r hv C=>?_⟩;rw [qaa,List.length_set,m];refine ⟨by rw [List.length_set,hcl,qbn], .inr ⟨g,cap,new,rfl,qau _,klq g hg,U,hc2,by rw [aa,qbn],?_⟩⟩;rw [qbn,M,List.take_set,Z];obtain ⟨z0,_,rfl⟩:=qad.1 r;obtain ⟨u0,h1,h2⟩:=D z0;rw [h1];exact ⟨rfl,fun q C=>by simp [FV.cells] at C;subst C;exact h2⟩
   ·obtain ⟨z0,c,rfl⟩:∃ z0,(xs.set i.toNat y)[k]?=some z0/\enc z0=z:=(by rw [qr,qu] at r;exact r);obtain ⟨u0,h1,h2⟩:=D z0;have N:j=0:=(by rw [h1] at C;have:=(qf.1 C).1;simp [FV.cells] at this;exact this);subst N;have ab:q=enc z0:=(by rw [h1] at C ⊢; simp [FV.cells] at C;exact C.symm);subst ab;simp only [qbn,Nat.add_zero] at hv;by_cases O:i.toNat=k;subst O;rw [List.getElem?_set_self (by omega)] at hv c;injection hv with hv;injection c with c;subst hv c;rw [hu];exact .atom H
    ·rw [List.getElem?_set_ne O] at hv c;exact (hr k (enc z0) 0 v (enc z0) (by rw [qr,c];rfl) (by simpa using hv) (by rw [h1];rfl)).keep hk)
  rw [B] at c1;refine km4 (w':=w.setRow g new) ?_ ⟨ψ,S,c1, .any,⟨rfl,rfl,rfl,by omega,c3⟩,Ext.refl,fun _ h=>h,fun _ h=>h,c2⟩;simp only [execOp,ho,Instr.storeAt,hp,p,Instr.sureAddr,storeVar,Q.size,Sem.run_bind,Sem.run_pure,Result.andThen_ok];rw [ql (by rw [L,hz];simp)];simp [L,hst]
 ·cases h
end
def rel1 (id n:Nat):AV->AV
 | .row k m=>bif Nat.beq k id then .row k n else .row k m
 | y=>y
def relG (id n:Nat):AV->AV
 | .agg cs => .agg (cs.map (rel1 id n))
 | .fn f cs => .fn f (cs.map (rel1 id n))
 | y=>rel1 id n y
def relT (id n:Nat):AV->AV
 | .tup cs => .tup (cs.map (relG id n))
 | y=>relG id n y
def relO (id n:Nat):AObj->AObj
 | .box e cs => .box e (cs.map (rel1 id n))
 | y=>y
def kyr (id:Nat) (st:St):List Nat:=st.tmps.flatMap (fun p=>kup id p.2)++st.heap.flatMap (fun p=>kw7 id p.2)
def k01 (id n:Nat) (st:St):St:={ dfr:=st.dfr,n:=st.n,tmps:=st.tmps.map (fun p=>(p.1,relT id n p.2)),heap:=st.heap.map (fun p=>(p.1,relO id n p.2)),ids:=st.ids }
theorem kuy {id n:Nat} {y:AV} (h:∀ m∈kq0 id y,m=n):rel1 id n y=y:=by
 cases y with
 | row k m=>
  simp only [rel1];cases a:Nat.beq k id with
  | false=>rfl
  | true=>rw [h m (by simp [kq0,a])];rfl
 | _=>rfl
theorem kne {α:Type} {f:α->α} {l:List α} (h:∀ x∈l,f x=x):l.map f=l:=by rw [qbf h];simp
theorem kum {id n:Nat} (y:AV) (h:∀ m∈k0j id y,m=n):relG id n y=y:=by
 cases y with
 | agg cs=>exact qan AV.agg (kne fun x a=>kuy fun m hm=>h m (qbe.2 ⟨x,a,hm⟩))
 | fn f cs=>exact qan (AV.fn f) (kne fun x a=>kuy fun m hm=>h m (qbe.2 ⟨x,a,hm⟩))
 | row k m=>exact kuy (y := .row k m) h
 | _=>rfl
theorem kaeq {id n:Nat} {y:AV} (h:∀ m∈kup id y,m=n):relT id n y=y:=by
 cases y with
 | tup cs=>exact qan AV.tup (kne fun x a=>kum _ fun m hm=>h m (qbe.2 ⟨x,a,hm⟩))
 | agg cs=>exact kum (.agg cs) h
 | fn f cs=>exact kum (.fn f cs) h
 | row k m=>exact kum (.row k m) h
 | _=>rfl
theorem kad8 {id n:Nat} {y:AObj} (h:∀ m∈kw7 id y,m=n):relO id n y=y:=by
 cases y with
 | box e cs=>exact qan (AObj.box e) (kne fun x a=>kuy fun m hm=>h m (qbe.2 ⟨x,a,hm⟩))
 | _=>rfl
theorem k9x {st:St} (id:Nat) {k m n:Nat} (h:kyr id st=List.replicate k m) (hmn:m=n):LeSt st (k01 id n st):=by
 have a:∀ x∈kyr id st,x=n:=fun x b=>by rw [h] at b;rw [(List.mem_replicate.1 b).2,hmn]
 have:k01 id n st=st:=by
  unfold k01;have h1:st.tmps.map (fun p=>(p.1,relT id n p.2))=st.tmps:=kne fun p hp=>by rw [kaeq fun m hm=>a m (qab.2 (.inl (qbe.2 ⟨p,hp,hm⟩)))]
  have c:st.heap.map (fun p=>(p.1,relO id n p.2))=st.heap:=kne fun p hp=>by rw [kad8 fun m hm=>a m (qab.2 (.inr (qbe.2 ⟨p,hp,hm⟩)))]
  rw [h1,c]
 rw [this];exact LeSt.refl
def ktw:List FV->Option (List Value)
 | []=>some []
 | .atom v::l=>match ktw l with
  | some r=>some (v::r)
  | none=>none
 | _::_=>none
def toV:AV->Option Value
 | .fz (.atom v)=>bif v.oneCell' then some v else none
 | .fz (.agg xs)=>match ktw xs with
  | some l=>bif l.all (·.oneCell') then some (.agg l.toArray) else none
  | none=>none
 | _=>none
def ofV:Value->Option FV
 | .agg cs=>bif cs.toList.all (·.oneCell') then some (.agg (cs.toList.map .atom)) else none
 | .tuple _=>none
 | v=>some (.atom v)
theorem ky6:∀ {xs:List FV} {l:List Value},ktw xs=some l->xs=l.map .atom
 | [],l,h=>by simp only [ktw,qc] at h;subst h;rfl
 | .atom v::xs,l,h=>by
  simp only [ktw] at h;split at h;rename_i r hr;injection h with h;subst h;rw [ky6 hr];rfl
  ·cases h
 | .agg _::_,l,h=>by cases h
 | .tup _::_,l,h=>by cases h
 | .lst _ _ _::_,l,h=>by cases h
 | .fp _::_,l,h=>by cases h
 | .bx _::_,l,h=>by cases h
theorem kagq {u v:Value} {x:AV} (h:RV ψ K S w u x) (a:toV x=some v):u=v:=by
 unfold toV at a;split at a
 ·rename_i v';cases c:v'.oneCell' with
  | false=>rw [c] at a;cases a
  | true=>rw [c] at a;injection a with a;subst a;exact h.atom
 ·rename_i xs;split at a
  ·rename_i l hl;cases c:l.all (·.oneCell') with
   | false=>rw [c] at a;cases a
   | true=>
    rw [c] at a;injection a with a;subst a;have h:=h.inv;cases h with
    | @agg cs _ h h1 hr=>
     rw [ky6 hl] at hr h;congr 1;apply qbs;apply qbz;intro i;simp only [qa4];rcases qbi i cs.size with hi | hi;have b:i<l.length:=(by simp at h;omega);have:=hr i cs[i] (.atom l[i]) (by simp [hi]) (by simp [b]);rw [qby hi,this.atom_eq];simp [b]
     ·have b:l.length<=i:=(by simp at h;omega);simp [hi,b]
  ·cases a
 ·cases a
theorem kaf4 {v:Value} {x:FV} (h:ofV v=some x):RF S w v x:=by
 unfold ofV at h;split at h
 ·rename_i cs;cases b:cs.toList.all (·.oneCell') with
  | false=>rw [b] at h;cases h
  | true=>
   rw [b] at h;injection h with h;subst h;refine .agg (by simp) ?_ ?_;intro x a;simp only [qad] at a;obtain ⟨v,hv,rfl⟩:=a;exact qs.1 b v hv
   ·intro i v x hv a;simp only [qr,qu,qa4] at a;obtain ⟨u,hu,rfl⟩:=a;rw [hv] at hu;injection hu with hu;subst hu;exact .atom (qs.1 b v (by rw [Array.mem_toList_iff];exact Array.mem_of_getElem? hv))
 cases h
 ·rename_i c d;injection h with h;subst h;refine .atom ?_;cases v <;> first | rfl | exact absurd rfl (c _) | exact absurd rfl (d _)
theorem kae6 {x:Operand} {v:Value} (ho:o.op = .makeInterface t x) (g:TdOk P t d) (hk:∀ h:d.kind = .ifc,False) (i:toV (st.eval x)=some v):NStep P o st (.fz (.atom (.iface t v))):=by
 intro ψ S a w ht k;have hv:=kagq (Sim.eval_tmps ht x) i;obtain ⟨_,e,h1,f⟩:=g;refine kaf w (.iface t v) ?_ ⟨kag _, .fz (.atom rfl)⟩;have c:∀ ms,e ≠ .interface ms:=fun ms j=>by subst j;cases b:d.kind <;> rw [b] at f <;> first | exact hk b | exact f
 simp only [execOp,ho,hv,Instr.makeInterface,Sem.run_bind,Result.andThen_ok,run_underlying h1];cases e <;> first | exact absurd rfl (c _) | rfl
theorem k7i {x:Operand} {xt:TypeId} {v:Value} {y:FV} (ho:o.op = .typeAssert x xt t true) (j:TdOk P t d) (hk:∀ h:d.kind = .ifc,False) (k:st.eval x = .fz (.atom (.iface t v))) (hy:ofV v=some y):
  NStep P o st (.fz (.tup [y, .atom (.bool true)])):=by
 intro ψ S a w ht m;have hv:=Sim.eval_tmps ht x;rw [k] at hv;have hv:=hv.atom;obtain ⟨_,e,h1,g⟩:=j;have f:∀ ms,e ≠ .interface ms:=fun ms l=>by subst l;cases b:d.kind <;> rw [b] at g <;> first | exact hk b | exact g
 refine kaf w (.tuple #[v, .bool true]) ?_ ⟨kag _, .fz (.tup rfl ?_)⟩
 ·simp only [execOp,ho,hv,Instr.typeAssert,Sem.run_bind,Result.andThen_ok,run_underlying h1];cases e <;> first | exact absurd rfl (f _) | simp
 ·intro i u z hu c
  match i with
  | 0=>simp at hu c;subst hu c;exact kaf4 hy
  | 1=>simp at hu c;subst hu c;exact .atom rfl
  | i+2=>simp at c
theorem k3s {op:BinOp} {x y:Operand} {u v:Value} (h:(∃ s z,u = .iface s z)\/∃ c,y = .const c) (hv:v = .nilIface) (hu:(∃ s z,u = .iface s z)\/u = .nilIface):(eqGuard op t x y u v).run P w = .ok () w:=by
 unfold eqGuard;subst hv;rcases hu with ⟨s,z,rfl⟩ | rfl;cases op <;> simp
 ·rcases h with ⟨s,z,h⟩ | ⟨c,rfl⟩;cases h
  ·cases op <;> simp
theorem TdOk.ifc (h:TdOk P t d) (hk:d.kind = .ifc):∃ ms,P.underlying t=some (.interface ms):=by obtain ⟨_,e,h1,a⟩:=h;rw [hk] at a;cases e <;> simp [kh8] at a;exact ⟨_,h1⟩
theorem kpo {x:Operand} {yt:TypeId} {u:Value} (neg r:Bool) (ho:o.op = .binOp (if neg then .neq else .eql) t x (.const .nilIface) yt) (f:TdOk P t d) (hk:d.kind = .ifc) (g:st.eval x = .fz (.atom u)) (hu:(r=false/\∃ s z,u = .iface s z)\/(r=true/\u = .nilIface)):
  NStep P o st (.fz (.atom (.bool (bif neg then !r else r)))):=by
 obtain ⟨ms,b⟩:=f.ifc hk;intro ψ S a w ht j;have hv:=Sim.eval_tmps ht x;rw [g] at hv;have hv:=hv.atom;have i:∀ d:Nat,(Op.equalIn (d+1) t u .nilIface).run P w = .ok r w:=fun d=>by rcases hu with ⟨rfl,s,z,rfl⟩ | ⟨rfl,rfl⟩ <;> simp [Op.equalIn,run_underlying b]
 have c:∀ op,(eqGuard op t x (.const .nilIface) u .nilIface).run P w = .ok () w:=fun op=>k3s (.inr ⟨_,rfl⟩) rfl (hu.elim (fun h => .inl h.2) fun h => .inr h.2);refine kaf w (.bool (bif neg then !r else r)) ?_ ⟨kag _, .fz (.atom rfl)⟩;have hc:a.eval (.const .nilIface) = .nilIface:=rfl;have e:(binOp .eql t u .nilIface).run P w = .ok (.bool r) w/\(binOp .neq t u .nilIface).run P w = .ok (.bool !r) w:=by rcases hu with ⟨hr,s,z,rfl⟩ | ⟨hr,rfl⟩ <;> subst hr <;> constructor <;> (simp only [binOp];simp [Op.equal,Op.maxDepth,i 9999])
 cases neg;simp [execOp,ho,hv,hc,c,e.1]
 ·simp [execOp,ho,hv,hc,c,e.2]
def dfn (f:FuncId) (cs:List Value):Deferred:={ target := .fn (.func f) cs.toArray,args:=#[] }
def kuz (fn:Func):Option (Nat×Nat×Code):=match fn.body with
 | some (.seq (.region _ os false) c)=>match os.toList with
  | [o1,o2]=>match o1.op,o1.dst,o1.guard with
   | .call c1,some t1,none=>match o2.op,o2.dst,o2.guard with
    | .assign (.tmp t),some t2,none=>match c1.callee,c1.args.toList with
     | .builtin .recover,[]=>bif Nat.beq t t1 && (Nat.blt t1 fn.ntmps && (Nat.blt t2 fn.ntmps && fn.results.isEmpty)) then some (t1,t2,c) else none
     | _,_=>none
    | _,_,_=>none
   | _,_,_=>none
  | [o1]=>match o1.op,o1.dst,o1.guard with
   | .call c1,some t1,none=>match c1.callee,c1.args.toList with
    | .builtin .recover,[]=>bif Nat.blt t1 fn.ntmps && fn.results.isEmpty then some (t1,t1,c) else none
    | _,_=>none
   | _,_,_=>none
  | _=>none
 | _=>none
variable {ψ':Env} {ids:List Nat}
theorem kx2 {fn:Func} {t1 t2:Nat} {c2:Code} (h:kuz fn=some (t1,t2,c2)):∃ id os o1 c1,fn.body=some (.seq (.region id os false) c2)/\o1.op = .call c1/\c1.callee = .builtin .recover/\c1.args=#[]/\o1.dst=some t1/\o1.guard=none /\
  t1<fn.ntmps/\t2<fn.ntmps/\fn.results=#[]/\((∃ o2,os=#[o1,o2]/\o2.op = .assign (.tmp t1)/\o2.dst=some t2/\o2.guard=none)\/(os=#[o1]/\t2=t1)):=by
 unfold kuz at h;split at h
 ·rename_i id os c i;split at h
  ·rename_i o1 o2 b;split at h
   ·rename_i c1 t1' h1 d e;split at h
    ·rename_i tt t2' j k l;split at h
     ·rename_i f g;cases hc:(Nat.beq tt t1' && (Nat.blt t1' fn.ntmps && (Nat.blt t2' fn.ntmps && fn.results.isEmpty))) with
      | false=>rw [hc] at h;cases h
      | true=>
       rw [hc] at h;simp only [qe,qc,qq] at h;obtain ⟨rfl,rfl,rfl⟩:=h;simp only [qv] at hc;obtain ⟨b1,b2,b3,b4⟩:=hc;obtain rfl:=qk b1;have a:os=#[o1,o2]:=(by apply qbs;simpa using b);exact ⟨id,os,o1,c1,i,h1,f,by apply qbs;simpa using g,d,e,by simpa [Nat.blt_eq] using b2,by simpa [Nat.blt_eq] using b3,by simpa using b4, .inl ⟨o2,a,j,k,l⟩⟩
     ·cases h
    ·cases h
   ·cases h
  ·rename_i o1 b;split at h
   ·rename_i c1 t1' h1 d e;split at h
    ·rename_i f g;cases hc:(Nat.blt t1' fn.ntmps && fn.results.isEmpty) with
     | false=>rw [hc] at h;cases h
     | true=>
      rw [hc] at h;simp only [qe,qc,qq] at h;obtain ⟨rfl,rfl,rfl⟩:=h;simp only [qv] at hc;obtain ⟨b2,b4⟩:=hc;have a:os=#[o1]:=(by apply qbs;simpa using b);exact ⟨id,os,o1,c1,i,h1,f,by apply qbs;simpa using g,d,e,by simpa [Nat.blt_eq] using b2,by simpa [Nat.blt_eq] using b2,by simpa using b4, .inr ⟨a,rfl⟩⟩
    ·cases h
   ·cases h
  ·cases h
 ·cases h
section
variable {P:Program} {F S0:Nat->Prop} {N0:Nat} {w w':World} {S S':Nat->Prop} {ψ:Env} {K:Nat->Prop} {T:List (TypeId×TD)} {o:Oper} {a:Act} {st:St} {t:TypeId} {d:TD} {id:Nat}
end
def tabF (rows:List (List Value)):FV := .lst 1 rows.length (rows.map fun r => .lst 1 r.length (r.map .atom))
def kabg:FV->Bool
 | .atom _=>true
 | .tup vs=>vs.all fun x=>match x with
  | .atom _=>true
  | _=>false
 | _=>false
section
variable {P:Program} {F S0:Nat->Prop} {N0:Nat} {w w':World} {S S':Nat->Prop} {ψ ψ':Env} {K:Nat->Prop} {T:List (TypeId×TD)} {o:Oper} {a:Act} {st:St} {t:TypeId} {d:TD} {id:Nat} {ids:List Nat} {heap:List (Nat×AObj)}
end
section
variable {P:Program} {F S0:Nat->Prop} {N0:Nat} {w w':World} {S S':Nat->Prop} {ψ ψ':Env} {K:Nat->Prop} {T:List (TypeId×TD)} {o:Oper} {a:Act} {st:St} {t:TypeId} {d:TD} {id:Nat} {ids:List Nat} {heap:List (Nat×AObj)}
end
section
variable {P:Program} {F S0:Nat->Prop} {N0:Nat} {w w':World} {S S':Nat->Prop} {ψ ψ':Env} {K:Nat->Prop} {T:List (TypeId×TD)} {o:Oper} {a:Act} {st:St} {t:TypeId} {d:TD} {id:Nat} {ids:List Nat} {heap:List (Nat×AObj)}
theorem kzq {ob:AObj} (h:Core F S0 N0 heap ids ψ S w) (ho:kaa heap id=some ob):Core F S0 N0 (kdz id heap) ids ψ (fun b=>S b\/Blk (ψ.val id) b) w:=by
 obtain ⟨j,e,f⟩:=h.obj id _ ho;refine ⟨fun k ob hk=>?_,fun k k' o o' b hk c d a g=>?_,fun b a=>?_,fun b a=>?_,h.n0,h.fr⟩
 ·obtain ⟨d,hk⟩:=kh9 id hk;obtain ⟨h1,l,i⟩:=h.obj k ob hk;refine ⟨h1,l.keep Ext.refl (fun _ h=>h) (fun b a => .inl a) (fun _ _ _=>rfl) ⟨rfl,rfl⟩ (fun _ _=>rfl),fun b a=>⟨fun hs=>?_,(i b a).2⟩⟩;rcases hs with hs | hs;exact (i b a).1 hs
  ·exact h.inj k id ob _ b hk ho d a hs
 obtain ⟨_,hk⟩:=kh9 id hk;obtain ⟨_,c⟩:=kh9 id c;exact h.inj k k' o o' b hk c d a g
 ·rcases a with a | a;exact h.lt b a
  ·exact e.lt a
 ·rcases a with a | a;exact h.s0 b a
  ·exact (f b a).2.2
theorem k1i (r:List Value) (h:∀ u∈r,u.oneCell'=true):ElR 1 (r.map .atom):=fun x a=>by obtain ⟨u,hu,rfl⟩:=qad.1 a;exact ⟨rfl,fun y hy=>by simp [FV.cells] at hy;subst hy;exact h u hu⟩
theorem kzf (r:List Value) (h:∀ u∈r,u.oneCell'=true):RowR S w 1 (r.map .atom) r:=fun i x j v y a hv hy=>by
 rw [qr,qu] at a;obtain ⟨u,hu,rfl⟩:=a;have b:j=0:=by have:=(qf.1 hy).1;simp [FV.cells] at this;exact this
 subst b;simp [FV.cells] at hy;subst hy;rw [qbn,Nat.add_zero,hu] at hv;cases hv;exact .atom (h _ (qo hu))
theorem kabd {g:Nat} {ov:Value} {eo ei:TypeId} {rows:List (List Value)} (h:ObR ψ K S w id (.tab g ov eo ei rows)):RF (fun b=>S b\/Blk (ψ.val id) b) w ov (tabF rows):=by
 obtain ⟨s,vs,d,p,e,l,n⟩:=h;have o:∀ u b,u∈ov::vs->ka3 u=some b->Blk (ψ.val id) b:=fun u b hu f=>by rw [d];exact .inr ⟨u,by simpa [kl4] using hu,f⟩
 have c:rows.length=(rows.map fun r:List Value=>FV.lst 1 r.length (r.map .atom)).length:=by simp
 have a:∀ (j:Nat) (v:Value) (r:List Value),vs[j]?=some v->rows[j]?=some r->RF (fun b=>S b\/Blk (ψ.val id) b) w v (.lst 1 r.length (r.map .atom)):=fun j v r hv hr=>by obtain ⟨k1,k2⟩:=l j v r hv hr;have:=ku5 (S:=S) (r.map .atom) (by simpa using k1) (k1i r k2) (kzf r k2);rw [qaa] at this;exact this.mono fun b f=>f.imp _root_.id fun h=>o v b (qj _ (qo hv)) h
 have m:ElR 1 (rows.map fun r:List Value=>FV.lst 1 r.length (r.map .atom)):=fun x k=>by obtain ⟨r,hr,rfl⟩:=qad.1 k;exact ⟨rfl,fun y hy=>by simp [FV.cells] at hy;subst hy;rfl⟩
 have:=ku5 (S:=fun b=>S b\/Blk (ψ.val id) b) (rows.map fun r:List Value=>FV.lst 1 r.length (r.map .atom)) (by rw [<- c];exact e) m (fun i x j v y k hv hy=>by
  rw [qr,qu] at k;obtain ⟨r,hr,rfl⟩:=k;have q:j=0:=by have:=(qf.1 hy).1;simp [FV.cells] at this;exact this
  subst q;simp [FV.cells] at hy;subst hy;rw [qbn,Nat.add_zero] at hv;exact a i v r hv hr)
 rw [<- c] at this;exact this.mono fun b f=>f.elim _root_.id fun h => .inr (o ov b (qn ..) h)
inductive LendI where
 | row (t id n:Nat) (e:TypeId) (size:Nat) (xs:List FV)
 | tab (t id g:Nat) (ov:Value) (eo ei:TypeId) (rows:List (List Value)) (x:FV)
 | inn (t id g:Nat) (ov:Value) (eo ei:TypeId) (rows:List (List Value)) (i:Nat) (x:FV)
def LendI.ok (st:St):LendI->Prop
 | .row t id n e size xs=>st.get t = .row id n/\kaa st.heap id=some (.frow e size xs)/\n=xs.length
 | .tab t id g ov eo ei rows x=>st.get t = .fz (.atom ov)/\kaa st.heap id=some (.tab g ov eo ei rows)/\x=tabF rows
 | .inn t id g ov eo ei rows i x=>st.get t = .irow id g (i+1)/\kaa st.heap id=some (.tab g ov eo ei rows)/\∃ r,rows[i]?=some r/\x = .lst 1 r.length (r.map .atom)
def LendI.slot:LendI->Nat×AV
 | .row t _ n _ size xs=>(t, .fz (.lst size n xs))
 | .tab t _ _ _ _ _ _ x=>(t, .fz x)
 | .inn t _ _ _ _ _ _ _ x=>(t, .fz x)
def kab1 (ls:List LendI) (st:St):St:={ st with tmps:=ls.map LendI.slot++st.tmps }
theorem kwn {e:TypeId} {size:Nat} {xs:List FV} (h:ObR ψ K S w id (.frow e size xs)):RF (fun b=>S b\/Blk (ψ.val id) b) w (ψ.val id) (.lst size xs.length xs):=by obtain ⟨h0,c,cs,a,d,hr⟩:=h;exact (ku5 _ a d hr (f:=c)).mono fun b f=>f.imp _root_.id .of
theorem k08 {SB:Nat->Prop}:∀ (ls:List LendI),(∀ l∈ls,l.ok st)->(∀ t,RV ψ (·∈st.ids) S w (a.tmps.getD t undef) (st.get t))->(∀ id ob,kaa st.heap id=some ob->ObR ψ (·∈st.ids) S w id ob)->(∀ id ob,kaa st.heap id=some ob->∀ b,(S b\/Blk (ψ.val id) b)->SB b)->(∀ b,S b->SB b) ->
  ∀ t,RV ψ (·∈st.ids) SB w (a.tmps.getD t undef) (look .any (ls.map LendI.slot++st.tmps) t)
 | [],_,ht,_,_,hS,t=>(ht t).mono (fun _ h=>h) hS
 | l::ls,hl,ht,q,c,hS,t=>by
  have f:=hl l (qn ..);have j:=k08 ls (fun k hk=>hl k (qj _ hk)) ht q c hS t;cases l with
  | row t' id n e size xs=>
   obtain ⟨q1,q2,rfl⟩:=f;show RV ψ (·∈st.ids) SB w _ (look .any ((t',AV.fz (.lst size xs.length xs))::(ls.map LendI.slot++st.tmps)) t);rw [kbj];split
   ·rename_i o;subst o;have hv:=ht t';rw [q1] at hv;have p:=q id _ q2;refine .fz ?_;generalize a.tmps.getD t' undef=u at hv;cases hv with
    | row hK v h1 hv=>
     rw [hv p.1.symm];exact (kwn p).mono (c id _ q2)
   ·exact j
  | tab t' id g ov eo ei rows x=>
   obtain ⟨q1,q2,rfl⟩:=f;show RV ψ (·∈st.ids) SB w _ (look .any ((t',AV.fz (tabF rows))::(ls.map LendI.slot++st.tmps)) t);rw [kbj];split;rename_i o;subst o;have hv:=ht t';rw [q1] at hv;rw [hv.atom];exact .fz ((kabd (q id _ q2)).mono (c id _ q2))
   ·exact j
  | inn t' id g ov eo ei rows i x=>
   obtain ⟨q1,q2,r,q3,rfl⟩:=f;show RV ψ (·∈st.ids) SB w _ (look .any ((t',AV.fz (.lst 1 r.length (r.map .atom)))::(ls.map LendI.slot++st.tmps)) t);rw [kbj];split
   ·rename_i o;subst o;have hv:=ht t';rw [q1] at hv;obtain ⟨D,vs,d,y,B,z,C⟩:=q id _ q2;have m:i<vs.length:=(by rw [y];exact (qf.1 q3).1);obtain ⟨k1,k2⟩:=z i vs[i] r (qa m) q3;refine .fz ?_;have s:=ku5 (S:=S) (r.map .atom) (by simpa using k1) (k1i r k2) (kzf r k2);rw [qaa] at s;have s:=s.mono fun b A=>c id _ q2 b (A.imp _root_.id fun A=>by rw [d];exact .inr ⟨vs[i],by simp only [kl4];exact qj _ (qi m),A⟩);generalize a.tmps.getD t' undef=u at hv;cases hv with
    | irow hK v h1 hv=>
     have:=hv D.symm;rw [d] at this;simp only [kl4,List.getElem?_cons_succ] at this;rw [qa m] at this;cases this;exact s
   ·exact j
theorem kafe (ls:List LendI) {c:FV} (hl:∀ l∈ls,l.ok st) (hn:NStep P o (kab1 ls st) (.fz c)) (hc:kabg c=true):NStep P o st (.fz c):=by
 intro ψ S a w ht g
 let SB:Nat->Prop:=fun b=>S b\/∃ id ob,kaa st.heap id=some ob/\Blk (ψ.val id) b
 have d:∀ id ob,kaa st.heap id=some ob->∀ b,(S b\/Blk (ψ.val id) b)->SB b:=fun id ob h b e=>e.imp _root_.id fun e=>⟨id,ob,h,e⟩;refine kos ?_ (hn ψ SB a w (fun t=>?_) fun id ob ho=>?_)
 ·rintro v w' ⟨k,hv⟩;refine ⟨k, .fz ?_⟩;have hv:=hv.inv;cases c with
  | atom u=>cases hv with | atom h=>exact .atom h
  | tup vs=>
   cases hv with
   | tup h hr=>
    refine .tup h fun i v x hv j=>?_;have f:=qs.1 hc x (qo j);have:=hr i v x hv j;cases x with
    | atom u=>cases this with | atom h=>exact .atom h
    | _=>cases f
  | _=>cases hc
 exact k08 ls hl (fun t=>ht t) g d (fun b h => .inl h) t
 ·exact (g id ob ho).keep Ext.refl (fun _ h=>h) (fun b e => .inl e) (fun _ _ _=>rfl) ⟨rfl,rfl⟩ fun _ _=>rfl
theorem k8h {α:Type} (enc:α->FV) (m:List (BA×α)) (s:BA) (z:α) (x y:Operand) (kt et:TypeId) (kd:TD) (zv:Value) (ho:o.op = .lookup t x y true) (J:TOk P T) (A:kad T t=some d) (hk:d.kind = .map kt et) (c:kad T kt=some kd) (l:kd.kind = .str) (inf:TypeInfo) (B:P.info? et=some inf) (C:inf.zero=some zv) (D:enc z = .atom zv) (E:zv.oneCell'=true) (L:st.eval x = .mp id:=by kernel_rfl) (F:kaa st.heap id=some (.smap (m.map fun p=>(p.1,enc p.2))):=by kernel_rfl) (hy:st.eval y = .fz (.atom (.string s)):=by kernel_rfl):NStep P o st (.fz (.tup [enc (mget m s z), .atom (.bool (mhas m s))])):=by
 intro ψ S a w ht M;have A:=J.get A;have c:=J.get c;have hv:=Sim.eval_tmps ht x;rw [L] at hv;have n:=M id _ F;have q:=k19 n hv;obtain ⟨h0,b,es,clock,g,K,G,hr⟩:=n;have f:=Sim.eval_tmps ht y;rw [hy] at f;have f:=f.atom;have H:(zeroValue et).run P w = .ok zv w:=by simp [zeroValue,typeInfo,B,C]
 have r:=MapKept.run_checkKey (w:=w) (c.str l) (k := .string s) trivial es.isEmpty 9999;have two:∀ {v:Value} {x:FV} {ok:Bool},RF (fun b=>S b\/w.heap.size<=b) w v x->RF (fun b=>S b\/w.heap.size<=b) w (.tuple #[v, .bool ok]) (.tup [x, .atom (.bool ok)]):=fun {v x ok} h => .tup rfl fun i u y hu hy=>by
  match i with
  | 0=>simp at hu hy;subst hu hy;exact h
  | 1=>simp at hu hy;subst hu hy;exact .atom rfl
  | i+2=>simp at hu
 rcases knn s (R:=fun v x=>RF S w v x) es.toList (m.map fun p=>(p.1,enc p.2)) 0 (by simpa using G) (fun j e p N hp=>hr j e p (by simpa using N) hp) with ⟨f1,f2⟩ | ⟨j,v,x',f1,f2,f3⟩
 ·have hf:=MapKept.run_findKey (w:=w) (c.str l) f1;have I:mhas m s=false:=by rw [<- k3c enc];unfold mhas;rw [f2];rfl
  refine kaf w (.tuple #[zv, .bool false]) ?_ ⟨kag _, .fz ?_⟩;simp [execOp,ho,f,q,g,Instr.lookup,run_underlying (A.mp hk),MapKept.run_getObj_map K,r,hf,H]
  ·rw [I];refine two ?_;rw [<- ksu enc];unfold mget;rw [f2];simp only;rw [D];exact .atom E
 ·have hf:=MapKept.run_findKey (w:=w) (c.str l) f1;have I:mhas m s=true:=by rw [<- k3c enc];unfold mhas;rw [f2];rfl
  refine kaf w (.tuple #[v, .bool true]) ?_ ⟨kag _, .fz ?_⟩;simp [execOp,ho,f,q,g,Instr.lookup,run_underlying (A.mp hk),MapKept.run_getObj_map K,r,hf]
  ·rw [I];refine two ?_;rw [<- ksu enc];unfold mget;rw [f2];exact f3.mono fun _ h => .inl h
def mkC (bytes:Nat) (c:Int):Option Unit:=if 0<=c/\(bytes:Int)*c<=281474976710656/\c<=9223372036854775807 then some () else none
theorem k84 {bytes:Nat} {c:Int} {u:Unit} (h:mkC bytes c=some u):0<=c/\(bytes:Int)*c<=281474976710656/\c<=9223372036854775807:=by
 unfold mkC at h;split at h
 ·assumption
 ·cases h
theorem kacx {bytes:Nat} {c:Int} {u:Unit} (X Y:Operand) (e:TypeId) (de:TD) (k k':IntKind) (h:mkC bytes c=some u) (ho:o.op = .makeSlice t X Y) (H:TOk P T) (s:kad T t=some d) (hk:d.kind = .slice e) (n:kad T e=some de) (z:de.size=1) (A:de.bytes=bytes) (q:st.eval X = .fz (.atom (.int k 0)):=by kernel_rfl) (hy:st.eval Y = .fz (.atom (.int k' c)):=by kernel_rfl) (g:st.ids.contains id=false:=by kernel_rfl):
  kau P o st (.row id 0) ((id, .frow e 1 [])::st.heap) (id::st.ids):=by
 have g:id∉st.ids:=by simpa using g
 obtain ⟨h0,B,C⟩:=k84 h;have s:=H.get s;have n:=H.get n;subst A;intro F S0 N0 ψ S a w p;have l:=p.eval X;rw [q] at l;have l:=l.atom;have m:=p.eval Y;rw [hy] at m;have m:=m.atom;obtain ⟨⟨i,z',hi,D,E,G,I⟩,_⟩:=n;have f:=p.core;have hr:=run_make (P:=P) w t e i z' (s.slice hk) hi G k k' 0 c (Int.le_refl _) h0 (by rw [E];exact B) C;rw [D,z,qbn] at hr;have r:Grow w (w.alloc (.cells (madeCells z'.cells c.toNat) e)):=kbr _ _;refine kaf (w.alloc (.cells (madeCells z'.cells c.toNat) e)) (.slice (some ⟨w.heap.size,0,none⟩) 0 c.toNat) ?_ ⟨ψ.set id 0 (.slice (some ⟨w.heap.size,0,none⟩) 0 c.toNat),S,?_,?_,kjs _ f.fr,kdw g _ _,fun _ h=>qj _ h,fun _ h=>h,Same.of_grow r⟩;simp [execOp,ho,l,m,hr];refine f.add r g (fun b B=>by simp [ka3] at B;omega) ⟨by rw [kct];simp,by omega,[],?_,fun x q=>(by cases q),fun i x j v y q hv hy=>by simp at q⟩;rw [kav];refine ⟨by simp, .inr ⟨w.heap.size,c.toNat,madeCells z'.cells c.toNat,rfl,qau _,heap_alloc_new w _,qau _,by unfold maxLen;omega,by rw [size_madeCells,qbn],by simp⟩⟩
 ·exact .row (qn ..) (by rw [kct];exact qx _) rfl fun _=>by rw [kav]
theorem k9t {t id n:Nat} {e:TypeId} {size:Nat} {xs:List FV} (h1:st.get t = .row id n) (a:kaa st.heap id=some (.frow e size xs)) (b:n=xs.length):LendI.ok st (.row t id n e size xs):=⟨h1,a,b⟩
theorem kaa7:∀ l∈([]:List LendI),l.ok st:=fun l h=>by cases h
theorem k8y {l:LendI} {ls:List LendI} (h:l.ok st) (hs:∀ k∈ls,k.ok st):∀ k∈l::ls,k.ok st:=fun k hk=>by
 rcases qam.1 hk with rfl | hk;exact h
 ·exact hs k hk
def cut3 {α:Type} (xs:List α) (l h m:Int):Option (List α):=if 0<=l/\l<=h/\h<=m/\m<=xs.length then some ((xs.take h.toNat).drop l.toNat) else none
theorem RF.take3 {A:Option Addr} {cap n size:Nat} {xs:List FV} (h:RF S w (.slice A n cap) (.lst size n xs)) (lo hi m:Nat) (h1:lo<=hi) (f:hi<=n) (g:hi<=m) (k:m<=cap):RF S w (.slice (if m=lo then A else A.map (·.add (lo*size))) (hi - lo) (m - lo)) (.lst size (hi - lo) ((xs.take hi).drop lo)):=by
 obtain ⟨A0,cap0,css,hv,hn,hc,hm,hs,ha,hl,hr⟩:=h.lst_inv;injection hv with e1 _ e3;subst e1 e3;have c:(xs.take hi).length=hi:=by rw [qai];omega
 have get:∀ (i:Nat) (x:FV),((xs.take hi).drop lo)[i]?=some x->xs[lo+i]?=some x:=fun i x a=>by
  rw [qao,qaf] at a;split at a;exact a
  ·cases a
 refine .lst (fun i=>css (lo+i)) (by rw [qa1,c]) (by omega) (by omega) hs (fun i x a=>?_) (fun i x a=>hl _ x (get i x a)) fun i x j v y a hv hy=>hr _ x j v y (get i x a) hv hy;obtain ⟨b,o,hA,hS,d⟩:=ha _ x (get i x a);have e:=(qf.1 a).1;rw [qa1,c] at e;refine ⟨b,o+lo*size,?_,hS,by rw [Nat.add_assoc,<- qbg];exact d⟩;rw [ql (by omega),hA];simp only [qax,kcq]
theorem kafn {α:Type} (enc:α->FV) (x y m:Operand) (lo:Option Operand) (l:Option Int) (h k:Int) (xs:List α) {r:List α} (size:Nat) (e:TypeId) (de:TD) (k1 k2:IntKind) (hc:cut3 xs (l.getD 0) h k=some r) (p:TOk P T) (ho:o.op = .slice t x lo (some y) (some m):=by kernel_rfl) (s:kad T t=some d:=by kernel_rfl) (hk:d.kind = .slice e:=by kernel_rfl) (f:kad T e=some de:=by kernel_rfl) (g:de.size=size:=by kernel_rfl) (u:st.eval x = .fz (eL size enc xs):=by kernel_rfl) (hl:kpx st lo=some l:=by kernel_rfl) (z:st.eval y = .fz (.atom (.int k1 h)):=by kernel_rfl) (hm:st.eval m = .fz (.atom (.int k2 k)):=by kernel_rfl):NStep P o st (.fz (eL size enc r)):=by
 intro ψ S a w ht E;have h1:=Sim.eval_tmps ht x;rw [u] at h1;have bl:=kol ht hl;have b:=Sim.eval_tmps ht y;rw [z] at b;have b:=b.atom;have c:=Sim.eval_tmps ht m;rw [hm] at c;have c:=c.atom;unfold cut3 at hc;split at hc
 ·rename_i q;injection hc with hc;subst hc;have h1:=h1.inv;obtain ⟨A,cap,css,hv,hn,B,C,hs,ha,D,hr⟩:=h1.lst_inv;rw [hv] at h1;have i:=h1.take3 (l.getD 0).toNat h.toNat k.toNat (by omega) (by omega) (by omega) (by omega);refine kaf w (.slice (if k.toNat=(l.getD 0).toNat then A else A.map (·.add ((l.getD 0).toNat*size))) (h.toNat - (l.getD 0).toNat) (k.toNat - (l.getD 0).toNat)) ?_ ⟨kag _,(RV.fz ?_).here⟩
  ·have hu:=(p.get s).slice hk;have e1:(Instr.sliceBounds true xs.length cap (lo.map a.eval) ((some y).map a.eval) ((some m).map a.eval)).run P w = .ok ((l.getD 0).toNat,h.toNat,k.toNat) w:=by
    unfold Instr.sliceBounds;have q1:0<=k:=(by omega);have q2:k<=(cap:Int):=(by omega);have q3:0<=h:=(by omega);have q4:h<=(k.toNat:Int):=(by omega);rcases bl with ⟨rfl,rfl⟩ | ⟨y',k',n',rfl,rfl,j⟩;simp [Instr.sliceBound,b,c,asIntOf,q1,q2,q3,q4];intro hc;exfalso;omega
    ·simp only [qah] at q ⊢;have q5:n'<=(h.toNat:Int):=(by omega);simp [Instr.sliceBound,b,c,j,asIntOf,q1,q2,q3,q4,q5,q.1];rw [qp (by omega),qp (by omega)]
   have n:(sizeOf e).run P w = .ok size w:=(by rw [(p.get f).size,g]);simp only [qax] at e1;simp [execOp,ho,Instr.sliceAt,Instr.slice,run_underlying hu,hv,e1,n]
  ·have:((xs.take h.toNat).drop (l.getD 0).toNat).length=h.toNat - (l.getD 0).toNat:=(by rw [qa1,qai];omega);unfold eL;rw [this,List.map_drop,List.map_take];exact i
 ·cases hc
end
def anc (l:List Oper) (i j:Nat):Bool:=((kx1 l).getD i 0).testBit j
def dstT (l:List Oper) (j:Nat):Option Nat:=(l[j]?).bind (·.dst)
def phB (l:List Oper) (es:List Nat) (i:Nat):Bool:=es.all fun e=>bif Nat.blt e i then anc l i e else (bif Nat.blt i e then anc l e i else true)
def kxm (l:List Oper) (n:Nat) (es:List Nat):Bool:=es.all fun e=>Nat.blt e n && phB l es e
def knr (ch:List Nat):List (Nat×AObj)->List (Nat×AObj)
 | []=>[]
 | (k,v)::l=>bif ch.contains k then knr ch l else (k,v)::knr ch l
def kjz (l:List Oper) (i:Nat):Nat->List (Nat×AV)
 | 0=>[]
 | j+1=>match dstT l j with
  | some d=>bif Nat.ble j i || anc l j i then kjz l i j else (d, .any)::kjz l i j
  | none=>kjz l i j
def ke9 (l:List Oper) (n:Nat) (es ch ai:List Nat) (st:St) (i:Nat) (o:Oper) (fs:List (Nat×Option Nat×AV)) (hp:List (Nat×AObj)) (ids:List Nat):St:=
 { st with tmps:=hadd fs (kiu o) (kjz l i n++st.tmps),heap:=bif phB l es i then hp else knr ch st.heap,ids:=bif phB l es i then ids else ai }
def kse (P:Program) (os:Array Oper) (v:St) (o:Oper) (c:AV):Prop:=(kb2 os v o=some true/\NStep P o v c)\/(kb2 os v o=some false/\c = .fz (.tup []))
def kxh (P:Program) (os:Array Oper) (l:List Oper) (n:Nat) (es ch ai:List Nat) (st v:St) (o:Oper) (c:AV) (hp:List (Nat×AObj)) (ids:List Nat) (a:List (Nat×AObj)) (ids':List Nat):Prop:=
 ((kb2 os v o=some true/\kau P o v c a ids')\/(kb2 os v o=some false/\c = .fz (.tup [])/\a=hp/\ids'=ids))/\((∀ i,i<n->phB l es i=true)\/((∀ id,id∉ch->∀ ob,kaa hp id=some ob->kaa a id=some ob)/\(∀ id,id∈ids'->id∈ai)/\∀ id,id∈ids->id∈ids'))
def kabm (_:Program) (_:Array Oper) (_:Exit->St->Prop) (_ _:St) (_:Oper):Prop:=False
def krb (P:Program) (os:Array Oper) (n:Nat) (es ch ai:List Nat) (Q:Exit->St->Prop) (st:St):Nat->Nat->List Oper->List (Nat×Option Nat×AV)->List (Nat×AObj)->List Nat->Option Nat->Prop
 | 0,_,l,fs,hp,ids,none=>awpL P os l { st with tmps:=hadd fs (fun _=>true) st.tmps,heap:=hp,ids:=ids } Q
 | 0,_,_,_,_,_,some _=>True
 | k+1,i,o::l,fs,hp,ids,pn=>
  (∃ e,pn=some e/\anc os.toList i e=true/\krb P os n es ch ai Q st k (i+1) l ((i,o.dst, .any)::fs) hp ids pn) \/
  (es.contains i=false/\∃ c,kse P os (ke9 os.toList n es ch ai st i o fs hp ids) o c/\(phB os.toList es i || okA st.ids c)=true/\krb P os n es ch ai Q st k (i+1) l ((i,o.dst,c)::fs) hp ids pn) \/
  (es.contains i=true/\pn=none/\∃ c a ids',kxh P os os.toList n es ch ai st (ke9 os.toList n es ch ai st i o fs hp ids) o c hp ids a ids'/\krb P os n es ch ai Q st k (i+1) l ((i,o.dst,c)::fs) a ids' none) \/
  (es.contains i=true/\pn=none/\kabm P os Q st (ke9 os.toList n es ch ai st i o fs hp ids) o/\krb P os n es ch ai Q st k (i+1) l ((i,o.dst, .any)::fs) hp ids (some i))
 | _+1,_,[],_,_,_,_=>False
variable {Q:Exit->St->Prop} {os:Array Oper} {n:Nat} {es ch ai:List Nat}
def fsOf (l:List Oper) (c:Nat->AV):Nat->List (Nat×Option Nat×AV)
 | 0=>[]
 | k+1=>(k,dstT l k,c k)::fsOf l c k
theorem khz {l:List Oper} {c c':Nat->AV}:∀ {k:Nat},(∀ j,j<k->c j=c' j)->fsOf l c k=fsOf l c' k
 | 0,_=>rfl
 | k+1,h=>by simp only [fsOf,h k (by omega),khz (k:=k) fun j a=>h j (by omega)]
def FactZ (P:Program) (os:Array Oper) (n:Nat) (es ch ai:List Nat) (Q:Exit->St->Prop) (st:St) (c:Nat->AV) (H:Nat->List (Nat×AObj)×List Nat) (pn:Option Nat) (i:Nat) (o:Oper):Prop:=
 (H (i+1)=H i/\∃ e,pn=some e/\e<i/\anc os.toList i e=true) \/
 (i∉es/\H (i+1)=H i/\kse P os (ke9 os.toList n es ch ai st i o (fsOf os.toList c i) (H i).1 (H i).2) o (c i)/\(phB os.toList es i || okA st.ids (c i))=true) \/
 (i∈es/\(∀ e,pn=some e->i<e)/\kxh P os os.toList n es ch ai st (ke9 os.toList n es ch ai st i o (fsOf os.toList c i) (H i).1 (H i).2) o (c i) (H i).1 (H i).2 (H (i+1)).1 (H (i+1)).2) \/
 (i∈es/\pn=some i/\H (i+1)=H i/\kabm P os Q st (ke9 os.toList n es ch ai st i o (fsOf os.toList c i) (H i).1 (H i).2) o)
theorem kov:∀ (k i:Nat) (l:List Oper) (c0:Nat->AV) (H0:Nat->List (Nat×AObj)×List Nat) (pn0:Option Nat),os.toList.drop i=l->i+k=n->(∀ e,pn0=some e->e<i) ->
  krb P os n es ch ai Q st k i l (fsOf os.toList c0 i) (H0 i).1 (H0 i).2 pn0 ->
  ∃ c H pn,(∀ j,j<i->c j=c0 j)/\(∀ j,j<=i->H j=H0 j)/\(∀ e,pn0=some e->pn=some e)/\(∀ e,pn=some e->pn0=some e\/(i<=e/\e<n/\e∈es))/\(∀ j o,i<=j->j<n->os.toList[j]?=some o->FactZ P os n es ch ai Q st c H pn j o) /\
   (pn=none->awpL P os (os.toList.drop n) { st with tmps:=hadd (fsOf os.toList c n) (fun _=>true) st.tmps,heap:=(H n).1,ids:=(H n).2 } Q)
 | 0,i,l,c0,H0,pn0,hl,hn,hp,h=>by
  obtain rfl:i=n:=by omega
  refine ⟨c0,H0,pn0,fun _ _=>rfl,fun _ _=>rfl,fun _ h=>h,fun e h => .inl h,fun j o h1 m=>by omega,fun b=>?_⟩;subst b hl;exact h
 | k+1,i,l,c0,H0,pn0,hl,hn,hp,h=>by
  cases l with
  | nil=>exact h.elim
  | cons o l=>
   have d:os.toList[i]?=some o:=(by have:=qan (·[0]?) hl;simpa using this);have g:os.toList.drop (i+1)=l:=(by rw [<- List.drop_drop,hl];rfl);have t:dstT os.toList i=o.dst:=(by unfold dstT;rw [d];rfl);have cons:∀ c,(i,o.dst,c)::fsOf os.toList c0 i=fsOf os.toList (fun j=>if j=i then c else c0 j) (i+1):=fun c=>(by simp only [fsOf,t,if_true];rw [khz (k:=i) (c':=fun j=>if j=i then c else c0 j) fun j p=>by rw [ql (by omega)]]);have u:∀ x:List (Nat×AObj)×List Nat,(fun j=>if j=i+1 then x else H0 j) (i+1)=x:=fun x=>(by simp);rcases h with ⟨e,r,ha,h⟩ | ⟨f,c,hf,s,h⟩ | ⟨f,b,c,q,ids',hf,h⟩ | ⟨f,b,hf,h⟩
   ·rw [cons] at h;obtain ⟨c1,H1,pn1,k1,k2,k3,k3',k4,k5⟩:=kov k (i+1) l _ (fun j=>if j=i+1 then H0 i else H0 j) pn0 g (by omega) (fun e h=>by have:=hp e h;omega) (by simpa using h);refine ⟨c1,H1,pn1,fun j p=>by rw [k1 j (by omega),ql (by omega)],fun j p=>by rw [k2 j (by omega),ql (by omega)],k3,fun e h=>(k3' e h).imp id (fun h=>⟨by omega,h.2⟩),fun j o' h1 m ho=>?_,k5⟩;by_cases a:j=i;subst a;rw [d] at ho;obtain rfl:=qaj ho;exact .inl ⟨by rw [k2 (j+1) (qx _),qp rfl,k2 j (by omega),ql (by omega)],e,k3 e r,hp e r,ha⟩
    ·exact k4 j o' (by omega) m ho
   ·rw [cons] at h;obtain ⟨c1,H1,pn1,k1,k2,k3,k3',k4,k5⟩:=kov k (i+1) l _ (fun j=>if j=i+1 then H0 i else H0 j) pn0 g (by omega) (fun e h=>by have:=hp e h;omega) (by simpa using h);have e1:∀ j,j<i->c1 j=c0 j:=fun j p=>(by rw [k1 j (by omega),ql (by omega)]);have e2:c1 i=c:=(by rw [k1 i (by omega),qp rfl]);have e3:H1 i=H0 i:=(by rw [k2 i (by omega),ql (by omega)]);have e4:H1 (i+1)=H0 i:=(by rw [k2 (i+1) (qx _),qp rfl]);refine ⟨c1,H1,pn1,e1,fun j p=>by rw [k2 j (by omega),ql (by omega)],k3,fun e h=>(k3' e h).imp id (fun h=>⟨by omega,h.2⟩),fun j o' h1 m ho=>?_,k5⟩;by_cases a:j=i;subst a;rw [d] at ho;obtain rfl:=qaj ho;refine .inr (.inl ⟨by simpa using f,by rw [e3,e4],?_⟩);rw [khz e1,e2,e3];exact ⟨hf,s⟩
    ·exact k4 j o' (by omega) m ho
   ·subst b;rw [cons] at h;obtain ⟨c1,H1,pn1,k1,k2,k3,k3',k4,k5⟩:=kov k (i+1) l _ (fun j=>if j=i+1 then (q,ids') else H0 j) none g (by omega) (fun e h=>by cases h) (by simpa using h);have e1:∀ j,j<i->c1 j=c0 j:=fun j p=>(by rw [k1 j (by omega),ql (by omega)]);have e2:c1 i=c:=(by rw [k1 i (by omega),qp rfl]);have e3:H1 i=H0 i:=(by rw [k2 i (by omega),ql (by omega)]);have e4:H1 (i+1)=(q,ids'):=(by rw [k2 (i+1) (qx _),qp rfl]);refine ⟨c1,H1,pn1,e1,fun j p=>by rw [k2 j (by omega),ql (by omega)],k3,fun e h=>(k3' e h).imp id (fun h=>⟨by omega,h.2⟩),fun j o' h1 m ho=>?_,k5⟩;by_cases a:j=i
    ·subst a;rw [d] at ho;obtain rfl:=qaj ho;refine .inr (.inr (.inl ⟨by simpa using f,fun e r=>?_,?_⟩))
     ·rcases k3' e r with h | h;cases h
      ·omega
     ·rw [khz e1,e2,e3,e4];exact hf
    ·exact k4 j o' (by omega) m ho
   ·exact hf.elim
def kix (fs:List (Nat×Option Nat×AV)) (p:Nat->Bool) (base:List (Nat×AV)):List (Nat×AV):=match fs with
 | []=>base
 | (j,some d,c)::l=>bif p j then (d,c)::kix l p base else kix l p base
 | (_,none,_)::l=>kix l p base
theorem kci {l:List Oper} {c:Nat->AV} {p:Nat->Bool} {base:List (Nat×AV)} {t:Nat}:∀ k,(∃ j,j<k/\p j=true/\dstT l j=some t/\look .any (kix (fsOf l c k) p base) t=c j) \/
  ((∀ j,j<k->p j=true->dstT l j≠some t)/\look .any (kix (fsOf l c k) p base) t=look .any base t)
 | 0 => .inr ⟨fun j h=>by omega,rfl⟩
 | k+1=>by
  have ih:=kci (l:=l) (c:=c) (p:=p) (base:=base) (t:=t) k;simp only [fsOf];cases m:dstT l k with
  | none=>
   simp only [kix];rcases ih with ⟨j,h1,a,g,i⟩ | ⟨h1,a⟩;exact .inl ⟨j,by omega,a,g,i⟩
   ·refine .inr ⟨fun j n hp=>?_,a⟩;by_cases b:j=k
    ·subst b;rw [m];exact fun h=>by cases h
    ·exact h1 j (by omega) hp
  | some d=>
   simp only [kix];cases hp:p k with
   | false=>
    simp only [qd];rcases ih with ⟨j,h1,a,g,i⟩ | ⟨h1,a⟩;exact .inl ⟨j,by omega,a,g,i⟩
    ·refine .inr ⟨fun j n e=>?_,a⟩;by_cases b:j=k;subst b;rw [hp] at e;cases e
     ·exact h1 j (by omega) e
   | true=>
    simp only [qe,kbj];by_cases f:d=t;subst f;exact .inl ⟨k,by omega,hp,m,by rw [qp rfl]⟩
    ·rw [ql f];rcases ih with ⟨j,h1,a,g,i⟩ | ⟨h1,a⟩;exact .inl ⟨j,by omega,a,g,i⟩
     ·refine .inr ⟨fun j n e=>?_,a⟩;by_cases b:j=k;subst b;rw [m];exact fun h=>f (qaj h)
      ·exact h1 j (by omega) e
theorem kmu {l:List Oper} {c:Nat->AV} {p:Nat->Bool} {base:List (Nat×AV)} {t:Nat}:∀ k,(look .any (hadd (fsOf l c k) p base) t = .any)\/(∃ j,j<k/\p j=true/\dstT l j=some t/\look .any (hadd (fsOf l c k) p base) t=c j) \/
  ((∀ j,j<k->dstT l j≠some t)/\look .any (hadd (fsOf l c k) p base) t=look .any base t)
 | 0 => .inr (.inr ⟨fun j h=>by omega,rfl⟩)
 | k+1=>by
  have ih:=kmu (l:=l) (c:=c) (p:=p) (base:=base) (t:=t) k;simp only [fsOf];cases f:dstT l k with
  | none=>
   simp only [hadd];rcases ih with h | ⟨j,h1,a,g,i⟩ | ⟨h1,a⟩;exact .inl h;exact .inr (.inl ⟨j,by omega,a,g,i⟩)
   ·refine .inr (.inr ⟨fun j m=>?_,a⟩);by_cases b:j=k
    ·subst b;rw [f];exact fun h=>by cases h
    ·exact h1 j (by omega)
  | some d=>
   simp only [hadd,kbj];by_cases e:d=t
   ·subst e;rw [qp rfl];cases hp:p k with
    | false=>exact .inl rfl
    | true=>exact .inr (.inl ⟨k,by omega,hp,f,rfl⟩)
   ·rw [ql e];rcases ih with h | ⟨j,h1,a,g,i⟩ | ⟨h1,a⟩;exact .inl h;exact .inr (.inl ⟨j,by omega,a,g,i⟩)
    ·refine .inr (.inr ⟨fun j m=>?_,a⟩);by_cases b:j=k;subst b;rw [f];exact fun h=>e (qaj h)
     ·exact h1 j (by omega)
theorem krd {l:List Oper} {i:Nat} {base:List (Nat×AV)} {t:Nat}:∀ k,look .any (kjz l i k++base) t = .any\/((∀ j,j<k->dstT l j=some t->j<=i\/anc l j i=true)/\look .any (kjz l i k++base) t=look .any base t)
 | 0 => .inr ⟨fun j h=>by omega,rfl⟩
 | k+1=>by
  have ih:=krd (l:=l) (i:=i) (base:=base) (t:=t) k;simp only [kjz];cases g:dstT l k with
  | none=>
   rcases ih with h | ⟨h1,e⟩;exact .inl h
   ·refine .inr ⟨fun j m a=>?_,e⟩;by_cases b:j=k;subst b;rw [g] at a;cases a
    ·exact h1 j (by omega) a
  | some d=>
   cases f:(Nat.ble k i || anc l k i) with
   | true=>
    simp only [f,qe];rcases ih with h | ⟨h1,e⟩;exact .inl h
    ·refine .inr ⟨fun j m a=>?_,e⟩;by_cases b:j=k;subst b;rw [qbv] at f;exact f.imp (fun h=>qt h) id
     ·exact h1 j (by omega) a
   | false=>
    simp only [f,qd,qbp,kbj];by_cases c:d=t;rw [qp c];exact .inl rfl
    ·rw [ql c];rcases ih with h | ⟨h1,e⟩;exact .inl h
     ·refine .inr ⟨fun j m a=>?_,e⟩;by_cases b:j=k;subst b;rw [g] at a;exact absurd (qaj a) c
      ·exact h1 j (by omega) a
theorem kt1 {ch:List Nat} {id:Nat} {ob:AObj}:∀ {l:List (Nat×AObj)},kaa (knr ch l) id=some ob->id∉ch/\kaa l id=some ob
 | [],h=>by cases h
 | (k,v)::l,h=>by
  simp only [knr] at h;cases hc:ch.contains k with
  | true=>
   rw [hc] at h;obtain ⟨h1,a⟩:=kt1 (l:=l) h;refine ⟨h1,?_⟩;rw [kae,ql];exact a
   ·rintro rfl;exact h1 (by simpa using hc)
  | false=>
   rw [hc] at h;simp only [qd,kae] at h;rw [kae];by_cases hk:k=id;subst hk;rw [qp rfl] at h ⊢;exact ⟨by simpa using hc,h⟩
   ·rw [ql hk] at h ⊢;exact kt1 h
theorem ksa {ch:List Nat} {id:Nat} {ob:AObj} (a:id∉ch):∀ {l:List (Nat×AObj)},kaa l id=some ob->kaa (knr ch l) id=some ob
 | [],h=>by cases h
 | (k,v)::l,h=>by
  simp only [knr];rw [kae] at h;cases hc:ch.contains k with
  | true=>
   simp only [qe];rw [ql (by rintro rfl;exact a (by simpa using hc))] at h;exact ksa a h
  | false=>
   simp only [qd,kae];by_cases hk:k=id;rw [qp hk] at h ⊢; exact h
   ·rw [ql hk] at h ⊢; exact ksa a h
def ktd (ch:List Nat):List (Nat×AObj)->List Nat
 | []=>[]
 | (k,_)::l=>bif ch.contains k then ktd ch l else k::ktd ch l
theorem kzh {ch:List Nat} {id:Nat} {ob:AObj} (a:id∉ch):∀ {l:List (Nat×AObj)},kaa l id=some ob->id∈ktd ch l
 | [],h=>by cases h
 | (k,v)::l,h=>by
  simp only [ktd];rw [kae] at h;by_cases hk:k=id;subst hk;rw [show ch.contains k=false by simpa using a];exact qn ..
  ·rw [ql hk] at h;have:=kzh a (l:=l) h;cases ch.contains k with
   | true=>exact this
   | false=>exact qj _ this
theorem kaf9 {ch:List Nat} {hp a:List (Nat×AObj)} (h:(ktd ch hp).map (kaa a)=(ktd ch hp).map (kaa hp)):∀ id,id∉ch->∀ ob,kaa hp id=some ob->kaa a id=some ob:=fun id b ob ho=>by rw [List.map_inj_left.1 h id (kzh b ho)];exact ho
def stZ (l:List Oper) (n:Nat) (st:St) (c:Nat->AV) (H:Nat->List (Nat×AObj)×List Nat) (listed:Array Bool) (kD:Nat):St:=
 { st with tmps:=kix (fsOf l c n) (fun j=>listed.getD j false) st.tmps,heap:=(H kD).1,ids:=(H kD).2 }
theorem k1n {es:List Nat} {H:Nat->List (Nat×AObj)×List Nat} {n:Nat} (g:∀ i,i<n->i∉es->H (i+1)=H i):∀ {a b:Nat},a<=b->b<=n->(∀ e,e∈es->¬ (a<=e/\e<b))->H a=H b
 | a,b,h1,j,f=>by
  induction b with
  | zero=>
    obtain rfl:a=0:=(by omega);rfl
  | succ b ih=>
   by_cases c:a=b+1;rw [c]
   ·rw [g b (by omega) (fun d=>f b d ⟨by omega,by omega⟩)];exact ih (by omega) (by omega) fun e d h=>f e d ⟨h.1,by omega⟩
def HistI (ids ids':List Nat) (ψ ψ':Env) (S S':Nat->Prop) (w w':World):Prop:=Ext (·∈ids) ψ ψ'/\(∀ i,i∈ids->i∈ids')/\(∀ b,S b->S' b)/\Same S w w'
theorem HistI.refl {ids:List Nat}:HistI ids ids ψ ψ S S w w:=⟨Ext.refl,fun _ h=>h,fun _ h=>h,fun _ _ _=>rfl⟩
theorem HistI.trans {ids ids' ids2:List Nat} {ψ2:Env} {S2:Nat->Prop} {w2:World} (h:HistI ids ids' ψ ψ' S S' w w') (k:HistI ids' ids2 ψ' ψ2 S' S2 w' w2):HistI ids ids2 ψ ψ2 S S2 w w2:=
 ⟨h.1.trans' k.1 h.2.1,fun i hi=>k.2.1 i (h.2.1 i hi),fun b a=>k.2.2.1 b (h.2.2.1 b a),h.2.2.2.trans' k.2.2.2 h.2.2.1⟩
structure DSx (F S0:Nat->Prop) (N0:Nat) (ψ0:Env) (Sa:Nat->Prop) (w0:World) (l:List Oper) (n:Nat) (es:List Nat) (st:St) (c:Nat->AV) (H:Nat->List (Nat×AObj)×List Nat) (listed:Array Bool) (a:Act) (w:World):Prop where
 inv:∃ kD ψ S,kD<=n/\(∀ e,e∈es->(listed.getD e false=true↔e<kD))/\Sim F S0 N0 (stZ l n st c H listed kD) ψ S a w/\HistI st.ids (H kD).2 ψ0 ψ Sa S w0 w
 fr:Fr F w0 w
 lsize:listed.size=l.length
 closed:∀ k o,listed.getD k false=true->l[k]?=some o->∀ e∈o.after,Region.binds .any e=true->listed.getD e.on false=true
def FactX (P:Program) (l:List Oper) (n:Nat) (es:List Nat) (chi chs:Nat->List Nat) (ai:List Nat) (st:St) (c:Nat->AV) (H:Nat->List (Nat×AObj)×List Nat) (i:Nat) (o:Oper):Prop:=
 (i∉es/\H (i+1)=H i/\kse P l.toArray (ke9 l n es (chi i) ai st i o (fsOf l c i) (H i).1 (H i).2) o (c i)/\(phB l es i || okA st.ids (c i))=true) \/
 (i∈es/\kxh P l.toArray l n es (chs i) ai st (ke9 l n es (chi i) ai st i o (fsOf l c i) (H i).1 (H i).2) o (c i) (H i).1 (H i).2 (H (i+1)).1 (H (i+1)).2)
theorem k06 (hm:P.follows .mixedOrders=true) {id:Nat} {l:List Oper} (c:Nat->AV) (H:Nat->List (Nat×AObj)×List Nat) (chi chs:Nat->List Nat) (hB:relB l n st.n=true) (bb:kxm l n es=true) (bc:st.ids.all ai.contains=true) (V:H 0=(st.heap,st.ids)) (bd:∀ j i,j∈es->i<n->anc l j i=false->∀ id,id∈chs j->id∈chi i) (J:∀ i o,i<n->l[i]?=some o->FactX P l n es chi chs ai st c H i o) {F S0:Nat->Prop} {N0:Nat} {ψ0:Env} {Sa:Nat->Prop} {a0:Act} {w0:World} (q:Sim F S0 N0 st ψ0 Sa a0 w0) (R:Exit->Act->World->Prop) (a2:∀ ψ S a w,Sim F S0 N0 { st with tmps:=hadd (fsOf l c n) (fun _=>true) st.tmps,heap:=(H n).1,ids:=(H n).2 } ψ S a w->Fr F w0 w->HistI st.ids (H n).2 ψ0 ψ Sa S w0 w->wpList P l.toArray R (l.drop n) a w):(Code.region id l.toArray true).wp P R a0 w0:=by
 have ok:=kyn hB
 -- facts about the chain
 have af:∀ e,e∈es->e<n/\phB l es e=true:=fun e g=>by have:=qs.1 bb e g;rw [qv] at this;exact ⟨by simpa [Nat.blt_eq] using this.1,this.2⟩
 have a3:∀ i,phB l es i=true->∀ e,e∈es->(e<i->anc l i e=true)/\(i<e->anc l e i=true):=fun i hi e g=>by
  have:=qs.1 hi e g;refine ⟨fun r=>?_,fun r=>?_⟩;have u:Nat.blt e i=true:=(by simpa [Nat.blt_eq] using r);simpa [u] using this
  ·have u:Nat.blt i e=true:=(by simpa [Nat.blt_eq] using r);have be:Nat.blt e i=false:=by
    cases hx:Nat.blt e i with
    | false=>rfl
    | true=>
      have:e<i:=(by simpa [Nat.blt_eq] using hx);omega
   simpa [u,be] using this
 have hs1:Sim F S0 N0 st ψ0 Sa a0 w0.drew:=⟨q.defers,q.size,fun t=>(q.tmps t).keep Ext.refl (fun _ h=>h) (fun _ h=>h) (fun _ _ _=>rfl),⟨fun id ob ho=>by obtain ⟨e1,e2,e3⟩:=q.core.obj id ob ho;exact ⟨e1,e2.keep Ext.refl (fun _ h=>h) (fun _ h=>h) (fun _ _ _=>rfl) ⟨rfl,rfl⟩ (fun _ _=>rfl),e3⟩,q.core.inj,q.core.lt,q.core.s0,q.core.n0,q.core.fr⟩⟩;refine wp_region_any hm ?_;have ag:∀ i,i<n->i∉es->H (i+1)=H i:=fun i hi O=>by
  have A:i<l.length:=by have:=ok.len;omega
  rcases J i l[i] hi (qa A) with ⟨_,h1,_⟩ | ⟨h1,_⟩;exact h1
  ·exact absurd h1 O
 have s:¬ (∀ i,i<n->phB l es i=true)->∀ j,j<n->(∀ id,id∉chs j->∀ ob,kaa (H j).1 id=some ob->kaa (H (j+1)).1 id=some ob)/\((∀ id,id∈(H j).2->id∈ai)->∀ id,id∈(H (j+1)).2->id∈ai)/\∀ id,id∈(H j).2->id∈(H (j+1)).2:=fun Q j L=>by
  have E:j<l.length:=by have:=ok.len;omega
  rcases J j l[j] L (qa E) with ⟨_,h1,_⟩ | ⟨_,_,h1⟩;rw [h1];exact ⟨fun _ _ _ h=>h,fun h=>h,fun _ h=>h⟩
  ·obtain ⟨q1,q2,q3⟩:=h1.resolve_left Q;exact ⟨q1,fun _=>q2,q3⟩
 have T:¬ (∀ i,i<n->phB l es i=true)->∀ i,i<n->∀ k,k<=n->(∀ j,j<k->j∈es->anc l j i=false)->∀ id,id∉chi i->∀ ob,kaa st.heap id=some ob->kaa (H k).1 id=some ob:=fun Q i bf k=>by
  induction k with
  | zero=>intro _ _ id _ ob h;rw [V];exact h
  | succ k ih=>
   intro B a4 id a5 ob h;have hk:=ih (by omega) (fun j L=>a4 j (by omega)) id a5 ob h;by_cases ao:k∈es;exact (s Q k (by omega)).1 id (fun hc=>a5 (bd k i ao bf (a4 k (Nat.lt_succ_self _) ao) id hc)) ob hk
   ·rw [ag k (by omega) ao];exact hk
 have G:¬ (∀ i,i<n->phB l es i=true)->∀ k,k<=n->(∀ id,id∈(H k).2->id∈ai)/\∀ id,id∈st.ids->id∈(H k).2:=fun Q k=>by
  induction k with
  | zero=>intro _;rw [V];exact ⟨fun id h=>by simpa using qs.1 bc id h,fun _ h=>h⟩
  | succ k ih=>intro B;obtain ⟨q1,q2⟩:=ih (by omega);exact ⟨(s Q k (by omega)).2.1 q1,fun id h=>(s Q k (by omega)).2.2 id (q2 id h)⟩
 suffices key:∀ (fuel:Nat) (listed:Array Bool) (a:Act) (w:World),DSx F S0 N0 ψ0 Sa w0 l n es st c H listed a w->(∀ k,listed.getD k false=true->k<n) ->
   ((List.range l.length).countP fun k=>!listed.getD k true)<=fuel->wpAny P .any l.toArray R fuel listed a w by
  refine key _ _ _ _ ⟨⟨0,ψ0,Sa,qau _,fun e _=>by rw [kmp];simp,?_,⟨Ext.refl,fun i h=>by rw [V];exact h,fun _ h=>h,fun _ _ _=>rfl⟩⟩,Fr.drew,by simp,(fun k o hk=>by rw [kmp] at hk;cases hk)⟩ (fun k hk=>by rw [kmp] at hk;cases hk) ?_
  ·refine ⟨hs1.defers,hs1.size,fun t=>?_,by show Core F S0 N0 (H 0).1 (H 0).2 _ _ _;rw [V];exact hs1.core⟩;show RV _ (·∈(H 0).2) _ _ _ (look .any (kix (fsOf l c n) _ st.tmps) t);rw [V];rcases kci (l:=l) (c:=c) (p:=fun j=>(Array.replicate l.toArray.size false).getD j false) (base:=st.tmps) (t:=t) n with ⟨j,_,L,_⟩ | ⟨_,M⟩;rw [kmp] at L;cases L
   ·rw [M];exact hs1.tmps t
  ·refine qav (List.countP_le_length ..) ?_;simp
 intro fuel
 -- the end of the bw
 have fin:∀ (listed:Array Bool) (a:Act) (w:World),DSx F S0 N0 ψ0 Sa w0 l n es st c H listed a w->(∀ i,i<n->listed.getD i false=true)->wpList P l.toArray R (l.drop n) a w:=by
  intro listed a w d f;obtain ⟨kD,ψ,S,B,hk,hs,X⟩:=d.inv;have aq:H kD=H n:=k1n (es:=es) (n:=n) ag B (qx _) fun e g h=>by have:=(hk e g).1 (f e h.2);omega
  have bg:Sim F S0 N0 { st with tmps:=hadd (fsOf l c n) (fun _=>true) st.tmps,heap:=(H n).1,ids:=(H n).2 } ψ S a w:=by
   refine ⟨hs.defers,hs.size,fun t=>?_,by rw [<- aq];exact hs.core⟩;have ht:=hs.tmps t;rw [<- aq];show RV _ _ _ _ _ (look .any (hadd (fsOf l c n) (fun _=>true) st.tmps) t);have ht:RV ψ (·∈(H kD).2) S w (a.tmps.getD t undef) (look .any (kix (fsOf l c n) (fun j=>listed.getD j false) st.tmps) t):=ht;rcases kmu (l:=l) (c:=c) (p:=fun _=>true) (base:=st.tmps) (t:=t) n with h | ⟨j,h1,_,y,Y⟩ | ⟨h1,M⟩;rw [h];exact .any
   ·rw [Y];rcases kci (l:=l) (c:=c) (p:=fun j=>listed.getD j false) (base:=st.tmps) (t:=t) n with ⟨j',e1,e2,e3,e4⟩ | ⟨e1,e2⟩;rw [e4] at ht;have bh:j'=j:=(by unfold dstT at y e3;simp only [qm] at y e3;obtain ⟨o1,p1,p2⟩:=y;obtain ⟨o2,q1,q2⟩:=e3;exact ok.uniq j' j o2 o1 t e1 h1 q1 p1 q2 p2);rw [bh] at ht;exact ht
    ·exact absurd y (e1 j h1 (f j h1))
   ·rw [M];rcases kci (l:=l) (c:=c) (p:=fun j=>listed.getD j false) (base:=st.tmps) (t:=t) n with ⟨j',e1,e2,e3,e4⟩ | ⟨e1,e2⟩;exact absurd e3 (h1 j' e1)
    ·rw [e2] at ht;exact ht
  exact a2 ψ S a w bg d.fr (by rw [<- aq];exact X)
 induction fuel with
 | zero=>
  intro listed a w d hh hc;have f:∀ i,i<l.length->listed.getD i false=true:=fun i hi=>by have h0:((List.range l.length).countP fun k=>!listed.getD k true)=0:=(by omega);rw [List.countP_eq_zero] at h0;have:=h0 i (by simpa using hi);simp [d.lsize,hi] at this ⊢;exact this
  have hn:n=l.length:=by
   have:=ok.len;rcases qbi n l.length with h' | h';have:=hh n (f _ h');omega
   ·omega
  have H:=fin listed a w d fun i hi=>f i (by omega);rw [hn] at H;exact kow ok 0 l.length listed a w (by omega) (qx _) d.lsize (fun i hi=>⟨fun _=>hi,fun _=>by have:=f i hi;simp [d.lsize,hi] at this ⊢;exact this⟩) (by omega) H
 | succ fuel ih=>
  intro listed a w d hh hc;by_cases z:∀ i,i<n->listed.getD i false=true
  ·refine kow ok (fuel+1) n listed a w (qx _) ok.len d.lsize (fun i hi=>⟨fun hl=>hh i (by
    simp [d.lsize,hi] at hl ⊢;exact hl),fun C=>by
    have:=z i C;simp [d.lsize,hi] at this ⊢;exact this⟩) ?_ (fin listed a w d z)
   refine qav ?_ hc;rw [show l.length=n+(l.length - n) by have:=ok.len;omega,List.range_add,List.countP_append];have:((List.range (l.length - n)).map (n+·)).countP (fun k=>!listed.getD k true)=l.length - n:=(by rw [List.countP_eq_length.2,qaa,List.length_range];intro k hk;simp only [qad,List.mem_range] at hk;obtain ⟨m,hm,rfl⟩:=hk;have r:n+m<l.length:=(by omega);have:listed.getD (n+m) false≠true:=fun h=>(by have:=hh _ h;omega);simp [d.lsize,r] at this ⊢;exact this);omega
  ·have ar:Region.ready .any l.toArray listed≠[]:=by
    have bi:∃ i,i<n/\listed.getD i false=false/\∀ j,j<i->listed.getD j false=true:=by
     have:∃ i,i<n/\listed.getD i false=false:=(by simp only [Classical.not_forall] at z;obtain ⟨i,hi,u⟩:=z;exact ⟨i,hi,by simpa using u⟩);obtain ⟨i,hi,u⟩:=this
     induction i using Nat.strongRecOn with
     | _ i ihi=>
      by_cases f:∀ j,j<i->listed.getD j false=true;exact ⟨i,hi,u,f⟩
      ·simp only [Classical.not_forall] at f;obtain ⟨j,L,bj⟩:=f;exact ihi j L (by omega) (by simpa using bj)
    obtain ⟨i,hi,u,f⟩:=bi;have A:i<l.length:=(by have:=ok.len;omega);have:i∈Region.ready .any l.toArray listed:=mem_ready.2 ⟨by simp [d.lsize,A] at u ⊢;exact u,l[i],by simp [A],fun e g ah=>f _ (ok.edges i _ (qa A) e g ah)⟩;intro h0;rw [h0] at this;cases this
   refine ⟨fun h0=>absurd h0 ar,fun i hi=>?_⟩;obtain ⟨h0,o,ho,f⟩:=mem_ready.1 hi;have U:l[i]?=some o:=(by simpa using ho);have A:i<l.length:=(qf.1 U).1;have aj:=k33 h0;have N:∀ j,anc l i j=true->listed.getD j false=true:=fun j L=>
    kkr (l:=l) (S:=fun j=>listed.getD j false=true) (fun m p hm hp e g u=>d.closed m p hm hp e g u) i o U f j L
   have D:∀ j,listed.getD j false=true->anc l j i=true->False:=fun j L ha=>(by have E:j<l.length:=(by have:=kab7 L;rw [d.lsize] at this;exact this);have:=kkr (l:=l) (S:=fun j=>listed.getD j false=true) (fun m p hm hp e g u=>d.closed m p hm hp e g u) j l[j] (qa E) (fun e g u=>d.closed j _ L (qa E) e g u) i ha;rw [aj] at this;cases this);have C:i<n:=by
    rcases qbi i n with h' | h';exact h'
    ·exfalso;apply z;intro j L;exact N j (ok.tail i j A h' (by omega))
   obtain ⟨kD,ψ,S,B,hk,hs,X⟩:=d.inv;have au:dstT l i=o.dst:=(by unfold dstT;rw [U];rfl);have Z:∀ k,(listed.setIfInBounds i true).getD k false=true->k=i\/listed.getD k false=true:=fun k hk=>by
    by_cases a6:i=k;exact .inl a6.symm
    ·rw [getD_set_ne false a6] at hk;exact .inr hk
   have aa:(listed.setIfInBounds i true).getD i false=true:=(by simp [d.lsize,A]);have a7:∀ t,o.dst=some t->t<st.n:=fun t ht=>ok.dst i o t C U ht
   -- the bk agree with the text's,for what the view bl
   have ak:(∀ e,e∈es->(e<i↔e<kD))->H i=H kD:=fun a8=>by
    rcases Nat.le_total i kD with av | av
    ·exact k1n (es:=es) (n:=n) ag av B fun e g h=>by have:=a8 e g;omega
    ·exact (k1n (es:=es) (n:=n) ag av (by omega) fun e g h=>by have:=a8 e g;omega).symm
   have x:phB l es i=true->H i=H kD:=fun hp=>ak fun e g=>by
    obtain ⟨h1,M⟩:=a3 i hp e g;have y:=hk e g;constructor;intro r;exact y.1 (N e (h1 r))
    ·intro r;rcases Nat.lt_trichotomy e i with h | h | h;exact h;subst h;rw [y.2 r] at aj;cases aj
     ·exact (D e (y.2 r) (M h)).elim
   -- the slots of the view
   have ab:∀ (K:Nat->Prop),(∀ id,id∈(H kD).2->K id)->∀ t,RV ψ K S w (a.tmps.getD t undef) (look .any (hadd (fsOf l c i) (kiu o) (kjz l i n++st.tmps)) t):=fun K hK t=>by
    have ht:RV ψ (·∈(H kD).2) S w (a.tmps.getD t undef) (look .any (kix (fsOf l c n) (fun j=>listed.getD j false) st.tmps) t):=hs.tmps t;have uniq:∀ {j j':Nat},j<n->j'<n->dstT l j=some t->dstT l j'=some t->j=j':=fun {j j'} h1 M y Y=>(by unfold dstT at y Y;simp only [qm] at y Y;obtain ⟨o1,p1,p2⟩:=y;obtain ⟨o2,q1,q2⟩:=Y;exact ok.uniq j j' o1 o2 t h1 M p1 q1 p2 q2);rcases kmu (l:=l) (c:=c) (p:=kiu o) (base:=kjz l i n++st.tmps) (t:=t) i with h | ⟨j,h1,M,y,Y⟩ | ⟨h1,M⟩;rw [h];exact .any
    ·rw [Y];have E:listed.getD j false=true:=(by obtain ⟨e,g,bm,u⟩:=afterB_iff.1 M;rw [<- bm];exact f e g u);rcases kci (l:=l) (c:=c) (p:=fun j=>listed.getD j false) (base:=st.tmps) (t:=t) n with ⟨j',e1,e2,e3,e4⟩ | ⟨e1,e2⟩;rw [e4,uniq e1 (by omega) e3 y] at ht;exact ht.mono hK fun _ h=>h
     ·exact absurd y (e1 j (by omega) E)
    ·rw [M];rcases krd (l:=l) (i:=i) (base:=st.tmps) (t:=t) n with h | ⟨k1,k2⟩;rw [h];exact .any
     ·rw [k2];rcases kci (l:=l) (c:=c) (p:=fun j=>listed.getD j false) (base:=st.tmps) (t:=t) n with ⟨j',e1,e2,e3,e4⟩ | ⟨e1,e2⟩
      ·exfalso;rcases k1 j' e1 e3 with h | h
       ·rcases qbi j' i with h' | h';exact h1 j' h' e3
        ·obtain rfl:j'=i:=(by omega);rw [aj] at e2;cases e2
       ·exact D j' e2 h
      ·rw [e2] at ht;exact ht.mono hK fun _ h=>h
   have fact:=J i o C U
   -- what a value in the slot leaves
   have next:∀ (kD':Nat) (ψ':Env) (S':Nat->Prop) (v:Value) (w':World),kD'<=n->(∀ e,e∈es->((listed.setIfInBounds i true).getD e false=true↔e<kD'))->Fr F w w'->HistI (H kD).2 (H kD').2 ψ ψ' S S' w w' ->
     Core F S0 N0 (H kD').1 (H kD').2 ψ' S' w'->RV ψ' (·∈(H kD').2) S' w' v (c i)->(∀ t,RV ψ' (·∈(H kD').2) S' w' (a.tmps.getD t undef) ((stZ l n st c H listed kD).get t)) ->
     wpAny P .any l.toArray R fuel (listed.setIfInBounds i true) (a.put o.dst v) w':=fun kD' ψ' S' v w' q1 q2 q4 q8 q5 q6 q7=>by
    refine ih _ _ _ ⟨⟨kD',ψ',S',q1,q2,?_,X.trans q8⟩,d.fr.trans q4,by simp [d.lsize],?_⟩ (fun k hk=>(Z k hk).elim (fun e=>by omega) (hh k)) ?_
    ·refine ⟨by rw [kvu];exact hs.defers,by rw [k1k];exact hs.size,fun t=>?_,q5⟩;rw [ksh _ _ _ hs.size a7];have q7:=q7 t;show RV ψ' _ S' w' _ (look .any (kix (fsOf l c n) (fun j=>(listed.setIfInBounds i true).getD j false) st.tmps) t);have q7:RV ψ' (·∈(H kD').2) S' w' (a.tmps.getD t undef) (look .any (kix (fsOf l c n) (fun j=>listed.getD j false) st.tmps) t):=q7;have uniq:∀ {j j':Nat},j<n->j'<n->dstT l j=some t->dstT l j'=some t->j=j':=fun {j j'} h1 M y Y=>(by unfold dstT at y Y;simp only [qm] at y Y;obtain ⟨o1,p1,p2⟩:=y;obtain ⟨o2,p3,p4⟩:=Y;exact ok.uniq j j' o1 o2 t h1 M p1 p3 p2 p4);rcases kci (l:=l) (c:=c) (p:=fun j=>(listed.setIfInBounds i true).getD j false) (base:=st.tmps) (t:=t) n with ⟨j,e1,e2,e3,e4⟩ | ⟨e1,e2⟩
     ·rw [e4];by_cases aw:j=i;subst aw;rw [au] at e3;rw [qp e3];exact q6
      ·have E:=(Z j e2).resolve_left aw;rw [ql (fun h=>aw (uniq e1 C e3 (by rw [au];exact h)))];rcases kci (l:=l) (c:=c) (p:=fun j=>listed.getD j false) (base:=st.tmps) (t:=t) n with ⟨j',f1,f2,f3,f4⟩ | ⟨f1,f2⟩;rw [f4,uniq f1 e1 f3 e3] at q7;exact q7
       ·exact absurd e3 (f1 j e1 E)
     ·rw [e2,ql (fun h=>e1 i C aa (by rw [au];exact h))];rcases kci (l:=l) (c:=c) (p:=fun j=>listed.getD j false) (base:=st.tmps) (t:=t) n with ⟨j',f1,f2,f3,f4⟩ | ⟨f1,f2⟩;exact absurd f3 (e1 j' f1 (getD_set_true f2))
      ·rw [f2] at q7;exact q7
    ·intro k p hk hp e g ah;rcases Z k hk with rfl | bn;rw [U] at hp;obtain rfl:=qaj hp;exact getD_set_true (f e g ah)
     ·exact getD_set_true (d.closed k p bn hp e g ah)
    ·have:=kr8 l.length A h0 (by rw [d.lsize];exact A);omega
   have ac:∀ e,e∈es->i∉es->((listed.setIfInBounds i true).getD e false=true↔e<kD):=fun e g bo=>(by have ar:i≠e:=fun h=>bo (h ▸ g);rw [getD_set_ne false ar];exact hk e g);unfold wpOp;simp only [ho];rcases fact with ⟨O,al,hN,am⟩ | ⟨O,bp,bq⟩
   ·-- one that changes nothing
    have an:∀ id,id∈(H kD).2->id∈(ke9 l n es (chi i) ai st i o (fsOf l c i) (H i).1 (H i).2).ids:=fun id=>by
     show _->id∈(bif phB l es i then (H i).2 else ai);cases hp:phB l es i with
     | true=>simp only [qe];rw [x hp];exact fun h=>h
     | false=>simp only [qd];exact (G (fun h=>by rw [h i C] at hp;cases hp) kD B).1 id
    have ax:∀ {v:Value} {S':Nat->Prop} {w':World},RV ψ (·∈(ke9 l n es (chi i) ai st i o (fsOf l c i) (H i).1 (H i).2).ids) S' w' v (c i)->RV ψ (·∈(H kD).2) S' w' v (c i):=fun {v S' w'} hv=>by
     cases hp:phB l es i with
     | true=>
      have g:(ke9 l n es (chi i) ai st i o (fsOf l c i) (H i).1 (H i).2).ids=(H kD).2:=(by show (bif phB l es i then (H i).2 else ai)=_;rw [hp,qe,x hp]);rw [g] at hv;exact hv
     | false=>
      rw [hp,Bool.false_or] at am;exact (hv.subA am).mono (G (fun h=>by rw [h i C] at hp;cases hp) kD B).2 fun _ h=>h
    have ay:∀ t,RV ψ (·∈(ke9 l n es (chi i) ai st i o (fsOf l c i) (H i).1 (H i).2).ids) S w (a.tmps.getD t undef) ((ke9 l n es (chi i) ai st i o (fsOf l c i) (H i).1 (H i).2).get t):=ab _ an;have br:∀ id ob,kaa (ke9 l n es (chi i) ai st i o (fsOf l c i) (H i).1 (H i).2).heap id=some ob->ObR ψ (·∈(ke9 l n es (chi i) ai st i o (fsOf l c i) (H i).1 (H i).2).ids) S w id ob:=fun id ob I=>by
     have a9:kaa (H kD).1 id=some ob:=by
      have I:kaa (bif phB l es i then (H i).1 else knr (chi i) st.heap) id=some ob:=I;cases hp:phB l es i with
      | true=>rw [hp] at I;simp only [qe] at I;rw [x hp] at I;exact I
      | false=>
       rw [hp] at I;obtain ⟨g1,g2⟩:=kt1 I;exact T (fun h=>by rw [h i C] at hp;cases hp) i C kD B (fun j L bs=>by
        cases ha:anc l j i with
        | false=>rfl
        | true=>exact (D j ((hk j bs).2 L) ha).elim) id g1 ob g2
     obtain ⟨g1,g2,g3⟩:=hs.core.obj id ob a9;exact g2.keep Ext.refl an (fun _ h=>h) (fun _ _ _=>rfl) ⟨rfl,rfl⟩ (fun _ _=>rfl)
    rcases hN with ⟨hg,hN⟩ | ⟨hg,hN⟩
    ·have hw:=kk3 (ke9 l n es (chi i) ai st i o (fsOf l c i) (H i).1 (H i).2) ay hg;rw [qp hw];refine .inl (kg1 ?_ (hN ψ S a w ay br));rintro v w' ⟨g1,g2⟩;refine next kD ψ (fun b=>(S b\/w.heap.size<=b)/\b<w'.heap.size) v w' B (fun e g=>ac e g O) (Fr.of_grow hs.core.fr g1) ⟨Ext.refl,fun _ h=>h,fun b u=>⟨.inl u,qbm (hs.core.lt b u) g1.size⟩,Same.of_grow g1⟩ (hs.core.grow g1) ?_ fun t=>?_;exact (ax g2).bound.mono (fun _ h=>h) fun _ h=>h
     ·exact (hs.tmps t).keep Ext.refl (fun _ h=>h) (fun b u=>⟨.inl u,qbm (hs.core.lt b u) g1.size⟩) (Same.of_grow g1)
    ·have hw:=kk3 (ke9 l n es (chi i) ai st i o (fsOf l c i) (H i).1 (H i).2) ay hg;rw [ql (by rw [hw];exact qba)];exact next kD ψ S undef w B (fun e g=>ac e g O) Fr.refl HistI.refl hs.core (by rw [hN];exact .fz RF.undef) fun t=>hs.tmps t
   ·-- one of the chain
    have hp:=(af i O).2;have ad:=x hp;have az:Sim F S0 N0 (ke9 l n es (chi i) ai st i o (fsOf l c i) (H i).1 (H i).2) ψ S a w:=by
     refine ⟨hs.defers,hs.size,fun t=>?_,?_⟩;show RV ψ (·∈(bif phB l es i then (H i).2 else ai)) S w _ _;rw [hp];simp only [qe];rw [ad];have:=ab (·∈(H kD).2) (fun _ h=>h) t;rw [<- ad] at this ⊢;exact this
     ·show Core F S0 N0 (bif phB l es i then (H i).1 else knr (chi i) st.heap) (bif phB l es i then (H i).2 else ai) ψ S w;rw [hp];simp only [qe];rw [ad];exact hs.core
    have bt:(ke9 l n es (chi i) ai st i o (fsOf l c i) (H i).1 (H i).2).ids=(H kD).2:=(by show (bif phB l es i then (H i).2 else ai)=_;rw [hp,qe,ad]);have ae:∀ e,e∈es->((listed.setIfInBounds i true).getD e false=true↔e<i+1):=fun e g=>by
     have y:=hk e g;obtain ⟨h1,M⟩:=a3 i hp e g;by_cases ba:i=e;subst ba;rw [aa];simp
     ·rw [getD_set_ne false ba,y];constructor
      ·intro r;rcases qbi e i with h | h;omega
       ·exact (D e (y.2 r) (M (by omega))).elim
      ·intro r;exact y.1 (N e (h1 (by omega)))
    rcases bp with ⟨hg,a1⟩ | ⟨hg,bu,hh,bv⟩;have hw:=kiy az hg;rw [qp hw];refine .inl (kg1 ?_ (a1 F S0 N0 ψ S a w az));rintro v w' ⟨ψ',S',g1,g2,g3,g4,g5,g6,g7⟩;rw [bt] at g4 g5;exact next (i+1) ψ' S' v w' (by omega) ae g3 ⟨g4,g5,g6,g7⟩ g1 g2 fun t=>(hs.tmps t).keep g4 g5 g6 g7
    ·have hw:=kiy az hg;rw [ql (by rw [hw];exact qba)];have al:H (i+1)=H kD:=(by rw [<- ad];exact Prod.ext hh bv);refine next (i+1) ψ S undef w (by omega) ae Fr.refl ⟨Ext.refl,fun j h=>by rw [al];exact h,fun _ h=>h,fun _ _ _=>rfl⟩ ?_ ?_ fun t=>?_;rw [al];exact hs.core;rw [bu];exact .fz RF.undef
     ·rw [al];exact hs.tmps t
theorem kacs (hm:P.follows .mixedOrders=true) {id:Nat} {l:List Oper} (t:relB l n st.n=true) (g:kxm l n es=true) (j:st.ids.all ai.contains=true)
  (h:krb P l.toArray n es ch ai Q st n 0 l [] st.heap st.ids none):awp P (.region id l.toArray true) st Q:=by
 obtain ⟨c,H,pn,_,m,_,p,b,f⟩:=kov (os:=l.toArray) n 0 l (fun _ => .any) (fun _=>(st.heap,st.ids)) none rfl (by omega) (fun e h=>by cases h) h;simp only [List.toList_toArray] at b f;have u:=(kyn t).len;have q:pn=none:=by
  cases pn with
  | none=>rfl
  | some e=>
   exfalso;rcases p e rfl with h | ⟨_,r,v⟩;cases h
   ·have s:e<l.length:=(by omega);rcases b e l[e] (qau _) r (qa s) with ⟨_,e',d,x,_⟩ | ⟨d,_⟩ | ⟨_,d,_⟩ | ⟨_,_,_,d⟩;injection d with d;omega;exact d v;have:=d e rfl;omega
    ·exact d
 subst q;intro F S0 N0 ψ S a w hs;refine k06 (l:=l) (id:=id) hm c H (fun _=>ch) (fun _=>ch) t g j (m 0 (qx _)) (fun _ _ _ _ _ _ h=>h) (fun i o hi ho=>?_) hs _ fun ψ S a w g1 g2 _=>kcu (fun e a' w' k=>k.pre g2) _ _ _ (f rfl F S0 N0 ψ S a w g1);rcases b i o (qau _) hi ho with ⟨_,e',d,_⟩ | d | ⟨h1,_,r⟩ | ⟨_,_,_,d⟩;cases d;exact .inl d;exact .inr ⟨h1,r⟩
 ·exact d.elim
end Go.Proofs.YtchjomeomabamaaGreatDoor
