import Derived.Test.YtpnnpkmjohkgiaaGreatDoorOpm
import Derived.MapKept
import Derived.Laws.OwnMore
set_option linter.all false
namespace Go.Proofs.YtpnnpkmjohkgiaaGreatDoor
open Go Go.RowKit
def kog (id:Nat):AV->List Nat
 | .row k m=>bif Nat.beq k id then [m] else []
 | _=>[]
def kwd (id:Nat):AV->List Nat
 | .agg cs=>cs.flatMap (kog id)
 | .fn _ cs=>cs.flatMap (kog id)
 | y=>kog id y
def ksv (id:Nat):AV->List Nat
 | .tup cs=>cs.flatMap (kwd id)
 | y=>kwd id y
def kww (id:Nat):AObj->List Nat
 | .box _ cs=>cs.flatMap (kog id)
 | _=>[]
def frz1 (id:Nat) (x:FV):AV->AV
 | .row k m=>bif Nat.beq k id then .fz x else .row k m
 | y=>y
def frzG (id:Nat) (x:FV):AV->AV
 | .agg cs=>aggA (cs.map (frz1 id x))
 | .fn f cs => .fn f (cs.map (frz1 id x))
 | y=>frz1 id x y
def frzT (id:Nat) (x:FV):AV->AV
 | .tup cs=>tupA (cs.map (frzG id x))
 | y=>frzG id x y
def frzO (id:Nat) (x:FV):AObj->AObj
 | .box e cs => .box e (cs.map (frz1 id x))
 | y=>y
def ky9 (id:Nat) (st:St):List Nat:=st.tmps.flatMap (fun p=>ksv id p.2)++(kdn id st.heap).flatMap (fun p=>kww id p.2)
def frzSt (id:Nat) (x:FV) (st:St):St:={ dfr:=st.dfr,n:=st.n,tmps:=st.tmps.map (fun p=>(p.1,frzT id x p.2)),heap:=(kdn id st.heap).map (fun p=>(p.1,frzO id x p.2)),ids:=st.ids }
section
variable {F S0:Nat->Prop} {N0:Nat} {w:World} {S:Nat->Prop} {ψ:Env} {K:Nat->Prop} {id n:Nat} {x:FV} {st:St}
theorem kos (a:∀ v,RV ψ K S w v (.row id n)->RF S w v x) {v:Value} {y:AV} (h:RV ψ K S w v y) (hr:∀ m∈kog id y,m=n):RV ψ K S w v (frz1 id x y):=by
 cases y with
 | row k m=>
  simp only [frz1];cases b:Nat.beq k id with
  | false=>exact h
  | true=>
   have hk:=qh b;subst hk;have hm:m=n:=hr m (by simp [kog]);subst hm;exact .fz (a v h)
 | _=>exact h
theorem kow (hs:x.single=true) {y:AV} (h:y.single=true):(frz1 id x y).single=true:=by
 cases y with
 | row k m=>
  simp only [frz1];cases Nat.beq k id with
  | false=>exact h
  | true=>exact hs
 | _=>exact h
theorem kn2 {α β γ:Type} {R Q:α->γ->Prop} {f:β->γ} {R':α->β->Prop} {cs:Array α} {xs:List β} (hr:∀ (i:Nat) (v:α) (y:β),cs[i]?=some v->xs[i]?=some y->R' v y) (b:∀ v y,y∈xs->R' v y->Q v (f y)):
  ∀ (i:Nat) (v:α) (y:γ),cs[i]?=some v->(xs.map f)[i]?=some y->Q v y:=by
 intro i v y hv hy;simp only [qv,qr] at hy;obtain ⟨z,a,rfl⟩:=hy;exact b v z (qt a) (hr i v z hv a)
theorem koe (hs:x.single=true) (b:∀ v,RV ψ K S w v (.row id n)->RF S w v x) {v:Value} {y:AV} (h:RV ψ K S w v y) (hr:∀ m∈kwd id y,m=n):RV ψ K S w v (frzG id x y):=by
 cases y with
 | agg cs=>
  cases h with
  | agg h h1 a=>
   refine RV.aggA (by simpa using h) (fun y hy=>?_) (kn2 (R:=fun _ _=>True) a fun v y hy hv=>kos b hv fun m hm=>hr m ?_);simp only [qau] at hy;obtain ⟨z,c,rfl⟩:=hy;exact kow hs (h1 z c)
   ·exact List.mem_flatMap.2 ⟨y,hy,hm⟩
 | fn f cs=>
  cases h with
  | fn h a=>exact .fn (by simpa using h) (kn2 (R:=fun _ _=>True) a fun v y hy hv=>kos b hv fun m hm=>hr m (List.mem_flatMap.2 ⟨y,hy,hm⟩))
 | row k m=>exact kos b h hr
 | _=>exact h
theorem k45 (hs:x.single=true) (a:∀ v,RV ψ K S w v (.row id n)->RF S w v x) {v:Value} {y:AV} (h:RV ψ K S w v y) (hr:∀ m∈ksv id y,m=n):RV ψ K S w v (frzT id x y):=by
 cases y with
 | tup cs=>
  cases h with
  | tup h b=>exact RV.tupA (by simpa using h) (kn2 (R:=fun _ _=>True) b fun v y hy hv=>koe hs a hv fun m hm=>hr m (List.mem_flatMap.2 ⟨y,hy,hm⟩))
 | agg cs=>exact koe hs a h hr
 | fn f cs=>exact koe hs a h hr
 | row k m=>exact koe hs a h hr
 | _=>exact h
theorem k04 (l:List (Nat×AV)) (t:Nat):look .any (l.map fun p=>(p.1,frzT id x p.2)) t=frzT id x (look .any l t)/\∀ m∈ksv id (look .any l t),m∈l.flatMap (fun p=>ksv id p.2):=by
 induction l with
 | nil=>exact ⟨rfl,fun m hm=>by cases hm⟩
 | cons p l ih=>
  obtain ⟨k,v⟩:=p;simp only [qa2,kbd,List.flatMap_cons,qao];by_cases h:k=t;simp only [qq h];exact ⟨trivial,fun m hm => .inl hm⟩
  ·simp only [ql h];exact ⟨ih.1,fun m hm => .inr (ih.2 m hm)⟩
theorem knc (l:List (Nat×AObj)) (t:Nat):kaa (l.map fun p=>(p.1,frzO id x p.2)) t=(kaa l t).map (frzO id x)/\∀ o,kaa l t=some o->∀ m∈kww id o,m∈l.flatMap (fun p=>kww id p.2):=by
 induction l with
 | nil=>exact ⟨rfl,fun o h=>by cases h⟩
 | cons p l ih=>
  obtain ⟨k,v⟩:=p;simp only [qa2,kaf,List.flatMap_cons,qao];by_cases h:k=t;simp only [qq h];exact ⟨rfl,fun o a m hm=>by injection a with a;subst a;exact .inl hm⟩
  ·simp only [ql h];exact ⟨ih.1,fun o a m hm => .inr (ih.2 o a m hm)⟩
theorem k7j (id:Nat) {n k:Nat} {e:TypeId} {size:Nat} {xs:List FV} (f:kaa st.heap id=some (.frow e size xs)) (hn:n=xs.length) (g:ky9 id st=List.replicate k n:=by kernel_rfl):LeSt st (frzSt id (.lst size n xs) st):=by
 subst hn;intro F S0 N0 ψ S a w hs;obtain ⟨c1,c2⟩:=klp hs.core f;have d:∀ m∈ky9 id st,m=xs.length:=fun m hm=>by rw [g] at hm;exact (List.mem_replicate.1 hm).2
 have h0:=(hs.core.obj id _ f).2.1.1;have A:∀ v,RV ψ (·∈st.ids) (fun b=>S b\/ka1 (ψ.val id)=some b) w v (.row id xs.length)->RF (fun b=>S b\/ka1 (ψ.val id)=some b) w v (.lst size xs.length xs):=by
  intro v hv;cases hv with
  | row hK B h1 hv=>rw [hv (by rw [h0])];exact c2
 refine ⟨ψ,_,hs.defers,hs.size,fun t=>?_,⟨fun i o q=>?_,fun i i' o o' b q c r C=>?_,c1.lt,c1.s0,c1.n0,c1.fr⟩⟩;obtain ⟨l1,l2⟩:=k04 (id:=id) (x := .lst size xs.length xs) st.tmps t;show RV ψ (·∈st.ids) _ w (a.tmps.getD t undef) (look .any (st.tmps.map fun p=>(p.1,frzT id (.lst size xs.length xs) p.2)) t);rw [l1];refine k45 rfl A ((hs.tmps t).mono (fun _ h=>h) fun _ h => .inl h) fun m hm=>d m ?_;exact qao.2 (.inl (l2 m hm))
 ·obtain ⟨l1,l2⟩:=knc (id:=id) (x := .lst size xs.length xs) (kdn id st.heap) i;have c:kaa ((kdn id st.heap).map fun p=>(p.1,frzO id (.lst size xs.length xs) p.2)) i=some o:=q;rw [l1,qr] at c;obtain ⟨o',h1,rfl⟩:=c;obtain ⟨k1,k2,k7⟩:=c1.obj i o' h1;refine ⟨k1,?_,k7⟩;cases o' with
  | box e2 cells=>
   obtain ⟨g0,b,cs,g2,g3,g4,g5,g6⟩:=k2;refine ⟨g0,b,cs,g2,g3,by simpa using g4,fun y hy=>?_,kn2 (R:=fun _ _=>True) g6 fun v y hy hv=>kos A hv fun m hm=>d m ?_⟩;simp only [qau] at hy;obtain ⟨z,D,rfl⟩:=hy;exact kow rfl (g5 z D)
   ·exact qao.2 (.inr (l2 _ h1 m (List.mem_flatMap.2 ⟨y,hy,hm⟩)))
  | _=>exact k2
 ·obtain ⟨l1,_⟩:=knc (id:=id) (x := .lst size xs.length xs) (kdn id st.heap) i;obtain ⟨l2,_⟩:=knc (id:=id) (x := .lst size xs.length xs) (kdn id st.heap) i';have j:kaa ((kdn id st.heap).map fun p=>(p.1,frzO id (.lst size xs.length xs) p.2)) i=some o:=q;have l:kaa ((kdn id st.heap).map fun p=>(p.1,frzO id (.lst size xs.length xs) p.2)) i'=some o':=c;rw [l1,qr] at j;rw [l2,qr] at l;obtain ⟨u,E,_⟩:=j;obtain ⟨u',s,_⟩:=l;exact c1.inj i i' u u' b E s r C
end
def kes {α:Type} (s:BA):List (BA×α)->Nat->Option (Nat×α)
 | [],_=>none
 | (k,v)::l,i=>bif s.toList == k.toList then some (i,v) else kes s l (i+1)
def mget {α:Type} (m:List (BA×α)) (s:BA) (z:α):α:=match kes s m 0 with
 | some (_,x)=>x
 | none=>z
def mput {α:Type} (m:List (BA×α)) (s:BA) (y:α):List (BA×α):=match kes s m 0 with
 | some (j,_)=>m.set j (s,y)
 | none=>m++[(s,y)]
theorem kgg (a b:BA):(a.toList == b.toList)=(a == b):=by
 rw [Bool.eq_iff_iff,beq_iff_eq,MapKept.bytes_beq,ByteArray.toList_eq,ByteArray.toList_eq];constructor;intro h;exact ByteArray.ext (Array.toList_inj.1 h)
 ·intro h;rw [h]
theorem kk4 {α β:Type} (f:α->β) (s:BA):∀ (m:List (BA×α)) (i:Nat),kes s (m.map fun p=>(p.1,f p.2)) i=(kes s m i).map fun p=>(p.1,f p.2)
 | [],_=>rfl
 | (k,v)::l,i=>by
  simp only [qa2,kes];cases s.toList == k.toList with
  | true=>rfl
  | false=>exact kk4 f s l (i+1)
theorem kt6 {α β:Type} (f:α->β) (m:List (BA×α)) (s:BA) (z:α):mget (m.map fun p=>(p.1,f p.2)) s (f z)=f (mget m s z):=by
 unfold mget;rw [kk4];cases kes s m 0 with
 | none=>rfl
 | some p=>rfl
theorem kub {α:Type} {s:BA}:∀ {m:List (BA×α)} {i j:Nat} {x:α},kes s m i=some (j,x)->i<=j/\j - i<m.length/\∃ k,m[j - i]?=some (k,x)/\k=s
 | [],i,j,x,h=>by cases h
 | (k,v)::l,i,j,x,h=>by
  simp only [kes] at h;cases a:s.toList == k.toList with
  | true=>
   rw [a] at h;simp only [qd,qc,qm] at h;obtain ⟨rfl,rfl⟩:=h;rw [kgg,MapKept.bytes_beq] at a;exact ⟨qy _,by simp,k,by simp,a.symm⟩
  | false=>
   rw [a] at h;obtain ⟨h1,d,k',b,c⟩:=kub h;have e:j - i=(j - (i+1))+1:=(by omega);exact ⟨by omega,by simp;omega,k',by rw [e,List.getElem?_cons_succ];exact b,c⟩
section
variable {P:Program} {F S0:Nat->Prop} {N0:Nat} {w w':World} {S S':Nat->Prop} {ψ:Env} {K:Nat->Prop} {T:List (TypeId×TD)} {o:Oper} {a:Act} {st:St} {t:TypeId} {d:TD} {id:Nat}
theorem kli (s:BA) {R:Value->FV->Prop}:∀ (es:List MapEntry) (kv:List (BA×FV)) (i:Nat),es.length=kv.length->(∀ (j:Nat) (e:MapEntry) (p:BA×FV),es[j]?=some e->kv[j]?=some p->e.key = .string p.1/\R e.val p.2) ->
  (Instr.findNow .string (.string s) es i=some none/\kes s kv i=none)\/∃ j v x,Instr.findNow .string (.string s) es i=some (some (j,v))/\kes s kv i=some (j,x)/\R v x
 | [],[],i,_,_ => .inl ⟨rfl,rfl⟩
 | [],p::kv,i,h,_=>by cases h
 | e::es,[],i,h,_=>by cases h
 | e::es,(k,x)::kv,i,h,hr=>by
  obtain ⟨hk,hv⟩:=hr 0 e (k,x) rfl rfl;simp only [Instr.findNow,hk,Instr.sameNow,kes,kgg];cases b:s == k with
  | true=>exact .inr ⟨i,e.val,x,rfl,rfl,hv⟩
  | false=>exact kli s es kv (i+1) (by simpa using h) fun j e p a hp=>hr (j+1) e p (by simpa using a) (by simpa using hp)
theorem TdOk.mp {k e:Nat} (h:TdOk P t d) (hk:d.kind = .map k e):P.underlying t=some (.map k e):=by obtain ⟨_,e',h1,a⟩:=h;rw [hk] at a;cases e' <;> simp [kai] at a;rw [h1,a.1,a.2]
theorem kyl (g:o.op = .makeMap t none:=by kernel_rfl) (d:st.ids.contains id=false:=by kernel_rfl):kaq P o st (.mp id) ((id, .smap [])::st.heap) (id::st.ids):=by
 have d:id∉st.ids:=by simpa using d
 intro F S0 N0 ψ S a w f;have c:=f.core;refine kae (w':=w.alloc (.map #[] 0)) (v := .map (some w.heap.size)) ?_ ⟨ψ.set id 0 (.map (some w.heap.size)),S,?_,?_,kgj _ c.fr,kcw d _ _,fun _ h=>qu _ h,fun _ h=>h,Same.of_grow (kbc _ _)⟩;simp [execOp,g,Instr.makeMap];exact c.add (kbc _ _) d (fun b j=>by simp [ka1] at j;omega) ⟨kcs _ _,w.heap.size,_,_,kat _ _,heap_alloc_new w _,rfl,fun i e p k hp=>by simp at k⟩
 ·exact .mp (q9 ..) rfl fun _=>by rw [kat]
theorem kze {kv:List (BA×FV)} {v:Value} (hs:ObR ψ K S w id (.smap kv)) (hv:RV ψ K S w v (.mp id)):v=ψ.val id:=by
 cases hv with
 | mp hK h1 hv=>exact hv hs.1.symm
theorem k0o {α:Type} {enc:α->FV} {m:List (BA×α)} {s:BA} {z:α} {x y:Operand} {kt et:TypeId} {kd:TD} (zv:Value) (H:o.op = .lookup t x y false) (I:TOk P T) (r:kab T t=some d) (hk:d.kind = .map kt et) (c:kab T kt=some kd) (i:kd.kind = .str) (inf:TypeInfo) (u:P.info? et=some inf) (A:inf.zero=some zv) (B:enc z = .atom zv) (C:zv.oneCell'=true)
  (K:st.eval x = .mp id:=by kernel_rfl) (D:kaa st.heap id=some (.smap (m.map fun p=>(p.1,enc p.2))):=by kernel_rfl) (hy:st.eval y = .fz (.atom (.string s)):=by kernel_rfl):NStep P o st (.fz (enc (mget m s z))):=by
 intro ψ S a w ht L;have r:=I.get r;have c:=I.get c;have hv:=Sim.eval_tmps ht x;rw [K] at hv;have l:=L id _ D;have n:=kze l hv;obtain ⟨h0,b,es,clock,g,J,E,hr⟩:=l;have f:=Sim.eval_tmps ht y;rw [hy] at f;have f:=f.atom;have F:(zeroValue et).run P w = .ok zv w:=by simp [zeroValue,typeInfo,u,A]
 have q:=MapKept.run_checkKey (w:=w) (c.str i) (k := .string s) trivial es.isEmpty 9999;rcases kli s (R:=fun v x=>RF S w v x) es.toList (m.map fun p=>(p.1,enc p.2)) 0 (by simpa using E) (fun j e p M hp=>hr j e p (by simpa using M) hp) with ⟨f1,f2⟩ | ⟨j,v,x',f1,f2,f3⟩
 ·have G:=MapKept.run_findKey (w:=w) (c.str i) f1;refine kae (w':=w) (v:=zv) ?_ ⟨kag _, .fz ?_⟩;simp [execOp,H,f,n,g,Instr.lookup,run_underlying (r.mp hk),MapKept.run_getObj_map J,q,G,F]
  ·rw [<- kt6 enc];unfold mget;rw [f2];simp only;rw [B];exact .atom C
 ·have G:=MapKept.run_findKey (w:=w) (c.str i) f1;refine kae (w':=w) (v:=v) ?_ ⟨kag _, .fz ?_⟩;simp [execOp,H,f,n,g,Instr.lookup,run_underlying (r.mp hk),MapKept.run_getObj_map J,q,G]
  ·rw [<- kt6 enc];unfold mget;rw [f2];exact f3.mono fun _ h => .inl h
theorem kuz {α:Type} {enc:α->FV} {m:List (BA×α)} {s:BA} {z:α} {x y v:Operand} {kt et:TypeId} {kd:TD} (ho:o.op = .mapUpdate t x y v) (hT:TOk P T) (Z:kab T t=some d) (hk:d.kind = .map kt et) (l:kab T kt=some kd) (I:kd.kind = .str:=by kernel_rfl) (hx:st.eval x = .mp id:=by kernel_rfl) (K:kaa st.heap id=some (.smap (m.map fun p=>(p.1,enc p.2))):=by kernel_rfl) (hy:st.eval y = .fz (.atom (.string s)):=by kernel_rfl) (hv:st.eval v = .fz (enc z):=by kernel_rfl):kaq P o st .any ((id, .smap ((mput m s z).map fun p=>(p.1,enc p.2)))::st.heap) st.ids:=by
 intro F S0 N0 ψ S a w D;have Z:=hT.get Z;have l:=hT.get l;have r:=D.core;obtain ⟨ag,L,aa⟩:=r.obj id _ K;have M:=D.eval x;rw [hx] at M;have N:=kze L M;obtain ⟨h0,b,es,clock,g,E,A,hr⟩:=L;have B:=D.eval y;rw [hy] at B;have B:=B.atom;have C:=D.eval v;rw [hv] at C;have C:=C.inv;have O:=MapKept.run_checkKey (w:=w) (l.str I) (k := .string s) trivial false 9999;have G:ψ.set id 0 (ψ.val id)=ψ:=by
  unfold Env.set;congr 1
  ·funext i;split;rename_i h;rw [h,h0]
   ·rfl
  ·funext i;split;rename_i h;rw [h]
   ·rfl
 have main:∀ (es':Array MapEntry) (clock':Nat),es'.size=(mput m s z).length ->
   (∀ (i:Nat) (e:MapEntry) (p:BA×FV),es'[i]?=some e->((mput m s z).map fun p=>(p.1,enc p.2))[i]?=some p->e.key = .string p.1/\RF S w e.val p.2) ->
   (execOp a.eval o).run P w = .ok .skip { w with heap:=w.heap.setIfInBounds b (.map es' clock') } ->
   kdi P o a w fun v w'=>∃ ψ' S',Core F S0 N0 ((id, .smap ((mput m s z).map fun p=>(p.1,enc p.2)))::st.heap) st.ids ψ' S' w'/\RV ψ' (·∈st.ids) S' w' v .any/\Fr F w w'/\Ext (·∈st.ids) ψ ψ'/\(∀ id,id∈st.ids->id∈st.ids)/\(∀ b,S b->S' b)/\Same S w w':=by
  intro es' clock' Q ab U;obtain ⟨g1,g2⟩:=MapKept.heap_set (o' := .map es' clock') E;have af:({ w with heap:=w.heap.setIfInBounds b (.map es' clock') }:World).heap.size=w.heap.size:=by simp
  have H:∀ k,k<w.heap.size->¬ Blk (ψ.val id) k->({ w with heap:=w.heap.setIfInBounds b (.map es' clock') }:World).heap[k]?=w.heap[k]?:=fun k _ hk=>g2 k fun e=>hk (.of (by rw [g,e];rfl));have hk:Same S w { w with heap:=w.heap.setIfInBounds b (.map es' clock') }:=fun k hk hl=>H k hl fun e=>(aa k e).1 hk;obtain ⟨c1,c2,c3⟩:=r.upd (n:=0) (v:=ψ.val id) (w':={ w with heap:=w.heap.setIfInBounds b (.map es' clock') }) (ob' := .smap ((mput m s z).map fun p=>(p.1,enc p.2))) K (by omega) H (.inr ⟨h0,rfl⟩) (fun b E => .inl E) (by rw [G];refine ⟨h0,b,es',clock',g,g1,by simpa using Q,fun i e p c hp=>?_⟩;obtain ⟨q1,q2⟩:=ab i e p c hp;exact ⟨q1,q2.keep hk⟩);rw [G] at c1;exact kik U ⟨ψ,S,c1, .any,⟨rfl,rfl,rfl,by omega,c3⟩,Ext.refl,fun _ h=>h,fun _ h=>h,c2⟩
 have ac:∀ (j:Nat) (e:MapEntry) (p:BA×FV),es.toList[j]?=some e->(m.map fun p=>(p.1,enc p.2))[j]?=some p->e.key = .string p.1/\RF S w e.val p.2:=fun j e p c hp=>hr j e p (by simpa using c) hp;rcases kli s (R:=fun v x=>RF S w v x) es.toList (m.map fun p=>(p.1,enc p.2)) 0 (by simpa using A) ac with ⟨f1,f2⟩ | ⟨j,u,x',f1,f2,f3⟩
 ·have hf:=MapKept.run_findKey (w:=w) (l.str I) f1;have ad:kes s m 0=none:=by
   rw [kk4] at f2;cases hq:kes s m 0 with
   | none=>rfl
   | some q=>rw [hq] at f2;cases f2
  have f:mput m s z=m++[(s,z)]:=by unfold mput;rw [ad]
  refine main (es.push { key := .string s,val:=a.eval v,born:=clock }) (clock+1) (by rw [f];simpa using A) (fun i e p c hp=>?_) ?_
  ·rw [f,List.map_append] at hp;rw [Array.getElem?_push] at c;have V:es.size=(m.map fun p=>(p.1,enc p.2)).length:=A;by_cases hi:i=es.size;rw [qq hi] at c;injection c with c;subst c;rw [qae (by omega),hi,V,Nat.sub_self] at hp;simp only [qa2,List.map_nil,List.getElem?_cons_zero,qc] at hp;subst hp;exact ⟨rfl,C⟩
   ·rw [ql hi] at c;have ah:i<es.size:=(qaq.1 c).1;rw [qaa (by omega)] at hp;exact hr i e p c hp
  ·simp [execOp,ho,B,N,g,Instr.mapUpdate,run_underlying (Z.mp hk),MapKept.run_getObj_map E,O,hf,MapKept.run_setObj_map _ E]
 ·have hf:=MapKept.run_findKey (w:=w) (l.str I) f1;rw [kk4,qr] at f2;obtain ⟨⟨j',x0⟩,f4,f5⟩:=f2;simp only [qm] at f5;obtain ⟨rfl,rfl⟩:=f5;obtain ⟨_,l2,k,l3,rfl⟩:=kub f4;simp only [Nat.sub_zero] at l2 l3;have f:mput m k z=m.set j' (k,z):=by unfold mput;rw [f4]
  have ae:j'<es.size:=by rw [A,qat];exact l2
  have J:es[j']?=some es[j']:=qba ae;have X:es[j'].key = .string k:=(hr j' _ (k,enc x0) J (by rw [qv,l3];rfl)).1;refine main (es.modify j' fun e=>{ e with key := .string k,val:=a.eval v }) clock (by rw [f];simpa using A) (fun i e p c hp=>?_) ?_
  ·rw [f,List.map_set] at hp;rw [Array.getElem?_modify] at c;by_cases hi:j'=i;subst hi;rw [qq rfl,J] at c;simp only [qa1,qc] at c;subst c;rw [List.getElem?_set_self (by rw [qat];exact l2)] at hp;injection hp with hp;subst hp;exact ⟨rfl,C⟩
   ·rw [ql hi] at c;rw [List.getElem?_set_ne hi] at hp;exact hr i e p c hp
  ·have Y:(Instr.keyThatStays (((es[j']?).map (·.key)).getD (.string k)) (.string k)).run P w = .ok (.string k) w:=(by rw [J];simp only [qa1,qaf,X];exact MapKept.run_keyThatStays (d := .string) trivial);simp [execOp,ho,B,N,g,Instr.mapUpdate,run_underlying (Z.mp hk),MapKept.run_getObj_map E,O,hf,MapKept.run_setObj_map _ E];simp [Y,MapKept.run_setObj_map _ E]
end
mutual
def depV:Va->Nat
 | .mk _ _ _ l=>kld l+1
def kld:List Va->Nat
 | []=>0
 | x::l=>Nat.max (depV x) (kld l)
end
section
variable {P:Program} {F S0:Nat->Prop} {N0:Nat} {w w':World} {S S':Nat->Prop} {ψ:Env} {K:Nat->Prop} {T:List (TypeId×TD)} {o:Oper} {a:Act} {st:St} {t:TypeId} {d:TD}
end
section
variable {P:Program} {F S0:Nat->Prop} {N0:Nat} {w w':World} {S S':Nat->Prop} {ψ:Env} {K:Nat->Prop} {T:List (TypeId×TD)} {o:Oper} {a:Act} {st:St} {t:TypeId} {d:TD} {id:Nat}
theorem ksh {v:Value} {e:TypeId} {n:Nat} {cs:List Value} (h:w.ownsRow 0 e 1 v n cs) (hn:0<n):∃ g cap cur,v = .slice (some ⟨g,0,none⟩) n cap/\w.heap[g]?=some (.cells cur e (0,0))/\n<=cap/\cap<=maxLen/\cur.size=cap/\cur.toList.take n=cs:=by
 rcases h.2 with ⟨_,h0⟩ | ⟨g,cap,cur,hv,_,a,h1,b,c,d⟩;omega
 ·exact ⟨g,cap,cur,hv,a,h1,b,by simpa using c,by simpa using d⟩
theorem kzq {α:Type} {enc:α->FV} {xs:List α} {x:α} {i:Int} {X Y:Operand} {e:TypeId} {de:TD} {k:IntKind} {n:Nat} (h:idx xs i=some x) (r:TOk P T) (s:o.op = .indexAddr t X Y) (p:kab T t=some d) (hk:d.kind = .slice e) (j:kab T e=some de) (y:de.size=1)
  (z:st.eval X = .row id n) (q:kaa st.heap id=some (.frow e 1 (xs.map enc))) (hn:n=xs.length) (hy:st.eval Y = .fz (.atom (.int k i)):=by kernel_rfl):NStep P o st (.ref id n i.toNat):=by
 intro ψ S a w ht A;subst hn;have p:=r.get p;have j:=r.get j;unfold idx at h;split at h
 ·rename_i h0;have B:i.toNat<xs.length:=(qg.1 h).1;have l:=Sim.eval_tmps ht X;rw [z] at l;have b:=Sim.eval_tmps ht Y;rw [hy] at b;have b:=b.atom;obtain ⟨hl,_,cs,c,_,_⟩:=A id _ q;rw [qat] at hl c;obtain ⟨g,cap,cur,f,D,_⟩:=ksh c (by omega);have hK:id∈st.ids/\a.eval X=ψ.val id:=by
   generalize a.eval X=u at l;cases l with
   | row hK C h1 hv=>exact ⟨hK,hv hl.symm⟩
  refine kae (w':=w) (v := .pointer (some ⟨g,i.toNat,none⟩)) ?_ ⟨kag _, .ref hK.1 (by omega) rfl fun _=>⟨g,by rw [f];rfl,rfl⟩⟩;have m:i<(xs.length:Int):=by omega
  simp [execOp,s,hK.2,f,b,Instr.indexAt,asIntOf,run_underlying (p.slice hk),h0,m,j.size,y,kb2]
 ·cases h
theorem k0b {α:Type} {enc:α->FV} {xs:List α} {x:α} {i:Int} {X:Operand} {n:Nat} (h:idx xs i=some x) (r:TOk P T) (s:o.op = .load t X) (k:kab T t=some d) (hk:d.kind.agg=false) (z:st.eval X = .ref id n i.toNat) (l:kaa st.heap id=some (.frow t 1 (xs.map enc))) (hn:n=xs.length) (m:∀ y,(enc y).cells=[enc y]):NStep P o st (.fz (enc x)):=by
 intro ψ S a w ht A;subst hn;have k:=r.get k;unfold idx at h;split at h
 ·rename_i h0;have B:i.toNat<xs.length:=(qg.1 h).1;have f:=Sim.eval_tmps ht X;rw [z] at f;obtain ⟨hl,_,cs,c,_,hr⟩:=A id _ l;rw [qat] at hl c;obtain ⟨g,cap,cur,e,G,C,hc2,D,E⟩:=ksh c (by omega);have hp:a.eval X = .pointer (some ⟨g,i.toNat,none⟩):=by
   generalize a.eval X=u at f;cases f with
   | ref hK F h1 hv=>
    obtain ⟨b,p,rfl⟩:=hv hl.symm;rw [e] at p;simp only [ka1,qc] at p;rw [p]
  have q:cs[i.toNat]?=some (cs[i.toNat]'(by rw [c.1];omega)):=qa _;have j:w.cell? ⟨g,i.toNat,none⟩=some (cs[i.toNat]'(by rw [c.1];omega)):=by rw [e] at c;rw [World.ownsRow.cellAt c i.toNat (by omega),q]
  refine kae (w':=w) (v:=cs[i.toNat]'(by rw [c.1];omega)) ?_ ⟨kag _, .fz ((hr i.toNat (enc x) 0 _ (enc x) (by rw [qv,h];rfl) (by simp) (by rw [m];rfl)).mono fun _ h => .inl h)⟩;simp [execOp,s,hp,Instr.loadAt,Instr.sureAddr,loadVar,k.isAgg,hk,j]
 ·cases h
end
end Go.Proofs.YtpnnpkmjohkgiaaGreatDoor
