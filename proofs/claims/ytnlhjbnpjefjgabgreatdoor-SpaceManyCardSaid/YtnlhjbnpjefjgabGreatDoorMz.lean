import Derived.Test.YtnlhjbnpjefjgabGreatDoorXc
import Derived.Maps.RangeRun
set_option linter.all false
namespace Go.Proofs.YtnlhjbnpjefjgabGreatDoor
open Go Go.RowKit
open Go.ChangeMaps (setBlock)
def kzi:Value->Value->Option Bool
 | .int a m, .int b n=>if a=b then some (m == n) else none
 | .string s, .string u=>some (s.toList == u.toList)
 | _,_=>none
def kq9 (k:Value):List (Value×AV)->Nat->Option (Option (Nat×AV))
 | [],_=>some none
 | (k',x)::l,i=>match kzi k k' with
  | some true=>some (some (i,x))
  | some false=>kq9 k l (i+1)
  | none=>none
def keyK:TK->Value->Bool
 | .int k, .int n _=>decide (k=n)
 | .str, .string _=>true
 | _,_=>false
def vput (k:Value) (kv:List (Value×AV)) (z:AV):Option (List (Value×AV)):=match kq9 k kv 0 with
 | some (some (j,_))=>some (kv.set j (k,z))
 | some none=>some (kv++[(k,z)])
 | none=>none
def khr (seen:List Nat):Nat->List Nat
 | 0=>[]
 | n+1=>bif seen.contains n then khr seen n else n::khr seen n
def ZOk (P:Program) (Z:List (TypeId×Value)):Prop:=∀ p∈Z,∃ i,P.info? p.1=some i/\i.zero=some p.2
def kvy:List (TypeId×Value)->TypeId->Option Value
 | [],_=>none
 | (k,v)::l,t=>bif Nat.beq k t then some v else kvy l t
section
variable {P:Program} {F S0:Nat->Prop} {N0:Nat} {w w':World} {S S':Nat->Prop} {ψ ψ':Env} {K:Nat->Prop} {T:List (TypeId×TD)} {o:Oper} {a:Act} {st:St} {t tx:TypeId} {d:TD} {id:Nat} {kv:List (Value×AV)} {Z:List (TypeId×Value)}
theorem ZOk.get (h:ZOk P Z) {v:Value} (ht:kvy Z t=some v) (w:World):(zeroValue t).run P w = .ok v w:=by
 induction Z with
 | nil=>cases ht
 | cons p l ih=>
  obtain ⟨k,u⟩:=p;simp only [kvy] at ht;by_cases hk:k=t;subst hk;simp only [Nat.beq_refl,qr,qb] at ht;subst ht;obtain ⟨i,h1,a⟩:=h _ (qn ..);simp [zeroValue,typeInfo,h1,a]
  ·rw [Nat.beq_eq_false hk] at ht;exact ih (fun p hp=>h p (qe _ hp)) ht
theorem TdOk.mpX {k e:Nat} (h:TdOk P t d) (hk:d.kind = .map k e):P.underlying t=some (.map k e):=by obtain ⟨_,e',h1,a⟩:=h;rw [hk] at a;cases e' <;> simp [kdd] at a;rw [h1,a.1,a.2]
theorem k2u {k:Value} (h:TdOk P t d) (hk:keyK d.kind k=true):∃ td,P.underlying t=some td/\MapKept.IsKey td k/\((∃ ik n m,td = .int ik/\k = .int n m)\/(td = .string/\∃ s,k = .string s))/\k.oneCell'=true:=by
 obtain ⟨_,e',h1,b⟩:=h;unfold keyK at hk;split at hk;rename_i ik n m a;rw [a] at b;cases e' <;> simp [kdd] at b;exact ⟨_,h1,by simp only [qa3] at hk;rw [b];exact hk.symm, .inl ⟨_,_,_,rfl,rfl⟩,rfl⟩;rename_i s a;rw [a] at b;cases e' <;> simp [kdd] at b;exact ⟨_,h1,trivial, .inr ⟨rfl,s,rfl⟩,rfl⟩
 ·cases hk
theorem k1j {k k':Value} {td:TypeDesc} {b:Bool} (c:(∃ ik n m,td = .int ik/\k = .int n m)\/(td = .string/\∃ s,k = .string s)) (h:kzi k k'=some b):Instr.sameNow td k k'=some b/\(b=true->k'=k):=by
 rcases c with ⟨ik,n,m,rfl,rfl⟩ | ⟨rfl,s,rfl⟩
 ·cases k' <;> simp only [kzi] at h <;> try cases h
  rename_i n' m';split at h;rename_i hn;subst hn;injection h with h;refine ⟨by simp [Instr.sameNow,h],fun a=>?_⟩;rw [a] at h;simp at h;rw [h]
  ·cases h
 ·cases k' <;> simp only [kzi] at h <;> try cases h
  rename_i s';rw [knm];exact ⟨rfl,fun a=>by rw [MapKept.bytes_beq] at a;rw [a]⟩
theorem kpd {k:Value} {td:TypeDesc} (a:(∃ ik n m,td = .int ik/\k = .int n m)\/(td = .string/\∃ s,k = .string s)):∀ (es:List MapEntry) (kv:List (Value×AV)) (i:Nat) (r:Option (Nat×AV)),es.length=kv.length->(∀ (j:Nat) (e:MapEntry) (p:Value×AV),es[j]?=some e->kv[j]?=some p->e.key=p.1)->kq9 k kv i=some r ->
  (r=none/\Instr.findNow td k es i=some none)\/∃ j x e,r=some (i+j,x)/\kv[j]?=some (k,x)/\es[j]?=some e/\Instr.findNow td k es i=some (some (i+j,e.val))
 | [],[],i,r,_,_,h=>by simp only [kq9,qb] at h;exact .inl ⟨h.symm,rfl⟩
 | [],p::kv,i,r,h,_,_=>by cases h
 | e::es,[],i,r,h,_,_=>by cases h
 | e::es,(k',x)::kv,i,r,hl,hr,h=>by
  have hk:e.key=k':=hr 0 e (k',x) rfl rfl;simp only [kq9] at h;split at h;rename_i b;injection h with h;obtain ⟨q1,q2⟩:=k1j a b;obtain rfl:=q2 rfl;exact .inr ⟨0,x,e,h.symm,rfl,rfl,by simp only [Instr.findNow,hk,q1];rfl⟩
  ·rename_i b;obtain ⟨q1,_⟩:=k1j a b;rcases kpd a es kv (i+1) r (by simpa using hl) (fun j e p d hp=>hr (j+1) e p (by simpa using d) (by simpa using hp)) h with ⟨h1,c⟩ | ⟨j,y,e',h1,c,f,g⟩;exact .inl ⟨h1,by simp only [Instr.findNow,hk,q1];exact c⟩
   ·exact .inr ⟨j+1,y,e',by rw [h1];congr 2;omega,by simpa using c,by simpa using f,by simp only [Instr.findNow,hk,q1];rw [g];congr 3;omega⟩
  ·cases h
theorem kuh {v:Value} (hs:XobR ψ K S w id (.amap kv)) (hv:RV ψ K S w v (.mp id)):v=ψ.val id:=by
 cases hv with
 | mp hK h1 hv=>exact hv hs.1.symm
theorem k4n (ho:o.op = .makeMap t none) (d:st.ids.contains id=false):StepA P o st (.mp id) ((id, .xo (.amap []))::st.heap) (id::st.ids):=by
 have d:id∉st.ids:=by simpa using d
 intro F S0 N0 ψ S a w f;have c:=f.core;refine kad (w.alloc (.map #[] 0)) (.map (some w.heap.size)) ?_ ⟨ψ.set id 0 (.map (some w.heap.size)),S,?_,?_,kes _ c.fr,kay d _ _,fun _ h=>qe _ h,fun _ h=>h,Same.of_grow (kap _ _)⟩;simp [execOp,ho,Instr.makeMap];exact c.add (kap _ _) d (fun b g=>by simp [kak] at g;omega) ⟨ka2 _ _,w.heap.size,_,kaj _ _,heap_alloc_new w _,rfl,fun i e p j hp=>by simp at j⟩
 ·exact .mp (qn ..) rfl fun _=>by rw [kaj]
theorem k5c {x y:Operand} {ok:Bool} {kt et:TypeId} {kd:TD} {k:Value} {r:Option (Nat×AV)} {c:AV} (ho:o.op = .lookup t x y ok) (F:TOk P T) (H:ZOk P Z) (B:kac T t=some d) (hk:d.kind = .map kt et) (h:kac T kt=some kd) (I:st.eval x = .mp id) (C:kaa st.heap id=some (.xo (.amap kv)))
  (hy:st.eval y = .fz (.atom k)) (D:keyK kd.kind k=true) (hf:kq9 k kv 0=some r) (hc:(match r with | some (_,z)=>some z | none=>(match kvy Z et with | some zv=>bif zv.oneCell' then some (AV.fz (.atom zv)) else none | none=>none))=some c):
  NStep P o st (bif ok then .tup [c, .fz (.atom (.bool r.isSome))] else c):=by
 intro ψ S a w ht J;have B:=F.get B;have h:=F.get h;have hv:=Sim.eval_tmps ht x;rw [I] at hv;have n:XobR ψ (·∈st.ids) S w id (.amap kv):=J id _ C;have q:=kuh n hv;obtain ⟨h0,b,es,g,G,E,hr⟩:=n;have f:=Sim.eval_tmps ht y;rw [hy] at f;have f:=f.atom;obtain ⟨td,g1,g2,g3,_⟩:=k2u h D;have s:=MapKept.run_checkKey (w:=w) g1 g2 es.isEmpty 9999;have fin:∀ u:Value,RV ψ (·∈st.ids) S w u c->(execOp a.eval o).run P w = .ok (.value (if ok then .tuple #[u, .bool r.isSome] else u)) w->kbx P o a w fun v w'=>Grow w w'/\RV ψ (·∈st.ids) (fun b=>S b\/w.heap.size<=b) w' v (bif ok then .tup [c, .fz (.atom (.bool r.isSome))] else c):=fun u hu A=>by
  refine kad _ _ A ⟨kaf _,?_⟩;cases ok with
  | false=>exact hu.here
  | true=>
   refine (RV.tup rfl fun i v z hv l=>?_).here
   match i with
   | 0=>simp at hv l;subst hv l;exact hu
   | 1=>simp at hv l;subst hv l;exact .fz (.atom rfl)
   | i+2=>simp at l
 rcases kpd g3 es.toList kv 0 r (by simpa using E) (fun j e p K hp=>(hr j e p (by simpa using K) hp).1) hf with ⟨rfl,f1⟩ | ⟨j,z,e,rfl,f2,f3,f4⟩
 ·have hf:=MapKept.run_findKey (w:=w) g1 f1;simp only at hc;split at hc
  ·rename_i zv l;cases m:zv.oneCell' with
   | false=>rw [m] at hc;cases hc
   | true=>
    rw [m] at hc;simp only [qr,qb] at hc;subst hc;refine fin zv (.fz (.atom m)) ?_;cases ok <;> simp [execOp,ho,f,q,g,Instr.lookup,run_underlying (B.mpX hk),MapKept.run_getObj_map G,s,hf,H.get l w]
  ·cases hc
 ·have hf:=MapKept.run_findKey (w:=w) g1 f4;simp only [qb] at hc;subst hc;refine fin e.val (hr j e _ (by simpa using f3) f2).2.2 ?_;cases ok <;> simp [execOp,ho,f,q,g,Instr.lookup,run_underlying (B.mpX hk),MapKept.run_getObj_map G,s,hf]
theorem kpy (h0:ψ.len id=0):ψ.set id 0 (ψ.val id)=ψ:=by
 have:=kvg (ψ:=ψ) (id:=id)
 rwa [h0] at this
theorem k1f {x y v:Operand} {kt et:TypeId} {kd:TD} {k:Value} {kv':List (Value×AV)} (ho:o.op = .mapUpdate t x y v) (U:TOk P T) (N:kac T t=some d) (hk:d.kind = .map kt et) (C:kac T kt=some kd) (X:st.eval x = .mp id) (D:kaa st.heap id=some (.xo (.amap kv)))
  (hy:st.eval y = .fz (.atom k)) (O:keyK kd.kind k=true) (hp:vput k kv (st.eval v)=some kv'):StepA P o st .any ((id, .xo (.amap kv'))::st.heap) st.ids:=by
 intro F S0 N0 ψ S a w q;have N:=U.get N;have C:=U.get C;have g:=q.core;obtain ⟨Y,r,Q⟩:=g.obj id _ D;have r:XobR ψ (·∈st.ids) S w id (.amap kv):=r;have E:=q.eval x;rw [X] at E;have G:=kuh r E;obtain ⟨h0,b,es,f,u,l,hr⟩:=r;have m:=q.eval y;rw [hy] at m;have m:=m.atom;have H:=q.eval v;obtain ⟨td,g1,g2,g3,g4⟩:=k2u C O;have I:=MapKept.run_checkKey (w:=w) g1 g2 false 9999;have A:=kpy h0;have main:∀ es':Array MapEntry,es'.size=kv'.length ->
   (∀ (i:Nat) (e:MapEntry) (p:Value×AV),es'[i]?=some e->kv'[i]?=some p->e.key=p.1/\e.born=i/\RV ψ (·∈st.ids) S w e.val p.2) ->
   (execOp a.eval o).run P w = .ok .skip { w with heap:=w.heap.setIfInBounds b (.map es' kv'.length) } ->
   kbx P o a w fun v w'=>∃ ψ' S',Core F S0 N0 ((id, .xo (.amap kv'))::st.heap) st.ids ψ' S' w'/\RV ψ' (·∈st.ids) S' w' v .any/\Fr F w w'/\Ext (·∈st.ids) ψ ψ'/\(∀ id,id∈st.ids->id∈st.ids)/\(∀ b,S b->S' b)/\Same S w w':=by
  intro es' J R K;obtain ⟨q1,q2⟩:=MapKept.heap_set (o' := .map es' kv'.length) u;have V:({ w with heap:=w.heap.setIfInBounds b (.map es' kv'.length) }:World).heap.size=w.heap.size:=by simp
  have B:∀ k,k<w.heap.size->¬ Blk (ψ.val id) k->({ w with heap:=w.heap.setIfInBounds b (.map es' kv'.length) }:World).heap[k]?=w.heap[k]?:=fun k _ hk=>q2 k fun e=>hk (.of (by rw [f,e];rfl));have hk:Same S w { w with heap:=w.heap.setIfInBounds b (.map es' kv'.length) }:=fun k hk hl=>B k hl fun e=>(Q k e).1 hk;obtain ⟨c1,c2,c3⟩:=g.upd (n:=0) (v:=ψ.val id) (w':={ w with heap:=w.heap.setIfInBounds b (.map es' kv'.length) }) (ob' := .xo (.amap kv')) D (by omega) B (.inr ⟨h0,rfl⟩) (fun b u => .inl u) (by rw [A];refine ⟨h0,b,es',f,q1,J,fun i e p c hp=>?_⟩;obtain ⟨r1,r2,r3⟩:=R i e p c hp;exact ⟨r1,r2,r3.keep Ext.refl (fun _ h=>h) (fun _ h=>h) hk⟩);rw [A] at c1;exact ke0 _ K ⟨ψ,S,c1, .any,⟨rfl,rfl,rfl,by omega,c3,no0⟩,Ext.refl,fun _ h=>h,fun _ h=>h,c2⟩
 unfold vput at hp;split at hp
 ·rename_i j z0 hf;injection hp with hp;subst hp;rcases kpd g3 es.toList kv 0 _ (by simpa using l) (fun j e p c hp=>(hr j e p (by simpa using c) hp).1) hf with ⟨h,_⟩ | ⟨j',z,e,f1,f2,f3,f4⟩;cases h
  ·simp only [Nat.zero_add,qb,qp] at f1;obtain ⟨rfl,rfl⟩:=f1;have hf:=MapKept.run_findKey (w:=w) g1 f4;simp only [Nat.zero_add] at hf;have Z:j<kv.length:=(qd.1 f2).1;have s:es[j]?=some e:=(by simpa using f3);have L:e.key=k:=(hr j e _ s f2).1;refine main (es.modify j fun e=>{ e with key:=k,val:=a.eval v }) (by simpa using l) (fun i e' p c hp=>?_) ?_
   ·rw [qbt] at c;by_cases hi:j=i;subst hi;rw [qt rfl,s] at c;simp only [qai,qb] at c;subst c;rw [qa5 Z] at hp;injection hp with hp;subst hp;exact ⟨rfl,(hr j e _ s f2).2.1,H⟩
    ·rw [qq hi] at c;rw [qbb hi] at hp;exact hr i e' p c hp
   ·have M:(Instr.keyThatStays (((es[j]?).map (·.key)).getD k) k).run P w = .ok k w:=(by rw [s];simp only [qai,qa9,L];exact MapKept.run_keyThatStays (d:=td) g2);simp [execOp,ho,m,G,f,Instr.mapUpdate,run_underlying (N.mpX hk),MapKept.run_getObj_map u,I,hf,MapKept.run_setObj_map _ u];simp [M,MapKept.run_setObj_map _ u]
 ·rename_i hf;injection hp with hp;subst hp;rcases kpd g3 es.toList kv 0 _ (by simpa using l) (fun j e p c hp=>(hr j e p (by simpa using c) hp).1) hf with ⟨_,f1⟩ | ⟨j',z,e,f1,_⟩
  ·have hf:=MapKept.run_findKey (w:=w) g1 f1;refine main (es.push { key:=k,val:=a.eval v,born:=kv.length }) (by simpa using l) (fun i e p c hp=>?_) ?_
   ·rw [Array.getElem?_push] at c;by_cases hi:i=es.size;rw [qt hi] at c;injection c with c;subst c;rw [qam (by omega),hi,l,Nat.sub_self] at hp;simp only [List.getElem?_cons_zero,qb] at hp;subst hp;exact ⟨rfl,by show kv.length=i;omega,H⟩
    ·rw [qq hi] at c;have aa:i<es.size:=(qar.1 c).1;rw [q9 (by omega)] at hp;exact hr i e p c hp
   ·simp [execOp,ho,m,G,f,Instr.mapUpdate,run_underlying (N.mpX hk),MapKept.run_getObj_map u,I,hf,MapKept.run_setObj_map _ u]
  ·cases f1
 ·cases hp
theorem kacj {x:Operand} {kt et:TypeId} (ho:o.op = .call { callee := .builtin .len,args:=#[x],argTypes:=#[t] }) (i:TdOk P t d) (hk:d.kind = .map kt et) (j:st.eval x = .mp id) (f:kaa st.heap id=some (.xo (.amap kv))):NStep P o st (.fz (.atom (.int .i64 kv.length))):=by intro ψ S a w ht k;have hv:=Sim.eval_tmps ht x;rw [j] at hv;have c:XobR ψ (·∈st.ids) S w id (.amap kv):=k id _ f;have g:=kuh c hv;obtain ⟨h0,b,es,e,l,h,hr⟩:=c;refine kad w (.int .i64 kv.length) ?_ ⟨kaf _, .fz (.atom rfl)⟩;simp [execOp,ho,resolve,invoke,builtin,Builtin.len_,run_underlying (i.mpX hk),g,e,MapKept.run_getObj_map l,h,goInt]
theorem k7a {x:Operand} {m:Nat} {kt et:TypeId} (ho:o.op = .range t x) (r:TdOk P t d) (hk:d.kind = .map kt et) (s:st.eval x = .mp m) (l:kaa st.heap m=some (.xo (.amap kv))) (f:st.ids.contains id=false):
  StepA P o st (.ref id 0 0) ((id, .xo (.mit m kv.length [] kv.length))::st.heap) (id::st.ids):=by
 have f:id∉st.ids:=by simpa using f
 intro F S0 N0 ψ S a w j;have c:=j.core;obtain ⟨k,g,_⟩:=c.obj m _ l;have g:XobR ψ (·∈st.ids) S w m (.amap kv):=g;have hv:=j.eval x;rw [s] at hv;have n:=kuh g hv;obtain ⟨h0,b,es,i,p,u,hr⟩:=g;have q:m≠id:=fun e=>f (e ▸ k);refine kad (w.alloc (.mapIter (some b) kv.length #[] kv.length)) (.pointer (some ⟨w.heap.size,0,none⟩)) ?_ ⟨ψ.set id 0 (.pointer (some ⟨w.heap.size,0,none⟩)),S,?_,?_,kes _ c.fr,kay f _ _,fun _ h=>qe _ h,fun _ h=>h,Same.of_grow (kap _ _)⟩;simp [execOp,ho,Instr.range,run_underlying (r.mpX hk),n,i,MapKept.run_getObj_map p];refine c.add (kap _ _) f (fun b p=>by simp [kak] at p;omega) ⟨ka2 _ _,qe _ k,w.heap.size,b,kaj _ _,heap_alloc_new w _,fun _=>?_⟩;rw [(kbi ψ q _ _).2];exact i
 ·exact .ref (qn ..) (qas _) rfl fun _=>⟨w.heap.size,by rw [kaj];rfl,rfl⟩
theorem kig (seen:List Nat):∀ {n i:Nat},i∈khr seen n↔i<n/\i∉seen
 | 0,i=>by simp [khr]
 | n+1,i=>by
  simp only [khr];cases h:seen.contains n with
  | true=>
   have h:n∈seen:=(by simpa using h);simp only [qr,kig _];constructor;rintro ⟨h1,a⟩;exact ⟨by omega,a⟩
   ·rintro ⟨h1,a⟩;refine ⟨?_,a⟩;rcases qbe i n with b | b;exact b
    ·have:i=n:=(by omega);exact absurd (this ▸ h) a
  | false=>
   have h:n∉seen:=(by simpa using h);simp only [qw,qan,kig _];constructor
   ·rintro (rfl | ⟨h1,a⟩);exact ⟨by omega,h⟩
    ·exact ⟨by omega,a⟩
   ·rintro ⟨h1,a⟩;rcases qbe i n with b | b;exact .inr ⟨b,a⟩
    ·exact .inl (by omega)
theorem kxi {m since stepped:Nat} {seen:List Nat} {v:Value} (c:XobR ψ K S w m (.amap kv)) (d:XobR ψ K S w id (.mit m since seen stepped)) (hv:RV ψ K S w v (.ref id 0 0)):
  ∃ r bm es,ψ.val id = .pointer (some ⟨r,0,none⟩)/\v = .pointer (some ⟨r,0,none⟩)/\w.heap[r]?=some (.mapIter (some bm) since seen.toArray stepped)/\w.heap[bm]?=some (.map es kv.length)/\es.size=kv.length /\
   ∀ (i:Nat) (e:MapEntry) (p:Value×AV),es[i]?=some e->kv[i]?=some p->e.key=p.1/\e.born=i/\RV ψ K S w e.val p.2:=by
 obtain ⟨h0,b,es,h1,g,h,j⟩:=c;obtain ⟨k0,km,r,bm,k1,k2,k3⟩:=d;have:=k3 h0.symm;rw [h1] at this;simp only [Value.map.injEq,qb] at this;subst this;refine ⟨r,b,es,k1,?_,k2,g,h,j⟩;cases hv with
 | ref hK hn k f=>
  obtain ⟨b',a,rfl⟩:=f k0.symm;rw [k1] at a;simp only [kak,qb] at a;rw [a]
theorem kaa5 {x:Operand} {m stepped j:Nat} {seen:List Nat} {p:Value×AV} (ho:o.op = .next x false) (hx:st.eval x = .ref id 0 0) (B:kaa st.heap id=some (.xo (.mit m kv.length seen stepped))) (J:kaa st.heap m=some (.xo (.amap kv))) (K:kv.length<=stepped)
  (hl:khr seen kv.length=[j]) (hp:kv[j]?=some p) (L:p.1.oneCell'=true):
  StepA P o st (.tup [.fz (.atom (.bool true)), .fz (.atom p.1),p.2]) ((id, .xo (.mit m kv.length (seen++[j]) kv.length))::st.heap) st.ids:=by
 intro F S0 N0 ψ S a w C;have d:=C.core;obtain ⟨ab,g,M⟩:=d.obj id _ B;have g:XobR ψ (·∈st.ids) S w id (.mit m kv.length seen stepped):=g;obtain ⟨N,y,_⟩:=d.obj m _ J;have y:XobR ψ (·∈st.ids) S w m (.amap kv):=y;have hv:=C.eval x;rw [hx] at hv;obtain ⟨r,bm,es,l,O,hr,Q,ac,R⟩:=kxi y g hv;have born:∀ e,e∈es.toList->∃ i,i<kv.length/\es[i]?=some e/\e.born=i:=fun e hm=>by
  obtain ⟨i,hi,rfl⟩:=qap.1 hm;have D:i<es.size:=by simpa using hi
  have E:i<kv.length:=by omega
  exact ⟨i,E,by simp [D],(R i _ _ (by simp [D]) (qa E)).2.1⟩
 have hj:=(kig (i:=j) (n:=kv.length) seen).1 (by rw [hl];exact qaa.2 rfl);rcases run_next_at (P:=P) w o.type r bm kv.length stepped seen.toArray es kv.length hr Q (fun e hm=>by obtain ⟨i,h1,_,h3⟩:=born e hm;omega) K with ⟨h0,_⟩ | ⟨e,f,w1,T,s⟩
 ·exfalso;have U:j<es.size:=by omega
  have V:es[j]∈(leftOf es seen.toArray).toList:=by unfold leftOf;simp only [Array.toList_filter,List.mem_filter];refine ⟨by simp,?_⟩;have:=(R j es[j] kv[j] (by simp [U]) (qa hj.1)).2.1;rw [this];simpa using hj.2
  have:=List.length_pos_of_mem V;simp at this;omega
 ·unfold leftOf at f;simp only [Array.toList_filter,List.mem_filter] at f;obtain ⟨i,X,hi2,G⟩:=born e f.1;have Y:i=j:=by have Z:i∉seen:=(by have:=f.2;rw [G] at this;simpa using this);have:=(kig (i:=i) (n:=kv.length) seen).2 ⟨X,Z⟩;rw [hl] at this;exact qaa.1 this
  subst Y;obtain ⟨q1,q2,q3⟩:=R i e p hi2 hp;obtain ⟨w',H⟩:∃ w',w'=setBlock w1 r (.mapIter (some bm) kv.length (seen.toArray.push e.born) kv.length):=⟨_,rfl⟩;rw [<- H] at s;have c:w'.heap=w.heap.setIfInBounds r (.mapIter (some bm) kv.length (seen.toArray.push e.born) kv.length)/\w'.os=w.os/\w'.tape=w.tape/\w'.output=w.output:=by rw [H];rcases T with rfl | rfl <;> exact ⟨rfl,rfl,rfl,rfl⟩
  have I:r<w.heap.size:=(qar.1 hr).1;have q:w'.heap[r]?=some (.mapIter (some bm) kv.length (seen++[i]).toArray kv.length):=by rw [c.1,Array.getElem?_setIfInBounds_self_of_lt I,G];simp
  have aa:w'.heap.size=w.heap.size:=by rw [c.1];simp
  have t:∀ k,k<w.heap.size->¬ Blk (ψ.val id) k->w'.heap[k]?=w.heap[k]?:=fun k _ hk=>by rw [c.1,Array.getElem?_setIfInBounds_ne];intro e;subst e;exact hk (.of (by rw [l];rfl))
  have hk:Same S w w':=fun k hk hl=>t k hl fun e=>(M k e).1 hk;have h0:=g.1;have u:=kpy h0;obtain ⟨c1,c2,c3⟩:=d.upd (n:=0) (v:=ψ.val id) (w':=w') (ob' := .xo (.mit m kv.length (seen++[i]) kv.length)) B (by omega) t (.inr ⟨h0,rfl⟩) (fun b Q => .inl Q) (by rw [u];obtain ⟨_,_,r',bm',z1,z2,z3⟩:=g;refine ⟨h0,N,r,bm,l,q,fun h=>?_⟩;have e1:=z3 h;rw [l] at z1;simp only [Value.pointer.injEq,qb,Addr.mk.injEq,and_true] at z1;subst z1;rw [hr] at z2;injection z2 with z2;injection z2 with z2;injection z2 with z2;rw [z2];exact e1);rw [u] at c1;refine kad w' (.tuple #[.bool true,e.key,e.val]) ?_ ⟨ψ,S,c1,?_,⟨c.2.1,c.2.2.1,c.2.2.2,by omega,c3,no0⟩,Ext.refl,fun _ h=>h,fun _ h=>h,c2⟩;simp [execOp,ho,O,s]
  ·refine .tup rfl fun i v z hv A=>?_
   match i with
   | 0=>simp at hv A;subst hv A;exact .fz (.atom rfl)
   | 1=>simp at hv A;subst hv A;rw [q1];exact .fz (.atom L)
   | 2=>simp at hv A;subst hv A;exact q3.keep Ext.refl (fun _ h=>h) (fun _ h=>h) hk
   | i+3=>simp at A
theorem k6v {x:Operand} {m stepped:Nat} {seen:List Nat} (ho:o.op = .next x false) (B:st.eval x = .ref id 0 0) (g:kaa st.heap id=some (.xo (.mit m kv.length seen stepped))) (h:kaa st.heap m=some (.xo (.amap kv))) (j:kv.length<=stepped)
  (hl:khr seen kv.length=[]):NStep P o st (.fz (.tup [.atom (.bool false)])):=by
 intro ψ S a w ht y;have k:XobR ψ (·∈st.ids) S w id (.mit m kv.length seen stepped):=y id _ g;have l:XobR ψ (·∈st.ids) S w m (.amap kv):=y m _ h;have hv:=Sim.eval_tmps ht x;rw [B] at hv;obtain ⟨r,bm,es,A,p,hr,C,D,E⟩:=kxi l k hv;have born:∀ e,e∈es.toList->∃ i,i<kv.length/\es[i]?=some e/\e.born=i:=fun e hm=>by
  obtain ⟨i,hi,rfl⟩:=qap.1 hm;have c:i<es.size:=by simpa using hi
  have d:i<kv.length:=by omega
  exact ⟨i,d,by simp [c],(E i _ _ (by simp [c]) (qa d)).2.1⟩
 rcases run_next_at (P:=P) w o.type r bm kv.length stepped seen.toArray es kv.length hr C (fun e hm=>by obtain ⟨i,h1,_,F⟩:=born e hm;omega) j with ⟨_,f⟩ | ⟨e,b,_⟩
 ·refine kad w (.tuple #[.bool false]) ?_ ⟨kaf _, .fz (.tup rfl fun i v z hv q=>?_)⟩;simp [execOp,ho,p,f]
  ·match i with
   | 0=>simp at hv q;subst hv q;exact .atom rfl
   | i+1=>simp at q
 ·exfalso;unfold leftOf at b;simp only [Array.toList_filter,List.mem_filter] at b;obtain ⟨i,s,hi2,t⟩:=born e b.1;have u:i∉seen:=by have:=b.2;rw [t] at this;simpa using this
  have:=(kig (i:=i) (n:=kv.length) seen).2 ⟨s,u⟩;rw [hl] at this;cases this
theorem k8r {x:Operand} {m since j:Nat} {seen:List Nat} {p:Value×AV} (ho:o.op = .entry x) (y:st.eval x = .ref id 0 0) (e:kaa st.heap id=some (.xo (.mit m since (seen++[j]) kv.length))) (f:kaa st.heap m=some (.xo (.amap kv)))
  (hp:kv[j]?=some p) (g:p.1.oneCell'=true):NStep P o st (.tup [.fz (.atom p.1),p.2]):=by
 intro ψ S a w ht s;have h:XobR ψ (·∈st.ids) S w id (.mit m since (seen++[j]) kv.length):=s id _ e;have k:XobR ψ (·∈st.ids) S w m (.amap kv):=s m _ f;have hv:=Sim.eval_tmps ht x;rw [y] at hv;obtain ⟨r,bm,es,t,l,hr,A,B,u⟩:=kxi k h hv;have C:j<kv.length:=(qd.1 hp).1;have n:j<es.size:=by omega
 obtain ⟨q1,q2,q3⟩:=u j es[j] p (by simp [n]) hp;have q:(es.toList.map (·.born)).Nodup:=by
  have:es.toList.map (·.born)=List.range kv.length:=by
   apply List.ext_getElem?;intro i;by_cases hi:i<kv.length;have b:i<es.size:=(by omega);have:=(u i es[i] kv[i] (by simp [b]) (qa hi)).2.1;simp [b,hi,this]
   ·rw [qaz (by simp;omega),qaz (by simp;omega)]
  rw [this];exact List.nodup_range
 have c:=run_entry_at (P:=P) w r bm since seen.toArray es kv.length es[j] (by rw [q2];simpa using hr) A (by simp) q;refine kad w (.tuple #[es[j].key,es[j].val]) ?_ ⟨kaf _,(RV.tup rfl fun i v z hv d=>?_).here⟩;simp [execOp,ho,l,c]
 ·match i with
  | 0=>simp at hv d;subst hv d;rw [q1];exact .fz (.atom g)
  | 1=>simp at hv d;subst hv d;exact q3
  | i+2=>simp at d
end
def imf {α:Type} (k:Int):List (Int×α)->Nat->Option (Nat×α)
 | [],_=>none
 | (k',x)::l,i=>bif k == k' then some (i,x) else imf k l (i+1)
def iget {α:Type} (m:List (Int×α)) (k:Int) (z:α):α:=match imf k m 0 with
 | some (_,x)=>x
 | none=>z
def ihas {α:Type} (m:List (Int×α)) (k:Int):Bool:=(imf k m 0).isSome
def iput {α:Type} (m:List (Int×α)) (k:Int) (y:α):List (Int×α):=match imf k m 0 with
 | some (j,_)=>m.set j (k,y)
 | none=>m++[(k,y)]
def kvI {α:Type} (enc:α->FV) (m:List (Int×α)):List (Int×FV):=m.map fun p=>(p.1,enc p.2)
theorem kqn {α β:Type} (f:α->β) (s:Int):∀ (m:List (Int×α)) (i:Nat),imf s (m.map fun p=>(p.1,f p.2)) i=(imf s m i).map fun p=>(p.1,f p.2)
 | [],_=>rfl
 | (k,v)::l,i=>by
  simp only [qao,imf];cases s == k with
  | true=>rfl
  | false=>exact kqn f s l (i+1)
theorem kq5 {α β:Type} (f:α->β) (m:List (Int×α)) (s:Int) (z:α):iget (m.map fun p=>(p.1,f p.2)) s (f z)=f (iget m s z):=by
 unfold iget;rw [kqn];cases imf s m 0 with
 | none=>rfl
 | some p=>rfl
theorem k0c {α β:Type} (f:α->β) (m:List (Int×α)) (s:Int):ihas (m.map fun p=>(p.1,f p.2)) s=ihas m s:=by
 unfold ihas;rw [kqn];cases imf s m 0 with
 | none=>rfl
 | some p=>rfl
theorem kw5 {α:Type} {s:Int}:∀ {m:List (Int×α)} {i j:Nat} {x:α},imf s m i=some (j,x)->i<=j/\j - i<m.length/\∃ k,m[j - i]?=some (k,x)/\k=s
 | [],i,j,x,h=>by cases h
 | (k,v)::l,i,j,x,h=>by
  simp only [imf] at h;cases a:s == k with
  | true=>
   rw [a] at h;simp only [qr,qb,qp] at h;obtain ⟨rfl,rfl⟩:=h;exact ⟨qu _,by simp,k,by simp,(eq_of_beq a).symm⟩
  | false=>
   rw [a] at h;obtain ⟨h1,d,k',b,c⟩:=kw5 h;have e:j - i=(j - (i+1))+1:=(by omega);exact ⟨by omega,by simp;omega,k',by rw [e,qac];exact b,c⟩
section
variable {P:Program} {F S0:Nat->Prop} {N0:Nat} {w w':World} {S S':Nat->Prop} {ψ ψ':Env} {K:Nat->Prop} {T:List (TypeId×TD)} {o:Oper} {a:Act} {st:St} {t tx:TypeId} {d:TD} {id:Nat}
theorem TdOk.i64' (h:TdOk P t d) (hk:d.kind = .int .i64):P.underlying t=some (.int .i64):=by obtain ⟨_,e',h1,a⟩:=h;rw [hk] at a;cases e' <;> simp [kdd] at a;rw [h1,a]
theorem kmc (s:Int) {R:Value->FV->Prop}:∀ (es:List MapEntry) (kv:List (Int×FV)) (i:Nat),es.length=kv.length->(∀ (j:Nat) (e:MapEntry) (p:Int×FV),es[j]?=some e->kv[j]?=some p->e.key = .int .i64 p.1/\R e.val p.2) ->
  (Instr.findNow (.int .i64) (.int .i64 s) es i=some none/\imf s kv i=none)\/∃ j v x,Instr.findNow (.int .i64) (.int .i64 s) es i=some (some (j,v))/\imf s kv i=some (j,x)/\R v x
 | [],[],i,_,_ => .inl ⟨rfl,rfl⟩
 | [],p::kv,i,h,_=>by cases h
 | e::es,[],i,h,_=>by cases h
 | e::es,(k,x)::kv,i,h,hr=>by
  obtain ⟨hk,hv⟩:=hr 0 e (k,x) rfl rfl;have hs:Instr.sameNow (.int .i64) (.int .i64 s) (.int .i64 k)=some (s == k):=by simp [Instr.sameNow]
  simp only [Instr.findNow,hk,hs,imf];cases b:s == k with
  | true=>exact .inr ⟨i,e.val,x,rfl,rfl,hv⟩
  | false=>exact kmc s es kv (i+1) (by simpa using h) fun j e p a hp=>hr (j+1) e p (by simpa using a) (by simpa using hp)
theorem RF.nilL {size:Nat} (hs:0<size):RF S w (.slice none 0 0) (.lst size 0 []) := .lst (fun _=>[]) rfl (qu _) (by omega) hs (fun i x h=>by simp at h) (fun i x h=>by simp at h) fun i x j v y h=>by simp at h
theorem krb (id:Nat) {α:Type} (enc:α->FV) (ho:o.op = .makeMap t none:=by kernel_rfl) (d:st.ids.contains id=false:=by kernel_rfl):StepA P o st (.mp id) ((id, .xo (.imap (kvI enc [])))::st.heap) (id::st.ids):=by
 have d:id∉st.ids:=by simpa using d
 intro F S0 N0 ψ S a w f;have c:=f.core;refine kad (w.alloc (.map #[] 0)) (.map (some w.heap.size)) ?_ ⟨ψ.set id 0 (.map (some w.heap.size)),S,?_,?_,kes _ c.fr,kay d _ _,fun _ h=>qe _ h,fun _ h=>h,Same.of_grow (kap _ _)⟩;simp [execOp,ho,Instr.makeMap];exact c.add (kap _ _) d (fun b g=>by simp [kak] at g;omega) ⟨ka2 _ _,w.heap.size,_,kaj _ _,heap_alloc_new w _,rfl,fun i e p j hp=>by simp at j⟩
 ·exact .mp (qn ..) rfl fun _=>by rw [kaj]
theorem kqt {kv:List (Int×FV)} {v:Value} (hs:XobR ψ K S w id (.imap kv)) (hv:RV ψ K S w v (.mp id)):v=ψ.val id:=by
 cases hv with
 | mp hK h1 hv=>exact hv hs.1.symm
theorem k6c {α:Type} (enc:α->FV) (m:List (Int×α)) (k:Int) (z:α) (x y:Operand) (kt et:TypeId) (kd:TD) (zv:Value) (ho:o.op = .lookup t x y true) (H:TOk P T) (s:kac T t=some d) (hk:d.kind = .map kt et) (c:kac T kt=some kd) (l:kd.kind = .int .i64) (inf:TypeInfo) (A:P.info? et=some inf) (hi2:inf.zero=some zv) (K:zv.oneCell'=true) (B:∀ (S:Nat->Prop) (w:World),RF S w zv (enc z)) (L:st.eval x = .mp id:=by kernel_rfl) (C:kaa st.heap id=some (.xo (.imap (kvI enc m))):=by kernel_rfl) (hy:st.eval y = .fz (.atom (.int .i64 k)):=by kernel_rfl):NStep P o st (.fz (.tup [enc (iget m k z), .atom (.bool (ihas m k))])):=by
 intro ψ S a w ht M;have s:=H.get s;have c:=H.get c;have hv:=Sim.eval_tmps ht x;rw [L] at hv;have n:XobR ψ (·∈st.ids) S w id (.imap (kvI enc m)):=M id _ C;have q:=kqt n hv;obtain ⟨h0,b,es,g,I,D,hr⟩:=n;have f:=Sim.eval_tmps ht y;rw [hy] at f;have f:=f.atom;have E:(zeroValue et).run P w = .ok zv w:=by simp [zeroValue,typeInfo,A,hi2]
 have r:=MapKept.run_checkKey (w:=w) (c.i64' l) (k := .int .i64 k) rfl es.isEmpty 9999;have two:∀ {v:Value} {x:FV} {ok:Bool},RF (fun b=>S b\/w.heap.size<=b) w v x->RF (fun b=>S b\/w.heap.size<=b) w (.tuple #[v, .bool ok]) (.tup [x, .atom (.bool ok)]):=fun {v x ok} h => .tup rfl fun i u y hu hy=>by
  match i with
  | 0=>simp at hu hy;subst hu hy;exact h
  | 1=>simp at hu hy;subst hu hy;exact .atom rfl
  | i+2=>simp at hu
 have F:∀ (j:Nat) (e:MapEntry) (p:Int×FV),es.toList[j]?=some e->(m.map fun p=>(p.1,enc p.2))[j]?=some p->e.key = .int .i64 p.1/\RF S w e.val p.2:=fun j e p J hp=>⟨(hr j e p (by simpa using J) hp).1,(hr j e p (by simpa using J) hp).2.2⟩;rcases kmc k (R:=fun v x=>RF S w v x) es.toList (m.map fun p=>(p.1,enc p.2)) 0 (by simpa [kvI] using D) F with ⟨f1,f2⟩ | ⟨j,v,x',f1,f2,f3⟩
 ·have hf:=MapKept.run_findKey (w:=w) (c.i64' l) f1;have G:ihas m k=false:=by rw [<- k0c enc];unfold ihas;rw [f2];rfl
  refine kad w (.tuple #[zv, .bool false]) ?_ ⟨kaf _, .fz ?_⟩;simp [execOp,ho,f,q,g,Instr.lookup,run_underlying (s.mp hk),MapKept.run_getObj_map I,r,hf,E]
  ·rw [G];refine two ?_;rw [<- kq5 enc];unfold iget;rw [f2];exact B _ _
 ·have hf:=MapKept.run_findKey (w:=w) (c.i64' l) f1;have G:ihas m k=true:=by rw [<- k0c enc];unfold ihas;rw [f2];rfl
  refine kad w (.tuple #[v, .bool true]) ?_ ⟨kaf _, .fz ?_⟩;simp [execOp,ho,f,q,g,Instr.lookup,run_underlying (s.mp hk),MapKept.run_getObj_map I,r,hf]
  ·rw [G];refine two ?_;rw [<- kq5 enc];unfold iget;rw [f2];exact f3.mono fun _ h => .inl h
theorem koy (d:TD) (id:Nat) {α:Type} (enc:α->FV) (m:List (Int×α)) (k:Int) (z:α) (x y v:Operand) (kt et:TypeId) (kd:TD) (hT:TOk P T) (Y:kac T t=some d:=by kernel_rfl) (hk:d.kind = .map kt et:=by kernel_rfl) (r:kac T kt=some kd:=by kernel_rfl) (J:kd.kind = .int .i64:=by kernel_rfl) (hx:st.eval x = .mp id:=by kernel_rfl) (K:kaa st.heap id=some (.xo (.imap (kvI enc m))):=by kernel_rfl) (hy:st.eval y = .fz (.atom (.int .i64 k)):=by kernel_rfl) (hv:st.eval v = .fz (enc z):=by kernel_rfl) (ho:o.op = .mapUpdate t x y v:=by kernel_rfl):StepA P o st .any ((id, .xo (.imap (kvI enc (iput m k z))))::st.heap) st.ids:=by
 intro F S0 N0 ψ S a w C;have Y:=hT.get Y;have r:=hT.get r;have s:=C.core;obtain ⟨af,D,Z⟩:=s.obj id _ K;have D:XobR ψ (·∈st.ids) S w id (.imap (kvI enc m)):=D;have L:=C.eval x;rw [hx] at L;have M:=kqt D L;obtain ⟨h0,b,es,l,G,g,hr⟩:=D;have g:es.size=m.length:=by simpa [kvI] using g
 have A:=C.eval y;rw [hy] at A;have A:=A.atom;have B:=C.eval v;rw [hv] at B;have B:=B.inv;have N:=MapKept.run_checkKey (w:=w) (r.i64' J) (k := .int .i64 k) rfl false 9999;have H:=kpy h0;have main:∀ (es':Array MapEntry) (clock':Nat),clock'=(iput m k z).length->es'.size=(iput m k z).length ->
   (∀ (i:Nat) (e:MapEntry) (p:Int×FV),es'[i]?=some e->(kvI enc (iput m k z))[i]?=some p->e.key = .int .i64 p.1/\e.born=i/\RF S w e.val p.2) ->
   (execOp a.eval o).run P w = .ok .skip { w with heap:=w.heap.setIfInBounds b (.map es' clock') } ->
   kbx P o a w fun v w'=>∃ ψ' S',Core F S0 N0 ((id, .xo (.imap (kvI enc (iput m k z))))::st.heap) st.ids ψ' S' w'/\RV ψ' (·∈st.ids) S' w' v .any/\Fr F w w'/\Ext (·∈st.ids) ψ ψ'/\(∀ id,id∈st.ids->id∈st.ids)/\(∀ b,S b->S' b)/\Same S w w':=by
  intro es' clock' hcl O aa Q;obtain ⟨g1,g2⟩:=MapKept.heap_set (o' := .map es' clock') G;have ae:({ w with heap:=w.heap.setIfInBounds b (.map es' clock') }:World).heap.size=w.heap.size:=by simp
  have I:∀ k,k<w.heap.size->¬ Blk (ψ.val id) k->({ w with heap:=w.heap.setIfInBounds b (.map es' clock') }:World).heap[k]?=w.heap[k]?:=fun k _ hk=>g2 k fun e=>hk (.of (by rw [l,e];rfl));have hk:Same S w { w with heap:=w.heap.setIfInBounds b (.map es' clock') }:=fun k hk hl=>I k hl fun e=>(Z k e).1 hk;obtain ⟨c1,c2,c3⟩:=s.upd (n:=0) (v:=ψ.val id) (w':={ w with heap:=w.heap.setIfInBounds b (.map es' clock') }) (ob' := .xo (.imap (kvI enc (iput m k z)))) K (by omega) I (.inr ⟨h0,rfl⟩) (fun b G => .inl G) (by rw [H];refine ⟨h0,b,es',l,by rw [g1,hcl];simp [kvI],by simpa [kvI] using O,fun i e p f hp=>?_⟩;obtain ⟨q1,q2,q3⟩:=aa i e p f hp;exact ⟨q1,q2,q3.keep hk⟩);rw [H] at c1;exact ke0 _ Q ⟨ψ,S,c1, .any,⟨rfl,rfl,rfl,by omega,c3,no0⟩,Ext.refl,fun _ h=>h,fun _ h=>h,c2⟩
 have ab:∀ (j:Nat) (e:MapEntry) (p:Int×FV),es.toList[j]?=some e->(m.map fun p=>(p.1,enc p.2))[j]?=some p->e.key = .int .i64 p.1/\RF S w e.val p.2:=fun j e p f hp=>⟨(hr j e p (by simpa using f) hp).1,(hr j e p (by simpa using f) hp).2.2⟩;rcases kmc k (R:=fun v x=>RF S w v x) es.toList (m.map fun p=>(p.1,enc p.2)) 0 (by simpa using g) ab with ⟨f1,f2⟩ | ⟨j,u,x',f1,f2,f3⟩
 ·have hf:=MapKept.run_findKey (w:=w) (r.i64' J) f1;have ac:imf k m 0=none:=by
   rw [kqn] at f2;cases hq:imf k m 0 with
   | none=>rfl
   | some q=>rw [hq] at f2;cases f2
  have c:iput m k z=m++[(k,z)]:=by unfold iput;rw [ac]
  refine main (es.push { key := .int .i64 k,val:=a.eval v,born:=(kvI enc m).length }) ((kvI enc m).length+1) (by rw [c];simp [kvI]) (by rw [c];simpa using g) (fun i e p f hp=>?_) ?_
  ·rw [c] at hp;unfold kvI at hp;rw [qbc] at hp;rw [Array.getElem?_push] at f;have U:es.size=(m.map fun p=>(p.1,enc p.2)).length:=(by simpa using g);by_cases hi:i=es.size;rw [qt hi] at f;injection f with f;subst f;rw [qam (by omega),hi,U,Nat.sub_self] at hp;simp only [qao,List.map_nil,List.getElem?_cons_zero,qb] at hp;subst hp;exact ⟨rfl,by show (kvI enc m).length=i;simp [kvI];omega,B⟩
   ·rw [qq hi] at f;have ag:i<es.size:=(qar.1 f).1;rw [q9 (by omega)] at hp;exact hr i e p f hp
  ·simp [execOp,ho,A,M,l,Instr.mapUpdate,run_underlying (Y.mp hk),MapKept.run_getObj_map G,N,hf,MapKept.run_setObj_map _ G]
 ·have hf:=MapKept.run_findKey (w:=w) (r.i64' J) f1;rw [kqn,qs] at f2;obtain ⟨⟨j',x0⟩,f4,f5⟩:=f2;simp only [qp] at f5;obtain ⟨rfl,rfl⟩:=f5;obtain ⟨_,l2,k,l3,rfl⟩:=kw5 f4;simp only [Nat.sub_zero] at l2 l3;have c:iput m k z=m.set j' (k,z):=by unfold iput;rw [f4]
  have ad:j'<es.size:=by rw [g];exact l2
  have E:es[j']?=some es[j']:=qa8 ad;have V:es[j'].key = .int .i64 k:=(hr j' _ (k,enc x0) E (by unfold kvI;rw [qg,l3];rfl)).1;refine main (es.modify j' fun e=>{ e with key := .int .i64 k,val:=a.eval v }) (kvI enc m).length (by rw [c];simp [kvI]) (by rw [c];simpa using g) (fun i e p f hp=>?_) ?_
  ·rw [c] at hp;unfold kvI at hp;rw [List.map_set] at hp;rw [qbt] at f;by_cases hi:j'=i;subst hi;rw [qt rfl,E] at f;simp only [qai,qb] at f;subst f;rw [qa5 (by rw [qj];exact l2)] at hp;injection hp with hp;subst hp;exact ⟨rfl,(hr j' _ (k,enc x0) E (by unfold kvI;rw [qg,l3];rfl)).2.1,B⟩
   ·rw [qq hi] at f;rw [qbb hi] at hp;exact hr i e p f hp
  ·have X:(Instr.keyThatStays (((es[j']?).map (·.key)).getD (.int .i64 k)) (.int .i64 k)).run P w = .ok (.int .i64 k) w:=(by rw [E];simp only [qai,qa9,V];exact MapKept.run_keyThatStays (d := .int .i64) rfl);simp [execOp,ho,A,M,l,Instr.mapUpdate,run_underlying (Y.mp hk),MapKept.run_getObj_map G,N,hf,MapKept.run_setObj_map _ G];simp [X,MapKept.run_setObj_map _ G]
end
open Go.ChangeMaps (setBlock)
section
variable {P:Program} {F S0:Nat->Prop} {N0:Nat} {w w':World} {S S':Nat->Prop} {ψ ψ':Env} {K:Nat->Prop} {T:List (TypeId×TD)} {o:Oper} {a:Act} {st:St} {t tx:TypeId} {d:TD} {id:Nat} {kv:List (Int×FV)}
theorem kacc {α:Type} (enc:α->FV) (m:List (Int×α)) (x:Operand) (kt et:TypeId) (ho:o.op = .call { callee := .builtin .len,args:=#[x],argTypes:=#[t] }) (j:TOk P T) (g:kac T t=some d:=by kernel_rfl) (hk:d.kind = .map kt et:=by kernel_rfl) (k:st.eval x = .mp id:=by kernel_rfl) (h:kaa st.heap id=some (.xo (.imap (kvI enc m))):=by kernel_rfl):
  NStep P o st (.fz (.atom (.int .i64 (m.length:Int)))):=by
 intro ψ S a w ht l;have g:=j.get g;have hv:=Sim.eval_tmps ht x;rw [k] at hv;have e:XobR ψ (·∈st.ids) S w id (.imap (kvI enc m)):=l id _ h;have i:=kqt e hv;obtain ⟨h0,b,es,f,n,c,hr⟩:=e;have c:es.size=m.length:=by simpa [kvI] using c
 refine kad w (.int .i64 m.length) ?_ ⟨kaf _, .fz (.atom rfl)⟩;simp [execOp,ho,resolve,invoke,builtin,Builtin.len_,run_underlying (g.mp hk),i,f,MapKept.run_getObj_map n,c,goInt]
theorem k8b {α:Type} (enc:α->FV) (m:List (Int×α)) (k:Int) (z:α) (x y:Operand) (kt et:TypeId) (kd:TD) (zv:Value) (ho:o.op = .lookup t x y false) (E:TOk P T) (r:kac T t=some d) (hk:d.kind = .map kt et) (c:kac T kt=some kd) (i:kd.kind = .int .i64) (inf:TypeInfo) (s:P.info? et=some inf) (hi2:inf.zero=some zv) (u:∀ (S:Nat->Prop) (w:World),RF S w zv (enc z)) (H:st.eval x = .mp id:=by kernel_rfl) (A:kaa st.heap id=some (.xo (.imap (kvI enc m))):=by kernel_rfl) (hy:st.eval y = .fz (.atom (.int .i64 k)):=by kernel_rfl):NStep P o st (.fz (enc (iget m k z))):=by
 intro ψ S a w ht I;have r:=E.get r;have c:=E.get c;have hv:=Sim.eval_tmps ht x;rw [H] at hv;have l:XobR ψ (·∈st.ids) S w id (.imap (kvI enc m)):=I id _ A;have n:=kqt l hv;obtain ⟨h0,b,es,g,F,B,hr⟩:=l;have f:=Sim.eval_tmps ht y;rw [hy] at f;have f:=f.atom;have C:(zeroValue et).run P w = .ok zv w:=by simp [zeroValue,typeInfo,s,hi2]
 have q:=MapKept.run_checkKey (w:=w) (c.i64' i) (k := .int .i64 k) rfl es.isEmpty 9999;have D:∀ (j:Nat) (e:MapEntry) (p:Int×FV),es.toList[j]?=some e->(m.map fun p=>(p.1,enc p.2))[j]?=some p->e.key = .int .i64 p.1/\RF S w e.val p.2:=fun j e p G hp=>⟨(hr j e p (by simpa using G) hp).1,(hr j e p (by simpa using G) hp).2.2⟩;rcases kmc k (R:=fun v x=>RF S w v x) es.toList (m.map fun p=>(p.1,enc p.2)) 0 (by simpa [kvI] using B) D with ⟨f1,f2⟩ | ⟨j,v,x',f1,f2,f3⟩
 ·have hf:=MapKept.run_findKey (w:=w) (c.i64' i) f1;refine kad w zv ?_ ⟨kaf _, .fz ?_⟩;simp [execOp,ho,f,n,g,Instr.lookup,run_underlying (r.mp hk),MapKept.run_getObj_map F,q,hf,C]
  ·rw [<- kq5 enc];unfold iget;rw [f2];exact u _ _
 ·have hf:=MapKept.run_findKey (w:=w) (c.i64' i) f1;refine kad w v ?_ ⟨kaf _, .fz ?_⟩;simp [execOp,ho,f,n,g,Instr.lookup,run_underlying (r.mp hk),MapKept.run_getObj_map F,q,hf]
  ·rw [<- kq5 enc];unfold iget;rw [f2];exact f3.mono fun _ h => .inl h
theorem k8v (x:Operand) (m:Nat) (kt et:TypeId) (ho:o.op = .range t x) (s:TOk P T) (l:kac T t=some d:=by kernel_rfl) (hk:d.kind = .map kt et:=by kernel_rfl) (u:st.eval x = .mp m:=by kernel_rfl) (n:kaa st.heap m=some (.xo (.imap kv)):=by kernel_rfl) (f:st.ids.contains id=false:=by kernel_rfl):
  StepA P o st (.ref id 0 0) ((id, .xo (.mit m kv.length [] kv.length))::st.heap) (id::st.ids):=by
 have f:id∉st.ids:=by simpa using f
 intro F S0 N0 ψ S a w j;have l:=s.get l;have c:=j.core;obtain ⟨k,g,_⟩:=c.obj m _ n;have g:XobR ψ (·∈st.ids) S w m (.imap kv):=g;have hv:=j.eval x;rw [u] at hv;have p:=kqt g hv;obtain ⟨h0,b,es,i,q,y,hr⟩:=g;have r:m≠id:=fun e=>f (e ▸ k);refine kad (w.alloc (.mapIter (some b) kv.length #[] kv.length)) (.pointer (some ⟨w.heap.size,0,none⟩)) ?_ ⟨ψ.set id 0 (.pointer (some ⟨w.heap.size,0,none⟩)),S,?_,?_,kes _ c.fr,kay f _ _,fun _ h=>qe _ h,fun _ h=>h,Same.of_grow (kap _ _)⟩;simp [execOp,ho,Instr.range,run_underlying (l.mp hk),p,i,MapKept.run_getObj_map q];refine c.add (kap _ _) f (fun b q=>by simp [kak] at q;omega) ⟨ka2 _ _,qe _ k,w.heap.size,b,kaj _ _,heap_alloc_new w _,fun _=>?_⟩;rw [(kbi ψ r _ _).2];exact i
 ·exact .ref (qn ..) (qas _) rfl fun _=>⟨w.heap.size,by rw [kaj];rfl,rfl⟩
theorem k1m {m since stepped:Nat} {seen:List Nat} {v:Value} (c:XobR ψ K S w m (.imap kv)) (d:XobR ψ K S w id (.mit m since seen stepped)) (hv:RV ψ K S w v (.ref id 0 0)):
  ∃ r bm es,ψ.val id = .pointer (some ⟨r,0,none⟩)/\v = .pointer (some ⟨r,0,none⟩)/\w.heap[r]?=some (.mapIter (some bm) since seen.toArray stepped)/\w.heap[bm]?=some (.map es kv.length)/\es.size=kv.length /\
   ∀ (i:Nat) (e:MapEntry) (p:Int×FV),es[i]?=some e->kv[i]?=some p->e.key = .int .i64 p.1/\e.born=i/\RF S w e.val p.2:=by
 obtain ⟨h0,b,es,h1,g,h,j⟩:=c;obtain ⟨k0,km,r,bm,k1,k2,k3⟩:=d;have:=k3 h0.symm;rw [h1] at this;simp only [Value.map.injEq,qb] at this;subst this;refine ⟨r,b,es,k1,?_,k2,g,h,j⟩;cases hv with
 | ref hK hn k f=>
  obtain ⟨b',a,rfl⟩:=f k0.symm;rw [k1] at a;simp only [kak,qb] at a;rw [a]
def NextR (kv:List (Int×FV)) (id m:Nat) (seen:List Nat) (st:St) (c:AV) (h:List (Nat×AObj)) (i:List Nat):Prop:=
 (khr seen kv.length=[]/\c = .fz (.tup [.atom (.bool false)])/\h=st.heap/\i=st.ids) \/
 ∃ (j:Nat) (p:Int×FV),j∉seen/\kv[j]?=some p/\c = .tup [.fz (.atom (.bool true)), .fz (.atom (.int .i64 p.1)), .fz p.2]/\h=(id, .xo (.mit m kv.length (seen++[j]) kv.length))::st.heap/\i=st.ids
theorem k91 {x:Operand} {m stepped:Nat} {seen:List Nat} (ho:o.op = .next x false) (hx:st.eval x = .ref id 0 0) (B:kaa st.heap id=some (.xo (.mit m kv.length seen stepped))) (K:kaa st.heap m=some (.xo (.imap kv))) (L:kv.length<=stepped):
  kgd P o st (NextR kv id m seen st):=by
 intro F S0 N0 ψ S a w C;have d:=C.core;obtain ⟨ab,p,M⟩:=d.obj id _ B;have p:XobR ψ (·∈st.ids) S w id (.mit m kv.length seen stepped):=p;obtain ⟨N,A,_⟩:=d.obj m _ K;have A:XobR ψ (·∈st.ids) S w m (.imap kv):=A;have hv:=C.eval x;rw [hx] at hv;obtain ⟨r,bm,es,q,D,hr,O,ac,Q⟩:=k1m A p hv;have born:∀ e,e∈es.toList->∃ i,i<kv.length/\es[i]?=some e/\e.born=i:=fun e hm=>by
  obtain ⟨i,hi,rfl⟩:=qap.1 hm;have E:i<es.size:=by simpa using hi
  have G:i<kv.length:=by omega
  exact ⟨i,G,by simp [E],(Q i _ _ (by simp [E]) (qa G)).2.1⟩
 rcases run_next_at (P:=P) w o.type r bm kv.length stepped seen.toArray es kv.length hr O (fun e hm=>by obtain ⟨i,h1,_,h3⟩:=born e hm;omega) L with ⟨h0,f⟩ | ⟨e,g,w1,R,f⟩
 ·have T:khr seen kv.length=[]:=by
   cases hl:khr seen kv.length with
   | nil=>rfl
   | cons j l=>
    exfalso;have Z:=(kig (i:=j) (n:=kv.length) seen).1 (by rw [hl];exact qn ..);have U:j<es.size:=(by omega);have V:es[j]∈(leftOf es seen.toArray).toList:=(by unfold leftOf;simp only [Array.toList_filter,List.mem_filter];refine ⟨by simp,?_⟩;have:=(Q j es[j] kv[j] (by simp [U]) (qa Z.1)).2.1;rw [this];simpa using Z.2);have:=List.length_pos_of_mem V;simp at this;omega
  ·refine kad w (.tuple #[.bool false]) ?_ ⟨_,_,_, .inl ⟨T,rfl,rfl,rfl⟩,ψ,S,d, .fz (.tup rfl fun i v z hv s=>?_),Fr.refl,Ext.refl,fun _ h=>h,fun _ h=>h,fun _ _ _=>rfl⟩;simp [execOp,ho,D,f]
   ·match i with
    | 0=>simp at hv s;subst hv s;exact .atom rfl
    | i+1=>simp at s
 ·unfold leftOf at g;simp only [Array.toList_filter,List.mem_filter] at g;obtain ⟨i,X,hi2,H⟩:=born e g.1;have Y:i∉seen:=by have:=g.2;rw [H] at this;simpa using this
  have hp:=qa X;obtain ⟨q1,q2,q3⟩:=Q i e _ hi2 hp;obtain ⟨w',I⟩:∃ w',w'=setBlock w1 r (.mapIter (some bm) kv.length (seen.toArray.push e.born) kv.length):=⟨_,rfl⟩;rw [<- I] at f;have c:w'.heap=w.heap.setIfInBounds r (.mapIter (some bm) kv.length (seen.toArray.push e.born) kv.length)/\w'.os=w.os/\w'.tape=w.tape/\w'.output=w.output:=by rw [I];rcases R with rfl | rfl <;> exact ⟨rfl,rfl,rfl,rfl⟩
  have J:r<w.heap.size:=(qar.1 hr).1;have t:w'.heap[r]?=some (.mapIter (some bm) kv.length (seen++[i]).toArray kv.length):=by rw [c.1,Array.getElem?_setIfInBounds_self_of_lt J,H];simp
  have aa:w'.heap.size=w.heap.size:=by rw [c.1];simp
  have u:∀ k,k<w.heap.size->¬ Blk (ψ.val id) k->w'.heap[k]?=w.heap[k]?:=fun k _ hk=>by rw [c.1,Array.getElem?_setIfInBounds_ne];intro e;subst e;exact hk (.of (by rw [q];rfl))
  have hk:Same S w w':=fun k hk hl=>u k hl fun e=>(M k e).1 hk;have h0:=p.1;have y:=kpy h0;obtain ⟨c1,c2,c3⟩:=d.upd (n:=0) (v:=ψ.val id) (w':=w') (ob' := .xo (.mit m kv.length (seen++[i]) kv.length)) B (by omega) u (.inr ⟨h0,rfl⟩) (fun b O => .inl O) (by rw [y];obtain ⟨_,_,r',bm',z1,z2,z3⟩:=p;refine ⟨h0,N,r,bm,q,t,fun h=>?_⟩;have e1:=z3 h;rw [q] at z1;simp only [Value.pointer.injEq,qb,Addr.mk.injEq,and_true] at z1;subst z1;rw [hr] at z2;injection z2 with z2;injection z2 with z2;injection z2 with z2;rw [z2];exact e1);rw [y] at c1;refine kad w' (.tuple #[.bool true,e.key,e.val]) ?_ ⟨_,_,_, .inr ⟨i,kv[i],Y,hp,rfl,rfl,rfl⟩,ψ,S,c1,?_,⟨c.2.1,c.2.2.1,c.2.2.2,by omega,c3,no0⟩,Ext.refl,fun _ h=>h,fun _ h=>h,c2⟩;simp [execOp,ho,D,f]
  ·refine .tup rfl fun i v z hv s=>?_
   match i with
   | 0=>simp at hv s;subst hv s;exact .fz (.atom rfl)
   | 1=>simp at hv s;subst hv s;rw [q1];exact .fz (.atom rfl)
   | 2=>simp at hv s;subst hv s;exact .fz (q3.keep hk)
   | i+3=>simp at s
theorem k7r (x:Operand) (m since j:Nat) (seen:List Nat) (p:Int×FV) (ho:o.op = .entry x) (u:st.eval x = .ref id 0 0) (e:kaa st.heap id=some (.xo (.mit m since (seen++[j]) kv.length))) (f:kaa st.heap m=some (.xo (.imap kv))) (hp:kv[j]?=some p):NStep P o st (.tup [.fz (.atom (.int .i64 p.1)), .fz p.2]):=by
 intro ψ S a w ht q;have g:XobR ψ (·∈st.ids) S w id (.mit m since (seen++[j]) kv.length):=q id _ e;have h:XobR ψ (·∈st.ids) S w m (.imap kv):=q m _ f;have hv:=Sim.eval_tmps ht x;rw [u] at hv;obtain ⟨r,bm,es,s,k,hr,y,A,t⟩:=k1m h g hv;have B:j<kv.length:=(qd.1 hp).1;have l:j<es.size:=by omega
 obtain ⟨q1,q2,q3⟩:=t j es[j] p (by simp [l]) hp;have n:(es.toList.map (·.born)).Nodup:=by
  have:es.toList.map (·.born)=List.range kv.length:=by
   apply List.ext_getElem?;intro i;by_cases hi:i<kv.length;have b:i<es.size:=(by omega);have:=(t i es[i] kv[i] (by simp [b]) (qa hi)).2.1;simp [b,hi,this]
   ·rw [qaz (by simp;omega),qaz (by simp;omega)]
  rw [this];exact List.nodup_range
 have c:=run_entry_at (P:=P) w r bm since seen.toArray es kv.length es[j] (by rw [q2];simpa using hr) y (by simp) n;refine kad w (.tuple #[es[j].key,es[j].val]) ?_ ⟨kaf _,(RV.tup rfl fun i v z hv d=>?_).here⟩;simp [execOp,ho,k,c]
 ·match i with
  | 0=>simp at hv d;subst hv d;rw [q1];exact .fz (.atom rfl)
  | 1=>simp at hv d;subst hv d;exact .fz q3
  | i+2=>simp at d
end
end Go.Proofs.YtnlhjbnpjefjgabGreatDoor
