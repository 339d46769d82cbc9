import Derived.Test.YtpnnpkmjohkgiaaGreatDoorXc
import Derived.Maps.RangeRun
set_option linter.all false
namespace Go.Proofs.YtpnnpkmjohkgiaaGreatDoor
open Go Go.RowKit
open Go.ChangeMaps (setBlock)
def koc:Value->Value->Option Bool
 | .int a m, .int b n=>if a=b then some (m == n) else none
 | .string s, .string u=>some (s.toList == u.toList)
 | _,_=>none
def kis (k:Value):List (Value×AV)->Nat->Option (Option (Nat×AV))
 | [],_=>some none
 | (k',x)::l,i=>match koc k k' with
  | some true=>some (some (i,x))
  | some false=>kis k l (i+1)
  | none=>none
def keyK:TK->Value->Bool
 | .int k, .int n _=>decide (k=n)
 | .str, .string _=>true
 | _,_=>false
def vput (k:Value) (kv:List (Value×AV)) (z:AV):Option (List (Value×AV)):=match kis k kv 0 with
 | some (some (j,_))=>some (kv.set j (k,z))
 | some none=>some (kv++[(k,z)])
 | none=>none
def khu (seen:List Nat):Nat->List Nat
 | 0=>[]
 | n+1=>bif seen.contains n then khu seen n else n::khu seen n
def ZOk (P:Program) (Z:List (TypeId×Value)):Prop:=∀ p∈Z,∃ i,P.info? p.1=some i/\i.zero=some p.2
def klq:List (TypeId×Value)->TypeId->Option Value
 | [],_=>none
 | (k,v)::l,t=>bif Nat.beq k t then some v else klq l t
section
variable {P:Program} {F S0:Nat->Prop} {N0:Nat} {w w':World} {S S':Nat->Prop} {ψ ψ':Env} {K:Nat->Prop} {T:List (TypeId×TD)} {o:Oper} {a:Act} {st:St} {t tx:TypeId} {d:TD} {id:Nat} {kv:List (Value×AV)} {Z:List (TypeId×Value)}
theorem ZOk.get (h:ZOk P Z) {v:Value} (ht:klq Z t=some v) (w:World):(zeroValue t).run P w = .ok v w:=by
 induction Z with
 | nil=>cases ht
 | cons p l ih=>
  obtain ⟨k,u⟩:=p;simp only [klq] at ht;by_cases hk:k=t;subst hk;simp only [Nat.beq_refl,qe,qb] at ht;subst ht;obtain ⟨i,h1,a⟩:=h _ (qv ..);simp [zeroValue,typeInfo,h1,a]
  ·rw [Nat.beq_eq_false hk] at ht;exact ih (fun p hp=>h p (qs _ hp)) ht
theorem TdOk.mpX {k e:Nat} (h:TdOk P t d) (hk:d.kind = .map k e):P.underlying t=some (.map k e):=by obtain ⟨_,e',h1,a⟩:=h;rw [hk] at a;cases e' <;> simp [kai] at a;rw [h1,a.1,a.2]
theorem kqd {k:Value} (h:TdOk P t d) (hk:keyK d.kind k=true):∃ td,P.underlying t=some td/\MapKept.IsKey td k/\((∃ ik n m,td = .int ik/\k = .int n m)\/(td = .string/\∃ s,k = .string s))/\k.oneCell'=true:=by
 obtain ⟨_,e',h1,b⟩:=h;unfold keyK at hk;split at hk;rename_i ik n m a;rw [a] at b;cases e' <;> simp [kai] at b;exact ⟨_,h1,by simp only [qbb] at hk;rw [b];exact hk.symm, .inl ⟨_,_,_,rfl,rfl⟩,rfl⟩;rename_i s a;rw [a] at b;cases e' <;> simp [kai] at b;exact ⟨_,h1,trivial, .inr ⟨rfl,s,rfl⟩,rfl⟩
 ·cases hk
theorem kpn {k k':Value} {td:TypeDesc} {b:Bool} (c:(∃ ik n m,td = .int ik/\k = .int n m)\/(td = .string/\∃ s,k = .string s)) (h:koc k k'=some b):Instr.sameNow td k k'=some b/\(b=true->k'=k):=by
 rcases c with ⟨ik,n,m,rfl,rfl⟩ | ⟨rfl,s,rfl⟩
 ·cases k' <;> simp only [koc] at h <;> try cases h
  rename_i n' m';split at h;rename_i hn;subst hn;injection h with h;refine ⟨by simp [Instr.sameNow,h],fun a=>?_⟩;rw [a] at h;simp at h;rw [h]
  ·cases h
 ·cases k' <;> simp only [koc] at h <;> try cases h
  rename_i s';rw [kly];exact ⟨rfl,fun a=>by rw [MapKept.bytes_beq] at a;rw [a]⟩
theorem khn {k:Value} {td:TypeDesc} (a:(∃ ik n m,td = .int ik/\k = .int n m)\/(td = .string/\∃ s,k = .string s)):∀ (es:List MapEntry) (kv:List (Value×AV)) (i:Nat) (r:Option (Nat×AV)),es.length=kv.length->(∀ (j:Nat) (e:MapEntry) (p:Value×AV),es[j]?=some e->kv[j]?=some p->e.key=p.1)->kis k kv i=some r ->
  (r=none/\Instr.findNow td k es i=some none)\/∃ j x e,r=some (i+j,x)/\kv[j]?=some (k,x)/\es[j]?=some e/\Instr.findNow td k es i=some (some (i+j,e.val))
 | [],[],i,r,_,_,h=>by simp only [kis,qb] at h;exact .inl ⟨h.symm,rfl⟩
 | [],p::kv,i,r,h,_,_=>by cases h
 | e::es,[],i,r,h,_,_=>by cases h
 | e::es,(k',x)::kv,i,r,hl,hr,h=>by
  have hk:e.key=k':=hr 0 e (k',x) rfl rfl;simp only [kis] at h;split at h;rename_i b;injection h with h;obtain ⟨q1,q2⟩:=kpn a b;obtain rfl:=q2 rfl;exact .inr ⟨0,x,e,h.symm,rfl,rfl,by simp only [Instr.findNow,hk,q1];rfl⟩
  ·rename_i b;obtain ⟨q1,_⟩:=kpn a b;rcases khn a es kv (i+1) r (by simpa using hl) (fun j e p d hp=>hr (j+1) e p (by simpa using d) (by simpa using hp)) h with ⟨h1,c⟩ | ⟨j,y,e',h1,c,f,g⟩;exact .inl ⟨h1,by simp only [Instr.findNow,hk,q1];exact c⟩
   ·exact .inr ⟨j+1,y,e',by rw [h1];congr 2;omega,by simpa using c,by simpa using f,by simp only [Instr.findNow,hk,q1];rw [g];congr 3;omega⟩
  ·cases h
theorem kkr {v:Value} (hs:XobR ψ K S w id (.amap kv)) (hv:RV ψ K S w v (.mp id)):v=ψ.val id:=by
 cases hv with
 | mp hK h1 hv=>exact hv hs.1.symm
theorem kr9 (ho:o.op = .makeMap t none) (d:st.ids.contains id=false):StepA P o st (.mp id) ((id, .xo (.amap []))::st.heap) (id::st.ids):=by
 have d:id∉st.ids:=by simpa using d
 intro F S0 N0 ψ S a w f;have c:=f.core;refine kaf (w':=w.alloc (.map #[] 0)) (v := .map (some w.heap.size)) ?_ ⟨ψ.set id 0 (.map (some w.heap.size)),S,?_,?_,kel _ c.fr,kb2 d _ _,fun _ h=>qs _ h,fun _ h=>h,Same.of_grow (ka7 _ _)⟩;simp [execOp,ho,Instr.makeMap];exact c.add (ka7 _ _) d (fun b g=>by simp [kav] at g;omega) ⟨kbz _ _,w.heap.size,_,kar _ _,heap_alloc_new w _,rfl,fun i e p j hp=>by simp at j⟩
 ·exact .mp (qv ..) rfl fun _=>by rw [kar]
theorem ktb {x y:Operand} {ok:Bool} {kt et:TypeId} {kd:TD} {k:Value} {r:Option (Nat×AV)} {c:AV} (ho:o.op = .lookup t x y ok) (F:TOk P T) (I:ZOk P Z) (B:kad T t=some d) (hk:d.kind = .map kt et) (h:kad T kt=some kd) (J:st.eval x = .mp id) (C:kab st.heap id=some (.xo (.amap kv)))
  (hy:st.eval y = .fz (.atom k)) (D:keyK kd.kind k=true) (hf:kis k kv 0=some r) (hc:(match r with | some (_,z)=>some z | none=>(match klq Z et with | some zv=>bif zv.oneCell' then some (AV.fz (.atom zv)) else none | none=>none))=some c):
  NStep P o st (bif ok then .tup [c, .fz (.atom (.bool r.isSome))] else c):=by
 intro ψ S a w ht K;have B:=F.get B;have h:=F.get h;have hv:=Sim.eval_tmps ht x;rw [J] at hv;have n:XobR ψ (·∈st.ids) S w id (.amap kv):=K id _ C;have q:=kkr n hv;obtain ⟨h0,b,es,g,G,E,hr⟩:=n;have f:=Sim.eval_tmps ht y;rw [hy] at f;have f:=f.atom;obtain ⟨td,g1,g2,g3,_⟩:=kqd h D;have s:=MapKept.run_checkKey (w:=w) g1 g2 es.isEmpty 9999;have fin:∀ u:Value,RV ψ (·∈st.ids) S w u c->(execOp a.eval o).run P w = .ok (.value (if ok then .tuple #[u, .bool r.isSome] else u)) w->kcv P o a w fun v w'=>Grow w w'/\RV ψ (·∈st.ids) (fun b=>S b\/w.heap.size<=b) w' v (bif ok then .tup [c, .fz (.atom (.bool r.isSome))] else c):=fun u H A=>by
  refine kaf A ⟨kag _,?_⟩;cases ok with
  | false=>exact H.here
  | true=>
   refine (RV.tup rfl fun i v z hv l=>?_).here
   match i with
   | 0=>simp at hv l;subst hv l;exact H
   | 1=>simp at hv l;subst hv l;exact .fz (.atom rfl)
   | i+2=>simp at l
 rcases khn g3 es.toList kv 0 r (by simpa using E) (fun j e p L hp=>(hr j e p (by simpa using L) hp).1) hf with ⟨rfl,f1⟩ | ⟨j,z,e,rfl,f2,f3,f4⟩
 ·have hf:=MapKept.run_findKey (w:=w) g1 f1;simp only at hc;split at hc
  ·rename_i zv l;cases m:zv.oneCell' with
   | false=>rw [m] at hc;cases hc
   | true=>
    rw [m] at hc;simp only [qe,qb] at hc;subst hc;refine fin zv (.fz (.atom m)) ?_;cases ok <;> simp [execOp,ho,f,q,g,Instr.lookup,run_underlying (B.mpX hk),MapKept.run_getObj_map G,s,hf,I.get l w]
  ·cases hc
 ·have hf:=MapKept.run_findKey (w:=w) g1 f4;simp only [qb] at hc;subst hc;refine fin e.val (hr j e _ (by simpa using f3) f2).2.2 ?_;cases ok <;> simp [execOp,ho,f,q,g,Instr.lookup,run_underlying (B.mpX hk),MapKept.run_getObj_map G,s,hf]
theorem kjq (h0:ψ.len id=0):ψ.set id 0 (ψ.val id)=ψ:=by
 have:=klg (ψ:=ψ) (id:=id)
 rwa [h0] at this
theorem kpk {x y v:Operand} {kt et:TypeId} {kd:TD} {k:Value} {kv':List (Value×AV)} (ho:o.op = .mapUpdate t x y v) (U:TOk P T) (N:kad T t=some d) (hk:d.kind = .map kt et) (C:kad T kt=some kd) (X:st.eval x = .mp id) (D:kab st.heap id=some (.xo (.amap kv)))
  (hy:st.eval y = .fz (.atom k)) (O:keyK kd.kind k=true) (hp:vput k kv (st.eval v)=some kv'):StepA P o st .any ((id, .xo (.amap kv'))::st.heap) st.ids:=by
 intro F S0 N0 ψ S a w q;have N:=U.get N;have C:=U.get C;have g:=q.core;obtain ⟨Y,r,Q⟩:=g.obj id _ D;have r:XobR ψ (·∈st.ids) S w id (.amap kv):=r;have E:=q.eval x;rw [X] at E;have G:=kkr r E;obtain ⟨h0,b,es,f,u,l,hr⟩:=r;have m:=q.eval y;rw [hy] at m;have m:=m.atom;have H:=q.eval v;obtain ⟨td,g1,g2,g3,g4⟩:=kqd C O;have I:=MapKept.run_checkKey (w:=w) g1 g2 false 9999;have A:=kjq h0;have main:∀ es':Array MapEntry,es'.size=kv'.length ->
   (∀ (i:Nat) (e:MapEntry) (p:Value×AV),es'[i]?=some e->kv'[i]?=some p->e.key=p.1/\e.born=i/\RV ψ (·∈st.ids) S w e.val p.2) ->
   (execOp a.eval o).run P w = .ok .skip { w with heap:=w.heap.setIfInBounds b (.map es' kv'.length) } ->
   kcv P o a w fun v w'=>∃ ψ' S',Core F S0 N0 ((id, .xo (.amap kv'))::st.heap) st.ids ψ' S' w'/\RV ψ' (·∈st.ids) S' w' v .any/\Fr F w w'/\Ext (·∈st.ids) ψ ψ'/\(∀ id,id∈st.ids->id∈st.ids)/\(∀ b,S b->S' b)/\Same S w w':=by
  intro es' J R K;obtain ⟨q1,q2⟩:=MapKept.heap_set (o' := .map es' kv'.length) u;have V:({ w with heap:=w.heap.setIfInBounds b (.map es' kv'.length) }:World).heap.size=w.heap.size:=by simp
  have B:∀ k,k<w.heap.size->¬ Blk (ψ.val id) k->({ w with heap:=w.heap.setIfInBounds b (.map es' kv'.length) }:World).heap[k]?=w.heap[k]?:=fun k _ hk=>q2 k fun e=>hk (.of (by rw [f,e];rfl));have hk:Same S w { w with heap:=w.heap.setIfInBounds b (.map es' kv'.length) }:=fun k hk hl=>B k hl fun e=>(Q k e).1 hk;obtain ⟨c1,c2,c3⟩:=g.upd (n:=0) (v:=ψ.val id) (w':={ w with heap:=w.heap.setIfInBounds b (.map es' kv'.length) }) (ob' := .xo (.amap kv')) D (by omega) B (.inr ⟨h0,rfl⟩) (fun b u => .inl u) (by rw [A];refine ⟨h0,b,es',f,q1,J,fun i e p c hp=>?_⟩;obtain ⟨r1,r2,r3⟩:=R i e p c hp;exact ⟨r1,r2,r3.keep Ext.refl (fun _ h=>h) (fun _ h=>h) hk⟩);rw [A] at c1;exact kf4 K ⟨ψ,S,c1, .any,⟨rfl,rfl,rfl,by omega,c3⟩,Ext.refl,fun _ h=>h,fun _ h=>h,c2⟩
 unfold vput at hp;split at hp
 ·rename_i j z0 hf;injection hp with hp;subst hp;rcases khn g3 es.toList kv 0 _ (by simpa using l) (fun j e p c hp=>(hr j e p (by simpa using c) hp).1) hf with ⟨h,_⟩ | ⟨j',z,e,f1,f2,f3,f4⟩;cases h
  ·simp only [Nat.zero_add,qb,qj] at f1;obtain ⟨rfl,rfl⟩:=f1;have hf:=MapKept.run_findKey (w:=w) g1 f4;simp only [Nat.zero_add] at hf;have Z:j<kv.length:=(qd.1 f2).1;have s:es[j]?=some e:=(by simpa using f3);have L:e.key=k:=(hr j e _ s f2).1;refine main (es.modify j fun e=>{ e with key:=k,val:=a.eval v }) (by simpa using l) (fun i e' p c hp=>?_) ?_
   ·rw [Array.getElem?_modify] at c;by_cases hi:j=i;subst hi;rw [qq rfl,s] at c;simp only [qa9,qb] at c;subst c;rw [List.getElem?_set_self Z] at hp;injection hp with hp;subst hp;exact ⟨rfl,(hr j e _ s f2).2.1,H⟩
    ·rw [qh hi] at c;rw [List.getElem?_set_ne hi] at hp;exact hr i e' p c hp
   ·have M:(Instr.keyThatStays (((es[j]?).map (·.key)).getD k) k).run P w = .ok k w:=(by rw [s];simp only [qa9,qai,L];exact MapKept.run_keyThatStays (d:=td) g2);simp [execOp,ho,m,G,f,Instr.mapUpdate,run_underlying (N.mpX hk),MapKept.run_getObj_map u,I,hf,MapKept.run_setObj_map _ u];simp [M,MapKept.run_setObj_map _ u]
 ·rename_i hf;injection hp with hp;subst hp;rcases khn g3 es.toList kv 0 _ (by simpa using l) (fun j e p c hp=>(hr j e p (by simpa using c) hp).1) hf with ⟨_,f1⟩ | ⟨j',z,e,f1,_⟩
  ·have hf:=MapKept.run_findKey (w:=w) g1 f1;refine main (es.push { key:=k,val:=a.eval v,born:=kv.length }) (by simpa using l) (fun i e p c hp=>?_) ?_
   ·rw [Array.getElem?_push] at c;by_cases hi:i=es.size;rw [qq hi] at c;injection c with c;subst c;rw [qac (by omega),hi,l,Nat.sub_self] at hp;simp only [List.getElem?_cons_zero,qb] at hp;subst hp;exact ⟨rfl,by show kv.length=i;omega,H⟩
    ·rw [qh hi] at c;have aa:i<es.size:=(qax.1 c).1;rw [qy (by omega)] at hp;exact hr i e p c hp
   ·simp [execOp,ho,m,G,f,Instr.mapUpdate,run_underlying (N.mpX hk),MapKept.run_getObj_map u,I,hf,MapKept.run_setObj_map _ u]
  ·cases f1
 ·cases hp
theorem k1b {x:Operand} {kt et:TypeId} (ho:o.op = .call { callee := .builtin .len,args:=#[x],argTypes:=#[t] }) (i:TdOk P t d) (hk:d.kind = .map kt et) (j:st.eval x = .mp id) (f:kab st.heap id=some (.xo (.amap kv))):NStep P o st (.fz (.atom (.int .i64 kv.length))):=by intro ψ S a w ht k;have hv:=Sim.eval_tmps ht x;rw [j] at hv;have c:XobR ψ (·∈st.ids) S w id (.amap kv):=k id _ f;have g:=kkr c hv;obtain ⟨h0,b,es,e,l,h,hr⟩:=c;refine kaf (w':=w) (v := .int .i64 kv.length) ?_ ⟨kag _, .fz (.atom rfl)⟩;simp [execOp,ho,resolve,invoke,builtin,Builtin.len_,run_underlying (i.mpX hk),g,e,MapKept.run_getObj_map l,h,goInt]
theorem ku5 {x:Operand} {m:Nat} {kt et:TypeId} (ho:o.op = .range t x) (r:TdOk P t d) (hk:d.kind = .map kt et) (s:st.eval x = .mp m) (l:kab st.heap m=some (.xo (.amap kv))) (f:st.ids.contains id=false):
  StepA P o st (.ref id 0 0) ((id, .xo (.mit m kv.length [] kv.length))::st.heap) (id::st.ids):=by
 have f:id∉st.ids:=by simpa using f
 intro F S0 N0 ψ S a w j;have c:=j.core;obtain ⟨k,g,_⟩:=c.obj m _ l;have g:XobR ψ (·∈st.ids) S w m (.amap kv):=g;have hv:=j.eval x;rw [s] at hv;have n:=kkr g hv;obtain ⟨h0,b,es,i,p,u,hr⟩:=g;have q:m≠id:=fun e=>f (e ▸ k);refine kaf (w':=w.alloc (.mapIter (some b) kv.length #[] kv.length)) (v := .pointer (some ⟨w.heap.size,0,none⟩)) ?_ ⟨ψ.set id 0 (.pointer (some ⟨w.heap.size,0,none⟩)),S,?_,?_,kel _ c.fr,kb2 f _ _,fun _ h=>qs _ h,fun _ h=>h,Same.of_grow (ka7 _ _)⟩;simp [execOp,ho,Instr.range,run_underlying (r.mpX hk),n,i,MapKept.run_getObj_map p];refine c.add (ka7 _ _) f (fun b p=>by simp [kav] at p;omega) ⟨kbz _ _,qs _ k,w.heap.size,b,kar _ _,heap_alloc_new w _,fun _=>?_⟩;rw [(kdb (ψ:=ψ) q _ _).2];exact i
 ·exact .ref (qv ..) (qar _) rfl fun _=>⟨w.heap.size,by rw [kar];rfl,rfl⟩
theorem kgo {seen:List Nat}:∀ {n i:Nat},i∈khu seen n↔i<n/\i∉seen
 | 0,i=>by simp [khu]
 | n+1,i=>by
  simp only [khu];cases h:seen.contains n with
  | true=>
   have h:n∈seen:=(by simpa using h);simp only [qe,kgo];constructor;rintro ⟨h1,a⟩;exact ⟨by omega,a⟩
   ·rintro ⟨h1,a⟩;refine ⟨?_,a⟩;rcases qau i n with b | b;exact b
    ·have:i=n:=(by omega);exact absurd (this ▸ h) a
  | false=>
   have h:n∉seen:=(by simpa using h);simp only [qg,qaw,kgo];constructor
   ·rintro (rfl | ⟨h1,a⟩);exact ⟨by omega,h⟩
    ·exact ⟨by omega,a⟩
   ·rintro ⟨h1,a⟩;rcases qau i n with b | b;exact .inr ⟨b,a⟩
    ·exact .inl (by omega)
theorem kmr {m since stepped:Nat} {seen:List Nat} {v:Value} (c:XobR ψ K S w m (.amap kv)) (d:XobR ψ K S w id (.mit m since seen stepped)) (hv:RV ψ K S w v (.ref id 0 0)):
  ∃ r bm es,ψ.val id = .pointer (some ⟨r,0,none⟩)/\v = .pointer (some ⟨r,0,none⟩)/\w.heap[r]?=some (.mapIter (some bm) since seen.toArray stepped)/\w.heap[bm]?=some (.map es kv.length)/\es.size=kv.length /\
   ∀ (i:Nat) (e:MapEntry) (p:Value×AV),es[i]?=some e->kv[i]?=some p->e.key=p.1/\e.born=i/\RV ψ K S w e.val p.2:=by
 obtain ⟨h0,b,es,h1,g,h,j⟩:=c;obtain ⟨k0,km,r,bm,k1,k2,k3⟩:=d;have:=k3 h0.symm;rw [h1] at this;simp only [Value.map.injEq,qb] at this;subst this;refine ⟨r,b,es,k1,?_,k2,g,h,j⟩;cases hv with
 | ref hK hn k f=>
  obtain ⟨b',a,rfl⟩:=f k0.symm;rw [k1] at a;simp only [kav,qb] at a;rw [a]
theorem kzq {x:Operand} {m stepped j:Nat} {seen:List Nat} {p:Value×AV} (ho:o.op = .next x false) (hx:st.eval x = .ref id 0 0) (B:kab st.heap id=some (.xo (.mit m kv.length seen stepped))) (J:kab st.heap m=some (.xo (.amap kv))) (K:kv.length<=stepped)
  (hl:khu seen kv.length=[j]) (hp:kv[j]?=some p) (L:p.1.oneCell'=true):
  StepA P o st (.tup [.fz (.atom (.bool true)), .fz (.atom p.1),p.2]) ((id, .xo (.mit m kv.length (seen++[j]) kv.length))::st.heap) st.ids:=by
 intro F S0 N0 ψ S a w C;have d:=C.core;obtain ⟨ac,g,M⟩:=d.obj id _ B;have g:XobR ψ (·∈st.ids) S w id (.mit m kv.length seen stepped):=g;obtain ⟨N,y,_⟩:=d.obj m _ J;have y:XobR ψ (·∈st.ids) S w m (.amap kv):=y;have hv:=C.eval x;rw [hx] at hv;obtain ⟨r,bm,es,l,O,hr,Q,ad,R⟩:=kmr y g hv;have born:∀ e,e∈es.toList->∃ i,i<kv.length/\es[i]?=some e/\e.born=i:=fun e hm=>by
  obtain ⟨i,hi,rfl⟩:=qak.1 hm;have D:i<es.size:=by simpa using hi
  have E:i<kv.length:=by omega
  exact ⟨i,E,by simp [D],(R i _ _ (by simp [D]) (qa E)).2.1⟩
 have hj:=(kgo (seen:=seen) (n:=kv.length) (i:=j)).1 (by rw [hl];exact qao.2 rfl);rcases run_next_at (P:=P) w o.type r bm kv.length stepped seen.toArray es kv.length hr Q (fun e hm=>by obtain ⟨i,h1,_,h3⟩:=born e hm;omega) K with ⟨h0,_⟩ | ⟨e,f,w1,T,s⟩
 ·exfalso;have U:j<es.size:=by omega
  have V:es[j]∈(leftOf es seen.toArray).toList:=by unfold leftOf;simp only [Array.toList_filter,qa1];refine ⟨by simp,?_⟩;have:=(R j es[j] kv[j] (by simp [U]) (qa hj.1)).2.1;rw [this];simpa using hj.2
  have:=List.length_pos_of_mem V;simp at this;omega
 ·unfold leftOf at f;simp only [Array.toList_filter,qa1] at f;obtain ⟨i,X,Y,G⟩:=born e f.1;have Z:i=j:=by have aa:i∉seen:=(by have:=f.2;rw [G] at this;simpa using this);have:=(kgo (seen:=seen) (n:=kv.length) (i:=i)).2 ⟨X,aa⟩;rw [hl] at this;exact qao.1 this
  subst Z;obtain ⟨q1,q2,q3⟩:=R i e p Y hp;obtain ⟨w',H⟩:∃ w',w'=setBlock w1 r (.mapIter (some bm) kv.length (seen.toArray.push e.born) kv.length):=⟨_,rfl⟩;rw [<- H] at s;have c:w'.heap=w.heap.setIfInBounds r (.mapIter (some bm) kv.length (seen.toArray.push e.born) kv.length)/\w'.os=w.os/\w'.tape=w.tape/\w'.output=w.output:=by rw [H];rcases T with rfl | rfl <;> exact ⟨rfl,rfl,rfl,rfl⟩
  have I:r<w.heap.size:=(qax.1 hr).1;have q:w'.heap[r]?=some (.mapIter (some bm) kv.length (seen++[i]).toArray kv.length):=by rw [c.1,Array.getElem?_setIfInBounds_self_of_lt I,G];simp
  have ab:w'.heap.size=w.heap.size:=by rw [c.1];simp
  have t:∀ k,k<w.heap.size->¬ Blk (ψ.val id) k->w'.heap[k]?=w.heap[k]?:=fun k _ hk=>by rw [c.1,Array.getElem?_setIfInBounds_ne];intro e;subst e;exact hk (.of (by rw [l];rfl))
  have hk:Same S w w':=fun k hk hl=>t k hl fun e=>(M k e).1 hk;have h0:=g.1;have u:=kjq h0;obtain ⟨c1,c2,c3⟩:=d.upd (n:=0) (v:=ψ.val id) (w':=w') (ob' := .xo (.mit m kv.length (seen++[i]) kv.length)) B (by omega) t (.inr ⟨h0,rfl⟩) (fun b Q => .inl Q) (by rw [u];obtain ⟨_,_,r',bm',z1,z2,z3⟩:=g;refine ⟨h0,N,r,bm,l,q,fun h=>?_⟩;have e1:=z3 h;rw [l] at z1;simp only [Value.pointer.injEq,qb,Addr.mk.injEq,and_true] at z1;subst z1;rw [hr] at z2;injection z2 with z2;injection z2 with z2;injection z2 with z2;rw [z2];exact e1);rw [u] at c1;refine kaf (w':=w') (v := .tuple #[.bool true,e.key,e.val]) ?_ ⟨ψ,S,c1,?_,⟨c.2.1,c.2.2.1,c.2.2.2,by omega,c3⟩,Ext.refl,fun _ h=>h,fun _ h=>h,c2⟩;simp [execOp,ho,O,s]
  ·refine .tup rfl fun i v z hv A=>?_
   match i with
   | 0=>simp at hv A;subst hv A;exact .fz (.atom rfl)
   | 1=>simp at hv A;subst hv A;rw [q1];exact .fz (.atom L)
   | 2=>simp at hv A;subst hv A;exact q3.keep Ext.refl (fun _ h=>h) (fun _ h=>h) hk
   | i+3=>simp at A
theorem kuo {x:Operand} {m stepped:Nat} {seen:List Nat} (ho:o.op = .next x false) (B:st.eval x = .ref id 0 0) (g:kab st.heap id=some (.xo (.mit m kv.length seen stepped))) (h:kab st.heap m=some (.xo (.amap kv))) (j:kv.length<=stepped)
  (hl:khu seen kv.length=[]):NStep P o st (.fz (.tup [.atom (.bool false)])):=by
 intro ψ S a w ht y;have k:XobR ψ (·∈st.ids) S w id (.mit m kv.length seen stepped):=y id _ g;have l:XobR ψ (·∈st.ids) S w m (.amap kv):=y m _ h;have hv:=Sim.eval_tmps ht x;rw [B] at hv;obtain ⟨r,bm,es,A,p,hr,C,D,E⟩:=kmr l k hv;have born:∀ e,e∈es.toList->∃ i,i<kv.length/\es[i]?=some e/\e.born=i:=fun e hm=>by
  obtain ⟨i,hi,rfl⟩:=qak.1 hm;have c:i<es.size:=by simpa using hi
  have d:i<kv.length:=by omega
  exact ⟨i,d,by simp [c],(E i _ _ (by simp [c]) (qa d)).2.1⟩
 rcases run_next_at (P:=P) w o.type r bm kv.length stepped seen.toArray es kv.length hr C (fun e hm=>by obtain ⟨i,h1,_,G⟩:=born e hm;omega) j with ⟨_,f⟩ | ⟨e,b,_⟩
 ·refine kaf (w':=w) (v := .tuple #[.bool false]) ?_ ⟨kag _, .fz (.tup rfl fun i v z hv q=>?_)⟩;simp [execOp,ho,p,f]
  ·match i with
   | 0=>simp at hv q;subst hv q;exact .atom rfl
   | i+1=>simp at q
 ·exfalso;unfold leftOf at b;simp only [Array.toList_filter,qa1] at b;obtain ⟨i,s,F,t⟩:=born e b.1;have u:i∉seen:=by have:=b.2;rw [t] at this;simpa using this
  have:=(kgo (seen:=seen) (n:=kv.length) (i:=i)).2 ⟨s,u⟩;rw [hl] at this;cases this
theorem kwx {x:Operand} {m since j:Nat} {seen:List Nat} {p:Value×AV} (ho:o.op = .entry x) (y:st.eval x = .ref id 0 0) (e:kab st.heap id=some (.xo (.mit m since (seen++[j]) kv.length))) (f:kab st.heap m=some (.xo (.amap kv)))
  (hp:kv[j]?=some p) (g:p.1.oneCell'=true):NStep P o st (.tup [.fz (.atom p.1),p.2]):=by
 intro ψ S a w ht s;have h:XobR ψ (·∈st.ids) S w id (.mit m since (seen++[j]) kv.length):=s id _ e;have k:XobR ψ (·∈st.ids) S w m (.amap kv):=s m _ f;have hv:=Sim.eval_tmps ht x;rw [y] at hv;obtain ⟨r,bm,es,t,l,hr,A,B,u⟩:=kmr k h hv;have C:j<kv.length:=(qd.1 hp).1;have n:j<es.size:=by omega
 obtain ⟨q1,q2,q3⟩:=u j es[j] p (by simp [n]) hp;have q:(es.toList.map (·.born)).Nodup:=by
  have:es.toList.map (·.born)=List.range kv.length:=by
   apply List.ext_getElem?;intro i;by_cases hi:i<kv.length;have b:i<es.size:=(by omega);have:=(u i es[i] kv[i] (by simp [b]) (qa hi)).2.1;simp [b,hi,this]
   ·rw [qan (by simp;omega),qan (by simp;omega)]
  rw [this];exact List.nodup_range
 have c:=run_entry_at (P:=P) w r bm since seen.toArray es kv.length es[j] (by rw [q2];simpa using hr) A (by simp) q;refine kaf (w':=w) (v := .tuple #[es[j].key,es[j].val]) ?_ ⟨kag _,(RV.tup rfl fun i v z hv d=>?_).here⟩;simp [execOp,ho,l,c]
 ·match i with
  | 0=>simp at hv d;subst hv d;rw [q1];exact .fz (.atom g)
  | 1=>simp at hv d;subst hv d;exact q3
  | i+2=>simp at d
end
end Go.Proofs.YtpnnpkmjohkgiaaGreatDoor
