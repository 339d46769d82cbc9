import Derived.Test.YtpnnpkmjohkgiaaGreatDoorXd
set_option linter.all false
namespace Go.Proofs.YtpnnpkmjohkgiaaGreatDoor
open Go Go.RowKit
def imf {α:Type} (k:Int):List (Int×α)->Nat->Option (Nat×α)
 | [],_=>none
 | (k',x)::l,i=>bif k == k' then some (i,x) else imf k l (i+1)
def iget {α:Type} (m:List (Int×α)) (k:Int) (z:α):α:=match imf k m 0 with
 | some (_,x)=>x
 | none=>z
def ihas {α:Type} (m:List (Int×α)) (k:Int):Bool:=(imf k m 0).isSome
def iput {α:Type} (m:List (Int×α)) (k:Int) (y:α):List (Int×α):=match imf k m 0 with
 | some (j,_)=>m.set j (k,y)
 | none=>m++[(k,y)]
def kvI {α:Type} (enc:α->FV) (m:List (Int×α)):List (Int×FV):=m.map fun p=>(p.1,enc p.2)
theorem kid {α β:Type} (f:α->β) (s:Int):∀ (m:List (Int×α)) (i:Nat),imf s (m.map fun p=>(p.1,f p.2)) i=(imf s m i).map fun p=>(p.1,f p.2)
 | [],_=>rfl
 | (k,v)::l,i=>by
  simp only [qa3,imf];cases s == k with
  | true=>rfl
  | false=>exact kid f s l (i+1)
theorem kou {α β:Type} (f:α->β) (m:List (Int×α)) (s:Int) (z:α):iget (m.map fun p=>(p.1,f p.2)) s (f z)=f (iget m s z):=by
 unfold iget;rw [kid];cases imf s m 0 with
 | none=>rfl
 | some p=>rfl
theorem koy {α β:Type} (f:α->β) (m:List (Int×α)) (s:Int):ihas (m.map fun p=>(p.1,f p.2)) s=ihas m s:=by
 unfold ihas;rw [kid];cases imf s m 0 with
 | none=>rfl
 | some p=>rfl
theorem kun {α:Type} {s:Int}:∀ {m:List (Int×α)} {i j:Nat} {x:α},imf s m i=some (j,x)->i<=j/\j - i<m.length/\∃ k,m[j - i]?=some (k,x)/\k=s
 | [],i,j,x,h=>by cases h
 | (k,v)::l,i,j,x,h=>by
  simp only [imf] at h;cases a:s == k with
  | true=>
   rw [a] at h;simp only [qe,qb,qj] at h;obtain ⟨rfl,rfl⟩:=h;exact ⟨qt _,by simp,k,by simp,(eq_of_beq a).symm⟩
  | false=>
   rw [a] at h;obtain ⟨h1,d,k',b,c⟩:=kun h;have e:j - i=(j - (i+1))+1:=(by omega);exact ⟨by omega,by simp;omega,k',by rw [e,List.getElem?_cons_succ];exact b,c⟩
section
variable {P:Program} {F S0:Nat->Prop} {N0:Nat} {w w':World} {S S':Nat->Prop} {ψ ψ':Env} {K:Nat->Prop} {T:List (TypeId×TD)} {o:Oper} {a:Act} {st:St} {t tx:TypeId} {d:TD} {id:Nat}
theorem TdOk.i64' (h:TdOk P t d) (hk:d.kind = .int .i64):P.underlying t=some (.int .i64):=by obtain ⟨_,e',h1,a⟩:=h;rw [hk] at a;cases e' <;> simp [kai] at a;rw [h1,a]
theorem kh5 (s:Int) {R:Value->FV->Prop}:∀ (es:List MapEntry) (kv:List (Int×FV)) (i:Nat),es.length=kv.length->(∀ (j:Nat) (e:MapEntry) (p:Int×FV),es[j]?=some e->kv[j]?=some p->e.key = .int .i64 p.1/\R e.val p.2) ->
  (Instr.findNow (.int .i64) (.int .i64 s) es i=some none/\imf s kv i=none)\/∃ j v x,Instr.findNow (.int .i64) (.int .i64 s) es i=some (some (j,v))/\imf s kv i=some (j,x)/\R v x
 | [],[],i,_,_ => .inl ⟨rfl,rfl⟩
 | [],p::kv,i,h,_=>by cases h
 | e::es,[],i,h,_=>by cases h
 | e::es,(k,x)::kv,i,h,hr=>by
  obtain ⟨hk,hv⟩:=hr 0 e (k,x) rfl rfl;have hs:Instr.sameNow (.int .i64) (.int .i64 s) (.int .i64 k)=some (s == k):=by simp [Instr.sameNow]
  simp only [Instr.findNow,hk,hs,imf];cases b:s == k with
  | true=>exact .inr ⟨i,e.val,x,rfl,rfl,hv⟩
  | false=>exact kh5 s es kv (i+1) (by simpa using h) fun j e p a hp=>hr (j+1) e p (by simpa using a) (by simpa using hp)
theorem RF.nilL {size:Nat} (hs:0<size):RF S w (.slice none 0 0) (.lst size 0 []) := .lst (fun _=>[]) rfl (qt _) (by omega) hs (fun i x h=>by simp at h) (fun i x h=>by simp at h) fun i x j v y h=>by simp at h
theorem kru {α:Type} (enc:α->FV) (ho:o.op = .makeMap t none:=by kernel_rfl) (d:st.ids.contains id=false:=by kernel_rfl):StepA P o st (.mp id) ((id, .xo (.imap (kvI enc [])))::st.heap) (id::st.ids):=by
 have d:id∉st.ids:=by simpa using d
 intro F S0 N0 ψ S a w f;have c:=f.core;refine kaf (w':=w.alloc (.map #[] 0)) (v := .map (some w.heap.size)) ?_ ⟨ψ.set id 0 (.map (some w.heap.size)),S,?_,?_,kel _ c.fr,kb2 d _ _,fun _ h=>qs _ h,fun _ h=>h,Same.of_grow (ka7 _ _)⟩;simp [execOp,ho,Instr.makeMap];exact c.add (ka7 _ _) d (fun b g=>by simp [kav] at g;omega) ⟨kbz _ _,w.heap.size,_,_,kar _ _,heap_alloc_new w _,rfl,fun i e p j hp=>by simp at j⟩
 ·exact .mp (qv ..) rfl fun _=>by rw [kar]
theorem kq4 {kv:List (Int×FV)} {v:Value} (hs:XobR ψ K S w id (.imap kv)) (hv:RV ψ K S w v (.mp id)):v=ψ.val id:=by
 cases hv with
 | mp hK h1 hv=>exact hv hs.1.symm
theorem kt7 {α:Type} {enc:α->FV} {m:List (Int×α)} {k:Int} {z:α} {x y:Operand} {kt et:TypeId} {kd:TD} (zv:Value) (ho:o.op = .lookup t x y true) (J:TOk P T) (A:kad T t=some d) (hk:d.kind = .map kt et) (c:kad T kt=some kd) (l:kd.kind = .int .i64) (inf:TypeInfo) (B:P.info? et=some inf) (C:inf.zero=some zv) (L:zv.oneCell'=true)
  (D:∀ (S:Nat->Prop) (w:World),RF S w zv (enc z)) (M:st.eval x = .mp id:=by kernel_rfl) (E:kab st.heap id=some (.xo (.imap (kvI enc m))):=by kernel_rfl) (hy:st.eval y = .fz (.atom (.int .i64 k)):=by kernel_rfl):NStep P o st (.fz (.tup [enc (iget m k z), .atom (.bool (ihas m k))])):=by
 intro ψ S a w ht N;have A:=J.get A;have c:=J.get c;have hv:=Sim.eval_tmps ht x;rw [M] at hv;have n:XobR ψ (·∈st.ids) S w id (.imap (kvI enc m)):=N id _ E;have q:=kq4 n hv;obtain ⟨h0,b,es,clock,g,K,F,hr⟩:=n;have f:=Sim.eval_tmps ht y;rw [hy] at f;have f:=f.atom;have G:(zeroValue et).run P w = .ok zv w:=by simp [zeroValue,typeInfo,B,C]
 have r:=MapKept.run_checkKey (w:=w) (c.i64' l) (k := .int .i64 k) rfl es.isEmpty 9999;have two:∀ {v:Value} {x:FV} {ok:Bool},RF (fun b=>S b\/w.heap.size<=b) w v x->RF (fun b=>S b\/w.heap.size<=b) w (.tuple #[v, .bool ok]) (.tup [x, .atom (.bool ok)]):=fun {v x ok} h => .tup rfl fun i u y s hy=>by
  match i with
  | 0=>simp at s hy;subst s hy;exact h
  | 1=>simp at s hy;subst s hy;exact .atom rfl
  | i+2=>simp at s
 have H:∀ (j:Nat) (e:MapEntry) (p:Int×FV),es.toList[j]?=some e->(m.map fun p=>(p.1,enc p.2))[j]?=some p->e.key = .int .i64 p.1/\RF S w e.val p.2:=fun j e p O hp=>hr j e p (by simpa using O) hp;rcases kh5 k (R:=fun v x=>RF S w v x) es.toList (m.map fun p=>(p.1,enc p.2)) 0 (by simpa [kvI] using F) H with ⟨f1,f2⟩ | ⟨j,v,x',f1,f2,f3⟩
 ·have hf:=MapKept.run_findKey (w:=w) (c.i64' l) f1;have I:ihas m k=false:=by rw [<- koy enc];unfold ihas;rw [f2];rfl
  refine kaf (w':=w) (v := .tuple #[zv, .bool false]) ?_ ⟨kag _, .fz ?_⟩;simp [execOp,ho,f,q,g,Instr.lookup,run_underlying (A.mp hk),MapKept.run_getObj_map K,r,hf,G]
  ·rw [I];refine two ?_;rw [<- kou enc];unfold iget;rw [f2];exact D _ _
 ·have hf:=MapKept.run_findKey (w:=w) (c.i64' l) f1;have I:ihas m k=true:=by rw [<- koy enc];unfold ihas;rw [f2];rfl
  refine kaf (w':=w) (v := .tuple #[v, .bool true]) ?_ ⟨kag _, .fz ?_⟩;simp [execOp,ho,f,q,g,Instr.lookup,run_underlying (A.mp hk),MapKept.run_getObj_map K,r,hf]
  ·rw [I];refine two ?_;rw [<- kou enc];unfold iget;rw [f2];exact f3.mono fun _ h => .inl h
theorem kp2 {α:Type} {enc:α->FV} {m:List (Int×α)} {k:Int} {z:α} {x y v:Operand} {kt et:TypeId} {kd:TD} (ho:o.op = .mapUpdate t x y v) (hT:TOk P T) (Y:kad T t=some d:=by kernel_rfl) (hk:d.kind = .map kt et:=by kernel_rfl) (r:kad T kt=some kd:=by kernel_rfl) (I:kd.kind = .int .i64:=by kernel_rfl) (hx:st.eval x = .mp id:=by kernel_rfl) (K:kab st.heap id=some (.xo (.imap (kvI enc m))):=by kernel_rfl) (hy:st.eval y = .fz (.atom (.int .i64 k)):=by kernel_rfl) (hv:st.eval v = .fz (enc z):=by kernel_rfl):StepA P o st .any ((id, .xo (.imap (kvI enc (iput m k z))))::st.heap) st.ids:=by
 intro F S0 N0 ψ S a w C;have Y:=hT.get Y;have r:=hT.get r;have s:=C.core;obtain ⟨af,D,Z⟩:=s.obj id _ K;have D:XobR ψ (·∈st.ids) S w id (.imap (kvI enc m)):=D;have L:=C.eval x;rw [hx] at L;have M:=kq4 D L;obtain ⟨h0,b,es,clock,l,E,g,hr⟩:=D;have g:es.size=m.length:=by simpa [kvI] using g
 have A:=C.eval y;rw [hy] at A;have A:=A.atom;have B:=C.eval v;rw [hv] at B;have B:=B.inv;have N:=MapKept.run_checkKey (w:=w) (r.i64' I) (k := .int .i64 k) rfl false 9999;have G:=kjq h0;have main:∀ (es':Array MapEntry) (clock':Nat),es'.size=(iput m k z).length ->
   (∀ (i:Nat) (e:MapEntry) (p:Int×FV),es'[i]?=some e->(kvI enc (iput m k z))[i]?=some p->e.key = .int .i64 p.1/\RF S w e.val p.2) ->
   (execOp a.eval o).run P w = .ok .skip { w with heap:=w.heap.setIfInBounds b (.map es' clock') } ->
   kcv P o a w fun v w'=>∃ ψ' S',Core F S0 N0 ((id, .xo (.imap (kvI enc (iput m k z))))::st.heap) st.ids ψ' S' w'/\RV ψ' (·∈st.ids) S' w' v .any/\Fr F w w'/\Ext (·∈st.ids) ψ ψ'/\(∀ id,id∈st.ids->id∈st.ids)/\(∀ b,S b->S' b)/\Same S w w':=by
  intro es' clock' O aa Q;obtain ⟨g1,g2⟩:=MapKept.heap_set (o' := .map es' clock') E;have ae:({ w with heap:=w.heap.setIfInBounds b (.map es' clock') }:World).heap.size=w.heap.size:=by simp
  have H:∀ k,k<w.heap.size->¬ Blk (ψ.val id) k->({ w with heap:=w.heap.setIfInBounds b (.map es' clock') }:World).heap[k]?=w.heap[k]?:=fun k _ hk=>g2 k fun e=>hk (.of (by rw [l,e];rfl));have hk:Same S w { w with heap:=w.heap.setIfInBounds b (.map es' clock') }:=fun k hk hl=>H k hl fun e=>(Z k e).1 hk;obtain ⟨c1,c2,c3⟩:=s.upd (n:=0) (v:=ψ.val id) (w':={ w with heap:=w.heap.setIfInBounds b (.map es' clock') }) (ob' := .xo (.imap (kvI enc (iput m k z)))) K (by omega) H (.inr ⟨h0,rfl⟩) (fun b E => .inl E) (by rw [G];refine ⟨h0,b,es',clock',l,g1,by simpa [kvI] using O,fun i e p c hp=>?_⟩;obtain ⟨q1,q2⟩:=aa i e p c hp;exact ⟨q1,q2.keep hk⟩);rw [G] at c1;exact kf4 Q ⟨ψ,S,c1, .any,⟨rfl,rfl,rfl,by omega,c3⟩,Ext.refl,fun _ h=>h,fun _ h=>h,c2⟩
 have ab:∀ (j:Nat) (e:MapEntry) (p:Int×FV),es.toList[j]?=some e->(m.map fun p=>(p.1,enc p.2))[j]?=some p->e.key = .int .i64 p.1/\RF S w e.val p.2:=fun j e p c hp=>hr j e p (by simpa using c) hp;rcases kh5 k (R:=fun v x=>RF S w v x) es.toList (m.map fun p=>(p.1,enc p.2)) 0 (by simpa using g) ab with ⟨f1,f2⟩ | ⟨j,u,x',f1,f2,f3⟩
 ·have hf:=MapKept.run_findKey (w:=w) (r.i64' I) f1;have ac:imf k m 0=none:=by
   rw [kid] at f2;cases hq:imf k m 0 with
   | none=>rfl
   | some q=>rw [hq] at f2;cases f2
  have f:iput m k z=m++[(k,z)]:=by unfold iput;rw [ac]
  refine main (es.push { key := .int .i64 k,val:=a.eval v,born:=clock }) (clock+1) (by rw [f];simpa using g) (fun i e p c hp=>?_) ?_
  ·rw [f] at hp;unfold kvI at hp;rw [qa0] at hp;rw [Array.getElem?_push] at c;have U:es.size=(m.map fun p=>(p.1,enc p.2)).length:=(by simpa using g);by_cases hi:i=es.size;rw [qq hi] at c;injection c with c;subst c;rw [qac (by omega),hi,U,Nat.sub_self] at hp;simp only [qa3,List.map_nil,List.getElem?_cons_zero,qb] at hp;subst hp;exact ⟨rfl,B⟩
   ·rw [qh hi] at c;have ag:i<es.size:=(qax.1 c).1;rw [qy (by omega)] at hp;exact hr i e p c hp
  ·simp [execOp,ho,A,M,l,Instr.mapUpdate,run_underlying (Y.mp hk),MapKept.run_getObj_map E,N,hf,MapKept.run_setObj_map _ E]
 ·have hf:=MapKept.run_findKey (w:=w) (r.i64' I) f1;rw [kid,qp] at f2;obtain ⟨⟨j',x0⟩,f4,f5⟩:=f2;simp only [qj] at f5;obtain ⟨rfl,rfl⟩:=f5;obtain ⟨_,l2,k,l3,rfl⟩:=kun f4;simp only [Nat.sub_zero] at l2 l3;have f:iput m k z=m.set j' (k,z):=by unfold iput;rw [f4]
  have ad:j'<es.size:=by rw [g];exact l2
  have J:es[j']?=some es[j']:=Array.getElem?_eq_getElem ad;have V:es[j'].key = .int .i64 k:=(hr j' _ (k,enc x0) J (by unfold kvI;rw [qr,l3];rfl)).1;refine main (es.modify j' fun e=>{ e with key := .int .i64 k,val:=a.eval v }) clock (by rw [f];simpa using g) (fun i e p c hp=>?_) ?_
  ·rw [f] at hp;unfold kvI at hp;rw [List.map_set] at hp;rw [Array.getElem?_modify] at c;by_cases hi:j'=i;subst hi;rw [qq rfl,J] at c;simp only [qa9,qb] at c;subst c;rw [List.getElem?_set_self (by rw [qaj];exact l2)] at hp;injection hp with hp;subst hp;exact ⟨rfl,B⟩
   ·rw [qh hi] at c;rw [List.getElem?_set_ne hi] at hp;exact hr i e p c hp
  ·have X:(Instr.keyThatStays (((es[j']?).map (·.key)).getD (.int .i64 k)) (.int .i64 k)).run P w = .ok (.int .i64 k) w:=(by rw [J];simp only [qa9,qai,V];exact MapKept.run_keyThatStays (d := .int .i64) rfl);simp [execOp,ho,A,M,l,Instr.mapUpdate,run_underlying (Y.mp hk),MapKept.run_getObj_map E,N,hf,MapKept.run_setObj_map _ E];simp [X,MapKept.run_setObj_map _ E]
end
end Go.Proofs.YtpnnpkmjohkgiaaGreatDoor
