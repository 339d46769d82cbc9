import Derived.Test.YtaimpcnpifoidaaGreatDoorJn
import Derived.WideKeyRuns
import Derived.LaidEql
import Derived.Scope
set_option linter.all false
namespace Go.Proofs.YtaimpcnpifoidaaGreatDoor
open Go Go.RowKit
def KeyV (w:World) (v:Value):Prop:=∃ p n,v = .agg #[.pointer p, .int .i64 n]/\(p=none\/∃ b cs e,p=some ⟨b,0,none⟩/\w.heap[b]?=some (.cells cs e (0,0)))
structure KeyT (P:Program) (kt:TypeId):Prop where
 ex : ∃ (tp te ti : TypeId) (n0 n1 : String) (f0 f1 : Field) (j : TypeInfo), P.underlying kt = some (.struct #[f0, f1]) /\ f0.name = n0 /\ f1.name = n1 /\ n0 ≠ "_" /\ n1 ≠ "_" /\ f0.type = tp /\ f1.type = ti /\ f0.offset = 0 /\ f1.offset = 1 /\
  P.stoodInHeld kt=false/\P.underlying tp=some (.pointer te)/\P.info? te=some j/\j.size≠0/\P.underlying ti=some (.int .i64)
section
variable {P:Program} {w:World} {kt:TypeId}
theorem kaez (d:Nat) {tp te:TypeId} {j:TypeInfo} (h1:P.underlying tp=some (.pointer te)) (h2:P.info? te=some j) (h3:j.size≠0) {p q:Option Addr}
  (hp:p=none\/∃ b cs e,p=some ⟨b,0,none⟩/\w.heap[b]?=some (.cells cs e (0,0))) (f:q=none\/∃ b cs e,q=some ⟨b,0,none⟩/\w.heap[b]?=some (.cells cs e (0,0))):
  ∃ r:Bool,(Op.equalIn (d+1) tp (.pointer p) (.pointer q)).run P w = .ok r w/\(r=true↔p=q):=by
 rcases hp with rfl | ⟨b,cs,e,rfl,g⟩;refine ⟨q.isNone,by simp [Op.equalIn,run_underlying h1],?_⟩;cases q <;> simp
 ·rcases f with rfl | ⟨b',cs',e',rfl,a⟩;exact ⟨false,by simp [Op.equalIn,run_underlying h1],by simp⟩
  ·by_cases c:b=b';subst c;exact ⟨true,by simp [Op.equalIn,run_underlying h1,sizeOf,typeInfo,h2,h3,run_sameAddr_same],by simp⟩
   ·have hne:(⟨b,0,none⟩:Addr)≠⟨b',0,none⟩:=fun h=>c (by injection h);exact ⟨false,by simp [Op.equalIn,run_underlying h1,sizeOf,typeInfo,h2,h3,run_sameAddr_other w hne g a],by simp [c]⟩
theorem kae4 (ht:KeyT P kt) {x y:Value} (i:KeyV w x) (k:KeyV w y):∃ r:Bool,(Op.equal kt x y).run P w = .ok r w/\(r=true↔x=y):=by
 obtain ⟨tp,te,ti,n0,n1,f0,f1,j,h1,rfl,rfl,g,l,rfl,rfl,o,s,a,b,d,e,c⟩:=ht.ex;obtain ⟨p,n,rfl,hp⟩:=i;obtain ⟨q,m,rfl,t⟩:=k;obtain ⟨r,e1,e2⟩:=kaez (P:=P) (w:=w) 9998 b d e hp t;have p1:∀ u v:Value,(part f0.type #[u,v] f0.offset).run P w = .ok u w:=fun u v=>by simp [part,isAgg,run_underlying b,o]
 have p2:∀ u v:Value,(part f1.type #[u,v] f1.offset).run P w = .ok v w:=fun u v=>by simp [part,isAgg,run_underlying c,s]
 refine ⟨r && (n == m),?_,?_⟩
 ·have key:∀ dd:Nat,(Op.equalIn (dd+1) f0.type (.pointer p) (.pointer q)).run P w = .ok r w->(Op.equalIn (dd+1+1) kt (.agg #[.pointer p, .int .i64 n]) (.agg #[.pointer q, .int .i64 m])).run P w = .ok (r && (n == m)) w:=by
   intro dd e1;have e3:(Op.equalIn (dd+1) f1.type (.int .i64 n) (.int .i64 m)).run P w = .ok (n == m) w:=(by simp [Op.equalIn,run_underlying c]);rw [Op.equalIn];simp only [Sem.run_bind,run_underlying h1,Result.andThen_ok];cases r with
   | false=>simp [a,g,p1,e1]
   | true=>cases f:(n == m) <;> simp [a,g,l,p1,p2,e1,e3,f]
  exact key 9998 e1
 ·rw [q8,e2];simp only [beq_iff_eq];constructor;rintro ⟨rfl,rfl⟩;rfl
  ·intro h;simp only [Value.agg.injEq,Array.mk.injEq,List.cons.injEq,Value.pointer.injEq,Value.int.injEq,true_and,and_true] at h;exact h
theorem k07 (ht:KeyT P kt) {k:Value} (hk:KeyV w k):∀ (es:List MapEntry) (i:Nat),(∀ e∈es,KeyV w e.key) ->
  ((Instr.findAsking kt k es i).run P w = .ok none w/\∀ e∈es,e.key≠k) \/
  ∃ l1 e l2,es=l1++e::l2/\(∀ x∈l1,x.key≠k)/\e.key=k/\(Instr.findAsking kt k es i).run P w = .ok (some (i+l1.length,e.val)) w
 | [],i,_ => .inl ⟨by simp [Instr.findAsking],by simp⟩
 | e::es,i,h=>by
  obtain ⟨r,e1,e2⟩:=kae4 ht hk (h e (by simp));cases r with
  | true=>exact .inr ⟨[],e,es,rfl,by simp,(e2.1 rfl).symm,by simp [Instr.findAsking,e1]⟩
  | false=>
   have hne:e.key≠k:=fun b=>(by cases e2.2 b.symm);rcases k07 ht hk es (i+1) fun x a=>h x (by simp [a]) with ⟨f1,f2⟩ | ⟨l1,y,l2,f1,f2,f3,f4⟩
   ·exact .inl ⟨by simp [Instr.findAsking,e1,f1],fun x a=>by
     rcases qac.1 a with rfl | a;exact hne
     ·exact f2 x a⟩
   ·refine .inr ⟨e::l1,y,l2,by rw [f1];rfl,fun x a=>?_,f3,?_⟩
    ·rcases qac.1 a with rfl | a;exact hne
     ·exact f2 x a
    ·simp [Instr.findAsking,e1,f4,Nat.add_assoc,Nat.add_comm 1]
theorem KeyT.wide (ht:KeyT P kt):(match P.underlying kt with | some (.array _ _) | some (.struct _)=>true | _=>false)=true:=by obtain ⟨tp,te,ti,n0,n1,f0,f1,j,h1,_⟩:=ht.ex;rw [h1]
theorem KeyT.check (ht:KeyT P kt) {k:Value} (hk:KeyV w k) (em:Bool):(Instr.checkKey em 10000 kt k).run P w = .ok () w:=by
 obtain ⟨tp,te,ti,n0,n1,f0,f1,j,h1,rfl,rfl,c,d,rfl,rfl,e,f,g,a,h,i,b⟩:=ht.ex;obtain ⟨p,n,rfl,hp⟩:=hk;have p1:∀ u v:Value,(part f0.type #[u,v] f0.offset).run P w = .ok u w:=fun u v=>by simp [part,isAgg,run_underlying a,e]
 have p2:∀ u v:Value,(part f1.type #[u,v] f1.offset).run P w = .ok v w:=fun u v=>by simp [part,isAgg,run_underlying b,f]
 have key:∀ dd:Nat,(Instr.checkKey em (dd+1+1) kt (.agg #[.pointer p, .int .i64 n])).run P w = .ok () w:=by
  intro dd;have e1:(Instr.checkKey em (dd+1) f0.type (.pointer p)).run P w = .ok () w:=by simp [Instr.checkKey,run_underlying a]
  have e2:(Instr.checkKey em (dd+1) f1.type (.int .i64 n)).run P w = .ok () w:=by simp [Instr.checkKey,run_underlying b]
  rw [Instr.checkKey];simp [run_underlying h1,c,d,p1,p2,e1,e2]
 exact key 9998
theorem KeyV.bits {k:Value} (hk:KeyV w k):(Instr.keyThatStays k k).run P w = .ok k w:=by
 obtain ⟨p,n,rfl,_⟩:=hk;have hs:Instr.sameBits 10000 (.agg #[.pointer p, .int .i64 n]) (.agg #[.pointer p, .int .i64 n])=true:=by show Instr.sameBits (9999+1) _ _=true;simp [Instr.sameBits]
 simp [Instr.keyThatStays,hs]
end
theorem RF.ex_key {S:Nat->Prop} {w:World} {v:Value} {x:Ex} (h:RF S w v (eExR x)):∃ p,v = .pointer p/\(p=none\/∃ b cs e,p=some ⟨b,0,none⟩/\w.heap[b]?=some (.cells cs e (0,0))):=by
 cases x with
 | nil=>
  rw [k3l] at h;cases h with
  | bx cs hS ha hl h0 h1 hr=>cases h0
  | bn=>exact ⟨none,rfl, .inl rfl⟩
 | mk k i v' o a=>
  rw [kpp] at h;cases h with
  | @bx b e _ cs hS ha hl h0 h1 hr=>exact ⟨_,rfl, .inr ⟨b,cs,e,rfl,ha⟩⟩
theorem RF.key2 {S:Nat->Prop} {w:World} {v:Value} {x y:FV} (h:RF S w v (.agg [x,y])):∃ a b,v = .agg #[a,b]/\RF S w a x/\RF S w b y:=by
 cases h with
 | @agg cs _ hl h1 hr=>
  obtain ⟨l⟩:=cs
  match l,hl with
  | [a,b],_=>exact ⟨a,b,rfl,hr 0 a x rfl rfl,hr 1 b y rfl rfl⟩
def KeyX (Φ:FV->FV->Prop):Prop:=∀ kx vx,Φ kx vx->∃ x s,kx = .agg [eExR x,eI s]
theorem KeyX.key {Φ:FV->FV->Prop} (c:KeyX Φ) {S:Nat->Prop} {w:World} {v:Value} {kx vx:FV} (h:Φ kx vx) (hr:RF S w v kx):KeyV w v:=by obtain ⟨x,s,rfl⟩:=c _ _ h;obtain ⟨a,b,rfl,ha,d⟩:=hr.key2;obtain ⟨p,rfl,hp⟩:=ha.ex_key;obtain rfl:=d.atom_eq;exact ⟨p,s,rfl,hp⟩
def UqC (S:Nat->Prop) (w:World) {α:Type} (n:Nat) (enc:α->FV) (x:α):Prop:=∀ (vs:List Value) (y:α),vs.length=n->(∀ (j:Nat) (v:Value) (c:FV),vs[j]?=some v->(enc x).cells[j]?=some c->RF S w v c) ->
 (∀ (j:Nat) (v:Value) (c:FV),vs[j]?=some v->(enc y).cells[j]?=some c->RF S w v c)->x=y
section
variable {S:Nat->Prop} {w:World}
theorem kaah {α:Type} {n:Nat} {enc:α->FV} (hn:0<n) (hl:∀ x,(enc x).cells.length=n) {v:Value}:∀ {xs ys:List α},(∀ x∈xs,UqC S w n enc x)->RF S w v (eL n enc xs)->RF S w v (eL n enc ys)->xs=ys:=by
 intro xs ys h h1 h2;unfold eL at h1 h2;cases h1 with
 | @lst A cap _ _ _ css e1 hc hm hs ha a hr=>
  generalize hv:Value.slice A xs.length cap=v2 at h2;cases h2 with
  | @lst A2 cap2 _ _ _ css2 e2 p q r d e f=>
   simp only [Value.slice.injEq] at hv;obtain ⟨rfl,e3,rfl⟩:=hv;simp only [qag] at e1 e2;apply List.ext_getElem?;intro i;have k:xs.length=ys.length:=(by omega);by_cases hi:i<xs.length
   ·have l:xs[i]?=some (xs[i]):=qc hi;have m:ys[i]?=some (ys[i]'(by omega)):=qc (by omega);rw [l,m];have gx:(xs.map enc)[i]?=some (enc xs[i]):=(by simp [l]);have gy:(ys.map enc)[i]?=some (enc (ys[i]'(by omega))):=(by simp [m]);obtain ⟨b,o,q1,q2,q3⟩:=ha i _ gx;obtain ⟨b',o',r1,r2,r3⟩:=d i _ gy;rw [q1] at r1;obtain ⟨rfl,rfl⟩:b=b'/\o=o':=(by have:=qq r1;exact ⟨by injection this,by injection this⟩);have g:css i=css2 i:=by
     apply List.ext_getElem?;intro j;have k1:=(a i _ gx).1;have k2:=(e i _ gy).1;by_cases s:j<n;have t1:=q3 j _ (qc (by omega));have t2:=r3 j _ (qc (by omega));rw [qc (by omega),qc (by omega),<- t1,<- t2]
     ·rw [qbm (by omega),qbm (by omega)]
    rw [h xs[i] (qv hi) (css i) (ys[i]'(by omega)) (a i _ gx).1 (fun j v c hv hc=>hr i _ j v c gx hv hc) (fun j v c hv hc=>f i _ j v c gy (by rw [<- g];exact hv) hc)]
   ·rw [qbm (by omega),qbm (by omega)]
mutual
theorem kajb:∀ x:Va,UqC S w 4 eVaR x
 | .mk t n s l,vs,y,hn,h1,h2=>by
  rw [k2x] at h1 h2
  match vs,hn with
  | [a,b,c,d],_=>
   cases y with
   | mk t' n' s' l'=>
    have u1:=(h1 0 a _ rfl rfl).atom_eq.symm.trans (h2 0 a _ rfl rfl).atom_eq;have u2:=(h1 1 b _ rfl rfl).atom_eq.symm.trans (h2 1 b _ rfl rfl).atom_eq;have u3:=(h1 2 c _ rfl rfl).atom_eq.symm.trans (h2 2 c _ rfl rfl).atom_eq;have u4:l=l':=kaah (by decide) k66 (kafc l) (h1 3 d _ rfl rfl) (h2 3 d _ rfl rfl);injection u1 with _ u1;injection u2 with _ u2;injection u3 with u3;simp only [Va.type,Va.num,Va.text] at u1 u2 u3;subst u1 u2 u3 u4;rfl
theorem kafc:∀ (l:List Va) (x:Va),x∈l->UqC S w 4 eVaR x
 | [],x,h=>by cases h
 | y::l,x,h=>by
  rcases qac.1 h with h | h;rw [h];exact kajb y
  ·exact kafc l x h
end
mutual
theorem kajo:∀ (x y:Ex) (v:Value),RF S w v (eExR x)->RF S w v (eExR y)->x=y
 | .nil,y,v,h1,h2=>by
  rw [k3l] at h1;cases y with
  | nil=>rfl
  | mk k i v o a=>
   rw [kpp] at h2;cases h1 with
   | bx cs hS ha hl h0 q hr=>cases h0
   | bn=>cases h2
 | .mk k i v o a,y,u,h1,h2=>by
  rw [kpp] at h1;cases y with
  | nil=>
   rw [k3l] at h2;cases h1 with
   | bx cs hS ha hl h0 q hr=>
    cases h2 with
    | bx cs2 m g n h p d=>cases h
  | mk k' i' v' o' a'=>
   rw [kpp] at h2;cases h1 with
   | @bx b e _ cs hS ha hl h0 q hr=>
    cases h2 with
    | @bx _ e2 _ cs2 m g n h p d=>
     rw [ha] at g;simp only [ql,Obj.cells.injEq,and_true] at g;obtain ⟨rfl,rfl⟩:=g;obtain ⟨l⟩:=cs
     match l,hl with
     | [c0,c1,c2,c3,c4,c5,c6,c7],_=>
      have u0:=(hr 0 c0 _ rfl rfl).atom_eq.symm.trans (d 0 c0 _ rfl rfl).atom_eq;have u1:=(hr 1 c1 _ rfl rfl).atom_eq.symm.trans (d 1 c1 _ rfl rfl).atom_eq;have u6:=(hr 6 c6 _ rfl rfl).atom_eq.symm.trans (d 6 c6 _ rfl rfl).atom_eq;have uv:v=v':=kajb v [c2,c3,c4,c5] v' rfl (fun j x c f hc=>by
        rw [kml] at hc
        match j with
        | 0=>exact hr 2 x c f hc
        | 1=>exact hr 3 x c f hc
        | 2=>exact hr 4 x c f hc
        | 3=>exact hr 5 x c f hc
        | j+4=>simp at f) (fun j x c f hc=>by
        rw [kml] at hc
        match j with
        | 0=>exact d 2 x c f hc
        | 1=>exact d 3 x c f hc
        | 2=>exact d 4 x c f hc
        | 3=>exact d 5 x c f hc
        | j+4=>simp at f)
      have ua:a=a':=kaah (by decide) kagy (kaec a) (hr 7 c7 _ rfl rfl) (d 7 c7 _ rfl rfl);injection u0 with _ u0;injection u1 with _ u1;injection u6 with u6;subst u0 u1 u6 uv ua;rfl
theorem kaec:∀ (l:List Ex) (x:Ex),x∈l->UqC S w 1 eExR x
 | [],x,h=>by cases h
 | y::l,x,h=>by
  rcases qac.1 h with h | h
  ·rw [h];intro vs z hn h1 h2;rw [kac6] at h1 h2
   match vs,hn with
   | [a],_=>exact kajo y z a (h1 0 a _ rfl rfl) (h2 0 a _ rfl rfl)
  ·exact kaec l x h
end
theorem kamr {x y:Ex} {s t:Int} {v:Value} (h1:RF S w v (.agg [eExR x,eI s])) (h2:RF S w v (.agg [eExR y,eI t])):x=y/\s=t:=by obtain ⟨a,b,rfl,ha,f⟩:=h1.key2;obtain ⟨a',b',e,c,d⟩:=h2.key2;simp only [Value.agg.injEq,Array.mk.injEq,List.cons.injEq,and_true] at e;obtain ⟨rfl,rfl⟩:=e;refine ⟨kajo x y _ ha c,?_⟩;have:=f.atom_eq.symm.trans d.atom_eq;injection this
end
def kej (Ψ:Ex->Int->FV->Prop):FV->FV->Prop:=fun kx vx=>∃ x s,kx = .agg [eExR x,eI s]/\Ψ x s vx
theorem kv1 (Ψ:Ex->Int->FV->Prop):KeyX (kej Ψ):=fun kx vx ⟨x,s,h,_⟩=>⟨x,s,h⟩
section
variable {P:Program} {F S0:Nat->Prop} {N0:Nat} {w w':World} {S S':Nat->Prop} {ψ:Env} {K:Nat->Prop} {T:List (TypeId×TD)} {o:Oper} {a:Act} {st:St} {t:TypeId} {d:TD} {id gi:Nat} {kt et:TypeId} {Φ:FV->FV->Prop}
theorem Core.re {heap:List (Nat×AObj)} {ids:List Nat} {ob ob':AObj} (h:Core F S0 N0 heap ids ψ S w) (ho:kab heap id=some ob) (hn:ObR ψ (·∈ids) S w id ob'):Core F S0 N0 ((id,ob')::heap) ids ψ S w:=by
 have up:∀ {i o},kab ((id,ob')::heap) i=some o->∃ o',kab heap i=some o':=fun {i o} h=>by
  rw [kae] at h;split at h;rename_i a;exact ⟨_,a ▸ ho⟩
  ·exact ⟨_,h⟩
 refine ⟨fun k o hk=>?_,fun k k' o o' b hk c hne d=>?_,h.lt,h.s0,h.n0,h.fr⟩
 ·rw [kae] at hk;split at hk;rename_i a;subst a;injection hk with hk;subst hk;obtain ⟨h1,_,h3⟩:=h.obj _ _ ho;exact ⟨h1,hn,h3⟩
  ·exact h.obj k o hk
 ·obtain ⟨o1,k1⟩:=up hk;obtain ⟨o2,k2⟩:=up c;exact h.inj k k' o1 o2 b k1 k2 hne d
theorem kaal {v:Value} (h0:ψ.len id=0) (hv:RV ψ K S w v (.mp id)):v=ψ.val id:=by
 cases hv with
 | mp hK h1 hv=>exact hv h0.symm
theorem kacz (Φ:FV->FV->Prop) (ho:o.op = .makeMap t none:=by kernel_rfl) (hid:st.ids.contains id=false:=by kernel_rfl):kcx P o st (.mp id) ((id, .memo Φ none)::st.heap) (id::st.ids):=by
 have hid:id∉st.ids:=by simpa using hid
 intro F S0 N0 ψ S a w d;have c:=d.core;refine kaj (w':=w.alloc (.map #[] 0)) (v := .map (some w.heap.size)) ?_ ⟨ψ.set id 0 (.map (some w.heap.size)),S,?_,?_,koz _ c.fr,ker hid _ _,fun _ h=>qn _ h,fun _ h=>h,Same.of_grow (kdd _ _)⟩;simp [execOp,ho,Instr.makeMap];exact c.add (kdd _ _) hid (fun b f=>by simp [kby] at f;omega) ⟨kes _ _,w.heap.size,_,_,kbp _ _,heap_alloc_new w _,fun e g=>by simp at g,trivial⟩
 ·exact .mp (qt ..) rfl fun _=>by rw [kbp]
theorem kaep {r:Option FV} {p:Option Addr} {s:Int} {X:Ex} {zv:Value} {zx:FV} {x y:Operand} (N:KeyX Φ) (ho:o.op = .lookup t x y true) (f:P.underlying t=some (.map kt et)) (j:KeyT P kt) (inf:TypeInfo) (C:P.info? et=some inf) (D:inf.zero=some zv) (O:∀ S w,RF S w zv zx)
  (l:st.eval x = .mp id:=by kernel_rfl) (E:kab st.heap id=some (.memo Φ (some (.agg #[.pointer p, .int .i64 s],r))):=by kernel_rfl) (k:st.eval y = .fz (.agg [.atom (.pointer p),eI s]):=by kernel_rfl) (Q:kab st.heap gi=some (.gho [.pointer p] [.fz (eExR X)]):=by kernel_rfl):NStep P o st (.fz (.tup [r.getD zx, .atom (.bool r.isSome)])):=by
 intro ψ S a w ht L;have hv:=Sim.eval_tmps ht x;rw [l] at hv;obtain ⟨h0,b,es,clock,g,M,hm,F⟩:=L id _ E;have m:=kaal h0 hv;have n:=Sim.eval_tmps ht y;rw [k] at n;obtain ⟨k1,k2,q,G,H⟩:=n.inv.key2;obtain rfl:=G.atom_eq;obtain rfl:=H.atom_eq;obtain ⟨_,_,_,g3⟩:=L gi _ Q;obtain ⟨p',e1,e2⟩:=(g3 0 _ _ rfl rfl).inv.ex_key;injection e1 with e1;subst e1;have z:KeyV w (.agg #[.pointer p, .int .i64 s]):=⟨p,s,rfl,e2⟩;have A:∀ e∈es.toList,KeyV w e.key:=fun e R=>by obtain ⟨kx,vx,q1,q2,_⟩:=hm e R;exact N.key q1 q2
 have I:(zeroValue et).run P w = .ok zv w:=by simp [zeroValue,typeInfo,C,D]
 have B:=j.check (w:=w) z es.isEmpty;have two:∀ {v:Value} {x:FV} {ok:Bool},RF S w v x->RF S w (.tuple #[v, .bool ok]) (.tup [x, .atom (.bool ok)]):=fun {v x ok} h => .tup rfl fun i u y f k=>by
  match i with
  | 0=>simp at f k;subst f k;exact h
  | 1=>simp at f k;subst f k;exact .atom rfl
  | i+2=>simp at f
 have d:=run_findKey_eq (w:=w) j.wide (.agg #[.pointer p, .int .i64 s]) es.toList;rcases k07 j z es.toList 0 A with ⟨f1,f2⟩ | ⟨l1,e,l2,f1,f2,f3,f4⟩
 ·rw [f1] at d;have hr:r=none:=by
   cases r with
   | none=>rfl
   | some vx=>
    obtain ⟨l1,e,l2,q1,q2,q3,q4⟩:=F;exact absurd q3 (f2 e (by rw [q1];simp))
  subst hr;refine kaj (w':=w) (v := .tuple #[zv, .bool false]) ?_ ⟨kai _, .fz ((two (O S w)).mono fun _ h => .inl h)⟩;simp [execOp,ho,q,m,g,Instr.lookup,run_underlying f,MapKept.run_getObj_map M,B,d,I]
 ·rw [f4] at d;have hr:∃ vx,r=some vx/\RF S w e.val vx:=by
   cases r with
   | none=>exact absurd f3 (F e (by rw [f1];simp))
   | some vx=>
    obtain ⟨m1,e',m2,q1,q2,q3,q4⟩:=F;have key:∀ (l1 m1:List MapEntry) (e e':MapEntry) (l2 m2:List MapEntry),l1++e::l2=m1++e'::m2->(∀ x∈l1,x.key ≠ .agg #[.pointer p, .int .i64 s])->(∀ x∈m1,x.key ≠ .agg #[.pointer p, .int .i64 s])->e.key = .agg #[.pointer p, .int .i64 s]->e'.key = .agg #[.pointer p, .int .i64 s]->e=e':=by
     intro l1
     induction l1 with
     | nil=>
      intro m1 e e' l2 m2 h1 h2 h3 J K;cases m1 with
      | nil=>simp at h1;exact h1.1
      | cons c m1=>simp at h1;exact absurd (h1.1 ▸ J) (h3 c (by simp))
     | cons c l1 ih=>
      intro m1 e e' l2 m2 h1 h2 h3 J K;cases m1 with
      | nil=>simp at h1;exact absurd (h1.1 ▸ K) (h2 c (by simp))
      | cons c' m1=>
       simp only [qam,List.cons.injEq] at h1;exact ih m1 e e' l2 m2 h1.2 (fun x l=>h2 x (by simp [l])) (fun x l=>h3 x (by simp [l])) J K
    obtain rfl:=key l1 m1 e e' l2 m2 (by rw [<- f1,q1]) f2 q2 f3 q3;exact ⟨vx,rfl,q4⟩
  obtain ⟨vx,rfl,hr⟩:=hr;refine kaj (w':=w) (v := .tuple #[e.val, .bool true]) ?_ ⟨kai _, .fz ((two hr).mono fun _ h => .inl h)⟩;simp [execOp,ho,q,m,g,Instr.lookup,run_underlying f,MapKept.run_getObj_map M,B,d]
theorem kadt {hi:Option (Value×Option FV)} {p:Option Addr} {s:Int} {X:Ex} {vx:FV} {x y v:Operand} (Y:Φ (.agg [eExR X,eI s]) vx) (hΦ:KeyX Φ) (ho:o.op = .mapUpdate t x y v) (m:P.underlying t=some (.map kt et)) (z:KeyT P kt)
  (Q:st.eval x = .mp id:=by kernel_rfl) (E:kab st.heap id=some (.memo Φ hi):=by kernel_rfl) (D:st.eval y = .fz (.agg [.atom (.pointer p),eI s]):=by kernel_rfl) (hg:kab st.heap gi=some (.gho [.pointer p] [.fz (eExR X)]):=by kernel_rfl) (hv:st.eval v = .fz vx:=by kernel_rfl):kcx P o st .any ((id, .memo Φ none)::st.heap) st.ids:=by
 intro F S0 N0 ψ S a w l;have c:=l.core;obtain ⟨hid,⟨h0,b,es,clock,d,A,hm,hh⟩,R⟩:=c.obj id _ E;have G:=l.eval x;rw [Q] at G;have H:=kaal h0 G;have I:=l.eval y;rw [D] at I;obtain ⟨k1,k2,J,T,U⟩:=I.inv.key2;obtain rfl:=T.atom_eq;obtain rfl:=U.atom_eq;have f:=l.eval v;rw [hv] at f;have f:=f.inv;obtain ⟨_,⟨_,_,_,g3⟩,_⟩:=c.obj gi _ hg;have g4:=(g3 0 _ _ rfl rfl).inv;obtain ⟨p',e1,e2⟩:=g4.ex_key;injection e1 with e1;subst e1;have B:KeyV w (.agg #[.pointer p, .int .i64 s]):=⟨p,s,rfl,e2⟩;have K:RF S w (.agg #[.pointer p, .int .i64 s]) (.agg [eExR X,eI s]) := .agg rfl (fun x Q=>by
   simp only [qac,List.not_mem_nil,or_false] at Q;rcases Q with rfl | rfl;rfl
   ·rfl) fun i u y m D=>by
  match i with
  | 0=>simp at m D;subst m D;exact g4
  | 1=>simp at m D;subst m D;exact .atom rfl
  | i+2=>simp at m
 have L:∀ e∈es.toList,KeyV w e.key:=fun e j=>by obtain ⟨kx,vx,q1,q2,_⟩:=hm e j;exact hΦ.key q1 q2
 have M:=z.check (w:=w) B false;have q:ψ.set id 0 (ψ.val id)=ψ:=by
  unfold Env.set;congr 1
  ·funext i;split;rename_i h;rw [h,h0]
   ·rfl
  ·funext i;split;rename_i h;rw [h]
   ·rfl
 have main:∀ (es':Array MapEntry) (clock':Nat),(∀ e∈es'.toList,∃ kx vx,Φ kx vx/\RF S w e.key kx/\RF S w e.val vx) ->
   (execOp a.eval o).run P w = .ok .skip { w with heap:=w.heap.setIfInBounds b (.map es' clock') } ->
   kis P o a w fun v w'=>∃ ψ' S',Core F S0 N0 ((id, .memo Φ none)::st.heap) st.ids ψ' S' w'/\RV ψ' (·∈st.ids) S' w' v .any/\Fr F w w'/\Ext (·∈st.ids) ψ ψ'/\(∀ id,id∈st.ids->id∈st.ids)/\(∀ b,S b->S' b)/\Same S w w':=by
  intro es' clock' V N;obtain ⟨g1,g2⟩:=MapKept.heap_set (o' := .map es' clock') A;have Z:({ w with heap:=w.heap.setIfInBounds b (.map es' clock') }:World).heap.size=w.heap.size:=by simp
  have r:∀ k,k<w.heap.size->¬ Blk (ψ.val id) k->({ w with heap:=w.heap.setIfInBounds b (.map es' clock') }:World).heap[k]?=w.heap[k]?:=fun k _ hk=>g2 k fun e=>hk (.of (by rw [d,e];rfl));have hk:Same S w { w with heap:=w.heap.setIfInBounds b (.map es' clock') }:=fun k hk hl=>r k hl fun e=>(R k e).1 hk;obtain ⟨c1,c2,c3⟩:=c.upd (n:=0) (v:=ψ.val id) (w':={ w with heap:=w.heap.setIfInBounds b (.map es' clock') }) (ob' := .memo Φ none) E (by omega) r (.inr ⟨h0,rfl⟩) (fun b A => .inl A) (by rw [q];refine ⟨h0,b,es',clock',d,g1,fun e j=>?_,trivial⟩;obtain ⟨kx,vx,q1,q2,q3⟩:=V e j;exact ⟨kx,vx,q1,q2.keep hk,q3.keep hk⟩);rw [q] at c1;exact kps N ⟨ψ,S,c1, .any,⟨rfl,rfl,rfl,by omega,c3⟩,Ext.refl,fun _ h=>h,fun _ h=>h,c2⟩
 have g:=run_findKey_eq (w:=w) z.wide (.agg #[.pointer p, .int .i64 s]) es.toList;rcases k07 z B es.toList 0 L with ⟨f1,f2⟩ | ⟨l1,e,l2,f1,f2,f3,f4⟩
 ·rw [f1] at g;refine main (es.push { key := .agg #[.pointer p, .int .i64 s],val:=a.eval v,born:=clock }) (clock+1) (fun e j=>?_) ?_
  ·simp only [Array.toList_push,qao,qbf] at j;rcases j with j | rfl;exact hm e j
   ·exact ⟨_,_,Y,K,f⟩
  ·simp [execOp,ho,J,H,d,Instr.mapUpdate,run_underlying m,MapKept.run_getObj_map A,M,g,MapKept.run_setObj_map _ A]
 ·rw [f4] at g;have ab:l1.length<es.size:=by rw [<- qas,f1];simp
  have O:es[l1.length]?=some e:=by rw [<- qay,f1];simp
  have C:=B.bits (P:=P);refine main (es.modify l1.length fun e=>{ e with key := .agg #[.pointer p, .int .i64 s],val:=a.eval v }) clock (fun e' j=>?_) ?_
  ·obtain ⟨i,hi,rfl⟩:=qad.1 j;simp only [Array.toList_modify,List.getElem_modify] at *
   split;exact ⟨_,_,Y,K,f⟩
   ·exact hm _ (qv _)
  ·have aa:(((es[l1.length]?).map (·.key)).getD (.agg #[.pointer p, .int .i64 s])) = .agg #[.pointer p, .int .i64 s]:=(by rw [O];exact f3);simp only [Nat.zero_add] at g;simp [execOp,ho,J,H,d,Instr.mapUpdate,run_underlying m,MapKept.run_getObj_map A,M,g,MapKept.run_setObj_map _ A,O,f3,C]
def kaba (id b7 gi:Nat) (e:TypeId) (Φ:FV->FV->Prop) (kp:FV) (s:Int) (p:Option Addr) (r:Option FV) (st:St):St:=
 { n:=st.n,tmps:=st.tmps,heap:=(gi, .gho [.pointer p] [.fz kp])::(b7, .box e [.fz (.atom (.pointer p)), .fz (eI s)])::(id, .memo Φ (some (.agg #[.pointer p, .int .i64 s],r)))::st.heap,ids:=gi::st.ids,dfr:=st.dfr }
theorem kaci {Ψ:Ex->Int->FV->Prop} {hi:Option (Value×Option FV)} {b7:Nat} {e:TypeId} {X:Ex} {s:Int} (o:kab st.heap id=some (.memo (kej Ψ) hi)) (q:kab st.heap b7=some (.box e [.fz (eExR X), .fz (eI s)])) (hne:Nat.beq id b7=false) (g:st.ids.contains gi=false)
  (hs:Sim F S0 N0 st ψ S a w):∃ (p:Option Addr) (r:Option FV),(∀ vx,r=some vx->Ψ X s vx)/\∃ ψ' S',Sim F S0 N0 (kaba id b7 gi e (kej Ψ) (eExR X) s p r st) ψ' S' a w:=by
 have g:gi∉st.ids:=by simpa using g
 have f:=hs.core;obtain ⟨hid,⟨h0,b,es,clock,z,D,hm,J⟩,K⟩:=f.obj id _ o;obtain ⟨H,⟨z0,b',cs,z1,z2,z3,z4,z5⟩,I⟩:=f.obj b7 _ q;obtain ⟨l⟩:=cs
 match l,z3 with
 | [u,v],_=>
  have q1:=(z5 0 u _ rfl rfl).inv;obtain ⟨p,rfl,hp⟩:=q1.ex_key;have q2:=(z5 1 v _ rfl rfl).inv;obtain rfl:=q2.atom_eq;have G:RF S w (.agg #[.pointer p, .int .i64 s]) (.agg [eExR X,eI s]) := .agg rfl (fun x d=>by
    simp only [qac,List.not_mem_nil,or_false] at d;rcases d with rfl | rfl;rfl
    ·rfl) fun i u y A E=>by
   match i with
   | 0=>simp at A E;subst A E;exact q1
   | 1=>simp at A E;subst A E;exact .atom rfl
   | i+2=>simp at A
  have k:∃ r:Option FV,(∀ vx,r=some vx->Ψ X s vx)/\kabp S w (some (.agg #[.pointer p, .int .i64 s],r)) es.toList:=by
   clear J D;have:∀ l:List MapEntry,(∀ e∈l,e∈es.toList)->∃ r:Option FV,(∀ vx,r=some vx->Ψ X s vx)/\kabp S w (some (.agg #[.pointer p, .int .i64 s],r)) l:=by
    intro l
    induction l with
    | nil=>exact fun _=>⟨none,fun _ h=>(by cases h),fun e m=>(by cases m)⟩
    | cons c l ih=>
     intro j;by_cases hc:c.key = .agg #[.pointer p, .int .i64 s];obtain ⟨kx,vx,t1,t2,t3⟩:=hm c (j c (by simp));obtain ⟨x',s',rfl,t1⟩:=t1;rw [hc] at t2;obtain ⟨rfl,rfl⟩:=kamr G t2;exact ⟨some vx,fun v hv=>by injection hv with hv;subst hv;exact t1,[],c,l,rfl,fun x d=>(by cases d),hc,t3⟩
     ·obtain ⟨r,r1,r2⟩:=ih fun e m=>j e (by simp [m]);refine ⟨r,r1,?_⟩;cases r with
      | none=>
       intro e m;rcases qac.1 m with rfl | m;exact hc
       ·exact r2 e m
      | some vx=>
       obtain ⟨l1,e',l2,y1,y2,y3,y4⟩:=r2;refine ⟨c::l1,e',l2,by rw [y1];rfl,?_,y3,y4⟩;intro x d;rcases qac.1 d with rfl | d;exact hc
       ·exact y2 x d
   exact this es.toList fun _ h=>h
  obtain ⟨r,r1,r2⟩:=k;refine ⟨p,r,r1,?_⟩;have c1:=f.re (ob' := .memo (kej Ψ) (some (.agg #[.pointer p, .int .i64 s],r))) o ⟨h0,b,es,clock,z,D,hm,r2⟩;have B:kab ((id,AObj.memo (kej Ψ) (some (.agg #[.pointer p, .int .i64 s],r)))::st.heap) b7=some (.box e [.fz (eExR X), .fz (eI s)]):=by rw [kae,qg (fun h=>by rw [h,Nat.beq_refl] at hne;cases hne)];exact q
  have c2:=c1.re (ob' := .box e [.fz (.atom (.pointer p)), .fz (eI s)]) B ⟨z0,b',_,z1,z2,rfl,fun x d=>by simp only [qac,List.not_mem_nil,or_false] at d;rcases d with rfl | rfl <;> rfl,fun i v x hv d=>by
   match i with
   | 0=>simp at hv d;subst hv d;exact .fz (.atom rfl)
   | 1=>simp at hv d;subst hv d;exact .fz (.atom rfl)
   | i+2=>simp at hv⟩
  have C:=ker (ψ:=ψ) g 0 (.nilFunc);refine ⟨ψ.set gi 0 .nilFunc,S,hs.defers,hs.size,fun t=>(hs.tmps t).keep C (fun _ h=>qn _ h) (fun _ h=>h) (fun _ _ _=>rfl),?_⟩;exact c2.add (n:=0) (v := .nilFunc) (w':=w) (ob := .gho [.pointer p] [.fz (eExR X)]) (kai _) g (fun b D=>by cases D) ⟨kes _ _,by rw [kbp];rfl,by rw [kbp];rfl,fun i v x hv d=>by
   match i with
   | 0=>simp at hv d;subst hv d;exact .fz q1
   | i+1=>simp at hv⟩
theorem wmemo [tb:Tab P] (k:Nat) {Ψ:Ex->Int->FV->Prop} {g:Cfg} {Q:Exit->St->Prop} {hi:Option (Value×Option FV)} {b7:Nat} {e:TypeId} {X:Ex} {s:Int} (id gi:Nat) (b:∀ p vx,Ψ X s vx->W P (ktu (crun P k g) (kaba id b7 gi e (kej Ψ) (eExR X) s p (some vx) (stOf (crun P k g)))) Q) (miss:∀ p,W P (ktu (crun P k g) (kaba id b7 gi e (kej Ψ) (eExR X) s p none (stOf (crun P k g)))) Q) (d:kab (stOf (crun P k g)).heap id=some (.memo (kej Ψ) hi):=by kernel_rfl) (f:kab (stOf (crun P k g)).heap b7=some (.box e [.fz (eExR X), .fz (eI s)]):=by kernel_rfl) (hne:Nat.beq id b7=false:=by kernel_rfl) (h:(stOf (crun P k g)).ids.contains gi=false:=by kernel_rfl) (hc:k9s (crun P k g)=true:=by kernel_rfl):W P g Q:=by
 refine kch (k:=k) ?_;generalize crun P k g=g' at *
 obtain ⟨foc,ks,st⟩:=g';cases foc with
 | code c=>
  have unf:∀ st',W P ⟨.code c,ks,st'⟩ Q=awp P c st' (kjg P ks Q):=fun st'=>by unfold W;rfl
  simp only [ktu,stOf] at b miss d f h ⊢;rw [unf];simp only [unf] at b miss;intro F S0 N0 ψ S a w hs;obtain ⟨p,r,h1,ψ',S',h2⟩:=kaci d f hne h hs;cases r with
  | none=>exact miss p F S0 N0 ψ' S' a w h2
  | some vx=>exact b p vx (h1 vx rfl) F S0 N0 ψ' S' a w h2
 | _=>cases hc
end
theorem RF.zeroA {S:Nat->Prop} {w:World} {cs:Array Value} {xs:List FV} (h:xs=cs.toList.map .atom) (h1:cs.toList.all (·.oneCell')=true):RF S w (.agg cs) (.agg xs):=by
 subst h;refine .agg (by simp) ?_ ?_;intro x a;simp only [qa3] at a;obtain ⟨v,hv,rfl⟩:=a;exact qs.1 h1 v hv
 ·intro i v x hv a;simp only [qp,qm,qay] at a;obtain ⟨u,b,rfl⟩:=a;rw [hv] at b;injection b with b;subst b;exact .atom (qs.1 h1 v (by rw [Array.mem_toList_iff];exact Array.mem_of_getElem? hv))
def isSc:Code->Bool
 | .seq _ (.scope _)=>true
 | _=>false
def scA:Code->Code
 | .seq a (.scope _)=>a
 | _ => .skip
def scB:Code->Code
 | .seq _ (.scope b)=>b
 | _ => .skip
theorem kadr {P:Program} {c:Code} {st:St} {Q:Exit->St->Prop} (b:∀ l st,¬ Q (.goto l) st) (h:awp P c st Q):awp P (.scope c) st Q:=fun F S0 N0 ψ S a w hs=>by
 refine wp_scope_straight (wp_mono (h F S0 N0 ψ S a w hs) fun e a' w' hp=>?_);cases e with
 | goto l=>
  obtain ⟨st',_,_,h1,_⟩:=hp;exact absurd h1 (b l st')
 | _=>exact hp
theorem kakj {T:List (TypeId×TD)} {rs:List ResultVar} {g:Nat} {ids:List Nat} {E:HEnd} {post:List (Nat×AObj)} {ids':List Nat} {ψ0:Env} {S1:Nat->Prop} {w0:World} {l:Nat} {st:St}:¬ hQ T rs g ids E post ids' ψ0 S1 w0 (.goto l) st:=by
 rintro ⟨st2,_,_,_,h⟩;cases E with
 | ret res=>rcases h.1 with h | h <;> cases h
 | pan v=>cases h.2
theorem hcxS {P : Program} [t : Tab P] {f : FuncId} {fn : Func} {args : List AV} {pre : List (Nat × AObj)} {ids : List Nat} {E : HEnd} {post : List (Nat × AObj)} {ids' : List Nat} {gi : Nat} (k : P.funcs[f]? = some fn) (h : ∀ ψ0 S1 w0, W P ⟨.code (scA (kl9 fn)), [.seq (scB (kl9 fn))], { n := fn.ntmps, tmps := argT 0 args, heap := (gi, .was ψ0 ids S1 w0) :: pre, ids := gi :: ids }⟩ (hQ t.T fn.results.toList gi ids E post ids' ψ0 S1 w0)) (m : fn.body.isSome = true := by kernel_rfl) (hn : (fn.name == "runtime.NumGoroutine") = false := by kernel_rfl) (d : Nat.ble args.length fn.ntmps = true := by kernel_rfl) (o : ids.contains gi = false := by kernel_rfl) (g : ids'.contains gi = false := by kernel_rfl) (i : (post.all fun p => okO ids' p.2) = true := by kernel_rfl) (q : E.ok ids' = true := by kernel_rfl) (hk : (post.all fun p => ids'.contains p.1) = true := by kernel_rfl) (hs : isSc (kl9 fn) = true := by kernel_rfl) : kau P f args pre ids E post ids' := by
 refine kxp t.ok k (kre m) hn d o g i q hk fun ψ0 S1 w0=>?_;have h0:=h ψ0 S1 w0;generalize kl9 fn=c at hs h0 ⊢;unfold isSc at hs;split at hs
 ·rename_i a b;refine k90 (kv4 (show awp P a _ _ from by unfold W at h0;exact h0) fun e st j=>?_);cases e with
  | normal=>exact kadr (fun l st=>kakj) j
  | outgrown=>exact j
  | _=>exact j
 ·cases hs
def OLe {α:Type} (o o':Option α):Prop:=∀ r,o=some r->o'=some r
theorem OLe.refl {α:Type} {o:Option α}:OLe o o:=fun _ h=>h
theorem OLe.bind {α β:Type} {o o':Option α} {k k':α->Option β} (h:OLe o o') (hk:∀ x,OLe (k x) (k' x)):OLe (Option.bind o k) (Option.bind o' k'):=fun r hr=>by obtain ⟨x,h1,h2⟩:=qk.1 hr;exact qk.2 ⟨x,h x h1,hk x r h2⟩
theorem OLe.ite {α:Type} {b:Bool} {x x' y y':Option α} (h:OLe x x') (a:OLe y y'):OLe (bif b then x else y) (bif b then x' else y'):=by cases b <;> assumption
theorem OLe.sum {α β γ:Type} {f f':α->Option γ} {g g':β->Option γ} {v:α ⊕ β} (h:∀ x,OLe (f x) (f' x)) (a:∀ x,OLe (g x) (g' x)):OLe (Sum.elim f g v) (Sum.elim f' g' v):=by
 cases v with
 | inl x=>exact h x
 | inr x=>exact a x
theorem OLe.loop {σ β:Type} {f g:σ->Option (σ ⊕ β)} (h:∀ s,OLe (f s) (g s)):∀ (n:Nat) (s:σ),OLe (kaa f n s) (kaa g n s)
 | 0,s=>OLe.refl
 | n+1,s=>fun r hr=>by
  simp only [kaa] at hr ⊢;cases a:f s with
  | none=>rw [a] at hr;cases hr
  | some v=>
   rw [a] at hr;rw [h s v a];cases v with
   | inl s'=>exact OLe.loop h n s' r hr
   | inr b=>exact hr
end Go.Proofs.YtaimpcnpifoidaaGreatDoor
