import Derived.Test.YtnlhjbnpjefjgaaGreatDoorXg
import Derived.Scope
import Derived.Test.YtnlhjbnpjefjgaaGreatDoorXg
set_option linter.all false
namespace Go.Proofs.YtnlhjbnpjefjgaaGreatDoor
open Go Go.RowKit
def Hist (st st':St) (ψ ψ':Env) (S S':Nat->Prop) (w w':World):Prop:=Ext (·∈st.ids) ψ ψ'/\(∀ i,i∈st.ids->i∈st'.ids)/\(∀ b,S b->S' b)/\Same S w w'
def PX (F S0:Nat->Prop) (N0:Nat) (ψ:Env) (S:Nat->Prop) (w:World) (st:St) (e0:Exit) (st':St) (e:Exit) (a':Act) (w':World):Prop:=
 e=e0/\∃ ψ' S',Sim F S0 N0 st' ψ' S' a' w'/\Fr F w w'/\Hist st st' ψ ψ' S S' w w'
def XW (P:Program) (c:Code) (st:St) (e:Exit) (st':St):Prop:=
 ∀ F S0 N0 ψ S a w,Sim F S0 N0 st ψ S a w->c.wp P (PX F S0 N0 ψ S w st e st') a w
def XR (P:Program) (c:Code) (st:St) (e:Exit) (st':St):Prop:=
 ∃ n,∀ F S0 N0 ψ S a w,Sim F S0 N0 st ψ S a w->Code.rounds P c (PX F S0 N0 ψ S w st e st') n a w
def XWL (P:Program) (ops:Array Oper) (l:List Oper) (st st':St):Prop:=
 ∀ F S0 N0 ψ S a w,Sim F S0 N0 st ψ S a w->wpList P ops (PX F S0 N0 ψ S w st .normal st') l a w
def okX:Exit->Bool
 | .normal=>true
 | .ret=>true
 | .exit _=>true
 | _=>false
def XC (P:Program) (c:Code) (st:St) (e:Exit) (st':St):Prop:=match c with
 | .loop x=>XR P x st e st'
 | c=>XW P c st e st'
def LG (s s1:XS):Prop:=s.k<=s1.k/\∃ new,s1.lg=new++s.lg/\∀ id,id∉new->∀ ob,kaa s.heap id=some ob->kaa s1.heap id=some ob
variable {P:Program} {F S0:Nat->Prop} {N0:Nat} {w w' w0:World} {S S':Nat->Prop} {ψ ψ':Env} {K:Nat->Prop} {T:List (TypeId×TD)} {Z:List (TypeId×Value)} {o:Oper} {a a':Act} {st st' st1 st2:St} {t tx:TypeId} {d:TD} {id:Nat} {c:AV} {s s1 s2:XS} {e:Exit}
theorem k8k {l:List (Nat×AV)} {t:Nat}:getQ l t=look .any l t:=by
 induction l with
 | nil=>rfl
 | cons p l ih=>
  obtain ⟨k,v⟩:=p;rw [kbc,<- ih];have hs:getQ ((k,v)::l) t=Bool.rec (motive:=fun _=>AV) (getQ l t) v (Nat.beq k t):=rfl;rw [hs];by_cases h:k=t;subst h;simp
  ·rw [qj h,Nat.beq_eq_false h]
theorem kzg {l:List (Nat×AObj)} {t:Nat}:getO l t=kaa l t:=by
 induction l with
 | nil=>rfl
 | cons p l ih=>
  obtain ⟨k,v⟩:=p;rw [kah,<- ih];have hs:getO ((k,v)::l) t=Bool.rec (motive:=fun _=>Option AObj) (getO l t) (some v) (Nat.beq k t):=rfl;rw [hs];by_cases h:k=t;subst h;simp
  ·rw [qj h,Nat.beq_eq_false h]
theorem kl6 {l:List (Nat×AV)} {t j:Nat} {v:AV}:look .any (kjs l t v) j=if t=j then v else look .any l j:=by
 induction l with
 | nil=>exact kbc
 | cons p l ih=>
  obtain ⟨k,u⟩:=p;have hs:kjs ((k,u)::l) t v=Bool.rec ((k,u)::kjs l t v) ((t,v)::l) (Nat.beq k t):=rfl;rw [hs,kbc];by_cases h:k=t
  ·subst h;simp only [Nat.beq_refl];rw [kbc];by_cases a:k=j;rw [qn a,qn a]
   ·rw [qj a,qj a,qj a]
  ·rw [Nat.beq_eq_false h];simp only;rw [kbc,ih];by_cases a:k=j;rw [qn a,qn a,qj (fun e=>h (a.trans e.symm))]
   ·rw [qj a,qj a]
theorem ksd {l:List (Nat×AObj)} {t j:Nat} {v:AObj}:kaa (krt l t v) j=if t=j then some v else kaa l j:=by
 induction l with
 | nil=>exact kah
 | cons p l ih=>
  obtain ⟨k,u⟩:=p;have hs:krt ((k,u)::l) t v=Bool.rec ((k,u)::krt l t v) ((t,v)::l) (Nat.beq k t):=rfl;rw [hs,kah];by_cases h:k=t
  ·subst h;simp only [Nat.beq_refl];rw [kah];by_cases a:k=j;rw [qn a,qn a]
   ·rw [qj a,qj a,qj a]
  ·rw [Nat.beq_eq_false h];simp only;rw [kah,ih];by_cases a:k=j;rw [qn a,qn a,qj (fun e=>h (a.trans e.symm))]
   ·rw [qj a,qj a]
theorem E_eq (D:List Deferred):s.E=(s.st D).eval:=by
 funext x;cases x with
 | tmp t=>exact k8k
 | _=>rfl
theorem H_eq (D:List Deferred):s.H=kaa (s.st D).heap:=by funext i;exact kzg
theorem mem_idsN {i k:Nat}:i∈idsN k↔i<k:=by
 induction k with
 | zero=>simp [idsN]
 | succ k ih=>
  simp only [idsN,qat,ih];omega
theorem k1f {k:Nat}:(idsN k).contains k=false:=by
 cases h:(idsN k).contains k with
 | false=>rfl
 | true=>
  have:k∈idsN k:=by simpa using h
  have:=mem_idsN.1 this;omega
theorem Core.congr {h1 c:List (Nat×AObj)} {ids:List Nat} (h:Core F S0 N0 h1 ids ψ S w) (e:∀ id,kaa c id=kaa h1 id):Core F S0 N0 c ids ψ S w:=
 ⟨fun id o ho=>h.obj id o ((e id) ▸ ho),fun i i' o o' b ho a=>h.inj i i' o o' b ((e i) ▸ ho) ((e i') ▸ a),h.lt,h.s0,h.n0,h.fr⟩
theorem Sim.congr (h:Sim F S0 N0 st ψ S a w) (hn:st'.n=st.n) (b:∀ t,st'.get t=st.get t) (c:∀ id,kaa st'.heap id=kaa st.heap id) (hi:st'.ids=st.ids) (d:st'.dfr=st.dfr):Sim F S0 N0 st' ψ S a w:=
 ⟨h.defers.trans d.symm,by rw [hn];exact h.size,fun t=>by rw [b,hi];exact h.tmps t,by rw [hi];exact h.core.congr c⟩
theorem Hist.refl:Hist st st ψ ψ S S w w:=⟨Ext.refl,fun _ h=>h,fun _ h=>h,fun _ _ _=>rfl⟩
theorem Hist.trans {ψ2:Env} {S2:Nat->Prop} {w2:World} (h:Hist st st1 ψ ψ' S S' w w') (k:Hist st1 st2 ψ' ψ2 S' S2 w' w2):Hist st st2 ψ ψ2 S S2 w w2:=
 ⟨h.1.trans' k.1 h.2.1,fun i hi=>k.2.1 i (h.2.1 i hi),fun b a=>k.2.2.1 b (h.2.2.1 b a),h.2.2.2.trans' k.2.2.2 h.2.2.1⟩
theorem PX.pre {w2:World} {e':Exit} (hf:Fr F w w') (a:Hist st st1 ψ ψ' S S' w w') (k:PX F S0 N0 ψ' S' w' st1 e st2 e' a' w2):PX F S0 N0 ψ S w st e st2 e' a' w2:=by obtain ⟨rfl,ψ2,S2,h1,b,c⟩:=k;exact ⟨rfl,ψ2,S2,h1,hf.trans b,a.trans c⟩
theorem k72:XW P .skip st .normal st:=fun F S0 N0 ψ S a w hs=>wp_skip ⟨rfl,ψ,S,hs,Fr.refl,Hist.refl⟩
theorem k8y {i:Nat}:XW P (.exit i) st (.exit i) st:=fun F S0 N0 ψ S a w hs=>wp_exit ⟨rfl,ψ,S,hs,Fr.refl,Hist.refl⟩
theorem kaag:XW P .ret st .ret st:=fun F S0 N0 ψ S a w hs=>wp_ret ⟨rfl,ψ,S,hs,Fr.refl,Hist.refl⟩
theorem kaa1 {x y:Code} (h:XW P x st .normal st1) (k:XW P y st1 e st2):XW P (.seq x y) st e st2:=fun F S0 N0 ψ S a w hs=>
 wp_seq (wp_mono (h F S0 N0 ψ S a w hs) fun e' a' w' ⟨b,ψ',S',h1,c,d⟩=>by subst b;exact wp_mono (k F S0 N0 ψ' S' a' w' h1) fun e2 a2 w2 q=>q.pre c d)
theorem k7y {x y:Code} (h:XW P x st e st1) (hn:e ≠ .normal):XW P (.seq x y) st e st1:=fun F S0 N0 ψ S a w hs=>
 wp_seq (wp_mono (h F S0 N0 ψ S a w hs) fun e' a' w' q=>by have:=q.1;subst this;cases e' <;> first | exact absurd rfl hn | exact q)
theorem k9y {cc:Operand} {x y:Code} {b:Bool} (hc:st.eval cc = .fz (.atom (.bool b))) (h:XW P (bif b then x else y) st e st1):XW P (.cond cc x y) st e st1:=fun F S0 N0 ψ S a w hs=>by have c:=hs.eval cc;rw [hc] at c;refine wp_cond (t:=b) c.atom ?_;cases b <;> exact h F S0 N0 ψ S a w hs
theorem k5o {i:Nat} {x:Code} (h:XW P x st (.exit i) st1):XW P (.block i x) st .normal st1:=fun F S0 N0 ψ S a w hs=>
 wp_block (wp_mono (h F S0 N0 ψ S a w hs) fun e' a' w' q=>by have:=q.1;subst this;simp only [Exit.inBlock,if_true];exact ⟨rfl,q.2⟩)
theorem kvx {i:Nat} {x:Code} (h:XW P x st e st1) (hn:e ≠ .exit i):XW P (.block i x) st e st1:=fun F S0 N0 ψ S a w hs=>
 wp_block (wp_mono (h F S0 N0 ψ S a w hs) fun e' a' w' q=>by
  have:=q.1;subst this;cases e' <;> simp only [Exit.inBlock] <;> try exact q
  rename_i j;rw [qj (fun h=>hn (by rw [h]))];exact q)
theorem xr_go {x:Code} (h:XW P x st .normal st1) (k:XR P x st1 e st2):XR P x st e st2:=by
 obtain ⟨n,k⟩:=k;refine ⟨n+1,fun F S0 N0 ψ S a w hs=>?_⟩;rw [rounds_succ];refine wp_mono (h F S0 N0 ψ S a w hs) fun e' a' w' ⟨b,ψ',S',h1,c,d⟩=>?_;subst b;have mono:∀ (n:Nat) (a:Act) (w2:World),Code.rounds P x (PX F S0 N0 ψ' S' w' st1 e st2) n a w2->Code.rounds P x (PX F S0 N0 ψ S w st e st2) n a w2:=by
  intro n
  induction n with
  | zero=>intro a w2 h;exact h.elim
  | succ n ih=>
   intro a w2 h;rw [rounds_succ] at h ⊢;refine wp_mono h fun e3 a3 w3 q=>?_;cases e3 with
   | normal=>exact ih _ _ q
   | _=>exact PX.pre c d q
 exact mono n a' w' (k F S0 N0 ψ' S' a' w' h1)
theorem kabo {x:Code} (h:XW P x st e st1) (hn:e ≠ .normal):XR P x st e st1:=by refine ⟨1,fun F S0 N0 ψ S a w hs=>?_⟩;rw [rounds_succ];refine wp_mono (h F S0 N0 ψ S a w hs) fun e' a' w' q=>?_;have:=q.1;subst this;cases e' <;> first | exact absurd rfl hn | exact q
theorem k9b {x:Code} (h:XR P x st e st1):XW P (.loop x) st e st1:=by obtain ⟨n,h⟩:=h;exact fun F S0 N0 ψ S a w hs=>wp_loop_rounds n (h F S0 N0 ψ S a w hs)
theorem k6l {x:Code} (h:XW P x st e st1) (b:okX e=true):XW P (.scope x) st e st1:=fun F S0 N0 ψ S a w hs=>
 wp_scope_straight (wp_mono (h F S0 N0 ψ S a w hs) fun e' a' w' q=>by have:=q.1;subst this;cases e' <;> first | exact q | cases b)
theorem XC.xw {x:Code} (h:XC P x st e st1):XW P x st e st1:=by
 unfold XC at h;split at h;exact k9b h
 ·exact h
theorem k33 {i:Nat} {ops:Array Oper} (h:XWL P ops ops.toList st st1):XW P (.region i ops false) st .normal st1:=fun F S0 N0 ψ S a w hs=>wp_region_list (h F S0 N0 ψ S a w hs)
theorem kaaj {ops:Array Oper}:XWL P ops [] st st:=fun F S0 N0 ψ S a w hs=>⟨rfl,ψ,S,hs,Fr.refl,Hist.refl⟩
theorem k8o {ops:Array Oper} {l:List Oper} {b:List (Nat×AObj)} {ids':List Nat} (h:StepA P o st c b ids') (s:kbk ops st o=some true) (u:∀ t,o.dst=some t->t<st.n)
  (hn:st2.n=st.n) (d:∀ t,st2.get t=(({ st with heap:=b,ids:=ids' }:St).put o.dst c).get t) (x:st2.heap=b) (hi:st2.ids=ids') (f:st2.dfr=st.dfr) (k:XWL P ops l st2 st1):XWL P ops (o::l) st st1:=fun F S0 N0 ψ S a w hs=>by
 unfold wpList;rw [ke5 hs s];refine .inl (kcg ?_ (h F S0 N0 ψ S a w hs));rintro v w' ⟨ψ',S',h1,y,z,j,m,p,r⟩;have hp:=hs.put (st':={ st with heap:=b,ids:=ids' }) rfl rfl rfl h1 y j m p r u;have e1:(({ st with heap:=b,ids:=ids' }:St).put o.dst c).n=st.n/\(({ st with heap:=b,ids:=ids' }:St).put o.dst c).heap=b/\(({ st with heap:=b,ids:=ids' }:St).put o.dst c).ids=ids'/\(({ st with heap:=b,ids:=ids' }:St).put o.dst c).dfr=st.dfr:=by cases o.dst <;> exact ⟨rfl,rfl,rfl,rfl⟩
 have g:Sim F S0 N0 st2 ψ' S' (a.put o.dst v) w':=hp.congr (hn.trans e1.1.symm) d (fun i=>by rw [x,e1.2.1]) (by rw [hi,e1.2.2.1]) (by rw [f,e1.2.2.2]);exact kbm (fun e a' w'' q=>q.pre z ⟨j,by rw [hi];exact m,p,r⟩) _ _ _ (k F S0 N0 ψ' S' _ w' g)
theorem k9l {ops:Array Oper} {l:List Oper} (f:kbk ops st o=some false) (g:∀ t,o.dst=some t->t<st.n) (hn:st2.n=st.n) (b:∀ t,st2.get t=(st.put o.dst (.fz (.tup []))).get t) (j:st2.heap=st.heap) (hi:st2.ids=st.ids) (c:st2.dfr=st.dfr) (k:XWL P ops l st2 st1):XWL P ops (o::l) st st1:=fun F S0 N0 ψ S a w hs=>by
 unfold wpList;rw [ke5 hs f];have hp:=hs.put (st':=st) rfl rfl rfl hs.core (.fz RF.undef) Ext.refl (fun _ h=>h) (fun _ h=>h) (fun _ _ _=>rfl) g;have e1:(st.put o.dst (.fz (.tup []))).n=st.n/\(st.put o.dst (.fz (.tup []))).heap=st.heap/\(st.put o.dst (.fz (.tup []))).ids=st.ids/\(st.put o.dst (.fz (.tup []))).dfr=st.dfr:=by cases o.dst <;> exact ⟨rfl,rfl,rfl,rfl⟩
 have d:Sim F S0 N0 st2 ψ S (a.put o.dst undef) w:=hp.congr (hn.trans e1.1.symm) b (fun i=>by rw [j,e1.2.1]) (by rw [hi,e1.2.2.1]) (by rw [c,e1.2.2.2]);exact kbm (fun e a' w'' q=>q.pre Fr.refl ⟨Ext.refl,fun i h=>by rw [hi];exact h,fun _ h=>h,fun _ _ _=>rfl⟩) _ _ _ (k F S0 N0 ψ S _ w d)
theorem LG.refl:LG s s:=⟨qy _,[],rfl,fun _ _ _ h=>h⟩
theorem LG.trans (h:LG s s1) (k:LG s1 s2):LG s s2:=by obtain ⟨m1,n1,e1,h1⟩:=h;obtain ⟨m2,n2,e2,b⟩:=k;refine ⟨qap m1 m2,n2++n1,by rw [e2,e1,qa1],fun id a ob ho=>?_⟩;simp only [qab,not_or] at a;exact b id a.1 ob (h1 id a.2 ob ho)
theorem kuo {D:List Deferred} {s:XS} {dd:Option Nat} {v:AV} (h:List (Nat×AObj)) (ids:List Nat) (t:Nat) (hs:s1.tmps=s.tmps):((s1.put dd v).st D).get t=(({ s.st D with heap:=h,ids:=ids }:St).put dd v).get t:=by
 cases dd with
 | none=>show look .any s1.tmps t=look .any s.tmps t;rw [hs]
 | some d=>
  show look .any (kjs s1.tmps d v) t=look .any ((d,v)::s.tmps) t;rw [kl6,kbc,hs]
theorem kpb (s:XS) (dd:Option Nat) (v:AV):(s.put dd v).n=s.n/\(s.put dd v).heap=s.heap/\(s.put dd v).k=s.k/\(s.put dd v).lg=s.lg:=by cases dd <;> exact ⟨rfl,rfl,rfl,rfl⟩
theorem LG.put {dd:Option Nat} {v:AV} (h:LG (s1.put dd v) s2):LG s1 s2:=by obtain ⟨_,e1,e3,e2⟩:=kpb s1 dd v;obtain ⟨h0,new,h1,a⟩:=h;rw [e2] at h1;rw [e1] at a;rw [e3] at h0;exact ⟨h0,new,h1,a⟩
def k22 (P:Program) (o:Oper) (s:XS) (c:AV) (s1:XS):Prop:=(∀ D,StepA P o (s.st D) c s1.heap (idsN s1.k))/\s1.n=s.n/\s1.tmps=s.tmps/\LG s s1
theorem kabr {dl:Dl} (h:∀ D,StepA P o (s.st D) c (ki7 (s.st D) s.k dl) (dIds (s.st D) s.k dl)):k22 P o s c (s.app dl):=by
 cases dl with
 | no=>exact ⟨h,rfl,rfl,LG.refl⟩
 | new ob=>
  refine ⟨h,rfl,rfl,Nat.le_succ _,[s.k],rfl,fun id b ob' ho=>?_⟩;show kaa ((s.k,ob)::s.heap) id=_;rw [kah,qj (fun e=>b (by rw [e];exact q9.2 rfl))];exact ho
 | upd i ob=>
  refine ⟨fun D F S0 N0 ψ S a w hs=>ki4 (fun v w' ⟨ψ',S',h1,d⟩=>⟨ψ',S',h1.congr fun id=>?_,d⟩) (h D F S0 N0 ψ S a w hs),rfl,rfl,qy _,[i],rfl,fun id b ob' ho=>?_⟩;show kaa (krt s.heap i ob) id=_;rw [ksd,qj (fun e=>b (by rw [e];exact q9.2 rfl))];exact ho
  ·show kaa (krt s.heap i ob) id=kaa ((i,ob)::s.heap) id;rw [ksd,kah]
def FT.ok (P:Program):FT->Prop
 | .lf=>True
 | .nd k v l r => (P.funcs[k]? = some v /\ (v.name == "runtime.NumGoroutine") = false) /\ FT.ok P l /\ FT.ok P r
def FT.fl:FT->List (Nat×Func)
 | .lf=>[]
 | .nd k v l r=>(k,v)::(FT.fl l++FT.fl r)
theorem FT.ok_of {P : Program} : ∀ {t : FT}, (FT.fl t).map (fun p => (P.funcs[p.1]?, p.2.name == "runtime.NumGoroutine")) = (FT.fl t).map (fun p => (some p.2, false)) -> FT.ok P t
 | .lf,_=>trivial
 | .nd k v l r,h=>by simp only [FT.fl,qao,qas,List.cons.injEq,qt] at h;obtain ⟨h1,b⟩:=h;have a:=List.append_inj b (by simp);exact ⟨h1,FT.ok_of a.1,FT.ok_of a.2⟩
def IbOk (P : Program) (f : Nat) : Prop := ∃ fn, P.funcs[f]? = some fn /\ (fn.name == "runtime.NumGoroutine") = false /\ fn.body.isNone = true /\ Extern.findNext fn = none /\ Extern.find fn = some Extern.BytealgIndexByte.indexByte
structure CxOk (P:Program) (C:Cx):Prop where
 T:TOk P C.T
 Z:ZOk P C.Z
 fn:C.fn.ok P
 fx:∀ p∈C.fx,PCall P p.1 p.2.1 p.2.2
 ib:∀ f∈C.ib,IbOk P f
 mixed:P.follows .mixedOrders=true
def EvOk (P:Program) (ih:EvT):Prop:=∀ mu c s e s1,ih mu c s=some (e,s1)->(∀ D,XC P c (s.st D) e (s1.st D))/\okX e=true/\LG s s1/\s1.n=s.n
variable {C:Cx} {ih:EvT}
theorem FT.get_ok {v : Func} {f : Nat} : ∀ {tr : FT}, tr.ok P -> tr.get f = some v -> P.funcs[f]? = some v /\ (v.name == "runtime.NumGoroutine") = false
 | .lf,_,h=>by cases h
 | .nd k u l r,ho,h=>by
  obtain ⟨h0,hl,hr⟩:=ho;have hs:(FT.nd k u l r).get f=Bool.rec (motive:=fun _=>Option Func) (Bool.rec (motive:=fun _=>Option Func) (r.get f) (l.get f) (Nat.blt f k)) (some u) (Nat.beq k f):=rfl;rw [hs] at h;cases hk:Nat.beq k f with
  | true=>
   rw [hk] at h;injection h with h;rw [<- qi hk,<- h];exact h0
  | false=>
   rw [hk] at h;simp only at h;cases a:Nat.blt f k with
   | true=>rw [a] at h;exact FT.get_ok hl h
   | false=>rw [a] at h;exact FT.get_ok hr h
theorem kxh (c:TOk P T) (hs:Sim F S0 N0 st ψ S a w):∀ {rs:List ResultVar} {ys:List AV},kry T st.eval (kaa st.heap) rs=some ys ->
  ∃ vs:List Value,(rs.mapM (kgw a.tmps)).run P w = .ok vs w/\vs.length=ys.length/\∀ (i:Nat) (v:Value) (y:AV),vs[i]?=some v->ys[i]?=some y->RV ψ (·∈st.ids) S w v y
 | [],ys,h=>by simp only [kry,qc] at h;subst h;exact ⟨[],by simp,rfl,fun i v y h=>by simp at h⟩
 | r::rs,ys,h=>by
  simp only [kry] at h;split at h
  ·rename_i y ys' h1 e;injection h with h;subst h;obtain ⟨vs,k1,k2,k3⟩:=kxh c hs e;have key:∃ v,(kgw a.tmps r).run P w = .ok v w/\RV ψ (·∈st.ids) S w v y:=by
    unfold resE at h1;split at h1;rename_i t;injection h1 with h1;subst h1;exact ⟨_,rfl,hs.tmps t⟩
    ·rename_i x t;split at h1;rename_i d xs f g;obtain ⟨b,off,e1,hcl⟩:=kva (hs.tmps x) (fun id o ho=>(hs.core.obj id o ho).2.1) g;obtain ⟨u,e2,e3⟩:=kua (P:=P) (c.get f) hcl h1;refine ⟨u,?_,e3⟩;simp only [kgw,e1,asAddr,Sem.run_bind,Sem.run_pure,Result.andThen_ok,e2]
     ·cases h1
   obtain ⟨v,e1,e2⟩:=key;refine ⟨v::vs,?_,by simp [k2],fun i v' y' hv hy=>?_⟩;rw [List.mapM_cons];simp only [Sem.run_bind,e1,Result.andThen_ok,k1,Sem.run_pure]
   ·cases i with
    | zero=>simp at hv hy;subst hv hy;exact e2
    | succ i=>exact k3 i v' y' (by simpa using hv) (by simpa using hy)
  ·cases h
theorem k0b (d:TOk P T) (hs:Sim F S0 N0 st ψ S a w) {fn:Func} {y:AV} (h:retE T st.eval (kaa st.heap) fn.results.toList=some y):∃ v,(results fn a.tmps).run P w = .ok v w/\RV ψ (·∈st.ids) S w v y:=by
 unfold retE at h;have key:∀ ys,kry T st.eval (kaa st.heap) fn.results.toList=some ys->∃ vs:List Value,(results fn a.tmps).run P w = .ok (if h:vs.length=1 then vs[0] else .tuple vs.toArray) w/\vs.length=ys.length/\∀ (i:Nat) (v:Value) (y:AV),vs[i]?=some v->ys[i]?=some y->RV ψ (·∈st.ids) S w v y:=fun ys hy=>by
  obtain ⟨vs,k1,k2,k3⟩:=kxh d hs hy;refine ⟨vs,?_,k2,k3⟩;unfold results;rw [Array.mapM_eq_mapM_toList];have b:∀ (g:ResultVar->Sem Value),(∀ x,g x=kgw a.tmps x)->(fn.results.toList.mapM g).run P w = .ok vs w:=fun g b=>by rw [show g=kgw a.tmps from funext b];exact k1
  simp only [Sem.run_bind,Sem.run_map];rw [b _ fun x=>by cases x <;> rfl];simp only [Result.andThen_ok,Sem.run_pure];simp
 split at h
 ·rename_i z e;injection h with h;subst h;obtain ⟨vs,k1,k2,k3⟩:=key _ e;have hl:vs.length=1:=by simpa using k2
  rw [dif_pos hl] at k1;exact ⟨_,k1,k3 0 _ _ (qa (by omega)) rfl⟩
 ·rename_i ys c hy;injection h with h;subst h;obtain ⟨vs,k1,k2,k3⟩:=key _ hy;have hl:¬ vs.length=1:=fun hl=>by rw [k2] at hl;obtain ⟨z,rfl⟩:=List.length_eq_one_iff.1 hl;exact c z rfl
  rw [dif_neg hl] at k1;exact ⟨_,k1,RV.tupA (by simpa using k2) fun i v x hv f=>k3 i v x (by simpa using hv) f⟩
 ·cases h
theorem kmj {f : FuncId} {fst caps : Array Value} {x : Operand} {args : Array Operand} {ts : Array TypeId} (ho : o.op = .call { callee := .value x, args := args, argTypes := ts }) (e : a.eval x = .func (.func f) fst caps) (hf : ∃ fn, P.funcs[f]? = some fn /\ fn.body.isNone = false /\ (fn.name == "runtime.NumGoroutine") = false) :
  (execOp a.eval o).run P w = .ok (.enter f ((fst++args.map a.eval)++caps)) w:=by
 obtain ⟨fn,h1,c,d⟩:=hf;have b:fn.body≠none:=by intro h;rw [h] at c;cases c
 simp only [qbu,ne_eq] at d;simp [execOp,ho,resolve,e,Deferred.ofValue,invoke,callFunc,h1,b,d]
def RVL (ψ:Env) (K S:Nat->Prop) (w:World) (vs:List Value) (xs:List AV):Prop:=vs.length=xs.length/\∀ (i:Nat) (v:Value) (x:AV),vs[i]?=some v->xs[i]?=some x->RV ψ K S w v x
theorem RVL.append {vs us:List Value} {xs ys:List AV} (h:RVL ψ K S w vs xs) (k:RVL ψ K S w us ys):RVL ψ K S w (vs++us) (xs++ys):=by
 refine ⟨by simp [h.1,k.1],fun i v x hv a=>?_⟩;by_cases hi:i<vs.length;rw [qac hi] at hv;rw [qac (by rw [<- h.1];exact hi)] at a;exact h.2 i v x hv a
 ·rw [qai (by omega)] at hv;rw [qai (by rw [<- h.1];omega),<- h.1] at a;exact k.2 _ v x hv a
theorem RVL.evals {ids:List Nat} (ht:∀ t,RV ψ (·∈ids) S w (a.tmps.getD t undef) (st.get t)) (l:List Operand):RVL ψ (·∈ids) S w (l.map a.eval) (l.map st.eval):=by refine ⟨by simp,fun i v x hv c=>?_⟩;rw [ql,qw] at hv c;obtain ⟨y,hy,rfl⟩:=hv;obtain ⟨z,b,rfl⟩:=c;rw [hy] at b;injection b with b;subst b;exact Sim.eval_tmps ht y
theorem klh {f:Nat} {fst caps:List AV} {x:Operand} (args:Array Operand) {ids:List Nat} (ht:∀ t,RV ψ (·∈ids) S w (a.tmps.getD t undef) (st.get t)) (h:kj7 st.eval x=some (f,fst,caps)):
  ∃ vf vc:Array Value,a.eval x = .func (.func f) vf vc/\RVL ψ (·∈ids) S w ((vf++args.map a.eval)++vc).toList (fst++(args.toList.map st.eval++caps)):=by
 have hv:=Sim.eval_tmps ht x;have fin:∀ (vf vc:Array Value),RVL ψ (·∈ids) S w vf.toList fst->RVL ψ (·∈ids) S w vc.toList caps->RVL ψ (·∈ids) S w ((vf++args.map a.eval)++vc).toList (fst++(args.toList.map st.eval++caps)):=fun vf vc h1 c=>by have:=h1.append ((RVL.evals ht args.toList).append c);simpa [qa1] using this
 unfold kj7 at h;split at h
 ·rename_i g cs b;simp only [qc,qt] at h;obtain ⟨rfl,rfl,rfl⟩:=h;rw [b] at hv;generalize a.eval x=u at hv;cases hv with
  | @fn _ vc _ h1 c=>exact ⟨#[],vc,rfl,fin _ _ ⟨rfl,fun i v x h=>by simp at h⟩ ⟨by simpa using h1,fun i v x hv b=>c i v x (by simpa using hv) b⟩⟩
 ·rename_i g cs b;simp only [qc,qt] at h;obtain ⟨rfl,rfl,rfl⟩:=h;rw [b] at hv;generalize a.eval x=u at hv;cases hv with
  | @mth _ vf _ h1 c=>exact ⟨vf,#[],rfl,fin _ _ ⟨by simpa using h1,fun i v x hv b=>c i v x (by simpa using hv) b⟩ ⟨rfl,fun i v x h=>by simp at h⟩⟩
 ·cases h
theorem k2w {f:Nat} {fst caps:List AV} {x:Operand} {args:Array Operand} {ts:Array TypeId} {y:AV} {b:List (Nat×AObj)} {ids':List Nat} (ho:o.op = .call { callee := .value x,args:=args,argTypes:=ts }) (hc:kj7 st.eval x=some (f,fst,caps))
  (h:ka3 P f (fst++(args.toList.map st.eval++caps)) st.heap st.ids (.ret y) b ids'):StepA P o st y b ids':=by
 intro F S0 N0 ψ S a w hs;obtain ⟨vf,vc,k,h1,m⟩:=klh args hs.tmps hc;unfold kcm;rw [kmj ho k h.1];refine (h.2 F S0 N0 ψ S w _ (by simpa using h1) (fun i v x hv k=>m i v x (by rw [qaz];exact hv) k) hs.core).mono ?_;rintro e w' ⟨ψ',S',⟨v,rfl,hv⟩,c,l,g,j,hS,d⟩;exact ⟨v,rfl,ψ',S',c,hv,l,g,j,hS,d⟩
theorem k9z {f:Nat} {fst caps:List AV} {x:Operand} {args:Array Operand} {ts:Array TypeId} {ys:List FV} {r:FV} (ho:o.op = .call { callee := .value x,args:=args,argTypes:=ts }) (hc:kj7 st.eval x=some (f,fst,caps)) (d:kko (fst++(args.toList.map st.eval++caps))=some ys)
  (h:PCall P f ys r):NStep P o st (.fz r):=by
 intro ψ S a w ht j;obtain ⟨vf,vc,b,h1,c⟩:=klh args ht hc;rw [kkd d] at h1 c;unfold kcm;rw [kmj ho b h.1];refine (h.2 S w _ (by simpa using h1) fun i v x hv b=>(c i v (.fz x) (by rw [qaz];exact hv) (by rw [ql,b];rfl)).inv).mono ?_;rintro e w' ⟨v,rfl,hv,g⟩;exact ⟨v,rfl,g, .fz hv⟩
theorem kxv {c:UInt8}:∀ {l:List UInt8} {i:Nat},knp c l i=if Lib.indexByte l c = -1 then -1 else Lib.indexByte l c+i
 | [],i=>by simp [knp,Lib.indexByte]
 | x::l,i=>by
  have a:∀ l:List UInt8,-1<=Lib.indexByte l c:=fun l=>by
   induction l with
   | nil=>simp [Lib.indexByte]
   | cons y l ih=>
    simp only [Lib.indexByte];split;omega
    ·split;omega
     ·omega
  by_cases h:x=c;subst h;simp [knp,Lib.indexByte]
  ·have h1:(x == c)=false:=(by simpa using h);have b:Nat.beq x.toNat c.toNat=false:=Nat.beq_eq_false fun e=>h (UInt8.toNat_inj.1 e);have d:Lib.indexByte (x::l) c=if Lib.indexByte l c = -1 then -1 else Lib.indexByte l c+1:=by
    simp only [Lib.indexByte,h1,Bool.false_eq_true,if_false];by_cases hm:Lib.indexByte l c = -1;simp [hm]
    ·have:(Lib.indexByte l c == -1)=false:=(by simpa using hm);simp [hm]
   rw [d];simp only [knp,b,qf];rw [kxv];have:=a l;by_cases hm:Lib.indexByte l c = -1;simp [hm]
   ·rw [qj hm,qj hm,qj (by omega)];omega
theorem ib_n {f:Nat} {fst caps:List AV} {x:Operand} {args:Array Operand} {ts:Array TypeId} {u:BA} {cc:Int} (ho:o.op = .call { callee := .value x,args:=args,argTypes:=ts }) (hc:kj7 st.eval x=some (f,fst,caps)) (g:kko (fst++(args.toList.map st.eval++caps))=some [.atom (.string u), .atom (.int .u8 cc)])
  (h:IbOk P f):NStep P o st (.fz (.atom (.int .i64 (knp cc.toNat.toUInt8 u.data.toList 0)))):=by
 obtain ⟨fn,hf,b,j,hn,k⟩:=h;intro ψ S a w ht p;obtain ⟨vf,vc,l,h1,c⟩:=klh args ht hc;rw [kkd g] at h1 c;obtain ⟨q,e⟩:∃ q,q=(vf++args.map a.eval)++vc:=⟨_,rfl⟩;rw [<- e] at h1 c;have d:q=#[.string u, .int .u8 cc]:=by
  have hl:q.size=2:=by simpa using h1
  apply Array.ext (by simpa using hl);intro i m n;have hi:i<2:=by omega
  match i,hi with
  | 0,_=>exact (c 0 q[0] _ (by simp [hl]) rfl).atom
  | 1,_=>exact (c 1 q[1] _ (by simp [hl]) rfl).atom
 have hi:knp cc.toNat.toUInt8 u.data.toList 0=Lib.indexByte u.data.toList cc.toNat.toUInt8:=by
  rw [kxv];split;rename_i h;exact h.symm
  ·simp
 rw [hi];refine kaf w (.int .i64 (Lib.indexByte u.data.toList cc.toNat.toUInt8)) ?_ ⟨kai _, .fz (.atom rfl)⟩;have hr:(callFunc f q).run P w = .ok (.value (.int .i64 (Lib.indexByte u.data.toList cc.toNat.toUInt8))) w:=by rw [run_callFunc_extern hf b j hn k,d,Lib.run_indexByteString];rfl
 rw [e] at hr;simp [execOp,ho,resolve,l,Deferred.ofValue,invoke] at hr ⊢;simpa [Array.append_assoc] using hr
theorem k52 {b x c1:Code} {rid t:Nat} {o1 o2:Oper} (h:kwj b=some (x,rid,o1,o2,t,c1)):b = .seq x (.seq (.region rid #[o1,o2] false) c1)/\o1.dst=some t/\o1.guard=none/\o2.dst=none/\o2.guard=none/\∃ ts,o2.op = .defer { callee := .value (.tmp t),args:=#[],argTypes:=ts }:=by
 unfold kwj at h;split at h
 ·rename_i x' rid' os c;split at h
  ·rename_i p1 p2 a;split at h
   ·rename_i t' cl h1 f g i j;split at h;rename_i t2 d e;replace h:=kaq h;obtain ⟨k,h⟩:=h;simp only [qc,qt] at h;obtain ⟨rfl,rfl,rfl,rfl,rfl,rfl⟩:=h;obtain rfl:=qi k;obtain ⟨cal,as_,ts⟩:=cl;simp only at d e;have e1:os=#[p1,p2]:=(by apply qbr;simpa using a);have e2:as_=#[]:=(by apply qbr;simpa using e);subst e1 e2 d;exact ⟨rfl,h1,f,i,j,ts,g⟩
    ·cases h
   ·cases h
  ·cases h
 ·cases h
theorem kyv (h:kwo e=true):e = .normal\/e = .ret:=by cases e <;> simp [kwo] at h <;> simp
theorem k18 {args:List AV} {n:Nat} {heap:List (Nat×AObj)} {k:Nat} {lg:List Nat} {vs:Array Value} (b:args.length<=n) (hs:vs.size=args.length) (hr:∀ (i:Nat) (v:Value) (x:AV),vs[i]?=some v->args[i]?=some x->RV ψ (·∈idsN k) S w v x) (hc:Core F S0 N0 heap (idsN k) ψ S w):
  Sim F S0 N0 (XS.st ⟨n,argT 0 args,heap,k,lg⟩ []) ψ S { tmps:=vs++Array.replicate (n - vs.size) undef,defers:=[] } w:=by
 refine ⟨rfl,by show (vs++Array.replicate (n - vs.size) undef).size=n;simp;omega,fun t=>?_,hc⟩;show RV _ _ _ w _ (look .any (argT 0 args) t);rcases kmq args 0 t with h | ⟨x,_,h1,c⟩;rw [h];exact .any
 ·rw [c];have h1:args[t]?=some x:=by simpa using h1
  have a:t<vs.size:=by rw [hs];exact (qd.1 h1).1
  have:(vs++Array.replicate (n - vs.size) undef).getD t undef=vs[t]:=by rw [qa3,qbn a];simp [a]
  show RV _ _ _ w ((vs++Array.replicate (n - vs.size) undef).getD t undef) x;rw [this];exact hr t _ x (by simp [a]) h1
theorem k5l (hC : CxOk P C) (p : EvOk P ih) {f : Nat} {fn : Func} {b x c1 : Code} {rid t : Nat} {o1 o2 : Oper} {args : List AV} {heap : List (Nat × AObj)} {k : Nat} {lg : List Nat} {y : AV} (hf : P.funcs[f]? = some fn) (q : (fn.name == "runtime.NumGoroutine") = false) (hb : fn.body = some b) (hd : kwj b = some (x, rid, o1, o2, t, c1))
  (O:args.length<=fn.ntmps) (ht:t<fn.ntmps) (h:k0x C ih f fn x o1 t c1 ⟨fn.ntmps,argT 0 args,heap,k,lg⟩=some (y,s1)):ka3 P f args heap (idsN k) (.ret y) s1.heap (idsN s1.k)/\LG ⟨fn.ntmps,argT 0 args,heap,k,lg⟩ s1:=by
 obtain ⟨rfl,d1,d2,d3,d4,ts,d5⟩:=k52 hd;unfold k0x at h;split at h
 ·rename_i s2 hx;split at h
  ·rename_i f2 caps G;split at h
   ·rename_i fn2 H;obtain ⟨Q,m⟩:=FT.get_ok hC.fn H;split at h
    ·rename_i ta tb c2 I;split at h
     ·rename_i e s3 U;split at h
      ·rename_i e2 s4 hc2;replace hc2:=kaq hc2;obtain ⟨r,hc2⟩:=hc2;simp only [qv] at r;have J:=qr r.2;have he:=kyv r.1;split at h
       ·rename_i y' hy;replace hy:=kaq hy;obtain ⟨u,hy⟩:=hy;have u:=kyv u;simp only [qc,qt] at h;obtain ⟨rfl,rfl⟩:=h;obtain ⟨x1,_,x3,x4⟩:=p _ _ _ _ _ hx;obtain ⟨y1,_,y3,y4⟩:=p _ _ _ _ _ U;obtain ⟨z1,_,z3,z4⟩:=p _ _ _ _ _ hc2;obtain ⟨pr1,pr2,pr3,pr4⟩:=kpb s2 (some t) (AV.fn f2 caps);refine ⟨⟨⟨fn,hf,by rw [hb];rfl,q⟩,fun F S0 N0 ψ S w vs hs hr hc=>calls_of_wp_defers hf hb ?_⟩,?_⟩
        ·refine wp_seq (wp_mono ((x1 []).xw F S0 N0 ψ S _ w (k18 O hs hr hc)) ?_);rintro e' a1 w1 ⟨rfl,ψ1,S1,q1,q2,q3⟩;refine wp_seq (wp_region_list ?_);have K:NStep P o1 (s2.st []) (.fn f2 caps):=kwi hC.T hC.Z (by rw [E_eq [],H_eq []] at G;exact G);show wpList P #[o1,o2] _ [o1,o2] a1 w1;unfold wpList;rw [ke5 (ops:=#[o1,o2]) (o:=o1) (g:=true) q1 (by unfold kbk;rw [d2])];refine .inl (kcg ?_ (K.step F S0 N0 ψ1 S1 a1 w1 q1));rintro v w2 ⟨ψ2,S2,g1,g2,g3,g4,g5,g6,g7⟩;have hp:=q1.put (st':=s2.st []) (d:=o1.dst) rfl rfl rfl g1 g2 g4 g5 g6 g7 (fun t' j=>by rw [d1] at j;injection j with j;show t'<s2.n;rw [x4];show t'<fn.ntmps;omega);rw [d1] at hp ⊢;cases g2 with
         | @fn _ cs _ L V=>
          have X:(a1.put (some t) (.func (.func f2) #[] cs)).eval (.tmp t) = .func (.func f2) #[] cs:=(by show (a1.put (some t) _).tmps.getD t undef=_;rw [ko6 (some t) fn.ntmps t (by rw [q1.size];exact x4) (by intro t' j;injection j with j;omega),qn rfl]);have M:(execOp (a1.put (some t) (.func (.func f2) #[] cs)).eval o2).run P w2 = .ok (.defer (dfn f2 cs.toList)) w2:=(by simp [execOp,d5,resolve,X,Deferred.ofValue,dfn]);unfold wpList;rw [ke5 (ops:=#[o1,o2]) (o:=o2) (g:=true) hp (by unfold kbk;rw [d4])];refine .inl ?_;unfold Oper.wp;rw [M];simp only [Oper.upon,d3];have A:Sim F S0 N0 ((s2.put (some t) (.fn f2 caps)).st [dfn f2 cs.toList]) ψ2 S2 { (a1.put (some t) (.func (.func f2) #[] cs)) with defers:=dfn f2 cs.toList::(a1.put (some t) (.func (.func f2) #[] cs)).defers } w2:=by
           refine ⟨?_,hp.size,fun t'=>?_,hp.core⟩;show dfn f2 cs.toList::a1.defers=_;rw [q1.defers];rfl
           ·rw [kuo (s:=s2) (D:=[dfn f2 cs.toList]) s2.heap (idsN s2.k) t' rfl];exact hp.tmps t'
          refine wp_mono ((y1 [dfn f2 cs.toList]).xw F S0 N0 ψ2 S2 _ w2 A) ?_;rintro e' a4 w4 ⟨rfl,ψ4,S4,r1,r2,r3⟩;have r3':Hist (s2.st []) (s3.st []) ψ2 ψ4 S2 S4 w2 w4:=r3;obtain ⟨_,_,_,_,_,_,_,_,_,_,n1,n2,_⟩:=kt8 I;have l:Sim F S0 N0 (XS.st ⟨fn2.ntmps,argT 0 caps,s3.heap,s3.k,s3.lg⟩ []) ψ4 S4 { tmps:=cs.toList.toArray++Array.replicate (fn2.ntmps - cs.toList.toArray.size) undef,defers:=[] } w4:=
           k18 J (by simpa using L) (fun i v z hv hz=>(V i v z (by simpa using hv) hz).keep r3'.1 r3'.2.1 r3'.2.2.1 r3'.2.2.2) r1.core
          have N:=l.put (st':=XS.st ⟨fn2.ntmps,argT 0 caps,s3.heap,s3.k,s3.lg⟩ []) (d:=some ta) (v := .nilIface) (c:=nilA) rfl rfl rfl l.core (.fz (.atom rfl)) Ext.refl (fun _ h=>h) (fun _ h=>h) (fun _ _ _=>rfl) (fun t' j=>by injection j with j;show t'<fn2.ntmps;omega);have Y:=N.put (st':=(XS.st ⟨fn2.ntmps,argT 0 caps,s3.heap,s3.k,s3.lg⟩ []).put (some ta) nilA) (d:=some tb) (v := .nilIface) (c:=nilA) rfl rfl rfl N.core (.fz (.atom rfl)) Ext.refl (fun _ h=>h) (fun _ h=>h) (fun _ _ _=>rfl) (fun t' j=>by injection j with j;show t'<fn2.ntmps;omega);have B:=Y.congr (st':=XS.st ⟨fn2.ntmps,kjs (kjs (argT 0 caps) ta nilA) tb nilA,s3.heap,s3.k,s3.lg⟩ []) rfl (fun t'=>by show look .any (kjs (kjs (argT 0 caps) ta nilA) tb nilA) t'=look .any ((tb,nilA)::(ta,nilA)::argT 0 caps) t';rw [kl6,kl6,kbc,kbc]) (fun _=>rfl) rfl rfl;have fin:=k8m (w':=w4) (a:=a4) (P:=P) fn f2 cs.toList (fun e w'=>∃ ψ' S',HEnd.is e ψ' (·∈idsN s4.k) S' w' (.ret y')/\Core F S0 N0 s4.heap (idsN s4.k) ψ' S' w'/\Fr F w w'/\Ext (·∈idsN k) ψ ψ'/\(∀ i,i∈idsN k->i∈idsN s4.k)/\(∀ b,S b->S' b)/\Same S w w') r1.defers Q I m (by simp [L];omega) (by refine wp_mono ((z1 []).xw F S0 N0 ψ4 S4 _ w4 B) ?_;rintro e5 a5 w5 ⟨rfl,ψ5,S5,u1,u2,u3⟩;have u3':Hist (s3.st []) (s4.st []) ψ4 ψ5 S4 S5 w4 w5:=u3;have hR:Sim F S0 N0 (XS.st ⟨s3.n,s3.tmps,s4.heap,s4.k,s4.lg⟩ []) ψ5 S5 ⟨a4.tmps,[]⟩ w5:=⟨rfl,r1.size,fun t'=>(r1.tmps t').keep u3'.1 u3'.2.1 u3'.2.2.1 u3'.2.2.2,u1.core⟩;have aa:s3.E=(XS.st ⟨s3.n,s3.tmps,s4.heap,s4.k,s4.lg⟩ []).eval:=(by rw [E_eq []];funext z;cases z <;> rfl);rw [aa,H_eq []] at hy;obtain ⟨v,v1,v2⟩:=k0b hC.T hR hy;obtain ⟨t1,t2,t3,t4⟩:=((q3.trans (st2:=s2.st []) ⟨g4,g5,g6,g7⟩).trans r3').trans u3';exact ⟨u,u1.defers,v,v1,ψ5,S5,⟨v,rfl,v2⟩,u1.core,((q2.trans g3).trans r2).trans u2,t1,t2,t3,t4⟩);rcases he with rfl | rfl <;> exact fin
        ·exact x3.trans ((LG.put y3).trans (by obtain ⟨m0,new,m1,m2⟩:=z3;exact ⟨m0,new,m1,m2⟩))
       ·cases h
      ·cases h
     ·cases h
    ·cases h
   ·cases h
  ·cases h
 ·cases h
theorem kpl (hC:CxOk P C) (g:EvOk P ih) {f:Nat} {args:List AV} {heap:List (Nat×AObj)} {k:Nat} {lg:List Nat} {y:AV} (h:krs C ih f args heap k lg=some (y,s1)):
  ka3 P f args heap (idsN k) (.ret y) s1.heap (idsN s1.k)/\k<=s1.k/\∃ new,s1.lg=new++lg/\∀ id,id∉new->∀ ob,kaa heap id=some ob->kaa s1.heap id=some ob:=by
 unfold krs at h;split at h
 ·rename_i fn m;obtain ⟨hf,c⟩:=FT.get_ok hC.fn m;split at h
  ·rename_i cc n;split at h;rename_i x rid o1 o2 t c1 q;replace h:=kaq h;obtain ⟨a,h⟩:=h;simp only [qv] at a;exact k5l hC g hf c n q (qr a.1) (by simpa [Nat.blt_eq] using a.2) h;have main:∀ e s2,(bif Nat.ble args.length fn.ntmps then ih (C.mu.contains f) cc ⟨fn.ntmps,argT 0 args,heap,k,lg⟩ else none)=some (e,s2)->(e = .normal\/e = .ret)->retE C.T s2.E s2.H fn.results.toList=some y->ka3 P f args heap (idsN k) (.ret y) s2.heap (idsN s2.k)/\k<=s2.k/\∃ new,s2.lg=new++lg/\∀ id,id∉new->∀ ob,kaa heap id=some ob->kaa s2.heap id=some ob:=by
    intro e s2 hi r hy;replace hi:=kaq hi;obtain ⟨a,hi⟩:=hi;have a:=qr a;obtain ⟨o,_,p,_⟩:=g _ _ _ _ _ hi;refine ⟨⟨⟨fn,hf,by rw [n];rfl,c⟩,fun F S0 N0 ψ S w vs hs hr hc=>calls_of_wp hf n ?_⟩,p⟩;have j:Sim F S0 N0 (XS.st ⟨fn.ntmps,argT 0 args,heap,k,lg⟩ []) ψ S { tmps:=vs++Array.replicate (fn.ntmps - vs.size) undef,defers:=[] } w:=by
     refine ⟨rfl,by show (vs++Array.replicate (fn.ntmps - vs.size) undef).size=fn.ntmps;simp;omega,fun t=>?_,hc⟩;show RV _ _ _ w _ (look .any (argT 0 args) t);rcases kmq args 0 t with h | ⟨x,_,h1,l⟩;rw [h];exact .any
     ·rw [l];have h1:args[t]?=some x:=(by simpa using h1);have d:t<vs.size:=(by rw [hs];exact (qd.1 h1).1);have:(vs++Array.replicate (fn.ntmps - vs.size) undef).getD t undef=vs[t]:=(by rw [qa3,qbn d];simp [d]);show RV _ _ _ w ((vs++Array.replicate (fn.ntmps - vs.size) undef).getD t undef) x;rw [this];exact hr t _ x (by simp [d]) h1
    refine wp_mono ((o []).xw F S0 N0 ψ S _ w j) ?_;rintro e' a' w' ⟨rfl,ψ',S',l,s,u,z,A,B⟩;rw [E_eq [],H_eq []] at hy;obtain ⟨v,e1,e2⟩:=k0b hC.T l hy;have fin:a'.defers=[]/\∃ v,(results fn a'.tmps).run P w' = .ok v w'/\∃ ψ'' S'',HEnd.is (.returned v) ψ'' (·∈idsN s2.k) S'' w' (.ret y)/\Core F S0 N0 s2.heap (idsN s2.k) ψ'' S'' w'/\Fr F w w'/\Ext (·∈idsN k) ψ ψ''/\(∀ i,i∈idsN k->i∈idsN s2.k)/\(∀ b,S b->S'' b)/\Same S w w':=
     ⟨l.defers,v,e1,ψ',S',⟨v,rfl,e2⟩,l.core,s,u,z,A,B⟩
    rcases r with rfl | rfl <;> exact fin
   split at h
   ·rename_i e s2 hi;split at h;rename_i y' hy;simp only [qc,qt] at h;obtain ⟨rfl,rfl⟩:=h;exact main _ _ hi (.inr rfl) hy;rename_i y' hy;simp only [qc,qt] at h;obtain ⟨rfl,rfl⟩:=h;exact main _ _ hi (.inl rfl) hy
    ·cases h
   ·cases h
  ·cases h
 ·cases h
end Go.Proofs.YtnlhjbnpjefjgaaGreatDoor
