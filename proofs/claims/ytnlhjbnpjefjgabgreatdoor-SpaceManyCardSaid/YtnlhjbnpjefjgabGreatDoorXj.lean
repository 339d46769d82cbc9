import Derived.Test.YtnlhjbnpjefjgabGreatDoorXg
import Derived.Scope
set_option linter.all false
namespace Go.Proofs.YtnlhjbnpjefjgabGreatDoor
open Go Go.RowKit
def Hist (st st':St) (ψ ψ':Env) (S S':Nat->Prop) (w w':World):Prop:=Ext (·∈st.ids) ψ ψ'/\(∀ i,i∈st.ids->i∈st'.ids)/\(∀ b,S b->S' b)/\Same S w w'
def PX (F S0:Nat->Prop) (N0:Nat) (ψ:Env) (S:Nat->Prop) (w:World) (st:St) (e0:Exit) (st':St) (e:Exit) (a':Act) (w':World):Prop:=
 e=e0/\∃ ψ' S',Sim F S0 N0 st' ψ' S' a' w'/\Fr F w w'/\Hist st st' ψ ψ' S S' w w'
def XW (P:Program) (c:Code) (st:St) (e:Exit) (st':St):Prop:=
 ∀ F S0 N0 ψ S a w,Sim F S0 N0 st ψ S a w->c.wp P (PX F S0 N0 ψ S w st e st') a w
def XR (P:Program) (c:Code) (st:St) (e:Exit) (st':St):Prop:=
 ∃ n,∀ F S0 N0 ψ S a w,Sim F S0 N0 st ψ S a w->Code.rounds P c (PX F S0 N0 ψ S w st e st') n a w
def XWL (P:Program) (ops:Array Oper) (l:List Oper) (st st':St):Prop:=
 ∀ F S0 N0 ψ S a w,Sim F S0 N0 st ψ S a w->wpList P ops (PX F S0 N0 ψ S w st .normal st') l a w
def okX:Exit->Bool
 | .normal=>true
 | .ret=>true
 | .exit _=>true
 | _=>false
def XC (P:Program) (c:Code) (st:St) (e:Exit) (st':St):Prop:=match c with
 | .loop x=>XR P x st e st'
 | c=>XW P c st e st'
def LG (s s1:XS):Prop:=s.k<=s1.k/\∃ new,s1.lg=new++s.lg/\∀ id,id∉new->∀ ob,kaa s.heap id=some ob->kaa s1.heap id=some ob
variable {P:Program} {F S0:Nat->Prop} {N0:Nat} {w w' w0:World} {S S':Nat->Prop} {ψ ψ':Env} {K:Nat->Prop} {T:List (TypeId×TD)} {Z:List (TypeId×Value)} {o:Oper} {a a':Act} {st st' st1 st2:St} {t tx:TypeId} {d:TD} {id:Nat} {c:AV} {s s1 s2:XS} {e:Exit}
theorem kaao {l:List (Nat×AV)} {t:Nat}:getQ l t=look .any l t:=by
 induction l with
 | nil=>rfl
 | cons p l ih=>
  obtain ⟨k,v⟩:=p;rw [kar,<- ih];have hs:getQ ((k,v)::l) t=Bool.rec (motive:=fun _=>AV) (getQ l t) v (Nat.beq k t):=rfl;rw [hs];by_cases h:k=t;subst h;simp
  ·rw [qq h,Nat.beq_eq_false h]
theorem k2s {l:List (Nat×AObj)} {t:Nat}:getO l t=kaa l t:=by
 induction l with
 | nil=>rfl
 | cons p l ih=>
  obtain ⟨k,v⟩:=p;rw [kae,<- ih];have hs:getO ((k,v)::l) t=Bool.rec (motive:=fun _=>Option AObj) (getO l t) (some v) (Nat.beq k t):=rfl;rw [hs];by_cases h:k=t;subst h;simp
  ·rw [qq h,Nat.beq_eq_false h]
theorem knh {l:List (Nat×AV)} {t j:Nat} {v:AV}:look .any (kj5 l t v) j=if t=j then v else look .any l j:=by
 induction l with
 | nil=>exact kar
 | cons p l ih=>
  obtain ⟨k,u⟩:=p;have hs:kj5 ((k,u)::l) t v=Bool.rec ((k,u)::kj5 l t v) ((t,v)::l) (Nat.beq k t):=rfl;rw [hs,kar];by_cases h:k=t
  ·subst h;simp only [Nat.beq_refl];rw [kar];by_cases a:k=j;rw [qt a,qt a]
   ·rw [qq a,qq a,qq a]
  ·rw [Nat.beq_eq_false h];simp only;rw [kar,ih];by_cases a:k=j;rw [qt a,qt a,qq (fun e=>h (a.trans e.symm))]
   ·rw [qq a,qq a]
theorem kur {l:List (Nat×AObj)} {t j:Nat} {v:AObj}:kaa (kt9 l t v) j=if t=j then some v else kaa l j:=by
 induction l with
 | nil=>exact kae
 | cons p l ih=>
  obtain ⟨k,u⟩:=p;have hs:kt9 ((k,u)::l) t v=Bool.rec ((k,u)::kt9 l t v) ((t,v)::l) (Nat.beq k t):=rfl;rw [hs,kae];by_cases h:k=t
  ·subst h;simp only [Nat.beq_refl];rw [kae];by_cases a:k=j;rw [qt a,qt a]
   ·rw [qq a,qq a,qq a]
  ·rw [Nat.beq_eq_false h];simp only;rw [kae,ih];by_cases a:k=j;rw [qt a,qt a,qq (fun e=>h (a.trans e.symm))]
   ·rw [qq a,qq a]
theorem E_eq (D:List Deferred):s.E=(s.st D).eval:=by
 funext x;cases x with
 | tmp t=>exact kaao
 | _=>rfl
theorem H_eq (D:List Deferred):s.H=kaa (s.st D).heap:=by funext i;exact k2s
theorem mem_idsN {i k:Nat}:i∈idsN k↔i<k:=by
 induction k with
 | zero=>simp [idsN]
 | succ k ih=>
  simp only [idsN,qan,ih];omega
theorem k4m {k:Nat}:(idsN k).contains k=false:=by
 cases h:(idsN k).contains k with
 | false=>rfl
 | true=>
  have:k∈idsN k:=by simpa using h
  have:=mem_idsN.1 this;omega
theorem Core.congr {h1 c:List (Nat×AObj)} {ids:List Nat} (h:Core F S0 N0 h1 ids ψ S w) (e:∀ id,kaa c id=kaa h1 id):Core F S0 N0 c ids ψ S w:=
 ⟨fun id o ho=>h.obj id o ((e id) ▸ ho),fun i i' o o' b ho a=>h.inj i i' o o' b ((e i) ▸ ho) ((e i') ▸ a),h.lt,h.s0,h.n0,h.fr⟩
theorem Sim.congr (h:Sim F S0 N0 st ψ S a w) (hn:st'.n=st.n) (b:∀ t,st'.get t=st.get t) (c:∀ id,kaa st'.heap id=kaa st.heap id) (hi:st'.ids=st.ids) (d:st'.dfr=st.dfr):Sim F S0 N0 st' ψ S a w:=
 ⟨h.defers.trans d.symm,by rw [hn];exact h.size,fun t=>by rw [b,hi];exact h.tmps t,by rw [hi];exact h.core.congr c⟩
theorem Hist.refl:Hist st st ψ ψ S S w w:=⟨Ext.refl,fun _ h=>h,fun _ h=>h,fun _ _ _=>rfl⟩
theorem Hist.trans {ψ2:Env} {S2:Nat->Prop} {w2:World} (h:Hist st st1 ψ ψ' S S' w w') (k:Hist st1 st2 ψ' ψ2 S' S2 w' w2):Hist st st2 ψ ψ2 S S2 w w2:=
 ⟨h.1.trans' k.1 h.2.1,fun i hi=>k.2.1 i (h.2.1 i hi),fun b a=>k.2.2.1 b (h.2.2.1 b a),h.2.2.2.trans' k.2.2.2 h.2.2.1⟩
theorem PX.pre {w2:World} {e':Exit} (hf:Fr F w w') (a:Hist st st1 ψ ψ' S S' w w') (k:PX F S0 N0 ψ' S' w' st1 e st2 e' a' w2):PX F S0 N0 ψ S w st e st2 e' a' w2:=by obtain ⟨rfl,ψ2,S2,h1,b,c⟩:=k;exact ⟨rfl,ψ2,S2,h1,hf.trans b,a.trans c⟩
theorem k98:XW P .skip st .normal st:=fun F S0 N0 ψ S a w hs=>wp_skip ⟨rfl,ψ,S,hs,Fr.refl,Hist.refl⟩
theorem kaa3 {i:Nat}:XW P (.exit i) st (.exit i) st:=fun F S0 N0 ψ S a w hs=>wp_exit ⟨rfl,ψ,S,hs,Fr.refl,Hist.refl⟩
theorem kacb:XW P .ret st .ret st:=fun F S0 N0 ψ S a w hs=>wp_ret ⟨rfl,ψ,S,hs,Fr.refl,Hist.refl⟩
theorem kacs {x y:Code} (h:XW P x st .normal st1) (k:XW P y st1 e st2):XW P (.seq x y) st e st2:=fun F S0 N0 ψ S a w hs=>
 wp_seq (wp_mono (h F S0 N0 ψ S a w hs) fun e' a' w' ⟨b,ψ',S',h1,c,d⟩=>by subst b;exact wp_mono (k F S0 N0 ψ' S' a' w' h1) fun e2 a2 w2 q=>q.pre c d)
theorem k95 {x y:Code} (h:XW P x st e st1) (hn:e ≠ .normal):XW P (.seq x y) st e st1:=fun F S0 N0 ψ S a w hs=>
 wp_seq (wp_mono (h F S0 N0 ψ S a w hs) fun e' a' w' q=>by have:=q.1;subst this;cases e' <;> first | exact absurd rfl hn | exact q)
theorem kabt {cc:Operand} {x y:Code} {b:Bool} (hc:st.eval cc = .fz (.atom (.bool b))) (h:XW P (bif b then x else y) st e st1):XW P (.cond cc x y) st e st1:=fun F S0 N0 ψ S a w hs=>by have c:=hs.eval cc;rw [hc] at c;refine wp_cond (t:=b) c.atom ?_;cases b <;> exact h F S0 N0 ψ S a w hs
theorem k77 {i:Nat} {x:Code} (h:XW P x st (.exit i) st1):XW P (.block i x) st .normal st1:=fun F S0 N0 ψ S a w hs=>
 wp_block (wp_mono (h F S0 N0 ψ S a w hs) fun e' a' w' q=>by have:=q.1;subst this;simp only [Exit.inBlock,if_true];exact ⟨rfl,q.2⟩)
theorem kyt {i:Nat} {x:Code} (h:XW P x st e st1) (hn:e ≠ .exit i):XW P (.block i x) st e st1:=fun F S0 N0 ψ S a w hs=>
 wp_block (wp_mono (h F S0 N0 ψ S a w hs) fun e' a' w' q=>by
  have:=q.1;subst this;cases e' <;> simp only [Exit.inBlock] <;> try exact q
  rename_i j;rw [qq (fun h=>hn (by rw [h]))];exact q)
theorem xr_go {x:Code} (h:XW P x st .normal st1) (k:XR P x st1 e st2):XR P x st e st2:=by
 obtain ⟨n,k⟩:=k;refine ⟨n+1,fun F S0 N0 ψ S a w hs=>?_⟩;rw [rounds_succ];refine wp_mono (h F S0 N0 ψ S a w hs) fun e' a' w' ⟨b,ψ',S',h1,c,d⟩=>?_;subst b;have mono:∀ (n:Nat) (a:Act) (w2:World),Code.rounds P x (PX F S0 N0 ψ' S' w' st1 e st2) n a w2->Code.rounds P x (PX F S0 N0 ψ S w st e st2) n a w2:=by
  intro n
  induction n with
  | zero=>intro a w2 h;exact h.elim
  | succ n ih=>
   intro a w2 h;rw [rounds_succ] at h ⊢;refine wp_mono h fun e3 a3 w3 q=>?_;cases e3 with
   | normal=>exact ih _ _ q
   | _=>exact PX.pre c d q
 exact mono n a' w' (k F S0 N0 ψ' S' a' w' h1)
theorem kac8 {x:Code} (h:XW P x st e st1) (hn:e ≠ .normal):XR P x st e st1:=by refine ⟨1,fun F S0 N0 ψ S a w hs=>?_⟩;rw [rounds_succ];refine wp_mono (h F S0 N0 ψ S a w hs) fun e' a' w' q=>?_;have:=q.1;subst this;cases e' <;> first | exact absurd rfl hn | exact q
theorem kaba {x:Code} (h:XR P x st e st1):XW P (.loop x) st e st1:=by obtain ⟨n,h⟩:=h;exact fun F S0 N0 ψ S a w hs=>wp_loop_rounds n (h F S0 N0 ψ S a w hs)
theorem k8w {x:Code} (h:XW P x st e st1) (b:okX e=true):XW P (.scope x) st e st1:=fun F S0 N0 ψ S a w hs=>
 wp_scope_straight (wp_mono (h F S0 N0 ψ S a w hs) fun e' a' w' q=>by have:=q.1;subst this;cases e' <;> first | exact q | cases b)
theorem XC.xw {x:Code} (h:XC P x st e st1):XW P x st e st1:=by
 unfold XC at h;split at h;exact kaba h
 ·exact h
theorem k6s {i:Nat} {ops:Array Oper} (h:XWL P ops ops.toList st st1):XW P (.region i ops false) st .normal st1:=fun F S0 N0 ψ S a w hs=>wp_region_list (h F S0 N0 ψ S a w hs)
theorem kace {ops:Array Oper}:XWL P ops [] st st:=fun F S0 N0 ψ S a w hs=>⟨rfl,ψ,S,hs,Fr.refl,Hist.refl⟩
theorem kaas {ops:Array Oper} {l:List Oper} {b:List (Nat×AObj)} {ids':List Nat} (h:StepA P o st c b ids') (s:ka0 ops st o=some true) (u:∀ t,o.dst=some t->t<st.n)
  (hn:st2.n=st.n) (d:∀ t,st2.get t=(({ st with heap:=b,ids:=ids' }:St).put o.dst c).get t) (x:st2.heap=b) (hi:st2.ids=ids') (f:st2.dfr=st.dfr) (k:XWL P ops l st2 st1):XWL P ops (o::l) st st1:=fun F S0 N0 ψ S a w hs=>by
 unfold wpList;rw [kcj hs s];refine .inl (kbq ?_ (h F S0 N0 ψ S a w hs));rintro v w' ⟨ψ',S',h1,y,z,j,m,p,r⟩;have hp:=hs.put (st':={ st with heap:=b,ids:=ids' }) rfl rfl rfl h1 y j m p r u;have e1:(({ st with heap:=b,ids:=ids' }:St).put o.dst c).n=st.n/\(({ st with heap:=b,ids:=ids' }:St).put o.dst c).heap=b/\(({ st with heap:=b,ids:=ids' }:St).put o.dst c).ids=ids'/\(({ st with heap:=b,ids:=ids' }:St).put o.dst c).dfr=st.dfr:=by cases o.dst <;> exact ⟨rfl,rfl,rfl,rfl⟩
 have g:Sim F S0 N0 st2 ψ' S' (a.put o.dst v) w':=hp.congr (hn.trans e1.1.symm) d (fun i=>by rw [x,e1.2.1]) (by rw [hi,e1.2.2.1]) (by rw [f,e1.2.2.2]);exact ka6 (fun e a' w'' q=>q.pre z ⟨j,by rw [hi];exact m,p,r⟩) _ _ _ (k F S0 N0 ψ' S' _ w' g)
theorem kabh {ops:Array Oper} {l:List Oper} (f:ka0 ops st o=some false) (g:∀ t,o.dst=some t->t<st.n) (hn:st2.n=st.n) (b:∀ t,st2.get t=(st.put o.dst (.fz (.tup []))).get t) (j:st2.heap=st.heap) (hi:st2.ids=st.ids) (c:st2.dfr=st.dfr) (k:XWL P ops l st2 st1):XWL P ops (o::l) st st1:=fun F S0 N0 ψ S a w hs=>by
 unfold wpList;rw [kcj hs f];have hp:=hs.put (st':=st) rfl rfl rfl hs.core (.fz RF.undef) Ext.refl (fun _ h=>h) (fun _ h=>h) (fun _ _ _=>rfl) g;have e1:(st.put o.dst (.fz (.tup []))).n=st.n/\(st.put o.dst (.fz (.tup []))).heap=st.heap/\(st.put o.dst (.fz (.tup []))).ids=st.ids/\(st.put o.dst (.fz (.tup []))).dfr=st.dfr:=by cases o.dst <;> exact ⟨rfl,rfl,rfl,rfl⟩
 have d:Sim F S0 N0 st2 ψ S (a.put o.dst undef) w:=hp.congr (hn.trans e1.1.symm) b (fun i=>by rw [j,e1.2.1]) (by rw [hi,e1.2.2.1]) (by rw [c,e1.2.2.2]);exact ka6 (fun e a' w'' q=>q.pre Fr.refl ⟨Ext.refl,fun i h=>by rw [hi];exact h,fun _ h=>h,fun _ _ _=>rfl⟩) _ _ _ (k F S0 N0 ψ S _ w d)
theorem LG.refl:LG s s:=⟨qu _,[],rfl,fun _ _ _ h=>h⟩
theorem LG.trans (h:LG s s1) (k:LG s1 s2):LG s s2:=by obtain ⟨m1,n1,e1,h1⟩:=h;obtain ⟨m2,n2,e2,b⟩:=k;refine ⟨qa7 m1 m2,n2++n1,by rw [e2,e1,qa0],fun id a ob ho=>?_⟩;simp only [qab,not_or] at a;exact b id a.1 ob (h1 id a.2 ob ho)
theorem kxo {D:List Deferred} {s:XS} {dd:Option Nat} {v:AV} (h:List (Nat×AObj)) (ids:List Nat) (t:Nat) (hs:s1.tmps=s.tmps):((s1.put dd v).st D).get t=(({ s.st D with heap:=h,ids:=ids }:St).put dd v).get t:=by
 cases dd with
 | none=>show look .any s1.tmps t=look .any s.tmps t;rw [hs]
 | some d=>
  show look .any (kj5 s1.tmps d v) t=look .any ((d,v)::s.tmps) t;rw [knh,kar,hs]
theorem kq8 (s:XS) (dd:Option Nat) (v:AV):(s.put dd v).n=s.n/\(s.put dd v).heap=s.heap/\(s.put dd v).k=s.k/\(s.put dd v).lg=s.lg:=by cases dd <;> exact ⟨rfl,rfl,rfl,rfl⟩
theorem LG.put {dd:Option Nat} {v:AV} (h:LG (s1.put dd v) s2):LG s1 s2:=by obtain ⟨_,e1,e3,e2⟩:=kq8 s1 dd v;obtain ⟨h0,new,h1,a⟩:=h;rw [e2] at h1;rw [e1] at a;rw [e3] at h0;exact ⟨h0,new,h1,a⟩
def k55 (P:Program) (o:Oper) (s:XS) (c:AV) (s1:XS):Prop:=(∀ D,StepA P o (s.st D) c s1.heap (idsN s1.k))/\s1.n=s.n/\s1.tmps=s.tmps/\LG s s1
theorem kada {dl:Dl} (h:∀ D,StepA P o (s.st D) c (kiq (s.st D) s.k dl) (dIds (s.st D) s.k dl)):k55 P o s c (s.app dl):=by
 cases dl with
 | no=>exact ⟨h,rfl,rfl,LG.refl⟩
 | new ob=>
  refine ⟨h,rfl,rfl,Nat.le_succ _,[s.k],rfl,fun id b ob' ho=>?_⟩;show kaa ((s.k,ob)::s.heap) id=_;rw [kae,qq (fun e=>b (by rw [e];exact qaa.2 rfl))];exact ho
 | upd i ob=>
  refine ⟨fun D F S0 N0 ψ S a w hs=>kim (fun v w' ⟨ψ',S',h1,d⟩=>⟨ψ',S',h1.congr fun id=>?_,d⟩) (h D F S0 N0 ψ S a w hs),rfl,rfl,qu _,[i],rfl,fun id b ob' ho=>?_⟩;show kaa (kt9 s.heap i ob) id=_;rw [kur,qq (fun e=>b (by rw [e];exact qaa.2 rfl))];exact ho
  ·show kaa (kt9 s.heap i ob) id=kaa ((i,ob)::s.heap) id;rw [kur,kae]
def FT.ok (P:Program):FT->Prop
 | .lf=>True
 | .nd k v l r => (P.funcs[k]? = some v /\ (v.name == "runtime.NumGoroutine") = false) /\ FT.ok P l /\ FT.ok P r
def FT.fl:FT->List (Nat×Func)
 | .lf=>[]
 | .nd k v l r=>(k,v)::(FT.fl l++FT.fl r)
theorem FT.ok_of {P : Program} : ∀ {t : FT}, (FT.fl t).map (fun p => (P.funcs[p.1]?, p.2.name == "runtime.NumGoroutine")) = (FT.fl t).map (fun p => (some p.2, false)) -> FT.ok P t
 | .lf,_=>trivial
 | .nd k v l r,h=>by simp only [FT.fl,qao,qbc,List.cons.injEq,qp] at h;obtain ⟨h1,b⟩:=h;have a:=List.append_inj b (by simp);exact ⟨h1,FT.ok_of a.1,FT.ok_of a.2⟩
def IbOk (P : Program) (f : Nat) : Prop := ∃ fn, P.funcs[f]? = some fn /\ (fn.name == "runtime.NumGoroutine") = false /\ fn.body.isNone = true /\ Extern.findNext fn = none /\ Extern.find fn = some Extern.BytealgIndexByte.indexByte
structure CxOk (P:Program) (C:Cx):Prop where
 T:TOk P C.T
 Z:ZOk P C.Z
 fn:C.fn.ok P
 fx:∀ p∈C.fx,PCall P p.1 p.2.1 p.2.2
 ib:∀ f∈C.ib,IbOk P f
 mixed:P.follows .mixedOrders=true
def EvOk (P:Program) (ih:EvT):Prop:=∀ mu c s e s1,ih mu c s=some (e,s1)->(∀ D,XC P c (s.st D) e (s1.st D))/\okX e=true/\LG s s1/\s1.n=s.n
variable {C:Cx} {ih:EvT}
theorem FT.get_ok {v : Func} {f : Nat} : ∀ {tr : FT}, tr.ok P -> tr.get f = some v -> P.funcs[f]? = some v /\ (v.name == "runtime.NumGoroutine") = false
 | .lf,_,h=>by cases h
 | .nd k u l r,ho,h=>by
  obtain ⟨h0,hl,hr⟩:=ho;have hs:(FT.nd k u l r).get f=Bool.rec (motive:=fun _=>Option Func) (Bool.rec (motive:=fun _=>Option Func) (r.get f) (l.get f) (Nat.blt f k)) (some u) (Nat.beq k f):=rfl;rw [hs] at h;cases hk:Nat.beq k f with
  | true=>
   rw [hk] at h;injection h with h;rw [<- qf hk,<- h];exact h0
  | false=>
   rw [hk] at h;simp only at h;cases a:Nat.blt f k with
   | true=>rw [a] at h;exact FT.get_ok hl h
   | false=>rw [a] at h;exact FT.get_ok hr h
theorem k0e (c:TOk P T) (hs:Sim F S0 N0 st ψ S a w):∀ {rs:List ResultVar} {ys:List AV},kue T st.eval (kaa st.heap) rs=some ys ->
  ∃ vs:List Value,(rs.mapM (kfd a.tmps)).run P w = .ok vs w/\vs.length=ys.length/\∀ (i:Nat) (v:Value) (y:AV),vs[i]?=some v->ys[i]?=some y->RV ψ (·∈st.ids) S w v y
 | [],ys,h=>by simp only [kue,qb] at h;subst h;exact ⟨[],by simp,rfl,fun i v y h=>by simp at h⟩
 | r::rs,ys,h=>by
  simp only [kue] at h;split at h
  ·rename_i y ys' h1 e;injection h with h;subst h;obtain ⟨vs,k1,k2,k3⟩:=k0e c hs e;have key:∃ v,(kfd a.tmps r).run P w = .ok v w/\RV ψ (·∈st.ids) S w v y:=by
    unfold resE at h1;split at h1;rename_i t;injection h1 with h1;subst h1;exact ⟨_,rfl,hs.tmps t⟩
    ·rename_i x t;split at h1;rename_i d xs f g;obtain ⟨b,off,e1,hcl⟩:=kyc (hs.tmps x) (fun id o ho=>(hs.core.obj id o ho).2.1) g;obtain ⟨u,e2,e3⟩:=kw7 (P:=P) (c.get f) hcl h1;refine ⟨u,?_,e3⟩;simp only [kfd,e1,asAddr,Sem.run_bind,Sem.run_pure,Result.andThen_ok,e2]
     ·cases h1
   obtain ⟨v,e1,e2⟩:=key;refine ⟨v::vs,?_,by simp [k2],fun i v' y' hv hy=>?_⟩;rw [List.mapM_cons];simp only [Sem.run_bind,e1,Result.andThen_ok,k1,Sem.run_pure]
   ·cases i with
    | zero=>simp at hv hy;subst hv hy;exact e2
    | succ i=>exact k3 i v' y' (by simpa using hv) (by simpa using hy)
  ·cases h
theorem k3k (d:TOk P T) (hs:Sim F S0 N0 st ψ S a w) {fn:Func} {y:AV} (h:retE T st.eval (kaa st.heap) fn.results.toList=some y):∃ v,(results fn a.tmps).run P w = .ok v w/\RV ψ (·∈st.ids) S w v y:=by
 unfold retE at h;have key:∀ ys,kue T st.eval (kaa st.heap) fn.results.toList=some ys->∃ vs:List Value,(results fn a.tmps).run P w = .ok (if h:vs.length=1 then vs[0] else .tuple vs.toArray) w/\vs.length=ys.length/\∀ (i:Nat) (v:Value) (y:AV),vs[i]?=some v->ys[i]?=some y->RV ψ (·∈st.ids) S w v y:=fun ys hy=>by
  obtain ⟨vs,k1,k2,k3⟩:=k0e d hs hy;refine ⟨vs,?_,k2,k3⟩;unfold results;rw [Array.mapM_eq_mapM_toList];have b:∀ (g:ResultVar->Sem Value),(∀ x,g x=kfd a.tmps x)->(fn.results.toList.mapM g).run P w = .ok vs w:=fun g b=>by rw [show g=kfd a.tmps from funext b];exact k1
  simp only [Sem.run_bind,Sem.run_map];rw [b _ fun x=>by cases x <;> rfl];simp only [Result.andThen_ok,Sem.run_pure];simp
 split at h
 ·rename_i z e;injection h with h;subst h;obtain ⟨vs,k1,k2,k3⟩:=key _ e;have hl:vs.length=1:=by simpa using k2
  rw [dif_pos hl] at k1;exact ⟨_,k1,k3 0 _ _ (qa (by omega)) rfl⟩
 ·rename_i ys c hy;injection h with h;subst h;obtain ⟨vs,k1,k2,k3⟩:=key _ hy;have hl:¬ vs.length=1:=fun hl=>by rw [k2] at hl;obtain ⟨z,rfl⟩:=List.length_eq_one_iff.1 hl;exact c z rfl
  rw [dif_neg hl] at k1;exact ⟨_,k1,RV.tupA (by simpa using k2) fun i v x hv f=>k3 i v x (by simpa using hv) f⟩
 ·cases h
theorem knv {f : FuncId} {fst caps : Array Value} {x : Operand} {args : Array Operand} {ts : Array TypeId} (ho : o.op = .call { callee := .value x, args := args, argTypes := ts }) (e : a.eval x = .func (.func f) fst caps) (hf : ∃ fn, P.funcs[f]? = some fn /\ fn.body.isNone = false /\ (fn.name == "runtime.NumGoroutine") = false) :
  (execOp a.eval o).run P w = .ok (.enter f ((fst++args.map a.eval)++caps)) w:=by
 obtain ⟨fn,h1,c,d⟩:=hf;have b:fn.body≠none:=by intro h;rw [h] at c;cases c
 simp only [beq_eq_false_iff_ne,ne_eq] at d;simp [execOp,ho,resolve,e,Deferred.ofValue,invoke,callFunc,h1,b,d]
def RVL (ψ:Env) (K S:Nat->Prop) (w:World) (vs:List Value) (xs:List AV):Prop:=vs.length=xs.length/\∀ (i:Nat) (v:Value) (x:AV),vs[i]?=some v->xs[i]?=some x->RV ψ K S w v x
theorem RVL.append {vs us:List Value} {xs ys:List AV} (h:RVL ψ K S w vs xs) (k:RVL ψ K S w us ys):RVL ψ K S w (vs++us) (xs++ys):=by
 refine ⟨by simp [h.1,k.1],fun i v x hv a=>?_⟩;by_cases hi:i<vs.length;rw [q9 hi] at hv;rw [q9 (by rw [<- h.1];exact hi)] at a;exact h.2 i v x hv a
 ·rw [qam (by omega)] at hv;rw [qam (by rw [<- h.1];omega),<- h.1] at a;exact k.2 _ v x hv a
theorem RVL.evals {ids:List Nat} (ht:∀ t,RV ψ (·∈ids) S w (a.tmps.getD t undef) (st.get t)) (l:List Operand):RVL ψ (·∈ids) S w (l.map a.eval) (l.map st.eval):=by refine ⟨by simp,fun i v x hv c=>?_⟩;rw [qg,qs] at hv c;obtain ⟨y,hy,rfl⟩:=hv;obtain ⟨z,b,rfl⟩:=c;rw [hy] at b;injection b with b;subst b;exact Sim.eval_tmps ht y
theorem kmj {f:Nat} {fst caps:List AV} {x:Operand} (args:Array Operand) {ids:List Nat} (ht:∀ t,RV ψ (·∈ids) S w (a.tmps.getD t undef) (st.get t)) (h:kkm st.eval x=some (f,fst,caps)):
  ∃ vf vc:Array Value,a.eval x = .func (.func f) vf vc/\RVL ψ (·∈ids) S w ((vf++args.map a.eval)++vc).toList (fst++(args.toList.map st.eval++caps)):=by
 have hv:=Sim.eval_tmps ht x;have fin:∀ (vf vc:Array Value),RVL ψ (·∈ids) S w vf.toList fst->RVL ψ (·∈ids) S w vc.toList caps->RVL ψ (·∈ids) S w ((vf++args.map a.eval)++vc).toList (fst++(args.toList.map st.eval++caps)):=fun vf vc h1 c=>by have:=h1.append ((RVL.evals ht args.toList).append c);simpa [qa0] using this
 unfold kkm at h;split at h
 ·rename_i g cs b;simp only [qb,qp] at h;obtain ⟨rfl,rfl,rfl⟩:=h;rw [b] at hv;generalize a.eval x=u at hv;cases hv with
  | @fn _ vc _ h1 c=>exact ⟨#[],vc,rfl,fin _ _ ⟨rfl,fun i v x h=>by simp at h⟩ ⟨by simpa using h1,fun i v x hv b=>c i v x (by simpa using hv) b⟩⟩
 ·rename_i g cs b;simp only [qb,qp] at h;obtain ⟨rfl,rfl,rfl⟩:=h;rw [b] at hv;generalize a.eval x=u at hv;cases hv with
  | @mth _ vf _ h1 c=>exact ⟨vf,#[],rfl,fin _ _ ⟨by simpa using h1,fun i v x hv b=>c i v x (by simpa using hv) b⟩ ⟨rfl,fun i v x h=>by simp at h⟩⟩
 ·cases h
theorem k51 {f:Nat} {fst caps:List AV} {x:Operand} {args:Array Operand} {ts:Array TypeId} {y:AV} {b:List (Nat×AObj)} {ids':List Nat} (ho:o.op = .call { callee := .value x,args:=args,argTypes:=ts }) (hc:kkm st.eval x=some (f,fst,caps))
  (h:kal P f (fst++(args.toList.map st.eval++caps)) st.heap st.ids (.ret y) b ids'):StepA P o st y b ids':=by
 intro F S0 N0 ψ S a w hs;obtain ⟨vf,vc,k,h1,m⟩:=kmj args hs.tmps hc;unfold kbx;rw [knv ho k h.1];refine (h.2 F S0 N0 ψ S w _ (by simpa using h1) (fun i v x hv k=>m i v x (by rw [qal];exact hv) k) hs.core).mono ?_;rintro e w' ⟨ψ',S',⟨v,rfl,hv⟩,c,l,g,j,hS,d⟩;exact ⟨v,rfl,ψ',S',c,hv,l,g,j,hS,d⟩
theorem kabu {f:Nat} {fst caps:List AV} {x:Operand} {args:Array Operand} {ts:Array TypeId} {ys:List FV} {r:FV} (ho:o.op = .call { callee := .value x,args:=args,argTypes:=ts }) (hc:kkm st.eval x=some (f,fst,caps)) (d:klb (fst++(args.toList.map st.eval++caps))=some ys)
  (h:PCall P f ys r):NStep P o st (.fz r):=by
 intro ψ S a w ht j;obtain ⟨vf,vc,b,h1,c⟩:=kmj args ht hc;rw [kkx d] at h1 c;unfold kbx;rw [knv ho b h.1];refine (h.2 S w _ (by simpa using h1) fun i v x hv b=>(c i v (.fz x) (by rw [qal];exact hv) (by rw [qg,b];rfl)).inv).mono ?_;rintro e w' ⟨v,rfl,hv,g⟩;exact ⟨v,rfl,g, .fz hv⟩
theorem k0z {c:UInt8}:∀ {l:List UInt8} {i:Nat},kpj c l i=if Lib.indexByte l c = -1 then -1 else Lib.indexByte l c+i
 | [],i=>by simp [kpj,Lib.indexByte]
 | x::l,i=>by
  have a:∀ l:List UInt8,-1<=Lib.indexByte l c:=fun l=>by
   induction l with
   | nil=>simp [Lib.indexByte]
   | cons y l ih=>
    simp only [Lib.indexByte];split;omega
    ·split;omega
     ·omega
  by_cases h:x=c;subst h;simp [kpj,Lib.indexByte]
  ·have h1:(x == c)=false:=(by simpa using h);have b:Nat.beq x.toNat c.toNat=false:=Nat.beq_eq_false fun e=>h (UInt8.toNat_inj.1 e);have d:Lib.indexByte (x::l) c=if Lib.indexByte l c = -1 then -1 else Lib.indexByte l c+1:=by
    simp only [Lib.indexByte,h1,Bool.false_eq_true,if_false];by_cases hm:Lib.indexByte l c = -1;simp [hm]
    ·have:(Lib.indexByte l c == -1)=false:=(by simpa using hm);simp [hm]
   rw [d];simp only [kpj,b,qw];rw [k0z];have:=a l;by_cases hm:Lib.indexByte l c = -1;simp [hm]
   ·rw [qq hm,qq hm,qq (by omega)];omega
theorem ib_n {f:Nat} {fst caps:List AV} {x:Operand} {args:Array Operand} {ts:Array TypeId} {u:BA} {cc:Int} (ho:o.op = .call { callee := .value x,args:=args,argTypes:=ts }) (hc:kkm st.eval x=some (f,fst,caps)) (g:klb (fst++(args.toList.map st.eval++caps))=some [.atom (.string u), .atom (.int .u8 cc)])
  (h:IbOk P f):NStep P o st (.fz (.atom (.int .i64 (kpj cc.toNat.toUInt8 u.data.toList 0)))):=by
 obtain ⟨fn,hf,b,j,hn,k⟩:=h;intro ψ S a w ht n;obtain ⟨vf,vc,l,h1,c⟩:=kmj args ht hc;rw [kkx g] at h1 c;obtain ⟨q,e⟩:∃ q,q=(vf++args.map a.eval)++vc:=⟨_,rfl⟩;rw [<- e] at h1 c;have d:q=#[.string u, .int .u8 cc]:=by
  have hl:q.size=2:=by simpa using h1
  apply Array.ext (by simpa using hl);intro i m hi2;have hi:i<2:=by omega
  match i,hi with
  | 0,_=>exact (c 0 q[0] _ (by simp [hl]) rfl).atom
  | 1,_=>exact (c 1 q[1] _ (by simp [hl]) rfl).atom
 have hi:kpj cc.toNat.toUInt8 u.data.toList 0=Lib.indexByte u.data.toList cc.toNat.toUInt8:=by
  rw [k0z];split;rename_i h;exact h.symm
  ·simp
 rw [hi];refine kad w (.int .i64 (Lib.indexByte u.data.toList cc.toNat.toUInt8)) ?_ ⟨kaf _, .fz (.atom rfl)⟩;have hr:(callFunc f q).run P w = .ok (.value (.int .i64 (Lib.indexByte u.data.toList cc.toNat.toUInt8))) w:=by rw [run_callFunc_extern hf b j hn k,d,Lib.run_indexByteString];rfl
 rw [e] at hr;simp [execOp,ho,resolve,l,Deferred.ofValue,invoke] at hr ⊢;simpa [Array.append_assoc] using hr
theorem k8m {b x c1:Code} {rid t:Nat} {o1 o2:Oper} (h:kzg b=some (x,rid,o1,o2,t,c1)):b = .seq x (.seq (.region rid #[o1,o2] false) c1)/\o1.dst=some t/\o1.guard=none/\o2.dst=none/\o2.guard=none/\∃ ts,o2.op = .defer { callee := .value (.tmp t),args:=#[],argTypes:=ts }:=by
 unfold kzg at h;split at h
 ·rename_i x' rid' os c;split at h
  ·rename_i p1 p2 a;split at h
   ·rename_i t' cl h1 f g i j;split at h;rename_i t2 d e;replace h:=kam h;obtain ⟨k,h⟩:=h;simp only [qb,qp] at h;obtain ⟨rfl,rfl,rfl,rfl,rfl,rfl⟩:=h;obtain rfl:=qf k;obtain ⟨cal,as_,ts⟩:=cl;simp only at d e;have e1:os=#[p1,p2]:=(by apply qbh;simpa using a);have e2:as_=#[]:=(by apply qbh;simpa using e);subst e1 e2 d;exact ⟨rfl,h1,f,i,j,ts,g⟩
    ·cases h
   ·cases h
  ·cases h
 ·cases h
theorem k13 (h:kzl e=true):e = .normal\/e = .ret:=by cases e <;> simp [kzl] at h <;> simp
theorem k5j {args:List AV} {n:Nat} {heap:List (Nat×AObj)} {k:Nat} {lg:List Nat} {vs:Array Value} (b:args.length<=n) (hs:vs.size=args.length) (hr:∀ (i:Nat) (v:Value) (x:AV),vs[i]?=some v->args[i]?=some x->RV ψ (·∈idsN k) S w v x) (hc:Core F S0 N0 heap (idsN k) ψ S w):
  Sim F S0 N0 (XS.st ⟨n,argT 0 args,heap,k,lg⟩ []) ψ S { tmps:=vs++Array.replicate (n - vs.size) undef,defers:=[] } w:=by
 refine ⟨rfl,by show (vs++Array.replicate (n - vs.size) undef).size=n;simp;omega,fun t=>?_,hc⟩;show RV _ _ _ w _ (look .any (argT 0 args) t);rcases kkb args 0 t with h | ⟨x,_,h1,c⟩;rw [h];exact .any
 ·rw [c];have h1:args[t]?=some x:=by simpa using h1
  have a:t<vs.size:=by rw [hs];exact (qd.1 h1).1
  have:(vs++Array.replicate (n - vs.size) undef).getD t undef=vs[t]:=by rw [qaj,qa4 a];simp [a]
  show RV _ _ _ w ((vs++Array.replicate (n - vs.size) undef).getD t undef) x;rw [this];exact hr t _ x (by simp [a]) h1
theorem k76 (O : CxOk P C) (p : EvOk P ih) {f : Nat} {fn : Func} {b x c1 : Code} {rid t : Nat} {o1 o2 : Oper} {args : List AV} {heap : List (Nat × AObj)} {k : Nat} {lg : List Nat} {y : AV} (hf : P.funcs[f]? = some fn) (q : (fn.name == "runtime.NumGoroutine") = false) (hb : fn.body = some b) (hd : kzg b = some (x, rid, o1, o2, t, c1))
  (Q:args.length<=fn.ntmps) (ht:t<fn.ntmps) (h:k34 C ih f fn x o1 t c1 ⟨fn.ntmps,argT 0 args,heap,k,lg⟩=some (y,s1)):kal P f args heap (idsN k) (.ret y) s1.heap (idsN s1.k)/\LG ⟨fn.ntmps,argT 0 args,heap,k,lg⟩ s1:=by
 obtain ⟨rfl,d1,d2,d3,d4,ts,d5⟩:=k8m hd;unfold k34 at h;split at h
 ·rename_i s2 hx;split at h
  ·rename_i f2 caps G;split at h
   ·rename_i fn2 H;obtain ⟨U,m⟩:=FT.get_ok O.fn H;split at h
    ·rename_i ta tb c2 I;split at h
     ·rename_i e s3 V;split at h
      ·rename_i e2 s4 hc2;replace hc2:=kam hc2;obtain ⟨r,hc2⟩:=hc2;simp only [qo] at r;have J:=qi r.2;have he:=k13 r.1;split at h
       ·rename_i y' hy;replace hy:=kam hy;obtain ⟨u,hy⟩:=hy;have u:=k13 u;simp only [qb,qp] at h;obtain ⟨rfl,rfl⟩:=h;obtain ⟨x1,_,x3,x4⟩:=p _ _ _ _ _ hx;obtain ⟨y1,_,y3,y4⟩:=p _ _ _ _ _ V;obtain ⟨z1,_,z3,z4⟩:=p _ _ _ _ _ hc2;obtain ⟨pr1,pr2,pr3,pr4⟩:=kq8 s2 (some t) (AV.fn f2 caps);refine ⟨⟨⟨fn,hf,by rw [hb];rfl,q⟩,fun F S0 N0 ψ S w vs hs hr hc=>calls_of_wp_defers hf hb ?_⟩,?_⟩
        ·refine wp_seq (wp_mono ((x1 []).xw F S0 N0 ψ S _ w (k5j Q hs hr hc)) ?_);rintro e' a1 w1 ⟨rfl,ψ1,S1,q1,q2,q3⟩;refine wp_seq (wp_region_list ?_);have K:NStep P o1 (s2.st []) (.fn f2 caps):=kzf O.T O.Z (by rw [E_eq [],H_eq []] at G;exact G);show wpList P #[o1,o2] _ [o1,o2] a1 w1;unfold wpList;rw [kcj (ops:=#[o1,o2]) (o:=o1) (g:=true) q1 (by unfold ka0;rw [d2])];refine .inl (kbq ?_ (K.step F S0 N0 ψ1 S1 a1 w1 q1));rintro v w2 ⟨ψ2,S2,g1,g2,g3,g4,g5,g6,g7⟩;have hp:=q1.put (st':=s2.st []) (d:=o1.dst) rfl rfl rfl g1 g2 g4 g5 g6 g7 (fun t' j=>by rw [d1] at j;injection j with j;show t'<s2.n;rw [x4];show t'<fn.ntmps;omega);rw [d1] at hp ⊢;cases g2 with
         | @fn _ cs _ L X=>
          have Y:(a1.put (some t) (.func (.func f2) #[] cs)).eval (.tmp t) = .func (.func f2) #[] cs:=(by show (a1.put (some t) _).tmps.getD t undef=_;rw [kkc (some t) fn.ntmps t (by rw [q1.size];exact x4) (by intro t' j;injection j with j;omega),qt rfl]);have M:(execOp (a1.put (some t) (.func (.func f2) #[] cs)).eval o2).run P w2 = .ok (.defer (dfn f2 cs.toList)) w2:=(by simp [execOp,d5,resolve,Y,Deferred.ofValue,dfn]);unfold wpList;rw [kcj (ops:=#[o1,o2]) (o:=o2) (g:=true) hp (by unfold ka0;rw [d4])];refine .inl ?_;unfold Oper.wp;rw [M];simp only [Oper.upon,d3];have A:Sim F S0 N0 ((s2.put (some t) (.fn f2 caps)).st [dfn f2 cs.toList]) ψ2 S2 { (a1.put (some t) (.func (.func f2) #[] cs)) with defers:=dfn f2 cs.toList::(a1.put (some t) (.func (.func f2) #[] cs)).defers } w2:=by
           refine ⟨?_,hp.size,fun t'=>?_,hp.core⟩;show dfn f2 cs.toList::a1.defers=_;rw [q1.defers];rfl
           ·rw [kxo (s:=s2) (D:=[dfn f2 cs.toList]) s2.heap (idsN s2.k) t' rfl];exact hp.tmps t'
          refine wp_mono ((y1 [dfn f2 cs.toList]).xw F S0 N0 ψ2 S2 _ w2 A) ?_;rintro e' a4 w4 ⟨rfl,ψ4,S4,r1,r2,r3⟩;have r3':Hist (s2.st []) (s3.st []) ψ2 ψ4 S2 S4 w2 w4:=r3;obtain ⟨_,_,_,_,_,_,_,_,_,_,n1,n2,_⟩:=krq I;have l:Sim F S0 N0 (XS.st ⟨fn2.ntmps,argT 0 caps,s3.heap,s3.k,s3.lg⟩ []) ψ4 S4 { tmps:=cs.toList.toArray++Array.replicate (fn2.ntmps - cs.toList.toArray.size) undef,defers:=[] } w4:=
           k5j J (by simpa using L) (fun i v z hv hz=>(X i v z (by simpa using hv) hz).keep r3'.1 r3'.2.1 r3'.2.2.1 r3'.2.2.2) r1.core
          have N:=l.put (st':=XS.st ⟨fn2.ntmps,argT 0 caps,s3.heap,s3.k,s3.lg⟩ []) (d:=some ta) (v := .nilIface) (c:=nilA) rfl rfl rfl l.core (.fz (.atom rfl)) Ext.refl (fun _ h=>h) (fun _ h=>h) (fun _ _ _=>rfl) (fun t' j=>by injection j with j;show t'<fn2.ntmps;omega);have aa:=N.put (st':=(XS.st ⟨fn2.ntmps,argT 0 caps,s3.heap,s3.k,s3.lg⟩ []).put (some ta) nilA) (d:=some tb) (v := .nilIface) (c:=nilA) rfl rfl rfl N.core (.fz (.atom rfl)) Ext.refl (fun _ h=>h) (fun _ h=>h) (fun _ _ _=>rfl) (fun t' j=>by injection j with j;show t'<fn2.ntmps;omega);have B:=aa.congr (st':=XS.st ⟨fn2.ntmps,kj5 (kj5 (argT 0 caps) ta nilA) tb nilA,s3.heap,s3.k,s3.lg⟩ []) rfl (fun t'=>by show look .any (kj5 (kj5 (argT 0 caps) ta nilA) tb nilA) t'=look .any ((tb,nilA)::(ta,nilA)::argT 0 caps) t';rw [knh,knh,kar,kar]) (fun _=>rfl) rfl rfl;have fin:=kaap (w':=w4) (a:=a4) (P:=P) fn f2 cs.toList (fun e w'=>∃ ψ' S',HEnd.is e ψ' (·∈idsN s4.k) S' w' (.ret y')/\Core F S0 N0 s4.heap (idsN s4.k) ψ' S' w'/\Fr F w w'/\Ext (·∈idsN k) ψ ψ'/\(∀ i,i∈idsN k->i∈idsN s4.k)/\(∀ b,S b->S' b)/\Same S w w') r1.defers U I m (by simp [L];omega) (by refine wp_mono ((z1 []).xw F S0 N0 ψ4 S4 _ w4 B) ?_;rintro e5 a5 w5 ⟨rfl,ψ5,S5,u1,u2,u3⟩;have u3':Hist (s3.st []) (s4.st []) ψ4 ψ5 S4 S5 w4 w5:=u3;have hR:Sim F S0 N0 (XS.st ⟨s3.n,s3.tmps,s4.heap,s4.k,s4.lg⟩ []) ψ5 S5 ⟨a4.tmps,[]⟩ w5:=⟨rfl,r1.size,fun t'=>(r1.tmps t').keep u3'.1 u3'.2.1 u3'.2.2.1 u3'.2.2.2,u1.core⟩;have ab:s3.E=(XS.st ⟨s3.n,s3.tmps,s4.heap,s4.k,s4.lg⟩ []).eval:=(by rw [E_eq []];funext z;cases z <;> rfl);rw [ab,H_eq []] at hy;obtain ⟨v,v1,v2⟩:=k3k O.T hR hy;obtain ⟨t1,t2,t3,t4⟩:=((q3.trans (st2:=s2.st []) ⟨g4,g5,g6,g7⟩).trans r3').trans u3';exact ⟨u,u1.defers,v,v1,ψ5,S5,⟨v,rfl,v2⟩,u1.core,((q2.trans g3).trans r2).trans u2,t1,t2,t3,t4⟩);rcases he with rfl | rfl <;> exact fin
        ·exact x3.trans ((LG.put y3).trans (by obtain ⟨m0,new,m1,m2⟩:=z3;exact ⟨m0,new,m1,m2⟩))
       ·cases h
      ·cases h
     ·cases h
    ·cases h
   ·cases h
  ·cases h
 ·cases h
theorem kri (m:CxOk P C) (g:EvOk P ih) {f:Nat} {args:List AV} {heap:List (Nat×AObj)} {k:Nat} {lg:List Nat} {y:AV} (h:kt8 C ih f args heap k lg=some (y,s1)):
  kal P f args heap (idsN k) (.ret y) s1.heap (idsN s1.k)/\k<=s1.k/\∃ new,s1.lg=new++lg/\∀ id,id∉new->∀ ob,kaa heap id=some ob->kaa s1.heap id=some ob:=by
 unfold kt8 at h;split at h
 ·rename_i fn n;obtain ⟨hf,c⟩:=FT.get_ok m.fn n;split at h
  ·rename_i cc o;split at h;rename_i x rid o1 o2 t c1 r;replace h:=kam h;obtain ⟨a,h⟩:=h;simp only [qo] at a;exact k76 m g hf c o r (qi a.1) (by simpa [Nat.blt_eq] using a.2) h;have main:∀ e s2,(bif Nat.ble args.length fn.ntmps then ih (C.mu.contains f) cc ⟨fn.ntmps,argT 0 args,heap,k,lg⟩ else none)=some (e,s2)->(e = .normal\/e = .ret)->retE C.T s2.E s2.H fn.results.toList=some y->kal P f args heap (idsN k) (.ret y) s2.heap (idsN s2.k)/\k<=s2.k/\∃ new,s2.lg=new++lg/\∀ id,id∉new->∀ ob,kaa heap id=some ob->kaa s2.heap id=some ob:=by
    intro e s2 hi s hy;replace hi:=kam hi;obtain ⟨a,hi⟩:=hi;have a:=qi a;obtain ⟨p,_,q,_⟩:=g _ _ _ _ _ hi;refine ⟨⟨⟨fn,hf,by rw [o];rfl,c⟩,fun F S0 N0 ψ S w vs hs hr hc=>calls_of_wp hf o ?_⟩,q⟩;have j:Sim F S0 N0 (XS.st ⟨fn.ntmps,argT 0 args,heap,k,lg⟩ []) ψ S { tmps:=vs++Array.replicate (fn.ntmps - vs.size) undef,defers:=[] } w:=by
     refine ⟨rfl,by show (vs++Array.replicate (fn.ntmps - vs.size) undef).size=fn.ntmps;simp;omega,fun t=>?_,hc⟩;show RV _ _ _ w _ (look .any (argT 0 args) t);rcases kkb args 0 t with h | ⟨x,_,h1,l⟩;rw [h];exact .any
     ·rw [l];have h1:args[t]?=some x:=(by simpa using h1);have d:t<vs.size:=(by rw [hs];exact (qd.1 h1).1);have:(vs++Array.replicate (fn.ntmps - vs.size) undef).getD t undef=vs[t]:=(by rw [qaj,qa4 d];simp [d]);show RV _ _ _ w ((vs++Array.replicate (fn.ntmps - vs.size) undef).getD t undef) x;rw [this];exact hr t _ x (by simp [d]) h1
    refine wp_mono ((p []).xw F S0 N0 ψ S _ w j) ?_;rintro e' a' w' ⟨rfl,ψ',S',l,u,z,A,B,G⟩;rw [E_eq [],H_eq []] at hy;obtain ⟨v,e1,e2⟩:=k3k m.T l hy;have fin:a'.defers=[]/\∃ v,(results fn a'.tmps).run P w' = .ok v w'/\∃ ψ'' S'',HEnd.is (.returned v) ψ'' (·∈idsN s2.k) S'' w' (.ret y)/\Core F S0 N0 s2.heap (idsN s2.k) ψ'' S'' w'/\Fr F w w'/\Ext (·∈idsN k) ψ ψ''/\(∀ i,i∈idsN k->i∈idsN s2.k)/\(∀ b,S b->S'' b)/\Same S w w':=
     ⟨l.defers,v,e1,ψ',S',⟨v,rfl,e2⟩,l.core,u,z,A,B,G⟩
    rcases s with rfl | rfl <;> exact fin
   split at h
   ·rename_i e s2 hi;split at h;rename_i y' hy;simp only [qb,qp] at h;obtain ⟨rfl,rfl⟩:=h;exact main _ _ hi (.inr rfl) hy;rename_i y' hy;simp only [qb,qp] at h;obtain ⟨rfl,rfl⟩:=h;exact main _ _ hi (.inl rfl) hy
    ·cases h
   ·cases h
  ·cases h
 ·cases h
variable {SB:Nat->Prop} {heap:List (Nat×AObj)}
theorem k2a {x:FV} (h:x.single=true):x.cells=[x]:=by cases x <;> first | rfl | cases h
theorem kx9:∀ {sz n:Nat} {l ys:List FV},(∀ x∈l,x.single=true)->kn6 sz n l=some ys->ys.length=n/\l.length=n*sz/\∀ (i:Nat) (x:FV),ys[i]?=some x->x.cells=(l.drop (i*sz)).take sz/\x.cells.length=sz
 | sz,0,l,ys,h1,h=>by
  cases l with
  | nil=>
   simp only [kn6,qb] at h;subst h;exact ⟨rfl,by simp,fun i x h=>by simp at h⟩
  | cons x l=>simp only [kn6] at h;cases h
 | sz,n+1,l,ys,h1,h=>by
  have gen:∀ (y:FV) (r:List FV),kn6 sz n (l.drop sz)=some r->(l.take sz).length=sz->y.cells=l.take sz->ys=y::r->ys.length=n+1/\l.length=(n+1)*sz/\∀ (i:Nat) (x:FV),ys[i]?=some x->x.cells=(l.drop (i*sz)).take sz/\x.cells.length=sz:=by
   intro y r hr hl hy b;subst b;obtain ⟨k1,k2,k3⟩:=kx9 (fun x a=>h1 x (qbi a)) hr;have c:sz<=l.length:=(by rw [qak] at hl;omega);rw [qaw] at k2;refine ⟨by simp [k1],by rw [qbd];omega,fun i x a=>?_⟩;cases i with
   | zero=>
    simp only [List.getElem?_cons_zero,qb] at a;subst a;simp only [Nat.zero_mul,List.drop_zero];exact ⟨hy,by rw [hy];exact hl⟩
   | succ i=>
    simp only [qac] at a;obtain ⟨q1,q2⟩:=k3 i x a;rw [List.drop_drop] at q1;exact ⟨by rw [q1];congr 2;rw [qbd];omega,q2⟩
  simp only [kn6] at h;split at h
  ·rename_i y r hy hr;injection h with h;unfold mkEl at hy;replace hy:=kam hy;obtain ⟨d,hy⟩:=hy;refine gen y r hr (qf d) ?_ h.symm;split at hy;rename_i x a;injection hy with hy;subst hy;rw [a];exact k2a (h1 x (qa6 (by rw [a];exact qaa.2 rfl)))
   ·injection hy with hy;subst hy;rfl
  ·cases h
theorem k2n {v:Value} {r:FV} {S':Nat->Prop} {w':World} (h:RF S w v r) (ha:atF r=true):RF S' w' v r:=by
 cases h with
 | atom h=>exact .atom h
 | @tup cs xs hl hr=>
  refine .tup hl fun i u x hu a=>?_;have:=qk.1 ha x (ql a);cases x <;> simp at this;cases hr i u _ hu a with
  | atom h=>exact .atom h
 | @agg cs xs hl h1 hr=>
  refine .agg hl h1 fun i u x hu a=>?_;have:=qk.1 ha x (ql a);cases x <;> simp at this;cases hr i u _ hu a with
  | atom h=>exact .atom h
 | _=>cases ha
theorem ktf {H:Nat->Option AObj} {fr:Bool} (hS:fr=false->∀ b,S b->SB b) (F:∀ id o,H id=some o->ObR ψ K S w id o/\∀ b,Blk (ψ.val id) b->SB b):∀ fuel:Nat,
  (∀ (x:AV) (y:FV),frz H fr fuel x=some y->(x.single=true->y.single=true)/\∀ v,RV ψ K S w v x->RF SB w v y) /\
  (∀ (xs:List AV) (ys:List FV),frzs H fr fuel xs=some ys->xs.length=ys.length/\∀ (i:Nat) (x:AV) (y:FV),xs[i]?=some x->ys[i]?=some y->(x.single=true->y.single=true)/\∀ v,RV ψ K S w v x->RF SB w v y)
 | 0=>⟨(fun x y h=>by unfold frz at h;cases h),fun xs ys h=>by unfold frzs at h;cases h⟩
 | f+1=>by
  obtain ⟨ih1,ih2⟩:=ktf hS F f;constructor
  ·intro x y h;unfold frz at h;split at h;rename_i h0;cases h0
   ·replace h:=kam h;obtain ⟨z,h⟩:=h;injection h with h;subst h;refine ⟨fun h=>h,fun v hv=>?_⟩;cases hf:fr with
    | false=>exact hv.inv.mono (hS hf)
    | true=>rw [hf,Bool.not_true,Bool.false_or] at z;exact k2n hv.inv z
   ·cases hf:fr with
    | true=>rw [hf] at h;cases h
    | false=>
     rw [hf] at h;injection h with h;subst h;refine ⟨fun _=>rfl,fun v hv=>?_⟩;cases hv with
     | lim h=>exact h.mono (hS hf)
   ·rename_i f' cs hf;cases hf;split at h
    ·rename_i xs d;injection h with h;subst h;obtain ⟨k1,k2⟩:=ih2 _ _ d;refine ⟨fun h=>(by cases h),fun v hv=>?_⟩;cases hv with
     | @agg vs _ q1 q2 q3=>
      refine .agg (by omega) (fun y hy=>?_) fun i u y hu hy=>?_;obtain ⟨i,hi,rfl⟩:=qap.1 hy;have a:cs[i]?=some (cs[i]'(by omega)):=qa _;exact (k2 i _ _ a (qa hi)).1 (q2 _ (qaq _))
      ·have hi:=(qd.1 hy).1;have a:cs[i]?=some (cs[i]'(by omega)):=qa _;exact (k2 i _ _ a hy).2 u (q3 i u _ hu a)
    ·cases h
   ·rename_i f' cs hf;cases hf;split at h
    ·rename_i xs d;injection h with h;subst h;obtain ⟨k1,k2⟩:=ih2 _ _ d;refine ⟨fun h=>(by cases h),fun v hv=>?_⟩;cases hv with
     | @tup vs _ q1 q3=>
      refine .tup (by omega) fun i u y hu hy=>?_;have hi:=(qd.1 hy).1;have a:cs[i]?=some (cs[i]'(by omega)):=qa _;exact (k2 i _ _ a hy).2 u (q3 i u _ hu a)
    ·cases h
   ·rename_i f' id g off len cap hf;cases hf;split at h
    ·rename_i g' e sz cells ho;replace h:=kam h;obtain ⟨z,h⟩:=h;obtain rfl:=qf z;split at h
     ·rename_i xs d;split at h
      ·rename_i ys A;injection h with h;subst h;refine ⟨fun _=>rfl,fun v hv=>?_⟩;obtain ⟨B,C⟩:=F id _ ho;obtain ⟨q0,qz,b,cs,n,cap',q1,q2,q3,q4,q5,q6,q7⟩:=B;obtain ⟨hK,b',c,m,rfl,D,hm,_⟩:=kgg hv q0;rw [q1] at m;simp only [kak,qb] at m;subst m;obtain ⟨k1,k2⟩:=ih2 _ _ d;have k:∀ x∈xs,x.single=true:=fun x a=>(by obtain ⟨i,hi,rfl⟩:=qap.1 a;have q:i<((cells.drop off).take (len*sz)).length:=(by omega);exact (k2 i _ _ (qa q) (qa hi)).1 (q6 _ (qbi (qa6 (qaq q)))));obtain ⟨m1,m2,m3⟩:=kx9 k A;have s:((cells.drop off).take (len*sz)).length=len*sz:=(by omega);have G:off+len*sz<=cells.length\/len*sz=0:=(by rw [qak,qaw] at s;omega);have t:∀ (i:Nat),i<len->i*sz+sz<=len*sz:=fun i hi=>(by have:=qbg sz (show i+1<=len by omega);rw [qbd] at this;omega);refine .lst (fun i=>(cs.toList.drop (off+i*sz)).take sz) m1.symm D hm qz (fun i x a=>⟨b,off,rfl,C b (.of (by rw [q1];rfl)),fun j u hu=>?_⟩) (fun i x a=>?_) fun i x j u y a hu hy=>?_
       ·rw [qv] at hu;split at hu;rw [qae] at hu;exact ktz q2 (by simpa using hu)
        ·cases hu
       have hi:i<len:=(by rw [<- m1];exact (qd.1 a).1);have:=t i hi;obtain ⟨p1,p2⟩:=m3 i x a;refine ⟨by rw [qak,qaw,qav];omega,p2,fun y hy=>?_⟩;rw [p1] at hy;exact k y (qbi (qa6 hy))
       ·have hi:i<len:=(by rw [<- m1];exact (qd.1 a).1);have I:=t i hi;obtain ⟨p1,p2⟩:=m3 i x a;rw [p1,qv] at hy;rw [qv] at hu;split at hu;rename_i J;rw [qt J,qae] at hy;rw [qae] at hu;have E:i*sz+j<len*sz:=(by omega);have hc:((cells.drop off).take (len*sz))[i*sz+j]?=some (((cells.drop off).take (len*sz))[i*sz+j]'(by omega)):=qa _;refine (k2 _ _ _ hc hy).2 u (q7 (off+(i*sz+j)) u _ (by rw [<- Nat.add_assoc];simpa using hu) ?_);rw [qv,qt E,qae] at hc;exact hc
        ·cases hu
      ·cases h
     ·cases h
    ·cases h
   ·cases h
  ·intro xs ys h;unfold frzs at h;split at h;rename_i h0;cases h0;injection h with h;subst h;exact ⟨rfl,fun i x y h=>by simp at h⟩
   ·rename_i f' x l hf;cases hf;split at h
    ·rename_i y r hy hr;injection h with h;subst h;obtain ⟨k1,k2⟩:=ih2 _ _ hr;refine ⟨by simp [k1],fun i x' y' a p=>?_⟩;cases i with
     | zero=>simp at a p;subst a p;exact ih1 _ _ hy
     | succ i=>exact k2 i x' y' (by simpa using a) (by simpa using p)
    ·cases h
theorem k24 {f:Nat} {xs:List FV} {y:AV} {r:FV} (h:kal P f (xs.map .fz) [] [] (.ret y) s1.heap (idsN s1.k)) (hr:frz (kaa s1.heap) false 1000 y=some r):PCall P f xs r:=by
 refine ⟨h.1,fun S w vs hs hv=>?_⟩;have d:∀ {v x},RF S w v x->RF (fun b=>S b/\b<w.heap.size) w v x:=fun h=>h.bound;refine (h.2 (fun b=>b<w.heap.size) (fun b=>S b/\b<w.heap.size) w.heap.size ⟨fun _=>0,fun _ => .nilFunc⟩ (fun b=>S b/\b<w.heap.size) w vs (by simpa using hs) (fun i v x g l=>?_) ⟨fun id o h=>(by cases h),fun i i' o o' b h=>(by cases h),fun b h=>h.2,fun b h => .inl h,qu _,fun b h=>h⟩).mono ?_;rw [qg,qs] at l;obtain ⟨z,m,rfl⟩:=l;exact .fz (d (hv i v z g m))
 ·rintro e w' ⟨ψ',S',⟨v,rfl,j⟩,a,c,_⟩;refine ⟨v,rfl,((ktf (SB:=fun b=>S b\/w.heap.size<=b) (fun _ b d=>?_) (fun id o ho=>⟨(a.obj id o ho).2.1,fun b d => .inr ?_⟩) 1000).1 y r hr).2 v j,⟨⟨c.os,c.tape,c.output,c.size,c.block⟩,no0⟩⟩
  ·rcases a.s0 b d with h | h;exact .inl h.1
   ·exact .inr h
  ·have:=((a.obj id o ho).2.2 b d).2.1;omega
theorem kvh {u v:Value} (h:kzj u v=true):u=v:=by
 unfold kzj at h;split at h;simp only [qo,qa3,beq_iff_eq] at h;rw [h.1,h.2];rw [knm,MapKept.bytes_beq] at h;rw [h];simp at h;rw [h]
 all_goals first | rfl | cases h
mutual
theorem kaaw:∀ {a b:FV},eqFV a b=true->a=b
 | .atom v,b,h=>by cases b <;> simp only [eqFV] at h <;> first | (rw [kvh h]) | cases h
 | .agg v,b,h=>by cases b <;> simp only [eqFV] at h <;> first | (rw [kkh h]) | cases h
 | .tup v,b,h=>by cases b <;> simp only [eqFV] at h <;> first | (rw [kkh h]) | cases h
 | .lst s n v,b,h=>by
  cases b <;> simp only [eqFV] at h <;> try cases h
  simp only [qo] at h;rw [qf h.1,qf h.2.1,kkh h.2.2]
 | .fp v,b,h=>by cases b <;> simp only [eqFV] at h <;> first | (rw [kkh h]) | cases h
 | .bx v,b,h=>by cases b <;> simp only [eqFV] at h <;> first | (rw [kkh h]) | cases h
theorem kkh:∀ {a b:List FV},kj0 a b=true->a=b
 | [],[],_=>rfl
 | [],_::_,h=>by simp only [kj0] at h;cases h
 | _::_,[],h=>by simp only [kj0] at h;cases h
 | a::l,b::m,h=>by simp only [kj0,qo] at h;rw [kaaw h.1,kkh h.2]
end
theorem kzt {l:List (Nat×List FV×FV)} (hl:∀ p∈l,PCall P p.1 p.2.1 p.2.2) {f:Nat} {xs:List FV} {r:FV} (h:kv1 l f xs=some r):PCall P f xs r:=by
 induction l with
 | nil=>cases h
 | cons p l ih=>
  obtain ⟨g,as_,q⟩:=p;simp only [kv1] at h;cases a:(Nat.beq g f && kj0 as_ xs) with
  | true=>
   rw [a] at h;simp only [qr,qb] at h;subst h;simp only [qo] at a;have:=hl _ (qn ..)
   rwa [qf a.1,kkh a.2] at this
  | false=>
   rw [a] at h;exact ih (fun p hp=>hl p (qe _ hp)) h
theorem k2r (b:CxOk P C) (a:EvOk P ih) {f:Nat} {xs:List FV} {r:FV} (hr:kze C ih f xs=some r):PCall P f xs r:=by
 unfold kze at hr;split at hr;rename_i r' hf;injection hr with hr;subst hr;exact kzt b.fx hf
 ·replace hr:=kam hr;obtain ⟨_,hr⟩:=hr;split at hr;rename_i y s2 c;rw [H_eq []] at hr;exact k24 (kri b a c).1 hr
  ·cases hr
def PNew (P:Program) (f:FuncId) (args:List FV) (r:FV):Prop:=
 (∃ fn, P.funcs[f]? = some fn /\ fn.body.isNone = false /\ (fn.name == "runtime.NumGoroutine") = false) /\
 ∀ (S:Nat->Prop) (w:World) (vs:Array Value),vs.size=args.length->(∀ (i:Nat) (v:Value) (x:FV),vs[i]?=some v->args[i]?=some x->RF S w v x) ->
  Calls P f vs w fun e w'=>∃ v,e = .returned v/\RF (fun b=>w.heap.size<=b) w' v r/\Grow w w'
theorem kadd {f:Nat} {xs:List FV} {y:AV} {r:FV} (h:kal P f (xs.map .fz) [] [] (.ret y) s1.heap (idsN s1.k)) (hr:frz (kaa s1.heap) true 1000 y=some r):PNew P f xs r:=by
 refine ⟨h.1,fun S w vs hs hv=>?_⟩;have d:∀ {v x},RF S w v x->RF (fun b=>S b/\b<w.heap.size) w v x:=fun h=>h.bound;refine (h.2 (fun b=>b<w.heap.size) (fun b=>S b/\b<w.heap.size) w.heap.size ⟨fun _=>0,fun _ => .nilFunc⟩ (fun b=>S b/\b<w.heap.size) w vs (by simpa using hs) (fun i v x g l=>?_) ⟨fun id o h=>(by cases h),fun i i' o o' b h=>(by cases h),fun b h=>h.2,fun b h => .inl h,qu _,fun b h=>h⟩).mono ?_;rw [qg,qs] at l;obtain ⟨z,m,rfl⟩:=l;exact .fz (d (hv i v z g m))
 ·rintro e w' ⟨ψ',S',⟨v,rfl,j⟩,a,c,_⟩;refine ⟨v,rfl,((ktf (fr:=true) (SB:=fun b=>w.heap.size<=b) (fun h=>by cases h) (fun id o ho=>⟨(a.obj id o ho).2.1,fun b d=>?_⟩) 1000).1 y r hr).2 v j,⟨⟨c.os,c.tape,c.output,c.size,c.block⟩,no0⟩⟩;have:=((a.obj id o ho).2.2 b d).2.1;omega
theorem PNew.of_atF {f:Nat} {xs:List FV} {r:FV} (h:PCall P f xs r) (ha:atF r=true):PNew P f xs r:=
 ⟨h.1,fun S w vs hs hv=>(h.2 S w vs hs hv).mono fun e w' ⟨v,a,h1,b⟩=>⟨v,a,k2n h1 ha,b⟩⟩
theorem k2v (m:CxOk P C) (k:EvOk P ih) {H:Nat->Option AObj} (A:∀ id ob,H id=some ob->kaa st.heap id=some ob) {f:Nat} {fst caps:List AV} {x:Operand} {args:Array Operand} {ts:Array TypeId} {r:FV} (ho:o.op = .call { callee := .value x,args:=args,argTypes:=ts }) (c:kkm st.eval x=some (f,fst,caps)) (hr:ky8 C ih H f (fst++(args.toList.map st.eval++caps))=some r):NStep P o st (.fz r):=by
 unfold ky8 at hr;split at hr
 ·rename_i xs d;split at hr;rename_i u cc p;injection hr with hr;subst hr;exact ib_n ho c d (m.ib f (by simpa using p))
  ·exact kabu ho c d (k2r m k hr)
 ·split at hr
  ·rename_i xs d;have h:=k2r m k hr;intro ψ S a w ht B;obtain ⟨vf,vc,q,h1,s⟩:=kmj args ht c;have l:=(ktf (H:=fun _=>none) (fr:=false) (ψ:=ψ) (K:=(·∈st.ids)) (S:=S) (w:=w) (SB:=S) (fun _ b j=>j) (fun id o ho=>by cases ho) 1000).2 _ _ d;unfold kbx;rw [knv ho q h.1];refine (h.2 S w _ (by rw [<- l.1,<- h1,qav]) fun i v x hv g=>?_).mono ?_;have hi:i<(fst++(args.toList.map st.eval++caps)).length:=(by rw [l.1];exact (qd.1 g).1);exact (l.2 i _ x (qa hi) g).2 v (s i v _ (by rw [qal];exact hv) (qa hi))
   ·rintro e w' ⟨v,rfl,hv,t⟩;exact ⟨v,rfl,t, .fz hv⟩
  ·replace hr:=kam hr;obtain ⟨_,hr⟩:=hr;split at hr
   ·rename_i xs d;have h:PNew P f xs r:=by
     split at hr;rename_i r' hf;replace hr:=kam hr;obtain ⟨z,hr⟩:=hr;injection hr with hr;subst hr;exact .of_atF (kzt m.fx hf) z
     ·split at hr;rename_i y s2 j;rw [H_eq []] at hr;exact kadd (kri m k j).1 hr
      ·cases hr
    intro ψ S a w ht B;obtain ⟨vf,vc,q,h1,s⟩:=kmj args ht c;obtain ⟨SB,n⟩:∃ SB:Nat->Prop,SB=fun b=>S b\/∃ id ob,kaa st.heap id=some ob/\Blk (ψ.val id) b:=⟨_,rfl⟩;have l:=(ktf (H:=H) (fr:=false) (ψ:=ψ) (K:=(·∈st.ids)) (S:=S) (w:=w) (SB:=SB) (fun _ b j=>by rw [n];exact .inl j) (fun id o ho=>⟨B id o (A id o ho),fun b j=>by rw [n];exact .inr ⟨id,o,A id o ho,j⟩⟩) 1000).2 _ _ d;unfold kbx;rw [knv ho q h.1];refine (h.2 SB w _ (by rw [<- l.1,<- h1,qav]) fun i v x hv g=>?_).mono ?_;have hi:i<(fst++(args.toList.map st.eval++caps)).length:=(by rw [l.1];exact (qd.1 g).1);exact (l.2 i _ x (qa hi) g).2 v (s i v _ (by rw [qal];exact hv) (qa hi))
    ·rintro e w' ⟨v,rfl,hv,t⟩;exact ⟨v,rfl,t, .fz (hv.mono fun b j => .inr j)⟩
   ·cases hr
theorem kzv {x:Operand} {as_:List Operand} (a:kzk o=some (x,as_)):∃ args ts,o.op = .call { callee := .value x,args:=args,argTypes:=ts }/\as_=args.toList:=by
 unfold kzk at a;split at a
 ·rename_i cl hcl;split at a;rename_i f hf;simp only [qb,qp] at a;obtain ⟨rfl,rfl⟩:=a;obtain ⟨cal,args,ts⟩:=cl;simp only at hf;exact ⟨args,ts,by rw [hcl,hf],rfl⟩
  ·cases a
 ·cases a
theorem k5y (d:CxOk P C) (b:EvOk P ih) {mu:Bool} (h:opE C ih mu o s=some (c,s1)):k55 P o s c s1:=by
 unfold opE at h;split at h
 ·rename_i x as_ e;obtain ⟨args,ts,ho,rfl⟩:=kzv e;split at h
  ·rename_i f fst caps a;unfold k9m at h;split at h;rename_i r hr;simp only [qb,qp] at h;obtain ⟨rfl,rfl⟩:=h;refine ⟨fun D=>?_,rfl,rfl,LG.refl⟩;rw [E_eq D] at a hr;exact (k2v d b (fun _ _ h=>by rw [H_eq D] at h;exact h) ho a hr).step
   ·split at h;rename_i y s2 j;simp only [qb,qp] at h;obtain ⟨rfl,rfl⟩:=h;obtain ⟨i,g⟩:=kri d b j;refine ⟨fun D=>?_,rfl,rfl,g⟩;rw [E_eq D] at a i;exact k51 ho a i
    ·cases h
  ·cases h
 ·split at h;rename_i c' dl hs;simp only [qb,qp] at h;obtain ⟨rfl,rfl⟩:=h;refine kada fun D=>?_;rw [E_eq D,H_eq D] at hs;exact sE_ok d.T d.Z k4m hs
  ·cases h
theorem NStep.moreH {st st':St} (h:NStep P o st c) (hn:st'.tmps=st.tmps) (hi:st'.ids=st.ids) (d:∀ id ob,kaa st.heap id=some ob->kaa st'.heap id=some ob):NStep P o st' c:=by
 intro ψ S a w ht b;have e:∀ t,st'.get t=st.get t:=fun t=>by unfold St.get;rw [hn]
 rw [hi] at ht b ⊢;exact h ψ S a w (fun t=>by rw [<- e];exact ht t) fun id ob ho=>b id ob (d id ob ho)
theorem kra {rf:List Nat} {id:Nat} {ob:AObj}:∀ {l:List (Nat×AObj)},kaa (kng rf l) id=some ob->id∈rf/\kaa l id=some ob
 | [],h=>by cases h
 | (k,v)::l,h=>by
  simp only [kng] at h;cases hc:rf.contains k with
  | true=>
   rw [hc] at h;simp only [qr] at h;rw [kae] at h ⊢;by_cases hk:k=id;subst hk;rw [qt rfl] at h ⊢;exact ⟨by simpa using hc,h⟩
   ·rw [qq hk] at h ⊢;exact kra h
  | false=>
   rw [hc] at h;simp only [qw] at h;obtain ⟨h1,a⟩:=kra (l:=l) h;refine ⟨h1,?_⟩;rw [kae,qq];exact a
   ·rintro rfl;have:rf.contains k=true:=(by simpa using h1);rw [this] at hc;cases hc
theorem k3n {k:Nat} {x:AV} (h:okN0 k x=true):okA (idsN k) x=true:=by
 have a:∀ {id},Nat.blt id k=true->(idsN k).contains id=true:=fun {id} h=>by
  have:id<k:=by simpa [Nat.blt_eq] using h
  simpa using mem_idsN.2 this
 cases x <;> simp only [okN0] at h <;> first | rfl | exact a h | cases h
theorem kacn {k:Nat} {x:AV} (h:okN k x=true):okA (idsN k) x=true:=by
 have hl:∀ {cs:List AV},cs.all (okN0 k)=true->okAs (idsN k) cs=true:=fun {cs} h=>by rw [khh];exact qk.2 fun x a=>k3n (qk.1 h x a)
 cases x <;> simp only [okN] at h <;> first | exact k3n h | exact hl h
theorem k6a (D:List Deferred) (m:CxOk P C) (p:EvOk P ih) {mu:Bool} {os:Array Oper} {L:List Oper} {n i:Nat} {es:List Nat} (ch cs ai:List Nat) {rf:List Nat} {s0 hs hs1:XS} {fs:List (Nat×Option Nat×AV)} (t:∀ e,e∈es->phB L es e=true) (h:dz1 C ih mu os L n es s0 i o fs hs=some (c,hs1,rf)):
  LG hs hs1/\((∀ r,r∈rf->r∉ch)->(∀ new,hs1.lg=new++hs.lg->∀ r,r∈new->r∈cs)->(∀ id,id<hs1.k->id∈ai) ->
   (i∉es/\hs1=hs/\kq1 P os (kch L n es ch ai (s0.st D) i o fs hs.heap (idsN hs.k)) o c/\(phB L es i || okA (s0.st D).ids c)=true) \/
   (i∈es/\kwg P os L n es cs ai (s0.st D) (kch L n es ch ai (s0.st D) i o fs hs.heap (idsN hs.k)) o c hs.heap (idsN hs.k) hs1.heap (idsN hs1.k))):=by
 unfold dz1 at h;obtain ⟨v,hv⟩:∃ v:XS,v=⟨s0.n,hadd fs (keu o) (kgc L i n++s0.tmps),hs.heap,hs.k,hs.lg⟩:=⟨_,rfl⟩;simp only [<- hv] at h;have a:∀ b,ktk os v.E o=some b->ka0 os (kch L n es ch ai (s0.st D) i o fs hs.heap (idsN hs.k)) o=some b:=fun b F=>by rw [E_eq D] at F;rw [<- F,hv];rfl
 have G:(v.st D).eval=(kch L n es ch ai (s0.st D) i o fs hs.heap (idsN hs.k)).eval:=by rw [hv];funext x;cases x <;> rfl
 have g:phB L es i=true->(v.st D)=kch L n es ch ai (s0.st D) i o fs hs.heap (idsN hs.k):=fun hp=>by rw [hv];unfold kch;rw [hp];rfl
 split at h
 ·rename_i j;simp only [qb,qp] at h;obtain ⟨rfl,rfl,rfl⟩:=h;refine ⟨LG.refl,fun _ _ l=>?_⟩;by_cases hi:i∈es;exact .inr ⟨hi, .inr ⟨a _ j,rfl,rfl,rfl⟩, .inr ⟨fun _ _ _ h=>h,fun id h=>l id (mem_idsN.1 h),fun _ h=>h⟩⟩
  ·exact .inl ⟨hi,rfl, .inr ⟨a _ j,rfl⟩,by simp [okA]⟩
 ·rename_i j;cases hc:es.contains i with
  | true=>
   have hi:i∈es:=(by simpa using hc);rw [hc] at h;simp only [qr] at h;split at h;rename_i c' v1 u;simp only [qb,qp] at h;obtain ⟨rfl,rfl,rfl⟩:=h;obtain ⟨k1,_,_,k5⟩:=k5y m p u;have q:LG hs v1:=(by rw [hv] at k5;exact k5);refine ⟨q,fun _ s l => .inr ⟨hi, .inl ⟨a _ j,by rw [<- g (t i hi)];exact k1 D⟩, .inr ?_⟩⟩;obtain ⟨m0,new,m1,m2⟩:=q;refine ⟨fun id w ob ho=>m2 id (fun h=>w (s new m1 id h)) ob ho,fun id h=>l id (mem_idsN.1 h),fun id h=>mem_idsN.2 (by have:=mem_idsN.1 h;omega)⟩
   ·cases h
  | false=>
   have hi:i∉es:=(by simpa using hc);rw [hc] at h;simp only [qw] at h;split at h
   ·rename_i x as_ y;obtain ⟨args,ts,ho,rfl⟩:=kzv y;split at h
    ·rename_i f fst caps d;split at h
     ·rename_i r hr;simp only [qb,qp] at h;obtain ⟨rfl,rfl,rfl⟩:=h;rw [E_eq D,G] at d hr;refine ⟨LG.refl,fun _ _ _ => .inl ⟨hi,rfl, .inl ⟨a _ j,k2v m p (fun id ob hi=>?_) ho d hr⟩,by simp [okA]⟩⟩;cases hp:phB L es i with
      | true=>rw [hp,qr,H_eq D,g hp] at hi;exact hi
      | false=>rw [hp] at hi;cases hi
     ·cases h
    ·cases h
   ·cases hp:phB L es i with
    | true=>
     rw [hp] at h;simp only [qr] at h;split at h;rename_i c' hn;simp only [qb,qp] at h;obtain ⟨rfl,rfl,rfl⟩:=h;rw [E_eq D,H_eq D,g hp] at hn;exact ⟨LG.refl,fun _ _ _ => .inl ⟨hi,rfl, .inl ⟨a _ j,kzf m.T m.Z hn⟩,rfl⟩⟩
     ·cases h
    | false=>
     rw [hp] at h;simp only [qw] at h;split at h
     ·rename_i c' hn;replace h:=kam h;obtain ⟨z,h⟩:=h;simp only [qb,qp] at h;obtain ⟨rfl,rfl,rfl⟩:=h;refine ⟨LG.refl,fun A _ _ => .inl ⟨hi,rfl, .inl ⟨a _ j,?_⟩,by rw [Bool.false_or];exact kacn z⟩⟩;rw [show getO (kng (ktw v.E o) s0.heap)=kaa (kng (ktw v.E o) s0.heap) from funext fun i=>k2s,E_eq D] at hn;have B:NStep P o ⟨s0.n,hadd fs (keu o) (kgc L i n++s0.tmps),kng (ktw v.E o) s0.heap,ai,D⟩ c':=(by refine kzf m.T m.Z ?_;have H:(v.st D).eval=St.eval ⟨s0.n,hadd fs (keu o) (kgc L i n++s0.tmps),kng (ktw v.E o) s0.heap,ai,D⟩:=(by rw [G];funext x;cases x <;> rfl);rw [<- H,E_eq D];exact hn);refine B.moreH rfl ?_ fun id ob ho=>?_;show (bif phB L es i then idsN hs.k else ai)=ai;rw [hp];rfl
      ·obtain ⟨q1,q2⟩:=kra ho;show kaa (bif phB L es i then hs.heap else kmb ch s0.heap) id=some ob;rw [hp];exact kqy (A id q1) q2
     ·cases h
 ·cases h
theorem k22 {D:List Deferred} (h:dstE s.n o=true):∀ t,o.dst=some t->t<(s.st D).n:=fun t ht=>by unfold dstE at h;rw [ht] at h;show t<s.n;simpa [Nat.blt_eq] using h
theorem kxe (b:CxOk P C) (a:EvOk P ih) {mu:Bool} {ops:Array Oper}:∀ {l:List Oper} {s s1:XS},opsE C ih mu ops l s=some s1->(∀ D,XWL P ops l (s.st D) (s1.st D))/\LG s s1/\s1.n=s.n
 | [],s,s1,h=>by have h:some s=some s1:=h;injection h with h;subst h;exact ⟨fun D=>kace,LG.refl,rfl⟩
 | o::l,s,s1,h=>by
  have h:(bif dstE s.n o then (match ktk ops s.E o with
   | some true=>match opE C ih mu o s with
    | some (c,s1)=>opsE C ih mu ops l (s1.put o.dst c)
    | none=>none
   | some false=>opsE C ih mu ops l (s.put o.dst (.fz (.tup [])))
   | none=>none) else none)=some s1:=h
  replace h:=kam h;obtain ⟨g,h⟩:=h;have i:∀ D,ktk ops s.E o=ka0 ops (s.st D) o:=fun D=>by rw [E_eq D];rfl
  split at h
  ·rename_i d;split at h;rename_i c s2 e;obtain ⟨k1,k2,k3,k5⟩:=k5y b a e;obtain ⟨j1,j2,j3⟩:=kxe b a h;obtain ⟨p1,p2,p3,p5⟩:=kq8 s2 o.dst c;exact ⟨fun D=>kaas (k1 D) ((i D).symm.trans d) (k22 g) (by show (s2.put o.dst c).n=s.n;omega) (fun t=>kxo _ _ t k3) p2 (by show idsN (s2.put o.dst c).k=_;rw [p3]) rfl (j1 D),k5.trans j2.put,by omega⟩
   ·cases h
  rename_i f;obtain ⟨j1,j2,j3⟩:=kxe b a h;obtain ⟨p1,p2,p3,p5⟩:=kq8 s o.dst (AV.fz (.tup []));exact ⟨fun D=>kabh ((i D).symm.trans f) (k22 g) p1 (fun t=>kxo s.heap (idsN s.k) t rfl) p2 (by show idsN (s.put o.dst _).k=_;rw [p3];rfl) rfl (j1 D),j2.put,by omega⟩
  ·cases h
theorem k0w (D:List Deferred) (u:CxOk P C) (b:EvOk P ih) {mu:Bool} {os:Array Oper} {L:List Oper} {n:Nat} {es:List Nat} {s0:XS} (d:∀ e,e∈es->phB L es e=true):∀ (l:List Oper) (i:Nat) (fs:List (Nat×Option Nat×AV)) (hs:XS) (rf sl:List (Nat×List Nat)) {fsF:List (Nat×Option Nat×AV)} {a:XS} {rfF slF:List (Nat×List Nat)},
  dzE C ih mu os L n es s0 l i fs hs rf sl=some (fsF,a,rfF,slF)->L.drop i=l->i+l.length=n->∀ (c0:Nat->AV) (H0:Nat->XS),fs=fsOf L c0 i->H0 i=hs ->
  LG hs a/\(∀ r,r∈rf->r∈rfF)/\(∀ r,r∈sl->r∈slF)/\∃ (c:Nat->AV) (H:Nat->XS),(∀ j,j<i->c j=c0 j)/\(∀ j,j<=i->H j=H0 j)/\fsF=fsOf L c n/\H n=a /\
   ∀ (chi chs:Nat->List Nat) ai,(∀ p,p∈rfF->∀ r,r∈p.2->r∉chi p.1)->(∀ p,p∈slF->∀ r,r∈p.2->r∈chs p.1)->(∀ id,id<a.k->id∈ai)->∀ j o,i<=j->j<n->L[j]?=some o ->
    (j∉es/\H (j+1)=H j/\kq1 P os (kch L n es (chi j) ai (s0.st D) j o (fsOf L c j) (H j).heap (idsN (H j).k)) o (c j)/\(phB L es j || okA (s0.st D).ids (c j))=true) \/
    (j∈es/\kwg P os L n es (chs j) ai (s0.st D) (kch L n es (chi j) ai (s0.st D) j o (fsOf L c j) (H j).heap (idsN (H j).k)) o (c j) (H j).heap (idsN (H j).k) (H (j+1)).heap (idsN (H (j+1)).k))
 | [],i,fs,hs,rf,sl,fsF,a,rfF,slF,h,hl,hn,c0,H0,hf,v=>by
  have h:some (fs,hs,rf,sl)=some (fsF,a,rfF,slF):=h;simp only [qb,qp] at h;obtain ⟨rfl,rfl,rfl,rfl⟩:=h;have w:i=n:=by simpa using hn
  subst w;exact ⟨LG.refl,fun _ h=>h,fun _ h=>h,c0,H0,fun _ _=>rfl,fun _ _=>rfl,hf,v,fun chi chs ai _ _ _ j o h1 F=>by omega⟩
 | o::l,i,fs,hs,rf,sl,fsF,a,rfF,slF,h,hl,hn,c0,H0,hf,v=>by
  simp only [dzE] at h;split at h
  ·rename_i c' hs1 r1 G;have m:L[i]?=some o:=(by have:=qah (·[0]?) hl;simpa using this);have x:L.drop (i+1)=l:=(by rw [<- List.drop_drop,hl];rfl);have y:dstT L i=o.dst:=(by unfold dstT;rw [m];rfl);have f:(i,o.dst,c')::fs=fsOf L (fun j=>if j=i then c' else c0 j) (i+1):=(by rw [hf];simp only [fsOf,y,if_true];rw [kd4 (k:=i) (c':=fun j=>if j=i then c' else c0 j) fun j I=>by rw [qq (by omega)]]);obtain ⟨k1,k2,k2',c,H,k3,k4,k5,k6,k7⟩:=k0w D u b d l (i+1) _ hs1 _ _ h x (by simp at hn;omega) (fun j=>if j=i then c' else c0 j) (fun j=>if j=i+1 then hs1 else H0 j) f (by simp);have e1:∀ j,j<i->c j=c0 j:=fun j I=>(by rw [k3 j (by omega),qq (by omega)]);have e2:c i=c':=(by rw [k3 i (by omega),qt rfl]);have e3:H i=hs:=(by rw [k4 i (by omega),qq (by omega)];exact v);have e4:H (i+1)=hs1:=(by rw [k4 (i+1) (qu _),qt rfl]);have z:fsOf L c i=fs:=(by rw [hf];exact kd4 e1);have A:=(k6a D u b [] [] [] d G).1;refine ⟨A.trans k1,fun r hr=>k2 r (qe _ hr),fun r hr=>k2' r (qe _ hr),c,H,e1,fun j I=>by rw [k4 j (by omega),qq (by omega)],k5,k6,fun chi chs ai q s t j o' h1 F g=>?_⟩;obtain ⟨m2,_⟩:=k1;by_cases B:j=i;subst B;rw [m] at g;obtain rfl:=qy g;have:=(k6a D u b (chi j) (chs j) ai d G).2 (q (j,r1) (k2 _ (qn ..))) (fun new E r hr=>s (j,hs1.lg.take (hs1.lg.length - hs.lg.length)) (k2' _ (qn ..)) r (by have:hs1.lg.take (hs1.lg.length - hs.lg.length)=new:=(by rw [E,qaf,Nat.add_sub_cancel];exact List.take_left' rfl);rw [this];exact hr)) (fun id J=>t id (by omega));rw [z,e2,e3,e4];exact this
   ·exact k7 chi chs ai q s t j o' (by omega) F g
  ·cases h
theorem krs {t:Nat} {base:List (Nat×AV)}:∀ {fs:List (Nat×Option Nat×AV)},look .any (kn5 fs base) t=look .any (hadd fs (fun _=>true) base) t
 | []=>rfl
 | (j,some d,c)::l=>by simp only [kn5,hadd,qr];rw [knh,kar,krs]
 | (j,none,c)::l=>by simp only [kn5,hadd];exact krs
theorem kuj (B:CxOk P C) (y:EvOk P ih) {mu:Bool} {rid:Nat} {ops:Array Oper} {es:List Nat} (h:drzA C ih mu ops s es=some s1):(∀ D,XW P (.region rid ops true) (s.st D) .normal (s1.st D))/\LG s s1/\s1.n=s.n:=by
 obtain ⟨L,rfl⟩:∃ L:List Oper,ops=L.toArray:=⟨ops.toList,by simp⟩;unfold drzA at h;simp only [List.toList_toArray] at h;replace h:=kam h;obtain ⟨A,h⟩:=h;simp only [qo] at A;split at h
 ·rename_i fs hs rf sl O;replace h:=kam h;obtain ⟨E,h⟩:=h;injection h with h;have f:∀ e,e∈es->phB L es e=true:=fun e Q=>by have:=qk.1 A.2 e Q;rw [qo] at this;exact this.2
  have k1:LG s hs:=(k0w [] B y f L 0 [] s [] [] O rfl (by simp) (fun _ => .any) (fun _=>s) rfl rfl).1;subst h;refine ⟨fun D=>?_,k1,rfl⟩;obtain ⟨k1,k2,k2',c,H,k3,k4,k5,k6,k7⟩:=k0w D B y f L 0 [] s [] [] O rfl (by simp) (fun _ => .any) (fun _=>s) rfl rfl;obtain ⟨chs,l⟩:∃ chs:Nat->List Nat,chs=fun j=>sl.flatMap fun q=>bif Nat.beq q.1 j then q.2 else []:=⟨_,rfl⟩;obtain ⟨chi,m⟩:∃ chi:Nat->List Nat,chi=fun i=>sl.flatMap fun q=>bif anc L q.1 i then [] else q.2:=⟨_,rfl⟩;have u:=k7 chi chs (idsN hs.k) (fun p hp r hr hc=>by
   rw [m] at hc;obtain ⟨q,G,b⟩:=qat.1 hc;have:=qk.1 (qk.1 E p hp) q G;cases ha:anc L q.1 p.1 with
   | true=>rw [ha] at b;cases b
   | false=>
    rw [ha] at b this;simp only [qw] at b;rw [Bool.false_or] at this;have:=qk.1 this r hr;simp at this;exact this b) (fun p hp r hr=>by
   rw [l];exact qat.2 ⟨p,hp,by simp only [Nat.beq_refl,qr];exact hr⟩) (fun id g=>mem_idsN.2 g)
  have I:H 0=s:=k4 0 (qu _);have R:=k1.1;intro F S0 N0 ψ S a w z;refine kzr (ai:=idsN hs.k) B.mixed c (fun i=>((H i).heap,idsN (H i).k)) chi chs A.1 A.2 ?_ (by rw [I];rfl) ?_ ?_ z _ ?_
  ·exact qk.2 fun x T=>by have:=mem_idsN.1 (show x∈idsN s.k from T);simpa using mem_idsN.2 (show x<hs.k by omega)
  ·intro j i U hi ha id g;rw [l] at g;obtain ⟨q,G,b⟩:=qat.1 g;rw [m];refine qat.2 ⟨q,G,?_⟩;cases v:Nat.beq q.1 j with
   | false=>rw [v] at b;cases b
   | true=>
    rw [v] at b;rw [qf v,ha];exact b
  ·intro i o J K;rcases u i o (qas _) J K with ⟨q1,q2,q3,q4⟩ | ⟨q1,q2⟩;exact .inl ⟨q1,by simp only [q2],q3,q4⟩
   ·exact .inr ⟨q1,q2⟩
  ·intro ψ' S' a' w' M N d;rw [List.drop_length];refine ⟨rfl,ψ',S',M.congr rfl (fun t=>?_) (fun id=>?_) ?_ rfl,N,?_⟩;show look .any (kn5 fs s.tmps) t=look .any (hadd (fsOf L c L.length) (fun _=>true) s.tmps) t;rw [krs,k5];show kaa hs.heap id=kaa (H L.length).heap id;rw [k6];show idsN hs.k=idsN (H L.length).k;rw [k6]
   ·have d:HistI (idsN s.k) (idsN (H L.length).k) ψ ψ' S S' w w':=d;rw [k6] at d;exact d
 ·cases h
theorem kacw (b:CxOk P C) (a:EvOk P ih) {mu:Bool} {rid:Nat} {ops:Array Oper} (h:drzE C ih mu ops s=some s1):(∀ D,XW P (.region rid ops true) (s.st D) .normal (s1.st D))/\LG s s1/\s1.n=s.n:=by
 unfold drzE at h;split at h;rename_i r hr;injection h with h;subst h;exact kuj b a hr
 ·split at h;rename_i r hr;injection h with h;subst h;exact kuj b a hr
  ·split at h;rename_i r hr;injection h with h;subst h;exact kuj b a hr
   ·exact kuj b a h
theorem XC.of {x:Code} (h:XW P x st e st1) (hl:∀ y,x ≠ .loop y):XC P x st e st1:=by
 unfold XC;split;exact absurd rfl (hl _)
 ·exact h
theorem kade (f:CxOk P C) (a:EvOk P ih):EvOk P (evB C ih):=by
 intro mu x s e s1 h;unfold evB at h;split at h;simp only [qb,qp] at h;obtain ⟨rfl,rfl⟩:=h;exact ⟨fun D=>XC.of k98 (fun _ h=>by cases h),rfl,LG.refl,rfl⟩
 ·split at h;rename_i s2 hs;simp only [qb,qp] at h;obtain ⟨rfl,rfl⟩:=h;obtain ⟨k1,k2,k3⟩:=kxe f a hs;exact ⟨fun D=>XC.of (k6s (k1 D)) (fun _ h=>by cases h),rfl,k2,k3⟩
  ·cases h
 ·split at h;rename_i s2 hs;simp only [qb,qp] at h;obtain ⟨rfl,rfl⟩:=h;obtain ⟨k1,k2,k3⟩:=kacw f a hs;exact ⟨fun D=>XC.of (k1 D) (fun _ h=>by cases h),rfl,k2,k3⟩
  ·cases h
 ·rename_i x y;cases c:ih mu x s with
  | none=>rw [c] at h;cases h
  | some p=>
   obtain ⟨e1,s2⟩:=p;rw [c] at h;obtain ⟨k1,k2,k3,k4⟩:=a _ _ _ _ _ c;cases e1 with
   | normal=>
    obtain ⟨j1,j2,j3,j4⟩:=a _ _ _ _ _ h;exact ⟨fun D=>XC.of (kacs (k1 D).xw (j1 D).xw) (fun _ h=>by cases h),j2,k3.trans j3,j4.trans k4⟩
   | _=>
    simp only [qb,qp] at h;obtain ⟨rfl,rfl⟩:=h;exact ⟨fun D=>XC.of (k95 (k1 D).xw (fun h=>by cases h)) (fun _ h=>by cases h),k2,k3,k4⟩
 ·rename_i cc x y;split at h;rename_i b d;obtain ⟨k1,k2⟩:=a _ _ _ _ _ h;exact ⟨fun D=>XC.of (kabt (by rw [E_eq D] at d;exact d) (k1 D).xw) (fun _ h=>by cases h),k2⟩
  ·cases h
 ·rename_i i x;cases c:ih mu x s with
  | none=>rw [c] at h;cases h
  | some p=>
   obtain ⟨e1,s2⟩:=p;rw [c] at h;obtain ⟨k1,k2,k3⟩:=a _ _ _ _ _ c;cases e1 with
   | exit j=>
    simp only at h;cases d:Nat.beq j i with
    | true=>
     rw [d] at h;simp only [qr,qb,qp] at h;obtain ⟨rfl,rfl⟩:=h;obtain rfl:=qf d;exact ⟨fun D=>XC.of (k77 (k1 D).xw) (fun _ h=>by cases h),rfl,k3⟩
    | false=>
     rw [d] at h;simp only [qw,qb,qp] at h;obtain ⟨rfl,rfl⟩:=h;exact ⟨fun D=>XC.of (kyt (k1 D).xw (fun h=>by injection h with h;subst h;simp at d)) (fun _ h=>by cases h),rfl,k3⟩
   | _=>
    simp only [qb,qp] at h;obtain ⟨rfl,rfl⟩:=h;exact ⟨fun D=>XC.of (kyt (k1 D).xw (fun h=>by cases h)) (fun _ h=>by cases h),k2,k3⟩
 ·rename_i x;cases c:ih mu x s with
  | none=>rw [c] at h;cases h
  | some p=>
   obtain ⟨e1,s2⟩:=p;rw [c] at h;obtain ⟨k1,k2,k3,k4⟩:=a _ _ _ _ _ c;cases e1 with
   | normal=>
    obtain ⟨j1,j2,j3,j4⟩:=a _ _ _ _ _ h;exact ⟨fun D=>xr_go (k1 D).xw (j1 D),j2,k3.trans j3,j4.trans k4⟩
   | _=>
    simp only [qb,qp] at h;obtain ⟨rfl,rfl⟩:=h;exact ⟨fun D=>kac8 (k1 D).xw (fun h=>by cases h),k2,k3,k4⟩
 simp only [qb,qp] at h;obtain ⟨rfl,rfl⟩:=h;exact ⟨fun D=>XC.of kaa3 (fun _ h=>by cases h),rfl,LG.refl,rfl⟩;simp only [qb,qp] at h;obtain ⟨rfl,rfl⟩:=h;exact ⟨fun D=>XC.of kacb (fun _ h=>by cases h),rfl,LG.refl,rfl⟩;obtain ⟨k1,k2,k3⟩:=a _ _ _ _ _ h;exact ⟨fun D=>XC.of (k8w (k1 D).xw k2) (fun _ h=>by cases h),k2,k3⟩
 ·cases h
theorem k82 (a:CxOk P C):∀ n,EvOk P (ev C n)
 | 0=>fun mu c s e s1 h=>by cases h
 | n+1=>kade a (k82 a n)
theorem k3a (a:CxOk P C) (n:Nat) {f:Nat} {xs:List FV} {r:FV} (h:runE C n f xs=some r:=by kernel_rfl):PCall P f xs r:=by
 unfold runE at h;split at h;rename_i y s1 b;rw [H_eq []] at h;exact k24 (kri a (k82 a n) b).1 h
 ·cases h
mutual
def leFV:FV->FV->Bool
 | .atom (.slice none 0 0), .lst s n xs=>Nat.ble 1 s && (Nat.beq n 0 && xs.isEmpty)
 | .atom v, .atom u=>kzj v u
 | .agg a, .agg b=>kjz a b
 | .tup a, .tup b=>kjz a b
 | .lst s n a, .lst s' n' b=>Nat.beq s s' && (Nat.beq n n' && kjz a b)
 | _,_=>false
def kjz:List FV->List FV->Bool
 | [],[]=>true
 | a::l,b::m=>leFV a b && kjz l m
 | _,_=>false
end
theorem khx:∀ {a b:List FV},kjz a b=true->a.length=b.length/\∀ (i:Nat) (x y:FV),a[i]?=some x->b[i]?=some y->leFV x y=true
 | [],[],_=>⟨rfl,fun i x y h=>by simp at h⟩
 | [],_::_,h=>by simp only [kjz] at h;cases h
 | _::_,[],h=>by simp only [kjz] at h;cases h
 | a::l,b::m,h=>by
  simp only [kjz,qo] at h;obtain ⟨h1,d⟩:=khx h.2;refine ⟨by simp [h1],fun i x y c hy=>?_⟩;cases i with
  | zero=>simp at c hy;subst c hy;exact h.1
  | succ i=>exact d i x y (by simpa using c) (by simpa using hy)
theorem kut {x y:FV} (h:leFV x y=true) (a:x.single=true):y.single=true:=by
 unfold leFV at h;split at h;rfl;rw [<- kvh h];exact a;cases a;cases a;rfl
 ·cases h
theorem kww {x y:FV} (h:leFV x y=true):kjz x.cells y.cells=true:=by
 have one:kjz [x] [y]=true:=by simp only [kjz,h,Bool.and_true]
 revert one
 unfold leFV at h;intro one;split at h;exact one;exact one;exact h;exact one;exact one
 ·cases h
theorem kaa9 {v:Value} {x:FV} (h:RF S w v x):∀ {y:FV},leFV x y=true->RF S w v y:=by
 induction h with
 | @atom v h=>
  intro y hy;unfold leFV at hy;split at hy
  ·rename_i s n xs c;cases c;simp only [qo] at hy;have hn:=qf hy.2.1;have a:xs=[]:=(by simpa using hy.2.2);subst hn a;exact .lst (fun _=>[]) rfl (qu _) (by omega) (qi hy.1) (fun i x h=>by simp at h) (fun i x h=>by simp at h) fun i x j v y h=>by simp at h
  rename_i u _ c;cases c;rw [<- kvh hy];exact .atom h;rename_i c;cases c;rename_i c;cases c;rename_i c;cases c
  ·cases hy
 | @agg cs xs hl h1 hr ih=>
  intro y hy;cases y <;> simp only [leFV] at hy <;> try cases hy
  rename_i ys;obtain ⟨k1,k2⟩:=khx hy;refine .agg (by omega) (fun z b=>?_) fun i u z hu b=>?_;obtain ⟨i,hi,rfl⟩:=qap.1 b;have a:xs[i]?=some (xs[i]'(by omega)):=qa _;exact kut (k2 i _ _ a (qa hi)) (h1 _ (qaq _))
  ·have hi:=(qd.1 b).1;have a:xs[i]?=some (xs[i]'(by omega)):=qa _;exact ih i u _ hu a (k2 i _ _ a b)
 | @tup cs xs hl hr ih=>
  intro y hy;cases y <;> simp only [leFV] at hy <;> try cases hy
  rename_i ys;obtain ⟨k1,k2⟩:=khx hy;refine .tup (by omega) fun i u z hu b=>?_;have hi:=(qd.1 b).1;have a:xs[i]?=some (xs[i]'(by omega)):=qa _;exact ih i u _ hu a (k2 i _ _ a b)
 | @lst A cap size n xs css hn hc hm hs ha hl hr ih=>
  intro y hy;cases y <;> simp only [leFV] at hy <;> try cases hy
  rename_i s' n' ys;simp only [qo] at hy;obtain ⟨e1,e2,e3⟩:=hy;have e1:=qf e1;have e2:=qf e2;subst e1 e2;obtain ⟨k1,k2⟩:=khx e3;have get:∀ (i:Nat) (y:FV),ys[i]?=some y->∃ x,xs[i]?=some x/\leFV x y=true:=fun i y hy=>by have hi:=(qd.1 hy).1;have a:xs[i]?=some (xs[i]'(by omega)):=qa _;exact ⟨_,a,k2 i _ _ a hy⟩
  refine .lst css (by omega) hc hm hs (fun i y hy=>?_) (fun i y hy=>?_) fun i y j u z hy hu b=>?_;obtain ⟨x,a,_⟩:=get i y hy;exact ha i x a;obtain ⟨x,a,e⟩:=get i y hy;obtain ⟨q1,q2,q3⟩:=hl i x a;obtain ⟨r1,r2⟩:=khx (kww e);refine ⟨q1,by omega,fun z b=>?_⟩;obtain ⟨j,f,rfl⟩:=qap.1 b;have d:x.cells[j]?=some (x.cells[j]'(by omega)):=qa _;exact kut (r2 j _ _ d (qa f)) (q3 _ (qaq _))
  ·obtain ⟨x,a,e⟩:=get i y hy;obtain ⟨r1,r2⟩:=khx (kww e);have f:=(qd.1 b).1;have d:x.cells[j]?=some (x.cells[j]'(by omega)):=qa _;exact ih i x j u _ a hu d (r2 j _ _ d b)
 | fp=>intro y hy;cases y <;> simp only [leFV] at hy <;> cases hy
 | bx=>intro y hy;cases y <;> simp only [leFV] at hy <;> cases hy
 | bn=>intro y hy;cases y <;> simp only [leFV] at hy <;> cases hy
theorem PCall.le {f:FuncId} {xs ys:List FV} {r:FV} (h:PCall P f xs r) (a:kjz ys xs=true):PCall P f ys r:=by obtain ⟨k1,k2⟩:=khx a;refine ⟨h.1,fun S w vs hs hv=>h.2 S w vs (by omega) fun i v x b c=>?_⟩;have hi:=(qd.1 c).1;have hy:ys[i]?=some (ys[i]'(by omega)):=qa _;exact kaa9 (hv i v _ b hy) (k2 i _ _ hy c)
end Go.Proofs.YtnlhjbnpjefjgabGreatDoor
