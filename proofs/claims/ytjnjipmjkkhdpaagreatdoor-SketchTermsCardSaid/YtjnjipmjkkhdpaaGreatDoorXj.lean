import Derived.Test.YtjnjipmjkkhdpaaGreatDoorXg
import Derived.Scope
set_option linter.all false
namespace Go.Proofs.YtjnjipmjkkhdpaaGreatDoor
open Go Go.RowKit
def Hist (st st':St) (ψ ψ':Env) (S S':Nat->Prop) (w w':World):Prop:=Ext (·∈st.ids) ψ ψ'/\(∀ i,i∈st.ids->i∈st'.ids)/\(∀ b,S b->S' b)/\Same S w w'
def PX (F S0:Nat->Prop) (N0:Nat) (ψ:Env) (S:Nat->Prop) (w:World) (st:St) (e0:Exit) (st':St) (e:Exit) (a':Act) (w':World):Prop:=
 e=e0/\∃ ψ' S',Sim F S0 N0 st' ψ' S' a' w'/\Fr F w w'/\Hist st st' ψ ψ' S S' w w'
def XW (P:Program) (c:Code) (st:St) (e:Exit) (st':St):Prop:=
 ∀ F S0 N0 ψ S a w,Sim F S0 N0 st ψ S a w->Cwp P c (PX F S0 N0 ψ S w st e st') a w
def XR (P:Program) (c:Code) (st:St) (e:Exit) (st':St):Prop:=
 ∃ n,∀ F S0 N0 ψ S a w,Sim F S0 N0 st ψ S a w->khk P c (PX F S0 N0 ψ S w st e st') n a w
def XWL (P:Program) (ops:Array Oper) (l:List Oper) (st st':St):Prop:=
 ∀ F S0 N0 ψ S a w,Sim F S0 N0 st ψ S a w->ka5 P ops (PX F S0 N0 ψ S w st .normal st') l a w
def okX:Exit->Bool
 | .normal=>true
 | .ret=>true
 | .exit _=>true
 | _=>false
def XC (P:Program) (c:Code) (st:St) (e:Exit) (st':St):Prop:=match c with
 | .loop x=>XR P x st e st'
 | c=>XW P c st e st'
def LG (s s1:XS):Prop:=s.k<=s1.k/\∃ new,s1.lg=new++s.lg/\∀ id,id∉new->∀ ob,kaa s.heap id=some ob->kaa s1.heap id=some ob
variable {P:Program} {F S0:Nat->Prop} {N0:Nat} {w w' w0:World} {S S':Nat->Prop} {ψ ψ':Env} {K:Nat->Prop} {T:List (TypeId×TD)} {Z:List (TypeId×Value)} {o:Oper} {a a':Act} {st st' st1 st2:St} {t tx:TypeId} {d:TD} {id:Nat} {c:AV} {s s1 s2:XS} {e:Exit}
theorem k89 {l:List (Nat×AV)} {t:Nat}:getQ l t=look .any l t:=by
 induction l with
 | nil=>rfl
 | cons p l ih=>
  obtain ⟨k,v⟩:=p;rw [kaw,<- ih];have hs:getQ ((k,v)::l) t=Bool.rec (motive:=fun _=>AV) (getQ l t) v (Nat.beq k t):=rfl;rw [hs];by_cases h:k=t;subst h;simp
  ·rw [qj h,Nat.beq_eq_false h]
theorem k0e {l:List (Nat×AObj)} {t:Nat}:getO l t=kaa l t:=by
 induction l with
 | nil=>rfl
 | cons p l ih=>
  obtain ⟨k,v⟩:=p;rw [kab,<- ih];have hs:getO ((k,v)::l) t=Bool.rec (motive:=fun _=>Option AObj) (getO l t) (some v) (Nat.beq k t):=rfl;rw [hs];by_cases h:k=t;subst h;simp
  ·rw [qj h,Nat.beq_eq_false h]
theorem kmf {l:List (Nat×AV)} {t j:Nat} {v:AV}:look .any (kjk l t v) j=if t=j then v else look .any l j:=by
 induction l with
 | nil=>exact kaw
 | cons p l ih=>
  obtain ⟨k,u⟩:=p;have hs:kjk ((k,u)::l) t v=Bool.rec ((k,u)::kjk l t v) ((t,v)::l) (Nat.beq k t):=rfl;rw [hs,kaw];by_cases h:k=t
  ·subst h;simp only [Nat.beq_refl];rw [kaw];by_cases a:k=j;rw [qr a,qr a]
   ·rw [qj a,qj a,qj a]
  ·rw [Nat.beq_eq_false h];simp only;rw [kaw,ih];by_cases a:k=j;rw [qr a,qr a,qj (fun e=>h (a.trans e.symm))]
   ·rw [qj a,qj a]
theorem ksd {l:List (Nat×AObj)} {t j:Nat} {v:AObj}:kaa (krx l t v) j=if t=j then some v else kaa l j:=by
 induction l with
 | nil=>exact kab
 | cons p l ih=>
  obtain ⟨k,u⟩:=p;have hs:krx ((k,u)::l) t v=Bool.rec ((k,u)::krx l t v) ((t,v)::l) (Nat.beq k t):=rfl;rw [hs,kab];by_cases h:k=t
  ·subst h;simp only [Nat.beq_refl];rw [kab];by_cases a:k=j;rw [qr a,qr a]
   ·rw [qj a,qj a,qj a]
  ·rw [Nat.beq_eq_false h];simp only;rw [kab,ih];by_cases a:k=j;rw [qr a,qr a,qj (fun e=>h (a.trans e.symm))]
   ·rw [qj a,qj a]
theorem E_eq (D:List Deferred):s.E=(s.st D).eval:=by
 funext x;cases x with
 | tmp t=>exact k89
 | _=>rfl
theorem H_eq (D:List Deferred):s.H=kaa (s.st D).heap:=by funext i;exact k0e
theorem mem_idsN {i k:Nat}:i∈idsN k↔i<k:=by
 induction k with
 | zero=>simp [idsN]
 | succ k ih=>
  simp only [idsN,qaa,ih];omega
theorem k2i {k:Nat}:(idsN k).contains k=false:=by
 cases h:(idsN k).contains k with
 | false=>rfl
 | true=>
  have:k∈idsN k:=by simpa using h
  have:=mem_idsN.1 this;omega
theorem Core.congr {h1 d:List (Nat×AObj)} {ids:List Nat} (h:Core F S0 N0 h1 ids ψ S w) (e:∀ id,kaa d id=kaa h1 id):Core F S0 N0 d ids ψ S w:=
 ⟨fun id o a=>h.obj id o ((e id) ▸ a),fun i i' o o' b a c=>h.inj i i' o o' b ((e i) ▸ a) ((e i') ▸ c),h.lt,h.s0,h.n0,h.fr⟩
theorem Sim.congr (h:Sim F S0 N0 st ψ S a w) (hn:st'.n=st.n) (b:∀ t,st'.get t=st.get t) (c:∀ id,kaa st'.heap id=kaa st.heap id) (hi:st'.ids=st.ids) (hd:st'.dfr=st.dfr):Sim F S0 N0 st' ψ S a w:=
 ⟨h.defers.trans hd.symm,by rw [hn];exact h.size,fun t=>by rw [b,hi];exact h.tmps t,by rw [hi];exact h.core.congr c⟩
theorem Hist.refl:Hist st st ψ ψ S S w w:=⟨Ext.refl,fun _ h=>h,fun _ h=>h,fun _ _ _=>rfl⟩
theorem Hist.trans {ψ2:Env} {S2:Nat->Prop} {w2:World} (h:Hist st st1 ψ ψ' S S' w w') (k:Hist st1 st2 ψ' ψ2 S' S2 w' w2):Hist st st2 ψ ψ2 S S2 w w2:=
 ⟨h.1.trans' k.1 h.2.1,fun i hi=>k.2.1 i (h.2.1 i hi),fun b a=>k.2.2.1 b (h.2.2.1 b a),h.2.2.2.trans' k.2.2.2 h.2.2.1⟩
theorem PX.pre {w2:World} {e':Exit} (a:Fr F w w') (b:Hist st st1 ψ ψ' S S' w w') (k:PX F S0 N0 ψ' S' w' st1 e st2 e' a' w2):PX F S0 N0 ψ S w st e st2 e' a' w2:=by obtain ⟨rfl,ψ2,S2,h1,c,d⟩:=k;exact ⟨rfl,ψ2,S2,h1,a.trans c,b.trans d⟩
theorem k8y:XW P .skip st .normal st:=fun F S0 N0 ψ S a w hs=>k0t ⟨rfl,ψ,S,hs,Fr.refl,Hist.refl⟩
theorem k9k {i:Nat}:XW P (.exit i) st (.exit i) st:=fun F S0 N0 ψ S a w hs=>k1a ⟨rfl,ψ,S,hs,Fr.refl,Hist.refl⟩
theorem kaav:XW P .ret st .ret st:=fun F S0 N0 ψ S a w hs=>k4n ⟨rfl,ψ,S,hs,Fr.refl,Hist.refl⟩
theorem kaba {x y:Code} (h:XW P x st .normal st1) (k:XW P y st1 e st2):XW P (.seq x y) st e st2:=fun F S0 N0 ψ S a w hs=>
 kq5 (kbq (h F S0 N0 ψ S a w hs) fun e' a' w' ⟨b,ψ',S',h1,c,d⟩=>by subst b;exact kbq (k F S0 N0 ψ' S' a' w' h1) fun e2 a2 w2 q=>q.pre c d)
theorem k8v {x y:Code} (h:XW P x st e st1) (hn:e ≠ .normal):XW P (.seq x y) st e st1:=fun F S0 N0 ψ S a w hs=>
 kq5 (kbq (h F S0 N0 ψ S a w hs) fun e' a' w' q=>by have:=q.1;subst this;cases e' <;> first | exact absurd rfl hn | exact q)
theorem kaac {cc:Operand} {x y:Code} {b:Bool} (hc:st.eval cc = .fz (.atom (.bool b))) (h:XW P (bif b then x else y) st e st1):XW P (.cond cc x y) st e st1:=fun F S0 N0 ψ S a w hs=>by have c:=hs.eval cc;rw [hc] at c;refine k0v b c.atom ?_;cases b <;> exact h F S0 N0 ψ S a w hs
theorem k6h {i:Nat} {x:Code} (h:XW P x st (.exit i) st1):XW P (.block i x) st .normal st1:=fun F S0 N0 ψ S a w hs=>
 ksv (kbq (h F S0 N0 ψ S a w hs) fun e' a' w' q=>by have:=q.1;subst this;simp only [Exit.inBlock,if_true];exact ⟨rfl,q.2⟩)
theorem kwn {i:Nat} {x:Code} (h:XW P x st e st1) (hn:e ≠ .exit i):XW P (.block i x) st e st1:=fun F S0 N0 ψ S a w hs=>
 ksv (kbq (h F S0 N0 ψ S a w hs) fun e' a' w' q=>by
  have:=q.1;subst this;cases e' <;> simp only [Exit.inBlock] <;> try exact q
  rename_i j;rw [qj (fun h=>hn (by rw [h]))];exact q)
theorem xr_go {x:Code} (h:XW P x st .normal st1) (k:XR P x st1 e st2):XR P x st e st2:=by
 obtain ⟨n,k⟩:=k;refine ⟨n+1,fun F S0 N0 ψ S a w hs=>?_⟩;rw [ki9];refine kbq (h F S0 N0 ψ S a w hs) fun e' a' w' ⟨b,ψ',S',h1,c,d⟩=>?_;subst b;have mono:∀ (n:Nat) (a:Act) (w2:World),khk P x (PX F S0 N0 ψ' S' w' st1 e st2) n a w2->khk P x (PX F S0 N0 ψ S w st e st2) n a w2:=by
  intro n
  induction n with
  | zero=>intro a w2 h;exact h.elim
  | succ n ih=>
   intro a w2 h;rw [ki9] at h ⊢;refine kbq h fun e3 a3 w3 q=>?_;cases e3 with
   | normal=>exact ih _ _ q
   | _=>exact PX.pre c d q
 exact mono n a' w' (k F S0 N0 ψ' S' a' w' h1)
theorem kabr {x:Code} (h:XW P x st e st1) (hn:e ≠ .normal):XR P x st e st1:=by refine ⟨1,fun F S0 N0 ψ S a w hs=>?_⟩;rw [ki9];refine kbq (h F S0 N0 ψ S a w hs) fun e' a' w' q=>?_;have:=q.1;subst this;cases e' <;> first | exact absurd rfl hn | exact q
theorem k9t {x:Code} (h:XR P x st e st1):XW P (.loop x) st e st1:=by obtain ⟨n,h⟩:=h;exact fun F S0 N0 ψ S a w hs=>kkw n (h F S0 N0 ψ S a w hs)
theorem k7a {x:Code} (h:XW P x st e st1) (b:okX e=true):XW P (.scope x) st e st1:=fun F S0 N0 ψ S a w hs=>
 wp_wide.2 (wp_scope_straight (wp_wide.1 (kbq (h F S0 N0 ψ S a w hs) fun e' a' w' q=>by have:=q.1;subst this;cases e' <;> first | exact q | cases b)))
theorem XC.xw {x:Code} (h:XC P x st e st1):XW P x st e st1:=by
 unfold XC at h;split at h;exact k9t h
 ·exact h
theorem k44 {i:Nat} {ops:Array Oper} (h:XWL P ops ops.toList st st1):XW P (.region i ops false) st .normal st1:=fun F S0 N0 ψ S a w hs=>kk6 (h F S0 N0 ψ S a w hs)
theorem kaax {ops:Array Oper}:XWL P ops [] st st:=fun F S0 N0 ψ S a w hs=>⟨rfl,ψ,S,hs,Fr.refl,Hist.refl⟩
theorem k9c {ops:Array Oper} {l:List Oper} {b:List (Nat×AObj)} {ids':List Nat} (h:StepA P o st c b ids') (s:kbi ops st o=some true) (hd:∀ t,o.dst=some t->t<st.n)
  (hn:st2.n=st.n) (d:∀ t,st2.get t=(({ st with heap:=b,ids:=ids' }:St).put o.dst c).get t) (u:st2.heap=b) (hi:st2.ids=ids') (f:st2.dfr=st.dfr) (k:XWL P ops l st2 st1):XWL P ops (o::l) st st1:=fun F S0 N0 ψ S a w hs=>by
 unfold ka5;rw [kdp hs s];refine (kje ?_ (h F S0 N0 ψ S a w hs));rintro v w' ⟨ψ',S',h1,x,y,j,m,p,r⟩;have hp:=hs.put (st':={ st with heap:=b,ids:=ids' }) rfl rfl rfl h1 x j m p r hd;have e1:(({ st with heap:=b,ids:=ids' }:St).put o.dst c).n=st.n/\(({ st with heap:=b,ids:=ids' }:St).put o.dst c).heap=b/\(({ st with heap:=b,ids:=ids' }:St).put o.dst c).ids=ids'/\(({ st with heap:=b,ids:=ids' }:St).put o.dst c).dfr=st.dfr:=by cases o.dst <;> exact ⟨rfl,rfl,rfl,rfl⟩
 have g:Sim F S0 N0 st2 ψ' S' (a.put o.dst v) w':=hp.congr (hn.trans e1.1.symm) d (fun i=>by rw [u,e1.2.1]) (by rw [hi,e1.2.2.1]) (by rw [f,e1.2.2.2]);exact kcu (fun e a' w'' q=>q.pre y ⟨j,by rw [hi];exact m,p,r⟩) _ _ _ (k F S0 N0 ψ' S' _ w' g)
theorem k90 {ops:Array Oper} {l:List Oper} (f:kbi ops st o=some false) (hd:∀ t,o.dst=some t->t<st.n) (hn:st2.n=st.n) (b:∀ t,st2.get t=(st.put o.dst (.fz (.tup []))).get t) (g:st2.heap=st.heap) (hi:st2.ids=st.ids) (c:st2.dfr=st.dfr) (k:XWL P ops l st2 st1):XWL P ops (o::l) st st1:=fun F S0 N0 ψ S a w hs=>by
 unfold ka5;rw [kdp hs f];have hp:=hs.put (st':=st) rfl rfl rfl hs.core (.fz RF.undef) Ext.refl (fun _ h=>h) (fun _ h=>h) (fun _ _ _=>rfl) hd;have e1:(st.put o.dst (.fz (.tup []))).n=st.n/\(st.put o.dst (.fz (.tup []))).heap=st.heap/\(st.put o.dst (.fz (.tup []))).ids=st.ids/\(st.put o.dst (.fz (.tup []))).dfr=st.dfr:=by cases o.dst <;> exact ⟨rfl,rfl,rfl,rfl⟩
 have d:Sim F S0 N0 st2 ψ S (a.put o.dst undef) w:=hp.congr (hn.trans e1.1.symm) b (fun i=>by rw [g,e1.2.1]) (by rw [hi,e1.2.2.1]) (by rw [c,e1.2.2.2]);exact kcu (fun e a' w'' q=>q.pre Fr.refl ⟨Ext.refl,fun i h=>by rw [hi];exact h,fun _ h=>h,fun _ _ _=>rfl⟩) _ _ _ (k F S0 N0 ψ S _ w d)
theorem LG.refl:LG s s:=⟨qv _,[],rfl,fun _ _ _ h=>h⟩
theorem LG.trans (h:LG s s1) (k:LG s1 s2):LG s s2:=by obtain ⟨m1,n1,e1,h1⟩:=h;obtain ⟨m2,n2,e2,b⟩:=k;refine ⟨qar m1 m2,n2++n1,by rw [e2,e1,qbi],fun id a ob c=>?_⟩;simp only [qaz,not_or] at a;exact b id a.1 ob (h1 id a.2 ob c)
theorem ku8 {D:List Deferred} {s:XS} {dd:Option Nat} {v:AV} (h:List (Nat×AObj)) (ids:List Nat) (t:Nat) (hs:s1.tmps=s.tmps):((s1.put dd v).st D).get t=(({ s.st D with heap:=h,ids:=ids }:St).put dd v).get t:=by
 cases dd with
 | none=>show look .any s1.tmps t=look .any s.tmps t;rw [hs]
 | some d=>
  show look .any (kjk s1.tmps d v) t=look .any ((d,v)::s.tmps) t;rw [kmf,kaw,hs]
theorem ko8 (s:XS) (dd:Option Nat) (v:AV):(s.put dd v).n=s.n/\(s.put dd v).heap=s.heap/\(s.put dd v).k=s.k/\(s.put dd v).lg=s.lg:=by cases dd <;> exact ⟨rfl,rfl,rfl,rfl⟩
theorem LG.put {dd:Option Nat} {v:AV} (h:LG (s1.put dd v) s2):LG s1 s2:=by obtain ⟨_,e1,e3,e2⟩:=ko8 s1 dd v;obtain ⟨h0,new,h1,a⟩:=h;rw [e2] at h1;rw [e1] at a;rw [e3] at h0;exact ⟨h0,new,h1,a⟩
def k33 (P:Program) (o:Oper) (s:XS) (c:AV) (s1:XS):Prop:=(∀ D,StepA P o (s.st D) c s1.heap (idsN s1.k))/\s1.n=s.n/\s1.tmps=s.tmps/\LG s s1
theorem kabs {dl:Dl} (h:∀ D,StepA P o (s.st D) c (kii (s.st D) s.k dl) (dIds (s.st D) s.k dl)):k33 P o s c (s.app dl):=by
 cases dl with
 | no=>exact ⟨h,rfl,rfl,LG.refl⟩
 | new ob=>
  refine ⟨h,rfl,rfl,Nat.le_succ _,[s.k],rfl,fun id b ob' d=>?_⟩;show kaa ((s.k,ob)::s.heap) id=_;rw [kab,qj (fun e=>b (by rw [e];exact qat.2 rfl))];exact d
 | upd i ob=>
  refine ⟨fun D F S0 N0 ψ S a w hs=>kif (fun v w' ⟨ψ',S',h1,f⟩=>⟨ψ',S',h1.congr fun id=>?_,f⟩) (h D F S0 N0 ψ S a w hs),rfl,rfl,qv _,[i],rfl,fun id b ob' d=>?_⟩;show kaa (krx s.heap i ob) id=_;rw [ksd,qj (fun e=>b (by rw [e];exact qat.2 rfl))];exact d
  ·show kaa (krx s.heap i ob) id=kaa ((i,ob)::s.heap) id;rw [ksd,kab]
def FT.ok (P:Program):FT->Prop
 | .lf=>True
 | .nd k v l r => (P.funcs[k]? = some v /\ (v.name == "runtime.NumGoroutine") = false) /\ FT.ok P l /\ FT.ok P r
def FT.fl:FT->List (Nat×Func)
 | .lf=>[]
 | .nd k v l r=>(k,v)::(FT.fl l++FT.fl r)
theorem FT.ok_of {P : Program} : ∀ {t : FT}, (FT.fl t).map (fun p => (P.funcs[p.1]?, p.2.name == "runtime.NumGoroutine")) = (FT.fl t).map (fun p => (some p.2, false)) -> FT.ok P t
 | .lf,_=>trivial
 | .nd k v l r,h=>by simp only [FT.fl,qba,List.map_append,List.cons.injEq,qp] at h;obtain ⟨h1,b⟩:=h;have a:=List.append_inj b (by simp);exact ⟨h1,FT.ok_of a.1,FT.ok_of a.2⟩
def IbOk (P : Program) (f : Nat) : Prop := ∃ fn, P.funcs[f]? = some fn /\ (fn.name == "runtime.NumGoroutine") = false /\ fn.body.isNone = true /\ Extern.findNext fn = none /\ Extern.find fn = some Extern.BytealgIndexByte.indexByte
structure CxOk (P:Program) (C:Cx):Prop where
 T:TOk P C.T
 Z:ZOk P C.Z
 fn:C.fn.ok P
 fx:∀ p∈C.fx,PCall P p.1 p.2.1 p.2.2
 ib:∀ f∈C.ib,IbOk P f
 mixed:P.follows .mixedOrders=true
def EvOk (P:Program) (ih:EvT):Prop:=∀ mu c s e s1,ih mu c s=some (e,s1)->(∀ D,XC P c (s.st D) e (s1.st D))/\okX e=true/\LG s s1/\s1.n=s.n
variable {C:Cx} {ih:EvT}
theorem FT.get_ok {v : Func} {f : Nat} : ∀ {tr : FT}, tr.ok P -> tr.get f = some v -> P.funcs[f]? = some v /\ (v.name == "runtime.NumGoroutine") = false
 | .lf,_,h=>by cases h
 | .nd k u l r,b,h=>by
  obtain ⟨h0,hl,hr⟩:=b;have hs:(FT.nd k u l r).get f=Bool.rec (motive:=fun _=>Option Func) (Bool.rec (motive:=fun _=>Option Func) (r.get f) (l.get f) (Nat.blt f k)) (some u) (Nat.beq k f):=rfl;rw [hs] at h;cases hk:Nat.beq k f with
  | true=>
   rw [hk] at h;injection h with h;rw [<- qe hk,<- h];exact h0
  | false=>
   rw [hk] at h;simp only at h;cases a:Nat.blt f k with
   | true=>rw [a] at h;exact FT.get_ok hl h
   | false=>rw [a] at h;exact FT.get_ok hr h
theorem kym (c:TOk P T) (hs:Sim F S0 N0 st ψ S a w):∀ {rs:List ResultVar} {ys:List AV},krz T st.eval (kaa st.heap) rs=some ys ->
  ∃ vs:List Value,(rs.mapM (kfz a.tmps)).run P w = .ok vs w/\vs.length=ys.length/\∀ (i:Nat) (v:Value) (y:AV),vs[i]?=some v->ys[i]?=some y->RV ψ (·∈st.ids) S w v y
 | [],ys,h=>by simp only [krz,qc] at h;subst h;exact ⟨[],by simp,rfl,fun i v y h=>by simp at h⟩
 | r::rs,ys,h=>by
  simp only [krz] at h;split at h
  ·rename_i y ys' h1 e;injection h with h;subst h;obtain ⟨vs,k1,k2,k3⟩:=kym c hs e;have key:∃ v,(kfz a.tmps r).run P w = .ok v w/\RV ψ (·∈st.ids) S w v y:=by
    unfold resE at h1;split at h1;rename_i t;injection h1 with h1;subst h1;exact ⟨_,rfl,hs.tmps t⟩
    ·rename_i x t;split at h1;rename_i d xs hd hx;obtain ⟨b,off,e1,hcl⟩:=kvu (hs.tmps x) (fun id o f=>(hs.core.obj id o f).2.1) hx;obtain ⟨u,e2,e3⟩:=kuu (P:=P) (c.get hd) hcl h1;refine ⟨u,?_,e3⟩;simp only [kfz,e1,asAddr,Sem.run_bind,Sem.run_pure,Result.andThen_ok,e2]
     ·cases h1
   obtain ⟨v,e1,e2⟩:=key;refine ⟨v::vs,?_,by simp [k2],fun i v' y' hv hy=>?_⟩;rw [List.mapM_cons];simp only [Sem.run_bind,e1,Result.andThen_ok,k1,Sem.run_pure]
   ·cases i with
    | zero=>simp at hv hy;subst hv hy;exact e2
    | succ i=>exact k3 i v' y' (by simpa using hv) (by simpa using hy)
  ·cases h
theorem k07 (d:TOk P T) (hs:Sim F S0 N0 st ψ S a w) {fn:Func} {y:AV} (h:retE T st.eval (kaa st.heap) fn.results.toList=some y):∃ v,(results fn a.tmps).run P w = .ok v w/\RV ψ (·∈st.ids) S w v y:=by
 unfold retE at h;have key:∀ ys,krz T st.eval (kaa st.heap) fn.results.toList=some ys->∃ vs:List Value,(results fn a.tmps).run P w = .ok (if h:vs.length=1 then vs[0] else .tuple vs.toArray) w/\vs.length=ys.length/\∀ (i:Nat) (v:Value) (y:AV),vs[i]?=some v->ys[i]?=some y->RV ψ (·∈st.ids) S w v y:=fun ys hy=>by
  obtain ⟨vs,k1,k2,k3⟩:=kym d hs hy;refine ⟨vs,?_,k2,k3⟩;unfold results;rw [Array.mapM_eq_mapM_toList];have b:∀ (g:ResultVar->Sem Value),(∀ x,g x=kfz a.tmps x)->(fn.results.toList.mapM g).run P w = .ok vs w:=fun g b=>by rw [show g=kfz a.tmps from funext b];exact k1
  simp only [Sem.run_bind,Sem.run_map];rw [b _ fun x=>by cases x <;> rfl];simp only [Result.andThen_ok,Sem.run_pure];simp
 split at h
 ·rename_i z e;injection h with h;subst h;obtain ⟨vs,k1,k2,k3⟩:=key _ e;have hl:vs.length=1:=by simpa using k2
  rw [dif_pos hl] at k1;exact ⟨_,k1,k3 0 _ _ (qa (by omega)) rfl⟩
 ·rename_i ys c hy;injection h with h;subst h;obtain ⟨vs,k1,k2,k3⟩:=key _ hy;have hl:¬ vs.length=1:=fun hl=>by rw [k2] at hl;obtain ⟨z,rfl⟩:=List.length_eq_one_iff.1 hl;exact c z rfl
  rw [dif_neg hl] at k1;exact ⟨_,k1,RV.tupA (by simpa using k2) fun i v x hv hx=>k3 i v x (by simpa using hv) hx⟩
 ·cases h
theorem kmt {f : FuncId} {fst caps : Array Value} {x : Operand} {args : Array Operand} {ts : Array TypeId} (e : o.op = .call { callee := .value x, args := args, argTypes := ts }) (hx : a.eval x = .func (.func f) fst caps) (g : ∃ fn, P.funcs[f]? = some fn /\ fn.body.isNone = false /\ (fn.name == "runtime.NumGoroutine") = false) :
  (execOp a.eval o).run P w = .ok (.enter f ((fst++args.map a.eval)++caps)) w:=by
 obtain ⟨fn,h1,c,d⟩:=g;have b:fn.body≠none:=by intro h;rw [h] at c;cases c
 simp only [qa0,ne_eq] at d;simp [execOp,e,resolve,hx,Deferred.ofValue,invoke,callFunc,h1,b,d]
def RVL (ψ:Env) (K S:Nat->Prop) (w:World) (vs:List Value) (xs:List AV):Prop:=vs.length=xs.length/\∀ (i:Nat) (v:Value) (x:AV),vs[i]?=some v->xs[i]?=some x->RV ψ K S w v x
theorem RVL.append {vs us:List Value} {xs ys:List AV} (h:RVL ψ K S w vs xs) (k:RVL ψ K S w us ys):RVL ψ K S w (vs++us) (xs++ys):=by
 refine ⟨by simp [h.1,k.1],fun i v x hv hx=>?_⟩;by_cases hi:i<vs.length;rw [qab hi] at hv;rw [qab (by rw [<- h.1];exact hi)] at hx;exact h.2 i v x hv hx
 ·rw [qad (by omega)] at hv;rw [qad (by rw [<- h.1];omega),<- h.1] at hx;exact k.2 _ v x hv hx
theorem RVL.evals {ids:List Nat} (ht:∀ t,RV ψ (·∈ids) S w (a.tmps.getD t undef) (st.get t)) (l:List Operand):RVL ψ (·∈ids) S w (l.map a.eval) (l.map st.eval):=by refine ⟨by simp,fun i v x hv hx=>?_⟩;rw [ql,qn] at hv hx;obtain ⟨y,hy,rfl⟩:=hv;obtain ⟨z,b,rfl⟩:=hx;rw [hy] at b;injection b with b;subst b;exact Sim.eval_tmps ht y
theorem klm {f:Nat} {fst caps:List AV} {x:Operand} (args:Array Operand) {ids:List Nat} (ht:∀ t,RV ψ (·∈ids) S w (a.tmps.getD t undef) (st.get t)) (h:kjs st.eval x=some (f,fst,caps)):
  ∃ vf vc:Array Value,a.eval x = .func (.func f) vf vc/\RVL ψ (·∈ids) S w ((vf++args.map a.eval)++vc).toList (fst++(args.toList.map st.eval++caps)):=by
 have hv:=Sim.eval_tmps ht x;have fin:∀ (vf vc:Array Value),RVL ψ (·∈ids) S w vf.toList fst->RVL ψ (·∈ids) S w vc.toList caps->RVL ψ (·∈ids) S w ((vf++args.map a.eval)++vc).toList (fst++(args.toList.map st.eval++caps)):=fun vf vc h1 b=>by have:=h1.append ((RVL.evals ht args.toList).append b);simpa [qbi] using this
 unfold kjs at h;split at h
 ·rename_i g cs hx;simp only [qc,qp] at h;obtain ⟨rfl,rfl,rfl⟩:=h;rw [hx] at hv;generalize a.eval x=u at hv;cases hv with
  | @fn _ vc _ h1 b=>exact ⟨#[],vc,rfl,fin _ _ ⟨rfl,fun i v x h=>by simp at h⟩ ⟨by simpa using h1,fun i v x hv hx=>b i v x (by simpa using hv) hx⟩⟩
 ·rename_i g cs hx;simp only [qc,qp] at h;obtain ⟨rfl,rfl,rfl⟩:=h;rw [hx] at hv;generalize a.eval x=u at hv;cases hv with
  | @mth _ vf _ h1 b=>exact ⟨vf,#[],rfl,fin _ _ ⟨by simpa using h1,fun i v x hv hx=>b i v x (by simpa using hv) hx⟩ ⟨rfl,fun i v x h=>by simp at h⟩⟩
 ·cases h
theorem k3x {f:Nat} {fst caps:List AV} {x:Operand} {args:Array Operand} {ts:Array TypeId} {y:AV} {b:List (Nat×AObj)} {ids':List Nat} (l:o.op = .call { callee := .value x,args:=args,argTypes:=ts }) (hc:kjs st.eval x=some (f,fst,caps))
  (h:HCall P f (fst++(args.toList.map st.eval++caps)) st.heap st.ids (.ret y) b ids'):StepA P o st y b ids':=by
 intro F S0 N0 ψ S a w hs;obtain ⟨vf,vc,hx,h1,m⟩:=klm args hs.tmps hc;unfold kce;rw [kmt l hx h.1];refine (h.2 F S0 N0 ψ S w _ (by simpa using h1) (fun i v x hv hx=>m i v x (by rw [qal];exact hv) hx) hs.core).mono ?_;rintro e w' ⟨ψ',S',⟨v,rfl,hv⟩,c,k,g,j,hS,d⟩;exact ⟨v,rfl,ψ',S',c,hv,k,g,j,hS,d⟩
theorem kaae {f:Nat} {fst caps:List AV} {x:Operand} {args:Array Operand} {ts:Array TypeId} {ys:List FV} {r:FV} (c:o.op = .call { callee := .value x,args:=args,argTypes:=ts }) (hc:kjs st.eval x=some (f,fst,caps)) (d:kka (fst++(args.toList.map st.eval++caps))=some ys)
  (h:PCall P f ys r):NStep P o st (.fz r):=by
 intro ψ S a w ht j;obtain ⟨vf,vc,hx,h1,b⟩:=klm args ht hc;rw [kj3 d] at h1 b;unfold kce;rw [kmt c hx h.1];refine (h.2 S w _ (by simpa using h1) fun i v x hv hx=>(b i v (.fz x) (by rw [qal];exact hv) (by rw [ql,hx];rfl)).inv).mono ?_;rintro e w' ⟨v,rfl,hv,g⟩;exact ⟨v,rfl,g, .fz hv⟩
theorem ky0 {c:UInt8}:∀ {l:List UInt8} {i:Nat},kn0 c l i=if Lib.indexByte l c = -1 then -1 else Lib.indexByte l c+i
 | [],i=>by simp [kn0,Lib.indexByte]
 | x::l,i=>by
  have a:∀ l:List UInt8,-1<=Lib.indexByte l c:=fun l=>by
   induction l with
   | nil=>simp [Lib.indexByte]
   | cons y l ih=>
    simp only [Lib.indexByte];split;omega
    ·split;omega
     ·omega
  by_cases h:x=c;subst h;simp [kn0,Lib.indexByte]
  ·have h1:(x == c)=false:=(by simpa using h);have b:Nat.beq x.toNat c.toNat=false:=Nat.beq_eq_false fun e=>h (UInt8.toNat_inj.1 e);have d:Lib.indexByte (x::l) c=if Lib.indexByte l c = -1 then -1 else Lib.indexByte l c+1:=by
    simp only [Lib.indexByte,h1,Bool.false_eq_true,if_false];by_cases hm:Lib.indexByte l c = -1;simp [hm]
    ·have:(Lib.indexByte l c == -1)=false:=(by simpa using hm);simp [hm]
   rw [d];simp only [kn0,b,qo];rw [ky0];have:=a l;by_cases hm:Lib.indexByte l c = -1;simp [hm]
   ·rw [qj hm,qj hm,qj (by omega)];omega
theorem ib_n {f:Nat} {fst caps:List AV} {x:Operand} {args:Array Operand} {ts:Array TypeId} {u:BA} {cc:Int} (g:o.op = .call { callee := .value x,args:=args,argTypes:=ts }) (hc:kjs st.eval x=some (f,fst,caps)) (j:kka (fst++(args.toList.map st.eval++caps))=some [.atom (.string u), .atom (.int .u8 cc)])
  (h:IbOk P f):NStep P o st (.fz (.atom (.int .i64 (kn0 cc.toNat.toUInt8 u.data.toList 0)))):=by
 obtain ⟨fn,k,b,l,hn,m⟩:=h;intro ψ S a w ht r;obtain ⟨vf,vc,hx,h1,c⟩:=klm args ht hc;rw [kj3 j] at h1 c;obtain ⟨q,e⟩:∃ q,q=(vf++args.map a.eval)++vc:=⟨_,rfl⟩;rw [<- e] at h1 c;have d:q=#[.string u, .int .u8 cc]:=by
  have hl:q.size=2:=by simpa using h1
  apply Array.ext (by simpa using hl);intro i n p;have hi:i<2:=by omega
  match i,hi with
  | 0,_=>exact (c 0 q[0] _ (by simp [hl]) rfl).atom
  | 1,_=>exact (c 1 q[1] _ (by simp [hl]) rfl).atom
 have hi:kn0 cc.toNat.toUInt8 u.data.toList 0=Lib.indexByte u.data.toList cc.toNat.toUInt8:=by
  rw [ky0];split;rename_i h;exact h.symm
  ·simp
 rw [hi];refine kad w (.int .i64 (Lib.indexByte u.data.toList cc.toNat.toUInt8)) ?_ ⟨kae _, .fz (.atom rfl)⟩;have hr:(callFunc f q).run P w = .ok (.value (.int .i64 (Lib.indexByte u.data.toList cc.toNat.toUInt8))) w:=by rw [run_callFunc_extern k b l hn m,d,Lib.run_indexByteString];rfl
 rw [e] at hr;simp [execOp,g,resolve,hx,Deferred.ofValue,invoke] at hr ⊢;simpa [Array.append_assoc] using hr
theorem k6s {b x c1:Code} {rid t:Nat} {o1 o2:Oper} (h:kxc b=some (x,rid,o1,o2,t,c1)):b = .seq x (.seq (.region rid #[o1,o2] false) c1)/\o1.dst=some t/\o1.guard=none/\o2.dst=none/\o2.guard=none/\∃ ts,o2.op = .defer { callee := .value (.tmp t),args:=#[],argTypes:=ts }:=by
 unfold kxc at h;split at h
 ·rename_i x' rid' os c;split at h
  ·rename_i p1 p2 a;split at h
   ·rename_i t' cl h1 f g i j;split at h;rename_i t2 d e;replace h:=kak h;obtain ⟨k,h⟩:=h;simp only [qc,qp] at h;obtain ⟨rfl,rfl,rfl,rfl,rfl,rfl⟩:=h;obtain rfl:=qe k;obtain ⟨cal,as_,ts⟩:=cl;simp only at d e;have e1:os=#[p1,p2]:=(by apply qbj;simpa using a);have e2:as_=#[]:=(by apply qbj;simpa using e);subst e1 e2 d;exact ⟨rfl,h1,f,i,j,ts,g⟩
    ·cases h
   ·cases h
  ·cases h
 ·cases h
theorem kzv (h:kxi e=true):e = .normal\/e = .ret:=by cases e <;> simp [kxi] at h <;> simp
theorem k3d {args:List AV} {n:Nat} {heap:List (Nat×AObj)} {k:Nat} {lg:List Nat} {vs:Array Value} (b:args.length<=n) (hs:vs.size=args.length) (hr:∀ (i:Nat) (v:Value) (x:AV),vs[i]?=some v->args[i]?=some x->RV ψ (·∈idsN k) S w v x) (hc:Core F S0 N0 heap (idsN k) ψ S w):
  Sim F S0 N0 (XS.st ⟨n,argT 0 args,heap,k,lg⟩ []) ψ S { tmps:=vs++Array.replicate (n - vs.size) undef,defers:=[] } w:=by
 refine ⟨rfl,by show (vs++Array.replicate (n - vs.size) undef).size=n;simp;omega,fun t=>?_,hc⟩;show RV _ _ _ w _ (look .any (argT 0 args) t);rcases khy args 0 t with h | ⟨x,_,h1,c⟩;rw [h];exact .any
 ·rw [c];have h1:args[t]?=some x:=by simpa using h1
  have a:t<vs.size:=by rw [hs];exact (qd.1 h1).1
  have:(vs++Array.replicate (n - vs.size) undef).getD t undef=vs[t]:=by rw [qam,qax a];simp [a]
  show RV _ _ _ w ((vs++Array.replicate (n - vs.size) undef).getD t undef) x;rw [this];exact hr t _ x (by simp [a]) h1
theorem k6g (O : CxOk P C) (p : EvOk P ih) {f : Nat} {fn : Func} {b x c1 : Code} {rid t : Nat} {o1 o2 : Oper} {args : List AV} {heap : List (Nat × AObj)} {k : Nat} {lg : List Nat} {y : AV} (hf : P.funcs[f]? = some fn) (q : (fn.name == "runtime.NumGoroutine") = false) (hb : fn.body = some b) (hd : kxc b = some (x, rid, o1, o2, t, c1))
  (Q:args.length<=fn.ntmps) (ht:t<fn.ntmps) (h:k1w C ih f fn x o1 t c1 ⟨fn.ntmps,argT 0 args,heap,k,lg⟩=some (y,s1)):HCall P f args heap (idsN k) (.ret y) s1.heap (idsN s1.k)/\LG ⟨fn.ntmps,argT 0 args,heap,k,lg⟩ s1:=by
 obtain ⟨rfl,d1,d2,d3,d4,ts,d5⟩:=k6s hd;unfold k1w at h;split at h
 ·rename_i s2 hx;split at h
  ·rename_i f2 caps G;split at h
   ·rename_i fn2 H;obtain ⟨U,m⟩:=FT.get_ok O.fn H;split at h
    ·rename_i ta tb c2 I;split at h
     ·rename_i e s3 V;split at h
      ·rename_i e2 s4 hc2;replace hc2:=kak hc2;obtain ⟨r,hc2⟩:=hc2;simp only [qk] at r;have J:=qh r.2;have he:=kzv r.1;split at h
       ·rename_i y' hy;replace hy:=kak hy;obtain ⟨u,hy⟩:=hy;have u:=kzv u;simp only [qc,qp] at h;obtain ⟨rfl,rfl⟩:=h;obtain ⟨x1,_,x3,x4⟩:=p _ _ _ _ _ hx;obtain ⟨y1,_,y3,y4⟩:=p _ _ _ _ _ V;obtain ⟨z1,_,z3,z4⟩:=p _ _ _ _ _ hc2;obtain ⟨pr1,pr2,pr3,pr4⟩:=ko8 s2 (some t) (AV.fn f2 caps);refine ⟨⟨⟨fn,hf,by rw [hb];rfl,q⟩,fun F S0 N0 ψ S w vs hs hr hc=>calls_of_wp_defers hf hb (wp_wide.1 ?_)⟩,?_⟩
        ·refine kq5 (kbq ((x1 []).xw F S0 N0 ψ S _ w (k3d Q hs hr hc)) ?_);rintro e' a1 w1 ⟨rfl,ψ1,S1,q1,q2,q3⟩;refine kq5 (kk6 ?_);have K:NStep P o1 (s2.st []) (.fn f2 caps):=kxa O.T O.Z (by rw [E_eq [],H_eq []] at G;exact G);show ka5 P #[o1,o2] _ [o1,o2] a1 w1;unfold ka5;rw [kdp (ops:=#[o1,o2]) (o:=o1) (g:=true) q1 (by unfold kbi;rw [d2])];refine (kje ?_ (K.step F S0 N0 ψ1 S1 a1 w1 q1));rintro v w2 ⟨ψ2,S2,g1,g2,g3,g4,g5,g6,g7⟩;have hp:=q1.put (st':=s2.st []) (d:=o1.dst) rfl rfl rfl g1 g2 g4 g5 g6 g7 (fun t' j=>by rw [d1] at j;injection j with j;show t'<s2.n;rw [x4];show t'<fn.ntmps;omega);rw [d1] at hp ⊢;cases g2 with
         | @fn _ cs _ L X=>
          have Y:(a1.put (some t) (.func (.func f2) #[] cs)).eval (.tmp t) = .func (.func f2) #[] cs:=(by show (a1.put (some t) _).tmps.getD t undef=_;rw [kks (some t) fn.ntmps t (by rw [q1.size];exact x4) (by intro t' j;injection j with j;omega),qr rfl]);have M:(execOp (a1.put (some t) (.func (.func f2) #[] cs)).eval o2).run P w2 = .ok (.defer (dfn f2 cs.toList)) w2:=(by simp [execOp,d5,resolve,Y,Deferred.ofValue,dfn]);unfold ka5;rw [kdp (ops:=#[o1,o2]) (o:=o2) (g:=true) hp (by unfold kbi;rw [d4])];refine kyn M ?_;simp only [Oper.uponIn,d3];have A:Sim F S0 N0 ((s2.put (some t) (.fn f2 caps)).st [dfn f2 cs.toList]) ψ2 S2 { (a1.put (some t) (.func (.func f2) #[] cs)) with defers:=dfn f2 cs.toList::(a1.put (some t) (.func (.func f2) #[] cs)).defers } w2:=by
           refine ⟨?_,hp.size,fun t'=>?_,hp.core⟩;show dfn f2 cs.toList::a1.defers=_;rw [q1.defers];rfl
           ·rw [ku8 (s:=s2) (D:=[dfn f2 cs.toList]) s2.heap (idsN s2.k) t' rfl];exact hp.tmps t'
          refine kbq ((y1 [dfn f2 cs.toList]).xw F S0 N0 ψ2 S2 _ w2 A) ?_;rintro e' a4 w4 ⟨rfl,ψ4,S4,r1,r2,r3⟩;have r3':Hist (s2.st []) (s3.st []) ψ2 ψ4 S2 S4 w2 w4:=r3;obtain ⟨_,_,_,_,_,_,_,_,_,_,n1,n2,_⟩:=kpw I;have l:Sim F S0 N0 (XS.st ⟨fn2.ntmps,argT 0 caps,s3.heap,s3.k,s3.lg⟩ []) ψ4 S4 { tmps:=cs.toList.toArray++Array.replicate (fn2.ntmps - cs.toList.toArray.size) undef,defers:=[] } w4:=
           k3d J (by simpa using L) (fun i v z hv hz=>(X i v z (by simpa using hv) hz).keep r3'.1 r3'.2.1 r3'.2.2.1 r3'.2.2.2) r1.core
          have N:=l.put (st':=XS.st ⟨fn2.ntmps,argT 0 caps,s3.heap,s3.k,s3.lg⟩ []) (d:=some ta) (v := .nilIface) (c:=nilA) rfl rfl rfl l.core (.fz (.atom rfl)) Ext.refl (fun _ h=>h) (fun _ h=>h) (fun _ _ _=>rfl) (fun t' j=>by injection j with j;show t'<fn2.ntmps;omega);have aa:=N.put (st':=(XS.st ⟨fn2.ntmps,argT 0 caps,s3.heap,s3.k,s3.lg⟩ []).put (some ta) nilA) (d:=some tb) (v := .nilIface) (c:=nilA) rfl rfl rfl N.core (.fz (.atom rfl)) Ext.refl (fun _ h=>h) (fun _ h=>h) (fun _ _ _=>rfl) (fun t' j=>by injection j with j;show t'<fn2.ntmps;omega);have B:=aa.congr (st':=XS.st ⟨fn2.ntmps,kjk (kjk (argT 0 caps) ta nilA) tb nilA,s3.heap,s3.k,s3.lg⟩ []) rfl (fun t'=>by show look .any (kjk (kjk (argT 0 caps) ta nilA) tb nilA) t'=look .any ((tb,nilA)::(ta,nilA)::argT 0 caps) t';rw [kmf,kmf,kaw,kaw]) (fun _=>rfl) rfl rfl;have fin:=k9a (w':=w4) (a:=a4) (P:=P) fn f2 cs.toList (fun e w'=>∃ ψ' S',HEnd.is e ψ' (·∈idsN s4.k) S' w' (.ret y')/\Core F S0 N0 s4.heap (idsN s4.k) ψ' S' w'/\Fr F w w'/\Ext (·∈idsN k) ψ ψ'/\(∀ i,i∈idsN k->i∈idsN s4.k)/\(∀ b,S b->S' b)/\Same S w w') r1.defers U I m (by simp [L];omega) (by refine kbq ((z1 []).xw F S0 N0 ψ4 S4 _ w4 B) ?_;rintro e5 a5 w5 ⟨rfl,ψ5,S5,u1,u2,u3⟩;have u3':Hist (s3.st []) (s4.st []) ψ4 ψ5 S4 S5 w4 w5:=u3;have hR:Sim F S0 N0 (XS.st ⟨s3.n,s3.tmps,s4.heap,s4.k,s4.lg⟩ []) ψ5 S5 ⟨a4.tmps,[]⟩ w5:=⟨rfl,r1.size,fun t'=>(r1.tmps t').keep u3'.1 u3'.2.1 u3'.2.2.1 u3'.2.2.2,u1.core⟩;have ab:s3.E=(XS.st ⟨s3.n,s3.tmps,s4.heap,s4.k,s4.lg⟩ []).eval:=(by rw [E_eq []];funext z;cases z <;> rfl);rw [ab,H_eq []] at hy;obtain ⟨v,v1,v2⟩:=k07 O.T hR hy;obtain ⟨t1,t2,t3,t4⟩:=((q3.trans (st2:=s2.st []) ⟨g4,g5,g6,g7⟩).trans r3').trans u3';exact ⟨u,u1.defers,v,v1,ψ5,S5,⟨v,rfl,v2⟩,u1.core,((q2.trans g3).trans r2).trans u2,t1,t2,t3,t4⟩);rcases he with rfl | rfl <;> exact fin
        ·exact x3.trans ((LG.put y3).trans (by obtain ⟨m0,new,m1,m2⟩:=z3;exact ⟨m0,new,m1,m2⟩))
       ·cases h
      ·cases h
     ·cases h
    ·cases h
   ·cases h
  ·cases h
 ·cases h
theorem kpl (m:CxOk P C) (g:EvOk P ih) {f:Nat} {args:List AV} {heap:List (Nat×AObj)} {k:Nat} {lg:List Nat} {y:AV} (h:krw C ih f args heap k lg=some (y,s1)):
  HCall P f args heap (idsN k) (.ret y) s1.heap (idsN s1.k)/\k<=s1.k/\∃ new,s1.lg=new++lg/\∀ id,id∉new->∀ ob,kaa heap id=some ob->kaa s1.heap id=some ob:=by
 unfold krw at h;split at h
 ·rename_i fn n;obtain ⟨o,c⟩:=FT.get_ok m.fn n;split at h
  ·rename_i cc p;split at h;rename_i x rid o1 o2 t c1 hd;replace h:=kak h;obtain ⟨a,h⟩:=h;simp only [qk] at a;exact k6g m g o c p hd (qh a.1) (by simpa [Nat.blt_eq] using a.2) h;have main:∀ e s2,(bif Nat.ble args.length fn.ntmps then ih (C.mu.contains f) cc ⟨fn.ntmps,argT 0 args,heap,k,lg⟩ else none)=some (e,s2)->(e = .normal\/e = .ret)->retE C.T s2.E s2.H fn.results.toList=some y->HCall P f args heap (idsN k) (.ret y) s2.heap (idsN s2.k)/\k<=s2.k/\∃ new,s2.lg=new++lg/\∀ id,id∉new->∀ ob,kaa heap id=some ob->kaa s2.heap id=some ob:=by
    intro e s2 hi s hy;replace hi:=kak hi;obtain ⟨a,hi⟩:=hi;have a:=qh a;obtain ⟨q,_,r,_⟩:=g _ _ _ _ _ hi;refine ⟨⟨⟨fn,o,by rw [p];rfl,c⟩,fun F S0 N0 ψ S w vs hs hr hc=>calls_of_wp o p ?_⟩,r⟩;have j:Sim F S0 N0 (XS.st ⟨fn.ntmps,argT 0 args,heap,k,lg⟩ []) ψ S { tmps:=vs++Array.replicate (fn.ntmps - vs.size) undef,defers:=[] } w:=by
     refine ⟨rfl,by show (vs++Array.replicate (fn.ntmps - vs.size) undef).size=fn.ntmps;simp;omega,fun t=>?_,hc⟩;show RV _ _ _ w _ (look .any (argT 0 args) t);rcases khy args 0 t with h | ⟨x,_,h1,l⟩;rw [h];exact .any
     ·rw [l];have h1:args[t]?=some x:=(by simpa using h1);have d:t<vs.size:=(by rw [hs];exact (qd.1 h1).1);have:(vs++Array.replicate (fn.ntmps - vs.size) undef).getD t undef=vs[t]:=(by rw [qam,qax d];simp [d]);show RV _ _ _ w ((vs++Array.replicate (fn.ntmps - vs.size) undef).getD t undef) x;rw [this];exact hr t _ x (by simp [d]) h1
    refine wp_wide.1 (kbq ((q []).xw F S0 N0 ψ S _ w j) ?_);rintro e' a' w' ⟨rfl,ψ',S',l,u,z,A,B,G⟩;rw [E_eq [],H_eq []] at hy;obtain ⟨v,e1,e2⟩:=k07 m.T l hy;have fin:a'.defers=[]/\∃ v,(results fn a'.tmps).run P w' = .ok v w'/\∃ ψ'' S'',HEnd.is (.returned v) ψ'' (·∈idsN s2.k) S'' w' (.ret y)/\Core F S0 N0 s2.heap (idsN s2.k) ψ'' S'' w'/\Fr F w w'/\Ext (·∈idsN k) ψ ψ''/\(∀ i,i∈idsN k->i∈idsN s2.k)/\(∀ b,S b->S'' b)/\Same S w w':=
     ⟨l.defers,v,e1,ψ',S',⟨v,rfl,e2⟩,l.core,u,z,A,B,G⟩
    rcases s with rfl | rfl <;> exact fin
   split at h
   ·rename_i e s2 hi;split at h;rename_i y' hy;simp only [qc,qp] at h;obtain ⟨rfl,rfl⟩:=h;exact main _ _ hi (.inr rfl) hy;rename_i y' hy;simp only [qc,qp] at h;obtain ⟨rfl,rfl⟩:=h;exact main _ _ hi (.inl rfl) hy
    ·cases h
   ·cases h
  ·cases h
 ·cases h
variable {SB:Nat->Prop} {heap:List (Nat×AObj)}
theorem kzy {x:FV} (h:x.single=true):x.cells=[x]:=by cases x <;> first | rfl | cases h
theorem kvr:∀ {sz n:Nat} {l ys:List FV},(∀ x∈l,x.single=true)->km3 sz n l=some ys->ys.length=n/\l.length=n*sz/\∀ (i:Nat) (x:FV),ys[i]?=some x->x.cells=(l.drop (i*sz)).take sz/\x.cells.length=sz
 | sz,0,l,ys,h1,h=>by
  cases l with
  | nil=>
   simp only [km3,qc] at h;subst h;exact ⟨rfl,by simp,fun i x h=>by simp at h⟩
  | cons x l=>simp only [km3] at h;cases h
 | sz,n+1,l,ys,h1,h=>by
  have gen:∀ (y:FV) (r:List FV),km3 sz n (l.drop sz)=some r->(l.take sz).length=sz->y.cells=l.take sz->ys=y::r->ys.length=n+1/\l.length=(n+1)*sz/\∀ (i:Nat) (x:FV),ys[i]?=some x->x.cells=(l.drop (i*sz)).take sz/\x.cells.length=sz:=by
   intro y r hr hl hy a;subst a;obtain ⟨k1,k2,k3⟩:=kvr (fun x hx=>h1 x (qbe hx)) hr;have b:sz<=l.length:=(by rw [q9] at hl;omega);rw [qau] at k2;refine ⟨by simp [k1],by rw [qaw];omega,fun i x hx=>?_⟩;cases i with
   | zero=>
    simp only [List.getElem?_cons_zero,qc] at hx;subst hx;simp only [Nat.zero_mul,List.drop_zero];exact ⟨hy,by rw [hy];exact hl⟩
   | succ i=>
    simp only [qbo] at hx;obtain ⟨q1,q2⟩:=k3 i x hx;rw [List.drop_drop] at q1;exact ⟨by rw [q1];congr 2;rw [qaw];omega,q2⟩
  simp only [km3] at h;split at h
  ·rename_i y r hy hr;injection h with h;unfold mkEl at hy;replace hy:=kak hy;obtain ⟨c,hy⟩:=hy;refine gen y r hr (qe c) ?_ h.symm;split at hy;rename_i x hx;injection hy with hy;subst hy;rw [hx];exact kzy (h1 x (qa4 (by rw [hx];exact qat.2 rfl)))
   ·injection hy with hy;subst hy;rfl
  ·cases h
theorem k0c {v:Value} {r:FV} {S':Nat->Prop} {w':World} (h:RF S w v r) (ha:atF r=true):RF S' w' v r:=by
 cases h with
 | atom h=>exact .atom h
 | @tup cs xs hl hr=>
  refine .tup hl fun i u x a hx=>?_;have:=qq.1 ha x (qm hx);cases x <;> simp at this;cases hr i u _ a hx with
  | atom h=>exact .atom h
 | @agg cs xs hl h1 hr=>
  refine .agg hl h1 fun i u x a hx=>?_;have:=qq.1 ha x (qm hx);cases x <;> simp at this;cases hr i u _ a hx with
  | atom h=>exact .atom h
 | _=>cases ha
theorem kq2 {H:Nat->Option AObj} {fr:Bool} (hS:fr=false->∀ b,S b->SB b) (G:∀ id o,H id=some o->ObR ψ K S w id o/\∀ b,Blk (ψ.val id) b->SB b):∀ fuel:Nat,
  (∀ (x:AV) (y:FV),frz H fr fuel x=some y->(x.single=true->y.single=true)/\∀ v,RV ψ K S w v x->RF SB w v y) /\
  (∀ (xs:List AV) (ys:List FV),frzs H fr fuel xs=some ys->xs.length=ys.length/\∀ (i:Nat) (x:AV) (y:FV),xs[i]?=some x->ys[i]?=some y->(x.single=true->y.single=true)/\∀ v,RV ψ K S w v x->RF SB w v y)
 | 0=>⟨(fun x y h=>by unfold frz at h;cases h),fun xs ys h=>by unfold frzs at h;cases h⟩
 | f+1=>by
  obtain ⟨ih1,ih2⟩:=kq2 hS G f;constructor
  ·intro x y h;unfold frz at h;split at h;rename_i h0;cases h0
   ·replace h:=kak h;obtain ⟨A,h⟩:=h;injection h with h;subst h;refine ⟨fun h=>h,fun v hv=>?_⟩;cases d:fr with
    | false=>exact hv.inv.mono (hS d)
    | true=>rw [d,Bool.not_true,Bool.false_or] at A;exact k0c hv.inv A
   ·cases d:fr with
    | true=>rw [d] at h;cases h
    | false=>
     rw [d] at h;injection h with h;subst h;refine ⟨fun _=>rfl,fun v hv=>?_⟩;cases hv with
     | lim h=>exact h.mono (hS d)
   ·rename_i f' cs d;cases d;split at h
    ·rename_i xs k;injection h with h;subst h;obtain ⟨k1,k2⟩:=ih2 _ _ k;refine ⟨fun h=>(by cases h),fun v hv=>?_⟩;cases hv with
     | @agg vs _ q1 q2 q3=>
      refine .agg (by omega) (fun y hy=>?_) fun i u y a hy=>?_;obtain ⟨i,hi,rfl⟩:=qah.1 hy;have hx:cs[i]?=some (cs[i]'(by omega)):=qa _;exact (k2 i _ _ hx (qa hi)).1 (q2 _ (qx _))
      ·have hi:=(qd.1 hy).1;have hx:cs[i]?=some (cs[i]'(by omega)):=qa _;exact (k2 i _ _ hx hy).2 u (q3 i u _ a hx)
    ·cases h
   ·rename_i f' cs d;cases d;split at h
    ·rename_i xs k;injection h with h;subst h;obtain ⟨k1,k2⟩:=ih2 _ _ k;refine ⟨fun h=>(by cases h),fun v hv=>?_⟩;cases hv with
     | @tup vs _ q1 q3=>
      refine .tup (by omega) fun i u y a hy=>?_;have hi:=(qd.1 hy).1;have hx:cs[i]?=some (cs[i]'(by omega)):=qa _;exact (k2 i _ _ hx hy).2 u (q3 i u _ a hx)
    ·cases h
   ·rename_i f' id g off len cap d;cases d;split at h
    ·rename_i g' e sz cells J;replace h:=kak h;obtain ⟨A,h⟩:=h;obtain rfl:=qe A;split at h
     ·rename_i xs k;split at h
      ·rename_i ys B;injection h with h;subst h;refine ⟨fun _=>rfl,fun v hv=>?_⟩;obtain ⟨C,D⟩:=G id _ J;obtain ⟨q0,qz,b,cs,n,cap',q1,q2,q3,q4,q5,q6,q7⟩:=C;obtain ⟨hK,b',c,p,rfl,E,hm,_⟩:=kgv hv q0;rw [q1] at p;simp only [kap,qc] at p;subst p;obtain ⟨k1,k2⟩:=ih2 _ _ k;have m:∀ x∈xs,x.single=true:=fun x hx=>(by obtain ⟨i,hi,rfl⟩:=qah.1 hx;have s:i<((cells.drop off).take (len*sz)).length:=(by omega);exact (k2 i _ _ (qa s) (qa hi)).1 (q6 _ (qbe (qa4 (qx s)))));obtain ⟨m1,m2,m3⟩:=kvr m B;have t:((cells.drop off).take (len*sz)).length=len*sz:=(by omega);have I:off+len*sz<=cells.length\/len*sz=0:=(by rw [q9,qau] at t;omega);have z:∀ (i:Nat),i<len->i*sz+sz<=len*sz:=fun i hi=>(by have:=qan sz (show i+1<=len by omega);rw [qaw] at this;omega);refine .lst (fun i=>(cs.toList.drop (off+i*sz)).take sz) m1.symm E hm qz (fun i x hx=>⟨b,off,rfl,D b (.of (by rw [q1];rfl)),fun j u a=>?_⟩) (fun i x hx=>?_) fun i x j u y hx a hy=>?_
       ·rw [qw] at a;split at a;rw [qag] at a;exact krp q2 (by simpa using a)
        ·cases a
       have hi:i<len:=(by rw [<- m1];exact (qd.1 hx).1);have:=z i hi;obtain ⟨p1,p2⟩:=m3 i x hx;refine ⟨by rw [q9,qau,qac];omega,p2,fun y hy=>?_⟩;rw [p1] at hy;exact m y (qbe (qa4 hy))
       ·have hi:i<len:=(by rw [<- m1];exact (qd.1 hx).1);have L:=z i hi;obtain ⟨p1,p2⟩:=m3 i x hx;rw [p1,qw] at hy;rw [qw] at a;split at a;rename_i M;rw [qr M,qag] at hy;rw [qag] at a;have F:i*sz+j<len*sz:=(by omega);have hc:((cells.drop off).take (len*sz))[i*sz+j]?=some (((cells.drop off).take (len*sz))[i*sz+j]'(by omega)):=qa _;refine (k2 _ _ _ hc hy).2 u (q7 (off+(i*sz+j)) u _ (by rw [<- Nat.add_assoc];simpa using a) ?_);rw [qw,qr F,qag] at hc;exact hc
        ·cases a
      ·cases h
     ·cases h
    ·cases h
   ·cases h
  ·intro xs ys h;unfold frzs at h;split at h;rename_i h0;cases h0;injection h with h;subst h;exact ⟨rfl,fun i x y h=>by simp at h⟩
   ·rename_i f' x l d;cases d;split at h
    ·rename_i y r hy hr;injection h with h;subst h;obtain ⟨k1,k2⟩:=ih2 _ _ hr;refine ⟨by simp [k1],fun i x' y' hx q=>?_⟩;cases i with
     | zero=>simp at hx q;subst hx q;exact ih1 _ _ hy
     | succ i=>exact k2 i x' y' (by simpa using hx) (by simpa using q)
    ·cases h
theorem k0s {f:Nat} {xs:List FV} {y:AV} {r:FV} (h:HCall P f (xs.map .fz) [] [] (.ret y) s1.heap (idsN s1.k)) (hr:frz (kaa s1.heap) false 1000 y=some r):PCall P f xs r:=by
 refine ⟨h.1,fun S w vs hs hv=>?_⟩;have d:∀ {v x},RF S w v x->RF (fun b=>S b/\b<w.heap.size) w v x:=fun h=>h.bound;refine (h.2 (fun b=>b<w.heap.size) (fun b=>S b/\b<w.heap.size) w.heap.size ⟨fun _=>0,fun _ => .nilFunc⟩ (fun b=>S b/\b<w.heap.size) w vs (by simpa using hs) (fun i v x g hx=>?_) ⟨fun id o h=>(by cases h),fun i i' o o' b h=>(by cases h),fun b h=>h.2,fun b h => .inl h,qv _,fun b h=>h⟩).mono ?_;rw [ql,qn] at hx;obtain ⟨z,m,rfl⟩:=hx;exact .fz (d (hv i v z g m))
 ·rintro e w' ⟨ψ',S',⟨v,rfl,j⟩,a,c,_⟩;refine ⟨v,rfl,((kq2 (SB:=fun b=>S b\/w.heap.size<=b) (fun _ b d=>?_) (fun id o l=>⟨(a.obj id o l).2.1,fun b d => .inr ?_⟩) 1000).1 y r hr).2 v j,⟨⟨c.os,c.tape,c.output,c.size,c.block⟩,no0⟩⟩
  ·rcases a.s0 b d with h | h;exact .inl h.1
   ·exact .inr h
  ·have:=((a.obj id o l).2.2 b d).2.1;omega
theorem ks4 {u v:Value} (h:kxg u v=true):u=v:=by
 unfold kxg at h;split at h;simp only [qk,qbd,beq_iff_eq] at h;rw [h.1,h.2];rw [kmh,MapKept.bytes_beq] at h;rw [h];simp at h;rw [h]
 all_goals first | rfl | cases h
mutual
theorem k9d:∀ {a b:FV},eqFV a b=true->a=b
 | .atom v,b,h=>by cases b <;> simp only [eqFV] at h <;> first | (rw [ks4 h]) | cases h
 | .agg v,b,h=>by cases b <;> simp only [eqFV] at h <;> first | (rw [kia h]) | cases h
 | .tup v,b,h=>by cases b <;> simp only [eqFV] at h <;> first | (rw [kia h]) | cases h
 | .lst s n v,b,h=>by
  cases b <;> simp only [eqFV] at h <;> try cases h
  simp only [qk] at h;rw [qe h.1,qe h.2.1,kia h.2.2]
 | .fp v,b,h=>by cases b <;> simp only [eqFV] at h <;> first | (rw [kia h]) | cases h
 | .bx v,b,h=>by cases b <;> simp only [eqFV] at h <;> first | (rw [kia h]) | cases h
theorem kia:∀ {a b:List FV},kf8 a b=true->a=b
 | [],[],_=>rfl
 | [],_::_,h=>by simp only [kf8] at h;cases h
 | _::_,[],h=>by simp only [kf8] at h;cases h
 | a::l,b::m,h=>by simp only [kf8,qk] at h;rw [k9d h.1,kia h.2]
end
theorem kxv {l:List (Nat×List FV×FV)} (hl:∀ p∈l,PCall P p.1 p.2.1 p.2.2) {f:Nat} {xs:List FV} {r:FV} (h:ktp l f xs=some r):PCall P f xs r:=by
 induction l with
 | nil=>cases h
 | cons p l ih=>
  obtain ⟨g,as_,q⟩:=p;simp only [ktp] at h;cases a:(Nat.beq g f && kf8 as_ xs) with
  | true=>
   rw [a] at h;simp only [qg,qc] at h;subst h;simp only [qk] at a;have:=hl _ (qt ..)
   rwa [qe a.1,kia a.2] at this
  | false=>
   rw [a] at h;exact ih (fun p hp=>hl p (qf _ hp)) h
theorem k0d (b:CxOk P C) (a:EvOk P ih) {f:Nat} {xs:List FV} {r:FV} (hr:kw9 C ih f xs=some r):PCall P f xs r:=by
 unfold kw9 at hr;split at hr;rename_i r' c;injection hr with hr;subst hr;exact kxv b.fx c
 ·replace hr:=kak hr;obtain ⟨_,hr⟩:=hr;split at hr;rename_i y s2 d;rw [H_eq []] at hr;exact k0s (kpl b a d).1 hr
  ·cases hr
def PNew (P:Program) (f:FuncId) (args:List FV) (r:FV):Prop:=
 (∃ fn, P.funcs[f]? = some fn /\ fn.body.isNone = false /\ (fn.name == "runtime.NumGoroutine") = false) /\
 ∀ (S:Nat->Prop) (w:World) (vs:Array Value),vs.size=args.length->(∀ (i:Nat) (v:Value) (x:FV),vs[i]?=some v->args[i]?=some x->RF S w v x) ->
  Calls P f vs w fun e w'=>∃ v,e = .returned v/\RF (fun b=>w.heap.size<=b) w' v r/\Grow w w'
theorem kabw {f:Nat} {xs:List FV} {y:AV} {r:FV} (h:HCall P f (xs.map .fz) [] [] (.ret y) s1.heap (idsN s1.k)) (hr:frz (kaa s1.heap) true 1000 y=some r):PNew P f xs r:=by
 refine ⟨h.1,fun S w vs hs hv=>?_⟩;have d:∀ {v x},RF S w v x->RF (fun b=>S b/\b<w.heap.size) w v x:=fun h=>h.bound;refine (h.2 (fun b=>b<w.heap.size) (fun b=>S b/\b<w.heap.size) w.heap.size ⟨fun _=>0,fun _ => .nilFunc⟩ (fun b=>S b/\b<w.heap.size) w vs (by simpa using hs) (fun i v x g hx=>?_) ⟨fun id o h=>(by cases h),fun i i' o o' b h=>(by cases h),fun b h=>h.2,fun b h => .inl h,qv _,fun b h=>h⟩).mono ?_;rw [ql,qn] at hx;obtain ⟨z,m,rfl⟩:=hx;exact .fz (d (hv i v z g m))
 ·rintro e w' ⟨ψ',S',⟨v,rfl,j⟩,a,c,_⟩;refine ⟨v,rfl,((kq2 (fr:=true) (SB:=fun b=>w.heap.size<=b) (fun h=>by cases h) (fun id o l=>⟨(a.obj id o l).2.1,fun b d=>?_⟩) 1000).1 y r hr).2 v j,⟨⟨c.os,c.tape,c.output,c.size,c.block⟩,no0⟩⟩;have:=((a.obj id o l).2.2 b d).2.1;omega
theorem PNew.of_atF {f:Nat} {xs:List FV} {r:FV} (h:PCall P f xs r) (ha:atF r=true):PNew P f xs r:=
 ⟨h.1,fun S w vs hs hv=>(h.2 S w vs hs hv).mono fun e w' ⟨v,a,h1,b⟩=>⟨v,a,k0c h1 ha,b⟩⟩
theorem k0i (n:CxOk P C) (l:EvOk P ih) {H:Nat->Option AObj} (A:∀ id ob,H id=some ob->kaa st.heap id=some ob) {f:Nat} {fst caps:List AV} {x:Operand} {args:Array Operand} {ts:Array TypeId} {r:FV} (j:o.op = .call { callee := .value x,args:=args,argTypes:=ts }) (c:kjs st.eval x=some (f,fst,caps)) (hr:kw3 C ih H f (fst++(args.toList.map st.eval++caps))=some r):NStep P o st (.fz r):=by
 unfold kw3 at hr;split at hr
 ·rename_i xs d;split at hr;rename_i u cc q;injection hr with hr;subst hr;exact ib_n j c d (n.ib f (by simpa using q))
  ·exact kaae j c d (k0d n l hr)
 ·split at hr
  ·rename_i xs d;have h:=k0d n l hr;intro ψ S a w ht B;obtain ⟨vf,vc,hx,h1,s⟩:=klm args ht c;have m:=(kq2 (H:=fun _=>none) (fr:=false) (ψ:=ψ) (K:=(·∈st.ids)) (S:=S) (w:=w) (SB:=S) (fun _ b k=>k) (fun id o j=>by cases j) 1000).2 _ _ d;unfold kce;rw [kmt j hx h.1];refine (h.2 S w _ (by rw [<- m.1,<- h1,qac]) fun i v x hv g=>?_).mono ?_;have hi:i<(fst++(args.toList.map st.eval++caps)).length:=(by rw [m.1];exact (qd.1 g).1);exact (m.2 i _ x (qa hi) g).2 v (s i v _ (by rw [qal];exact hv) (qa hi))
   ·rintro e w' ⟨v,rfl,hv,t⟩;exact ⟨v,rfl,t, .fz hv⟩
  ·replace hr:=kak hr;obtain ⟨_,hr⟩:=hr;split at hr
   ·rename_i xs d;have h:PNew P f xs r:=by
     split at hr;rename_i r' E;replace hr:=kak hr;obtain ⟨z,hr⟩:=hr;injection hr with hr;subst hr;exact .of_atF (kxv n.fx E) z
     ·split at hr;rename_i y s2 k;rw [H_eq []] at hr;exact kabw (kpl n l k).1 hr
      ·cases hr
    intro ψ S a w ht B;obtain ⟨vf,vc,hx,h1,s⟩:=klm args ht c;obtain ⟨SB,p⟩:∃ SB:Nat->Prop,SB=fun b=>S b\/∃ id ob,kaa st.heap id=some ob/\Blk (ψ.val id) b:=⟨_,rfl⟩;have m:=(kq2 (H:=H) (fr:=false) (ψ:=ψ) (K:=(·∈st.ids)) (S:=S) (w:=w) (SB:=SB) (fun _ b k=>by rw [p];exact .inl k) (fun id o j=>⟨B id o (A id o j),fun b k=>by rw [p];exact .inr ⟨id,o,A id o j,k⟩⟩) 1000).2 _ _ d;unfold kce;rw [kmt j hx h.1];refine (h.2 SB w _ (by rw [<- m.1,<- h1,qac]) fun i v x hv g=>?_).mono ?_;have hi:i<(fst++(args.toList.map st.eval++caps)).length:=(by rw [m.1];exact (qd.1 g).1);exact (m.2 i _ x (qa hi) g).2 v (s i v _ (by rw [qal];exact hv) (qa hi))
    ·rintro e w' ⟨v,rfl,hv,t⟩;exact ⟨v,rfl,t, .fz (hv.mono fun b k => .inr k)⟩
   ·cases hr
theorem kxz {x:Operand} {as_:List Operand} (a:kxh o=some (x,as_)):∃ args ts,o.op = .call { callee := .value x,args:=args,argTypes:=ts }/\as_=args.toList:=by
 unfold kxh at a;split at a
 ·rename_i cl hcl;split at a;rename_i f b;simp only [qc,qp] at a;obtain ⟨rfl,rfl⟩:=a;obtain ⟨cal,args,ts⟩:=cl;simp only at b;exact ⟨args,ts,by rw [hcl,b],rfl⟩
  ·cases a
 ·cases a
theorem k3s (d:CxOk P C) (b:EvOk P ih) {mu:Bool} (h:opE C ih mu o s=some (c,s1)):k33 P o s c s1:=by
 unfold opE at h;split at h
 ·rename_i x as_ e;obtain ⟨args,ts,i,rfl⟩:=kxz e;split at h
  ·rename_i f fst caps a;unfold k8c at h;split at h;rename_i r hr;simp only [qc,qp] at h;obtain ⟨rfl,rfl⟩:=h;refine ⟨fun D=>?_,rfl,rfl,LG.refl⟩;rw [E_eq D] at a hr;exact (k0i d b (fun _ _ h=>by rw [H_eq D] at h;exact h) i a hr).step
   ·split at h;rename_i y s2 k;simp only [qc,qp] at h;obtain ⟨rfl,rfl⟩:=h;obtain ⟨j,g⟩:=kpl d b k;refine ⟨fun D=>?_,rfl,rfl,g⟩;rw [E_eq D] at a j;exact k3x i a j
    ·cases h
  ·cases h
 ·split at h;rename_i c' dl hs;simp only [qc,qp] at h;obtain ⟨rfl,rfl⟩:=h;refine kabs fun D=>?_;rw [E_eq D,H_eq D] at hs;exact sE_ok d.T d.Z k2i hs
  ·cases h
theorem NStep.moreH {st st':St} (h:NStep P o st c) (hn:st'.tmps=st.tmps) (hi:st'.ids=st.ids) (d:∀ id ob,kaa st.heap id=some ob->kaa st'.heap id=some ob):NStep P o st' c:=by
 intro ψ S a w ht b;have e:∀ t,st'.get t=st.get t:=fun t=>by unfold St.get;rw [hn]
 rw [hi] at ht b ⊢;exact h ψ S a w (fun t=>by rw [<- e];exact ht t) fun id ob f=>b id ob (d id ob f)
theorem kpa {rf:List Nat} {id:Nat} {ob:AObj}:∀ {l:List (Nat×AObj)},kaa (kme rf l) id=some ob->id∈rf/\kaa l id=some ob
 | [],h=>by cases h
 | (k,v)::l,h=>by
  simp only [kme] at h;cases hc:rf.contains k with
  | true=>
   rw [hc] at h;simp only [qg] at h;rw [kab] at h ⊢;by_cases hk:k=id;subst hk;rw [qr rfl] at h ⊢;exact ⟨by simpa using hc,h⟩
   ·rw [qj hk] at h ⊢;exact kpa h
  | false=>
   rw [hc] at h;simp only [qo] at h;obtain ⟨h1,a⟩:=kpa (l:=l) h;refine ⟨h1,?_⟩;rw [kab,qj];exact a
   ·rintro rfl;have:rf.contains k=true:=(by simpa using h1);rw [this] at hc;cases hc
theorem k09 {k:Nat} {x:AV} (h:okN0 k x=true):okA (idsN k) x=true:=by
 have a:∀ {id},Nat.blt id k=true->(idsN k).contains id=true:=fun {id} h=>by
  have:id<k:=by simpa [Nat.blt_eq] using h
  simpa using mem_idsN.2 this
 cases x <;> simp only [okN0] at h <;> first | rfl | exact a h | cases h
theorem kaa5 {k:Nat} {x:AV} (h:okN k x=true):okA (idsN k) x=true:=by
 have hl:∀ {cs:List AV},cs.all (okN0 k)=true->okAs (idsN k) cs=true:=fun {cs} h=>by rw [kjt];exact qq.2 fun x hx=>k09 (qq.1 h x hx)
 cases x <;> simp only [okN] at h <;> first | exact k09 h | exact hl h
theorem k38 (D:List Deferred) (m:CxOk P C) (p:EvOk P ih) {mu:Bool} {os:Array Oper} {L:List Oper} {n i:Nat} {es:List Nat} (ch cs ai:List Nat) {rf:List Nat} {s0 hs hs1:XS} {fs:List (Nat×Option Nat×AV)} (u:∀ e,e∈es->phB L es e=true) (h:dz1 C ih mu os L n es s0 i o fs hs=some (c,hs1,rf)):
  LG hs hs1/\((∀ r,r∈rf->r∉ch)->(∀ new,hs1.lg=new++hs.lg->∀ r,r∈new->r∈cs)->(∀ id,id<hs1.k->id∈ai) ->
   (i∉es/\hs1=hs/\krd P os (kcp L n es ch ai (s0.st D) i o fs hs.heap (idsN hs.k)) o c/\(phB L es i || okA (s0.st D).ids c)=true) \/
   (i∈es/\kt0 P os L n es cs ai (s0.st D) (kcp L n es ch ai (s0.st D) i o fs hs.heap (idsN hs.k)) o c hs.heap (idsN hs.k) hs1.heap (idsN hs1.k))):=by
 unfold dz1 at h;obtain ⟨v,hv⟩:∃ v:XS,v=⟨s0.n,hadd fs (kf9 o) (khx L i n++s0.tmps),hs.heap,hs.k,hs.lg⟩:=⟨_,rfl⟩;simp only [<- hv] at h;have a:∀ b,kra os v.E o=some b->kbi os (kcp L n es ch ai (s0.st D) i o fs hs.heap (idsN hs.k)) o=some b:=fun b G=>by rw [E_eq D] at G;rw [<- G,hv];rfl
 have H:(v.st D).eval=(kcp L n es ch ai (s0.st D) i o fs hs.heap (idsN hs.k)).eval:=by rw [hv];funext x;cases x <;> rfl
 have g:phB L es i=true->(v.st D)=kcp L n es ch ai (s0.st D) i o fs hs.heap (idsN hs.k):=fun hp=>by rw [hv];unfold kcp;rw [hp];rfl
 split at h
 ·rename_i j;simp only [qc,qp] at h;obtain ⟨rfl,rfl,rfl⟩:=h;refine ⟨LG.refl,fun _ _ l=>?_⟩;by_cases hi:i∈es;exact .inr ⟨hi, .inr ⟨a _ j,rfl,rfl,rfl⟩, .inr ⟨fun _ _ _ h=>h,fun id h=>l id (mem_idsN.1 h),fun _ h=>h⟩⟩
  ·exact .inl ⟨hi,rfl, .inr ⟨a _ j,rfl⟩,by simp [okA]⟩
 ·rename_i j;cases hc:es.contains i with
  | true=>
   have hi:i∈es:=(by simpa using hc);rw [hc] at h;simp only [qg] at h;split at h;rename_i c' v1 w;simp only [qc,qp] at h;obtain ⟨rfl,rfl,rfl⟩:=h;obtain ⟨k1,_,_,k5⟩:=k3s m p w;have q:LG hs v1:=(by rw [hv] at k5;exact k5);refine ⟨q,fun _ s l => .inr ⟨hi, .inl ⟨a _ j,by rw [<- g (u i hi)];exact k1 D⟩, .inr ?_⟩⟩;obtain ⟨m0,new,m1,m2⟩:=q;refine ⟨fun id y ob t=>m2 id (fun h=>y (s new m1 id h)) ob t,fun id h=>l id (mem_idsN.1 h),fun id h=>mem_idsN.2 (by have:=mem_idsN.1 h;omega)⟩
   ·cases h
  | false=>
   have hi:i∉es:=(by simpa using hc);rw [hc] at h;simp only [qo] at h;split at h
   ·rename_i x as_ z;obtain ⟨args,ts,t,rfl⟩:=kxz z;split at h
    ·rename_i f fst caps d;split at h
     ·rename_i r hr;simp only [qc,qp] at h;obtain ⟨rfl,rfl,rfl⟩:=h;rw [E_eq D,H] at d hr;refine ⟨LG.refl,fun _ _ _ => .inl ⟨hi,rfl, .inl ⟨a _ j,k0i m p (fun id ob hi=>?_) t d hr⟩,by simp [okA]⟩⟩;cases hp:phB L es i with
      | true=>rw [hp,qg,H_eq D,g hp] at hi;exact hi
      | false=>rw [hp] at hi;cases hi
     ·cases h
    ·cases h
   ·cases hp:phB L es i with
    | true=>
     rw [hp] at h;simp only [qg] at h;split at h;rename_i c' hn;simp only [qc,qp] at h;obtain ⟨rfl,rfl,rfl⟩:=h;rw [E_eq D,H_eq D,g hp] at hn;exact ⟨LG.refl,fun _ _ _ => .inl ⟨hi,rfl, .inl ⟨a _ j,kxa m.T m.Z hn⟩,rfl⟩⟩
     ·cases h
    | false=>
     rw [hp] at h;simp only [qo] at h;split at h
     ·rename_i c' hn;replace h:=kak h;obtain ⟨A,h⟩:=h;simp only [qc,qp] at h;obtain ⟨rfl,rfl,rfl⟩:=h;refine ⟨LG.refl,fun B _ _ => .inl ⟨hi,rfl, .inl ⟨a _ j,?_⟩,by rw [Bool.false_or];exact kaa5 A⟩⟩;rw [show getO (kme (krj v.E o) s0.heap)=kaa (kme (krj v.E o) s0.heap) from funext fun i=>k0e,E_eq D] at hn;have F:NStep P o ⟨s0.n,hadd fs (kf9 o) (khx L i n++s0.tmps),kme (krj v.E o) s0.heap,ai,D⟩ c':=(by refine kxa m.T m.Z ?_;have I:(v.st D).eval=St.eval ⟨s0.n,hadd fs (kf9 o) (khx L i n++s0.tmps),kme (krj v.E o) s0.heap,ai,D⟩:=(by rw [H];funext x;cases x <;> rfl);rw [<- I,E_eq D];exact hn);refine F.moreH rfl ?_ fun id ob t=>?_;show (bif phB L es i then idsN hs.k else ai)=ai;rw [hp];rfl
      ·obtain ⟨q1,q2⟩:=kpa t;show kaa (bif phB L es i then hs.heap else klc ch s0.heap) id=some ob;rw [hp];exact kow (B id q1) q2
     ·cases h
 ·cases h
theorem k0p {D:List Deferred} (h:dstE s.n o=true):∀ t,o.dst=some t->t<(s.st D).n:=fun t ht=>by unfold dstE at h;rw [ht] at h;show t<s.n;simpa [Nat.blt_eq] using h
theorem kux (b:CxOk P C) (a:EvOk P ih) {mu:Bool} {ops:Array Oper}:∀ {l:List Oper} {s s1:XS},opsE C ih mu ops l s=some s1->(∀ D,XWL P ops l (s.st D) (s1.st D))/\LG s s1/\s1.n=s.n
 | [],s,s1,h=>by have h:some s=some s1:=h;injection h with h;subst h;exact ⟨fun D=>kaax,LG.refl,rfl⟩
 | o::l,s,s1,h=>by
  have h:(bif dstE s.n o then (match kra ops s.E o with
   | some true=>match opE C ih mu o s with
    | some (c,s1)=>opsE C ih mu ops l (s1.put o.dst c)
    | none=>none
   | some false=>opsE C ih mu ops l (s.put o.dst (.fz (.tup [])))
   | none=>none) else none)=some s1:=h
  replace h:=kak h;obtain ⟨hd,h⟩:=h;have g:∀ D,kra ops s.E o=kbi ops (s.st D) o:=fun D=>by rw [E_eq D];rfl
  split at h
  ·rename_i d;split at h;rename_i c s2 e;obtain ⟨k1,k2,k3,k5⟩:=k3s b a e;obtain ⟨j1,j2,j3⟩:=kux b a h;obtain ⟨p1,p2,p3,p5⟩:=ko8 s2 o.dst c;exact ⟨fun D=>k9c (k1 D) ((g D).symm.trans d) (k0p hd) (by show (s2.put o.dst c).n=s.n;omega) (fun t=>ku8 _ _ t k3) p2 (by show idsN (s2.put o.dst c).k=_;rw [p3]) rfl (j1 D),k5.trans j2.put,by omega⟩
   ·cases h
  rename_i f;obtain ⟨j1,j2,j3⟩:=kux b a h;obtain ⟨p1,p2,p3,p5⟩:=ko8 s o.dst (AV.fz (.tup []));exact ⟨fun D=>k90 ((g D).symm.trans f) (k0p hd) p1 (fun t=>ku8 s.heap (idsN s.k) t rfl) p2 (by show idsN (s.put o.dst _).k=_;rw [p3];rfl) rfl (j1 D),j2.put,by omega⟩
  ·cases h
theorem kyx (D:List Deferred) (v:CxOk P C) (b:EvOk P ih) {mu:Bool} {os:Array Oper} {L:List Oper} {n:Nat} {es:List Nat} {s0:XS} (d:∀ e,e∈es->phB L es e=true):∀ (l:List Oper) (i:Nat) (fs:List (Nat×Option Nat×AV)) (hs:XS) (rf sl:List (Nat×List Nat)) {fsF:List (Nat×Option Nat×AV)} {a:XS} {rfF slF:List (Nat×List Nat)},
  dzE C ih mu os L n es s0 l i fs hs rf sl=some (fsF,a,rfF,slF)->L.drop i=l->i+l.length=n->∀ (c0:Nat->AV) (H0:Nat->XS),fs=fsOf L c0 i->H0 i=hs ->
  LG hs a/\(∀ r,r∈rf->r∈rfF)/\(∀ r,r∈sl->r∈slF)/\∃ (c:Nat->AV) (H:Nat->XS),(∀ j,j<i->c j=c0 j)/\(∀ j,j<=i->H j=H0 j)/\fsF=fsOf L c n/\H n=a /\
   ∀ (chi chs:Nat->List Nat) ai,(∀ p,p∈rfF->∀ r,r∈p.2->r∉chi p.1)->(∀ p,p∈slF->∀ r,r∈p.2->r∈chs p.1)->(∀ id,id<a.k->id∈ai)->∀ j o,i<=j->j<n->L[j]?=some o ->
    (j∉es/\H (j+1)=H j/\krd P os (kcp L n es (chi j) ai (s0.st D) j o (fsOf L c j) (H j).heap (idsN (H j).k)) o (c j)/\(phB L es j || okA (s0.st D).ids (c j))=true) \/
    (j∈es/\kt0 P os L n es (chs j) ai (s0.st D) (kcp L n es (chi j) ai (s0.st D) j o (fsOf L c j) (H j).heap (idsN (H j).k)) o (c j) (H j).heap (idsN (H j).k) (H (j+1)).heap (idsN (H (j+1)).k))
 | [],i,fs,hs,rf,sl,fsF,a,rfF,slF,h,hl,hn,c0,H0,u,w=>by
  have h:some (fs,hs,rf,sl)=some (fsF,a,rfF,slF):=h;simp only [qc,qp] at h;obtain ⟨rfl,rfl,rfl,rfl⟩:=h;have x:i=n:=by simpa using hn
  subst x;exact ⟨LG.refl,fun _ h=>h,fun _ h=>h,c0,H0,fun _ _=>rfl,fun _ _=>rfl,u,w,fun chi chs ai _ _ _ j o h1 G=>by omega⟩
 | o::l,i,fs,hs,rf,sl,fsF,a,rfF,slF,h,hl,hn,c0,H0,u,w=>by
  simp only [dzE] at h;split at h
  ·rename_i c' hs1 r1 hd;have m:L[i]?=some o:=(by have:=qa2 (·[0]?) hl;simpa using this);have y:L.drop (i+1)=l:=(by rw [<- List.drop_drop,hl];rfl);have z:dstT L i=o.dst:=(by unfold dstT;rw [m];rfl);have f:(i,o.dst,c')::fs=fsOf L (fun j=>if j=i then c' else c0 j) (i+1):=(by rw [u];simp only [fsOf,z,if_true];rw [kih (k:=i) (c':=fun j=>if j=i then c' else c0 j) fun j I=>by rw [qj (by omega)]]);obtain ⟨k1,k2,k2',c,H,k3,k4,k5,k6,k7⟩:=kyx D v b d l (i+1) _ hs1 _ _ h y (by simp at hn;omega) (fun j=>if j=i then c' else c0 j) (fun j=>if j=i+1 then hs1 else H0 j) f (by simp);have e1:∀ j,j<i->c j=c0 j:=fun j I=>(by rw [k3 j (by omega),qj (by omega)]);have e2:c i=c':=(by rw [k3 i (by omega),qr rfl]);have e3:H i=hs:=(by rw [k4 i (by omega),qj (by omega)];exact w);have e4:H (i+1)=hs1:=(by rw [k4 (i+1) (qv _),qr rfl]);have A:fsOf L c i=fs:=(by rw [u];exact kih e1);have B:=(k38 D v b [] [] [] d hd).1;refine ⟨B.trans k1,fun r hr=>k2 r (qf _ hr),fun r hr=>k2' r (qf _ hr),c,H,e1,fun j I=>by rw [k4 j (by omega),qj (by omega)],k5,k6,fun chi chs ai q s t j o' h1 G g=>?_⟩;obtain ⟨m2,_⟩:=k1;by_cases E:j=i;subst E;rw [m] at g;obtain rfl:=qu g;have:=(k38 D v b (chi j) (chs j) ai d hd).2 (q (j,r1) (k2 _ (qt ..))) (fun new F r hr=>s (j,hs1.lg.take (hs1.lg.length - hs.lg.length)) (k2' _ (qt ..)) r (by have:hs1.lg.take (hs1.lg.length - hs.lg.length)=new:=(by rw [F,qy,Nat.add_sub_cancel];exact List.take_left' rfl);rw [this];exact hr)) (fun id J=>t id (by omega));rw [A,e2,e3,e4];exact this
   ·exact k7 chi chs ai q s t j o' (by omega) G g
  ·cases h
theorem kpz {t:Nat} {base:List (Nat×AV)}:∀ {fs:List (Nat×Option Nat×AV)},look .any (km1 fs base) t=look .any (hadd fs (fun _=>true) base) t
 | []=>rfl
 | (j,some d,c)::l=>by simp only [km1,hadd,qg];rw [kmf,kaw,kpz]
 | (j,none,c)::l=>by simp only [km1,hadd];exact kpz
theorem kr3 (B:CxOk P C) (y:EvOk P ih) {mu:Bool} {rid:Nat} {ops:Array Oper} {es:List Nat} (h:drzA C ih mu ops s es=some s1):(∀ D,XW P (.region rid ops true) (s.st D) .normal (s1.st D))/\LG s s1/\s1.n=s.n:=by
 obtain ⟨L,rfl⟩:∃ L:List Oper,ops=L.toArray:=⟨ops.toList,by simp⟩;unfold drzA at h;simp only [List.toList_toArray] at h;replace h:=kak h;obtain ⟨A,h⟩:=h;simp only [qk] at A;split at h
 ·rename_i fs hs rf sl hd;replace h:=kak h;obtain ⟨E,h⟩:=h;injection h with h;have f:∀ e,e∈es->phB L es e=true:=fun e O=>by have:=qq.1 A.2 e O;rw [qk] at this;exact this.2
  have k1:LG s hs:=(kyx [] B y f L 0 [] s [] [] hd rfl (by simp) (fun _ => .any) (fun _=>s) rfl rfl).1;subst h;refine ⟨fun D=>?_,k1,rfl⟩;obtain ⟨k1,k2,k2',c,H,k3,k4,k5,k6,k7⟩:=kyx D B y f L 0 [] s [] [] hd rfl (by simp) (fun _ => .any) (fun _=>s) rfl rfl;obtain ⟨chs,l⟩:∃ chs:Nat->List Nat,chs=fun j=>sl.flatMap fun q=>bif Nat.beq q.1 j then q.2 else []:=⟨_,rfl⟩;obtain ⟨chi,m⟩:∃ chi:Nat->List Nat,chi=fun i=>sl.flatMap fun q=>bif anc L q.1 i then [] else q.2:=⟨_,rfl⟩;have u:=k7 chi chs (idsN hs.k) (fun p hp r hr hc=>by
   rw [m] at hc;obtain ⟨q,G,b⟩:=qbc.1 hc;have:=qq.1 (qq.1 E p hp) q G;cases ha:anc L q.1 p.1 with
   | true=>rw [ha] at b;cases b
   | false=>
    rw [ha] at b this;simp only [qo] at b;rw [Bool.false_or] at this;have:=qq.1 this r hr;simp at this;exact this b) (fun p hp r hr=>by
   rw [l];exact qbc.2 ⟨p,hp,by simp only [Nat.beq_refl,qg];exact hr⟩) (fun id g=>mem_idsN.2 g)
  have I:H 0=s:=k4 0 (qv _);have Q:=k1.1;intro F S0 N0 ψ S a w z;refine kxt (ai:=idsN hs.k) B.mixed c (fun i=>((H i).heap,idsN (H i).k)) chi chs A.1 A.2 ?_ (by rw [I];rfl) ?_ ?_ z _ ?_
  ·exact qq.2 fun x hx=>by have:=mem_idsN.1 (show x∈idsN s.k from hx);simpa using mem_idsN.2 (show x<hs.k by omega)
  ·intro j i R hi ha id g;rw [l] at g;obtain ⟨q,G,b⟩:=qbc.1 g;rw [m];refine qbc.2 ⟨q,G,?_⟩;cases v:Nat.beq q.1 j with
   | false=>rw [v] at b;cases b
   | true=>
    rw [v] at b;rw [qe v,ha];exact b
  ·intro i o J K;rcases u i o (qaq _) J K with ⟨q1,q2,q3,q4⟩ | ⟨q1,q2⟩;exact .inl ⟨q1,by simp only [q2],q3,q4⟩
   ·exact .inr ⟨q1,q2⟩
  ·intro ψ' S' a' w' M N d;rw [List.drop_length];refine ⟨rfl,ψ',S',M.congr rfl (fun t=>?_) (fun id=>?_) ?_ rfl,N,?_⟩;show look .any (km1 fs s.tmps) t=look .any (hadd (fsOf L c L.length) (fun _=>true) s.tmps) t;rw [kpz,k5];show kaa hs.heap id=kaa (H L.length).heap id;rw [k6];show idsN hs.k=idsN (H L.length).k;rw [k6]
   ·have d:HistI (idsN s.k) (idsN (H L.length).k) ψ ψ' S S' w w':=d;rw [k6] at d;exact d
 ·cases h
theorem kabg (b:CxOk P C) (a:EvOk P ih) {mu:Bool} {rid:Nat} {ops:Array Oper} (h:drzE C ih mu ops s=some s1):(∀ D,XW P (.region rid ops true) (s.st D) .normal (s1.st D))/\LG s s1/\s1.n=s.n:=by
 unfold drzE at h;split at h;rename_i r hr;injection h with h;subst h;exact kr3 b a hr
 ·split at h;rename_i r hr;injection h with h;subst h;exact kr3 b a hr
  ·split at h;rename_i r hr;injection h with h;subst h;exact kr3 b a hr
   ·exact kr3 b a h
theorem XC.of {x:Code} (h:XW P x st e st1) (hl:∀ y,x ≠ .loop y):XC P x st e st1:=by
 unfold XC;split;exact absurd rfl (hl _)
 ·exact h
theorem kabx (d:CxOk P C) (a:EvOk P ih):EvOk P (evB C ih):=by
 intro mu x s e s1 h;unfold evB at h;split at h;simp only [qc,qp] at h;obtain ⟨rfl,rfl⟩:=h;exact ⟨fun D=>XC.of k8y (fun _ h=>by cases h),rfl,LG.refl,rfl⟩
 ·split at h;rename_i s2 hs;simp only [qc,qp] at h;obtain ⟨rfl,rfl⟩:=h;obtain ⟨k1,k2,k3⟩:=kux d a hs;exact ⟨fun D=>XC.of (k44 (k1 D)) (fun _ h=>by cases h),rfl,k2,k3⟩
  ·cases h
 ·split at h;rename_i s2 hs;simp only [qc,qp] at h;obtain ⟨rfl,rfl⟩:=h;obtain ⟨k1,k2,k3⟩:=kabg d a hs;exact ⟨fun D=>XC.of (k1 D) (fun _ h=>by cases h),rfl,k2,k3⟩
  ·cases h
 ·rename_i x y;cases hx:ih mu x s with
  | none=>rw [hx] at h;cases h
  | some p=>
   obtain ⟨e1,s2⟩:=p;rw [hx] at h;obtain ⟨k1,k2,k3,k4⟩:=a _ _ _ _ _ hx;cases e1 with
   | normal=>
    obtain ⟨j1,j2,j3,j4⟩:=a _ _ _ _ _ h;exact ⟨fun D=>XC.of (kaba (k1 D).xw (j1 D).xw) (fun _ h=>by cases h),j2,k3.trans j3,j4.trans k4⟩
   | _=>
    simp only [qc,qp] at h;obtain ⟨rfl,rfl⟩:=h;exact ⟨fun D=>XC.of (k8v (k1 D).xw (fun h=>by cases h)) (fun _ h=>by cases h),k2,k3,k4⟩
 ·rename_i cc x y;split at h;rename_i b c;obtain ⟨k1,k2⟩:=a _ _ _ _ _ h;exact ⟨fun D=>XC.of (kaac (by rw [E_eq D] at c;exact c) (k1 D).xw) (fun _ h=>by cases h),k2⟩
  ·cases h
 ·rename_i i x;cases hx:ih mu x s with
  | none=>rw [hx] at h;cases h
  | some p=>
   obtain ⟨e1,s2⟩:=p;rw [hx] at h;obtain ⟨k1,k2,k3⟩:=a _ _ _ _ _ hx;cases e1 with
   | exit j=>
    simp only at h;cases c:Nat.beq j i with
    | true=>
     rw [c] at h;simp only [qg,qc,qp] at h;obtain ⟨rfl,rfl⟩:=h;obtain rfl:=qe c;exact ⟨fun D=>XC.of (k6h (k1 D).xw) (fun _ h=>by cases h),rfl,k3⟩
    | false=>
     rw [c] at h;simp only [qo,qc,qp] at h;obtain ⟨rfl,rfl⟩:=h;exact ⟨fun D=>XC.of (kwn (k1 D).xw (fun h=>by injection h with h;subst h;simp at c)) (fun _ h=>by cases h),rfl,k3⟩
   | _=>
    simp only [qc,qp] at h;obtain ⟨rfl,rfl⟩:=h;exact ⟨fun D=>XC.of (kwn (k1 D).xw (fun h=>by cases h)) (fun _ h=>by cases h),k2,k3⟩
 ·rename_i x;cases hx:ih mu x s with
  | none=>rw [hx] at h;cases h
  | some p=>
   obtain ⟨e1,s2⟩:=p;rw [hx] at h;obtain ⟨k1,k2,k3,k4⟩:=a _ _ _ _ _ hx;cases e1 with
   | normal=>
    obtain ⟨j1,j2,j3,j4⟩:=a _ _ _ _ _ h;exact ⟨fun D=>xr_go (k1 D).xw (j1 D),j2,k3.trans j3,j4.trans k4⟩
   | _=>
    simp only [qc,qp] at h;obtain ⟨rfl,rfl⟩:=h;exact ⟨fun D=>kabr (k1 D).xw (fun h=>by cases h),k2,k3,k4⟩
 simp only [qc,qp] at h;obtain ⟨rfl,rfl⟩:=h;exact ⟨fun D=>XC.of k9k (fun _ h=>by cases h),rfl,LG.refl,rfl⟩;simp only [qc,qp] at h;obtain ⟨rfl,rfl⟩:=h;exact ⟨fun D=>XC.of kaav (fun _ h=>by cases h),rfl,LG.refl,rfl⟩;obtain ⟨k1,k2,k3⟩:=a _ _ _ _ _ h;exact ⟨fun D=>XC.of (k7a (k1 D).xw k2) (fun _ h=>by cases h),k2,k3⟩
 ·cases h
theorem k7i (a:CxOk P C):∀ n,EvOk P (ev C n)
 | 0=>fun mu c s e s1 h=>by cases h
 | n+1=>kabx a (k7i a n)
theorem kjw (a:CxOk P C) (n:Nat) {f:Nat} {xs:List FV} {r:FV} (h:runE C n f xs=some r:=by kernel_rfl):PCall P f xs r:=by
 unfold runE at h;split at h;rename_i y s1 b;rw [H_eq []] at h;exact k0s (kpl a (k7i a n) b).1 h
 ·cases h
mutual
def leFV:FV->FV->Bool
 | .atom (.slice none 0 0), .lst s n xs=>Nat.ble 1 s && (Nat.beq n 0 && xs.isEmpty)
 | .atom v, .atom u=>kxg v u
 | .agg a, .agg b=>kie a b
 | .tup a, .tup b=>kie a b
 | .lst s n a, .lst s' n' b=>Nat.beq s s' && (Nat.beq n n' && kie a b)
 | _,_=>false
def kie:List FV->List FV->Bool
 | [],[]=>true
 | a::l,b::m=>leFV a b && kie l m
 | _,_=>false
end
theorem khz:∀ {a b:List FV},kie a b=true->a.length=b.length/\∀ (i:Nat) (x y:FV),a[i]?=some x->b[i]?=some y->leFV x y=true
 | [],[],_=>⟨rfl,fun i x y h=>by simp at h⟩
 | [],_::_,h=>by simp only [kie] at h;cases h
 | _::_,[],h=>by simp only [kie] at h;cases h
 | a::l,b::m,h=>by
  simp only [kie,qk] at h;obtain ⟨h1,c⟩:=khz h.2;refine ⟨by simp [h1],fun i x y hx hy=>?_⟩;cases i with
  | zero=>simp at hx hy;subst hx hy;exact h.1
  | succ i=>exact c i x y (by simpa using hx) (by simpa using hy)
theorem ksf {x y:FV} (h:leFV x y=true) (hx:x.single=true):y.single=true:=by
 unfold leFV at h;split at h;rfl;rw [<- ks4 h];exact hx;cases hx;cases hx;rfl
 ·cases h
theorem kuh {x y:FV} (h:leFV x y=true):kie x.cells y.cells=true:=by
 have one:kie [x] [y]=true:=by simp only [kie,h,Bool.and_true]
 revert one
 unfold leFV at h;intro one;split at h;exact one;exact one;exact h;exact one;exact one
 ·cases h
theorem k9o {v:Value} {x:FV} (h:RF S w v x):∀ {y:FV},leFV x y=true->RF S w v y:=by
 induction h with
 | @atom v h=>
  intro y hy;unfold leFV at hy;split at hy
  ·rename_i s n xs b;cases b;simp only [qk] at hy;have hn:=qe hy.2.1;have hx:xs=[]:=(by simpa using hy.2.2);subst hn hx;exact .lst (fun _=>[]) rfl (qv _) (by omega) (qh hy.1) (fun i x h=>by simp at h) (fun i x h=>by simp at h) fun i x j v y h=>by simp at h
  rename_i u _ b;cases b;rw [<- ks4 hy];exact .atom h;rename_i b;cases b;rename_i b;cases b;rename_i b;cases b
  ·cases hy
 | @agg cs xs hl h1 hr ih=>
  intro y hy;cases y <;> simp only [leFV] at hy <;> try cases hy
  rename_i ys;obtain ⟨k1,k2⟩:=khz hy;refine .agg (by omega) (fun z a=>?_) fun i u z e a=>?_;obtain ⟨i,hi,rfl⟩:=qah.1 a;have hx:xs[i]?=some (xs[i]'(by omega)):=qa _;exact ksf (k2 i _ _ hx (qa hi)) (h1 _ (qx _))
  ·have hi:=(qd.1 a).1;have hx:xs[i]?=some (xs[i]'(by omega)):=qa _;exact ih i u _ e hx (k2 i _ _ hx a)
 | @tup cs xs hl hr ih=>
  intro y hy;cases y <;> simp only [leFV] at hy <;> try cases hy
  rename_i ys;obtain ⟨k1,k2⟩:=khz hy;refine .tup (by omega) fun i u z e a=>?_;have hi:=(qd.1 a).1;have hx:xs[i]?=some (xs[i]'(by omega)):=qa _;exact ih i u _ e hx (k2 i _ _ hx a)
 | @lst A cap size n xs css hn hc hm hs ha hl hr ih=>
  intro y hy;cases y <;> simp only [leFV] at hy <;> try cases hy
  rename_i s' n' ys;simp only [qk] at hy;obtain ⟨e1,e2,e3⟩:=hy;have e1:=qe e1;have e2:=qe e2;subst e1 e2;obtain ⟨k1,k2⟩:=khz e3;have get:∀ (i:Nat) (y:FV),ys[i]?=some y->∃ x,xs[i]?=some x/\leFV x y=true:=fun i y hy=>by have hi:=(qd.1 hy).1;have hx:xs[i]?=some (xs[i]'(by omega)):=qa _;exact ⟨_,hx,k2 i _ _ hx hy⟩
  refine .lst css (by omega) hc hm hs (fun i y hy=>?_) (fun i y hy=>?_) fun i y j u z hy e a=>?_;obtain ⟨x,hx,_⟩:=get i y hy;exact ha i x hx;obtain ⟨x,hx,d⟩:=get i y hy;obtain ⟨q1,q2,q3⟩:=hl i x hx;obtain ⟨r1,r2⟩:=khz (kuh d);refine ⟨q1,by omega,fun z a=>?_⟩;obtain ⟨j,f,rfl⟩:=qah.1 a;have c:x.cells[j]?=some (x.cells[j]'(by omega)):=qa _;exact ksf (r2 j _ _ c (qa f)) (q3 _ (qx _))
  ·obtain ⟨x,hx,d⟩:=get i y hy;obtain ⟨r1,r2⟩:=khz (kuh d);have f:=(qd.1 a).1;have c:x.cells[j]?=some (x.cells[j]'(by omega)):=qa _;exact ih i x j u _ hx e c (r2 j _ _ c a)
 | fp=>intro y hy;cases y <;> simp only [leFV] at hy <;> cases hy
 | bx=>intro y hy;cases y <;> simp only [leFV] at hy <;> cases hy
 | bn=>intro y hy;cases y <;> simp only [leFV] at hy <;> cases hy
theorem PCall.le {f:FuncId} {xs ys:List FV} {r:FV} (h:PCall P f xs r) (a:kie ys xs=true):PCall P f ys r:=by obtain ⟨k1,k2⟩:=khz a;refine ⟨h.1,fun S w vs hs hv=>h.2 S w vs (by omega) fun i v x b hx=>?_⟩;have hi:=(qd.1 hx).1;have hy:ys[i]?=some (ys[i]'(by omega)):=qa _;exact k9o (hv i v _ b hy) (k2 i _ _ hy hx)
end Go.Proofs.YtjnjipmjkkhdpaaGreatDoor
