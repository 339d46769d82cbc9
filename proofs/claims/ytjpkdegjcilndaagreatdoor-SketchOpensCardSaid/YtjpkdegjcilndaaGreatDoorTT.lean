import Derived.Test.YtjpkdegjcilndaaGreatDoorXg
import Derived.Scope
import Derived.Test.YtjpkdegjcilndaaGreatDoorXg
import Derived.Test.YtjpkdegjcilndaaGreatDoorOpr
import Derived.Lib.ItoaNum
import Derived.Sort.Grow
import Derived.Deep.Draws
import Derived.Lib.ConvBytes
import Derived.Lib.AtoiErrMem
import Derived.RangeFuncNested
import Derived.Test.YtjpkdegjcilndaaGreatDoorHd
import Derived.Test.YtjpkdegjcilndaaGreatDoorProg
set_option linter.all false
namespace Go.Proofs.YtjpkdegjcilndaaGreatDoor
open Go Go.RowKit
def Hist (st st':St) (ψ ψ':Env) (S S':Nat->Prop) (w w':World):Prop:=Ext (·∈st.ids) ψ ψ'/\(∀ i,i∈st.ids->i∈st'.ids)/\(∀ b,S b->S' b)/\Same S w w'
def PX (F S0:Nat->Prop) (N0:Nat) (ψ:Env) (S:Nat->Prop) (w:World) (st:St) (e0:Exit) (st':St) (e:Exit) (a':Act) (w':World):Prop:=
 e=e0/\∃ ψ' S',Sim F S0 N0 st' ψ' S' a' w'/\Fr F w w'/\Hist st st' ψ ψ' S S' w w'
def XW (P:Program) (c:Code) (st:St) (e:Exit) (st':St):Prop:=
 ∀ F S0 N0 ψ S a w,Sim F S0 N0 st ψ S a w->Cwp P c (PX F S0 N0 ψ S w st e st') a w
def XR (P:Program) (c:Code) (st:St) (e:Exit) (st':St):Prop:=
 ∃ n,∀ F S0 N0 ψ S a w,Sim F S0 N0 st ψ S a w->kkz P c (PX F S0 N0 ψ S w st e st') n a w
def XWL (P:Program) (ops:Array Oper) (l:List Oper) (st st':St):Prop:=
 ∀ F S0 N0 ψ S a w,Sim F S0 N0 st ψ S a w->kbg P ops (PX F S0 N0 ψ S w st .normal st') l a w
def okX:Exit->Bool
 | .normal=>true
 | .ret=>true
 | .exit _=>true
 | _=>false
def XC (P:Program) (c:Code) (st:St) (e:Exit) (st':St):Prop:=match c with
 | .loop x=>XR P x st e st'
 | c=>XW P c st e st'
def LG (s s1:XS):Prop:=s.k<=s1.k/\∃ new,s1.lg=new++s.lg/\∀ id,id∉new->∀ ob,kaa s.heap id=some ob->kaa s1.heap id=some ob
section
variable {P:Program} {F S0:Nat->Prop} {N0:Nat} {w w' w0:World} {S S':Nat->Prop} {ψ ψ':Env} {K:Nat->Prop} {T:List (TypeId×TD)} {Z:List (TypeId×Value)} {o:Oper} {a a':Act} {st st' st1 st2:St} {t tx:TypeId} {d:TD} {id:Nat} {c:AV} {s s1 s2:XS} {e:Exit}
theorem kaj9 {l:List (Nat×AV)} {t:Nat}:getQ l t=look .any l t:=by
 induction l with
 | nil=>rfl
 | cons p l ih=>
  obtain ⟨k,v⟩:=p;rw [kat,<- ih];have hs:getQ ((k,v)::l) t=Bool.rec (motive:=fun _=>AV) (getQ l t) v (Nat.beq k t):=rfl;rw [hs];by_cases h:k=t;subst h;simp
  ·rw [qi h,Nat.beq_eq_false h]
theorem k9f {l:List (Nat×AObj)} {t:Nat}:getO l t=kaa l t:=by
 induction l with
 | nil=>rfl
 | cons p l ih=>
  obtain ⟨k,v⟩:=p;rw [kac,<- ih];have hs:getO ((k,v)::l) t=Bool.rec (motive:=fun _=>Option AObj) (getO l t) (some v) (Nat.beq k t):=rfl;rw [hs];by_cases h:k=t;subst h;simp
  ·rw [qi h,Nat.beq_eq_false h]
theorem kqr {l:List (Nat×AV)} {t j:Nat} {v:AV}:look .any (km7 l t v) j=if t=j then v else look .any l j:=by
 induction l with
 | nil=>exact kat
 | cons p l ih=>
  obtain ⟨k,u⟩:=p;have hs:km7 ((k,u)::l) t v=Bool.rec ((k,u)::km7 l t v) ((t,v)::l) (Nat.beq k t):=rfl;rw [hs,kat];by_cases h:k=t
  ·subst h;simp only [Nat.beq_refl];rw [kat];by_cases a:k=j;rw [qo a,qo a]
   ·rw [qi a,qi a,qi a]
  ·rw [Nat.beq_eq_false h];simp only;rw [kat,ih];by_cases a:k=j;rw [qo a,qo a,qi (fun e=>h (a.trans e.symm))]
   ·rw [qi a,qi a]
theorem kzg {l:List (Nat×AObj)} {t j:Nat} {v:AObj}:kaa (kys l t v) j=if t=j then some v else kaa l j:=by
 induction l with
 | nil=>exact kac
 | cons p l ih=>
  obtain ⟨k,u⟩:=p;have hs:kys ((k,u)::l) t v=Bool.rec ((k,u)::kys l t v) ((t,v)::l) (Nat.beq k t):=rfl;rw [hs,kac];by_cases h:k=t
  ·subst h;simp only [Nat.beq_refl];rw [kac];by_cases a:k=j;rw [qo a,qo a]
   ·rw [qi a,qi a,qi a]
  ·rw [Nat.beq_eq_false h];simp only;rw [kac,ih];by_cases a:k=j;rw [qo a,qo a,qi (fun e=>h (a.trans e.symm))]
   ·rw [qi a,qi a]
theorem E_eq (D:List Deferred):s.E=(s.st D).eval:=by
 funext x;cases x with
 | tmp t=>exact kaj9
 | _=>rfl
theorem H_eq (D:List Deferred):s.H=kaa (s.st D).heap:=by funext i;exact k9f
theorem mem_idsN {i k:Nat}:i∈idsN k↔i<k:=by
 induction k with
 | zero=>simp [idsN]
 | succ k ih=>
  simp only [idsN,qac,ih];omega
theorem kab4 {k:Nat}:(idsN k).contains k=false:=by
 cases h:(idsN k).contains k with
 | false=>rfl
 | true=>
  have:k∈idsN k:=by simpa using h
  have:=mem_idsN.1 this;omega
theorem Core.congr {h1 d:List (Nat×AObj)} {ids:List Nat} (h:Core F S0 N0 h1 ids ψ S w) (e:∀ id,kaa d id=kaa h1 id):Core F S0 N0 d ids ψ S w:=
 ⟨fun id o a=>h.obj id o ((e id) ▸ a),fun i i' o o' b a c=>h.inj i i' o o' b ((e i) ▸ a) ((e i') ▸ c),h.lt,h.s0,h.n0,h.fr⟩
theorem Sim.congr (h:Sim F S0 N0 st ψ S a w) (hn:st'.n=st.n) (b:∀ t,st'.get t=st.get t) (c:∀ id,kaa st'.heap id=kaa st.heap id) (hi:st'.ids=st.ids) (hd:st'.dfr=st.dfr):Sim F S0 N0 st' ψ S a w:=
 ⟨h.defers.trans hd.symm,by rw [hn];exact h.size,fun t=>by rw [b,hi];exact h.tmps t,by rw [hi];exact h.core.congr c⟩
theorem Hist.refl:Hist st st ψ ψ S S w w:=⟨Ext.refl,fun _ h=>h,fun _ h=>h,fun _ _ _=>rfl⟩
theorem Hist.trans {ψ2:Env} {S2:Nat->Prop} {w2:World} (h:Hist st st1 ψ ψ' S S' w w') (k:Hist st1 st2 ψ' ψ2 S' S2 w' w2):Hist st st2 ψ ψ2 S S2 w w2:=
 ⟨h.1.trans' k.1 h.2.1,fun i hi=>k.2.1 i (h.2.1 i hi),fun b a=>k.2.2.1 b (h.2.2.1 b a),h.2.2.2.trans' k.2.2.2 h.2.2.1⟩
theorem PX.pre {w2:World} {e':Exit} (a:Fr F w w') (b:Hist st st1 ψ ψ' S S' w w') (k:PX F S0 N0 ψ' S' w' st1 e st2 e' a' w2):PX F S0 N0 ψ S w st e st2 e' a' w2:=by obtain ⟨rfl,ψ2,S2,h1,c,d⟩:=k;exact ⟨rfl,ψ2,S2,h1,a.trans c,b.trans d⟩
theorem kajs:XW P .skip st .normal st:=fun F S0 N0 ψ S a w hs=>k9y ⟨rfl,ψ,S,hs,Fr.refl,Hist.refl⟩
theorem kakl {i:Nat}:XW P (.exit i) st (.exit i) st:=fun F S0 N0 ψ S a w hs=>kaaq ⟨rfl,ψ,S,hs,Fr.refl,Hist.refl⟩
theorem kal4:XW P .ret st .ret st:=fun F S0 N0 ψ S a w hs=>kael ⟨rfl,ψ,S,hs,Fr.refl,Hist.refl⟩
theorem kamp {x y:Code} (h:XW P x st .normal st1) (k:XW P y st1 e st2):XW P (.seq x y) st e st2:=fun F S0 N0 ψ S a w hs=>
 kxn (kco (h F S0 N0 ψ S a w hs) fun e' a' w' ⟨b,ψ',S',h1,c,d⟩=>by subst b;exact kco (k F S0 N0 ψ' S' a' w' h1) fun e2 a2 w2 q=>q.pre c d)
theorem kajp {x y:Code} (h:XW P x st e st1) (hn:e ≠ .normal):XW P (.seq x y) st e st1:=fun F S0 N0 ψ S a w hs=>
 kxn (kco (h F S0 N0 ψ S a w hs) fun e' a' w' q=>by have:=q.1;subst this;cases e' <;> first | exact absurd rfl hn | exact q)
theorem kaln {cc:Operand} {x y:Code} {b:Bool} (hc:st.eval cc = .fz (.atom (.bool b))) (h:XW P (bif b then x else y) st e st1):XW P (.cond cc x y) st e st1:=fun F S0 N0 ψ S a w hs=>by have c:=hs.eval cc;rw [hc] at c;refine k94 b c.atom ?_;cases b <;> exact h F S0 N0 ψ S a w hs
theorem kagz {i:Nat} {x:Code} (h:XW P x st (.exit i) st1):XW P (.block i x) st .normal st1:=fun F S0 N0 ψ S a w hs=>
 kz6 (kco (h F S0 N0 ψ S a w hs) fun e' a' w' q=>by have:=q.1;subst this;simp only [Exit.inBlock,if_true];exact ⟨rfl,q.2⟩)
theorem k5b {i:Nat} {x:Code} (h:XW P x st e st1) (hn:e ≠ .exit i):XW P (.block i x) st e st1:=fun F S0 N0 ψ S a w hs=>
 kz6 (kco (h F S0 N0 ψ S a w hs) fun e' a' w' q=>by
  have:=q.1;subst this;cases e' <;> simp only [Exit.inBlock] <;> try exact q
  rename_i j;rw [qi (fun h=>hn (by rw [h]))];exact q)
theorem xr_go {x:Code} (h:XW P x st .normal st1) (k:XR P x st1 e st2):XR P x st e st2:=by
 obtain ⟨n,k⟩:=k;refine ⟨n+1,fun F S0 N0 ψ S a w hs=>?_⟩;rw [kmt];refine kco (h F S0 N0 ψ S a w hs) fun e' a' w' ⟨b,ψ',S',h1,c,d⟩=>?_;subst b;have mono:∀ (n:Nat) (a:Act) (w2:World),kkz P x (PX F S0 N0 ψ' S' w' st1 e st2) n a w2->kkz P x (PX F S0 N0 ψ S w st e st2) n a w2:=by
  intro n
  induction n with
  | zero=>intro a w2 h;exact h.elim
  | succ n ih=>
   intro a w2 h;rw [kmt] at h ⊢;refine kco h fun e3 a3 w3 q=>?_;cases e3 with
   | normal=>exact ih _ _ q
   | _=>exact PX.pre c d q
 exact mono n a' w' (k F S0 N0 ψ' S' a' w' h1)
theorem kam9 {x:Code} (h:XW P x st e st1) (hn:e ≠ .normal):XR P x st e st1:=by refine ⟨1,fun F S0 N0 ψ S a w hs=>?_⟩;rw [kmt];refine kco (h F S0 N0 ψ S a w hs) fun e' a' w' q=>?_;have:=q.1;subst this;cases e' <;> first | exact absurd rfl hn | exact q
theorem kakz {x:Code} (h:XR P x st e st1):XW P (.loop x) st e st1:=by obtain ⟨n,h⟩:=h;exact fun F S0 N0 ψ S a w hs=>koz n (h F S0 N0 ψ S a w hs)
theorem kah4 {x:Code} (h:XW P x st e st1) (b:okX e=true):XW P (.scope x) st e st1:=fun F S0 N0 ψ S a w hs=>
 wp_wide.2 (wp_scope_straight (wp_wide.1 (kco (h F S0 N0 ψ S a w hs) fun e' a' w' q=>by have:=q.1;subst this;cases e' <;> first | exact q | cases b)))
theorem XC.xw {x:Code} (h:XC P x st e st1):XW P x st e st1:=by
 unfold XC at h;split at h;exact kakz h
 ·exact h
theorem kae5 {i:Nat} {ops:Array Oper} (h:XWL P ops ops.toList st st1):XW P (.region i ops false) st .normal st1:=fun F S0 N0 ψ S a w hs=>ko7 (h F S0 N0 ψ S a w hs)
theorem kal6 {ops:Array Oper}:XWL P ops [] st st:=fun F S0 N0 ψ S a w hs=>⟨rfl,ψ,S,hs,Fr.refl,Hist.refl⟩
theorem kakd {ops:Array Oper} {l:List Oper} {b:List (Nat×AObj)} {ids':List Nat} (h:StepA P o st c b ids') (s:kbp ops st o=some true) (hd:∀ t,o.dst=some t->t<st.n)
  (hn:st2.n=st.n) (d:∀ t,st2.get t=(({ st with heap:=b,ids:=ids' }:St).put o.dst c).get t) (u:st2.heap=b) (hi:st2.ids=ids') (f:st2.dfr=st.dfr) (k:XWL P ops l st2 st1):XWL P ops (o::l) st st1:=fun F S0 N0 ψ S a w hs=>by
 unfold kbg;rw [kew hs s];refine (kjm ?_ (h F S0 N0 ψ S a w hs));rintro v w' ⟨ψ',S',h1,x,y,j,m,p,r⟩;have hp:=hs.put (st':={ st with heap:=b,ids:=ids' }) rfl rfl rfl h1 x j m p r hd;have e1:(({ st with heap:=b,ids:=ids' }:St).put o.dst c).n=st.n/\(({ st with heap:=b,ids:=ids' }:St).put o.dst c).heap=b/\(({ st with heap:=b,ids:=ids' }:St).put o.dst c).ids=ids'/\(({ st with heap:=b,ids:=ids' }:St).put o.dst c).dfr=st.dfr:=by cases o.dst <;> exact ⟨rfl,rfl,rfl,rfl⟩
 have g:Sim F S0 N0 st2 ψ' S' (a.put o.dst v) w':=hp.congr (hn.trans e1.1.symm) d (fun i=>by rw [u,e1.2.1]) (by rw [hi,e1.2.2.1]) (by rw [f,e1.2.2.2]);exact kdn (fun e a' w'' q=>q.pre y ⟨j,by rw [hi];exact m,p,r⟩) _ _ _ (k F S0 N0 ψ' S' _ w' g)
theorem kak5 {ops:Array Oper} {l:List Oper} (f:kbp ops st o=some false) (hd:∀ t,o.dst=some t->t<st.n) (hn:st2.n=st.n) (b:∀ t,st2.get t=(st.put o.dst (.fz (.tup []))).get t) (g:st2.heap=st.heap) (hi:st2.ids=st.ids) (c:st2.dfr=st.dfr) (k:XWL P ops l st2 st1):XWL P ops (o::l) st st1:=fun F S0 N0 ψ S a w hs=>by
 unfold kbg;rw [kew hs f];have hp:=hs.put (st':=st) rfl rfl rfl hs.core (.fz RF.undef) Ext.refl (fun _ h=>h) (fun _ h=>h) (fun _ _ _=>rfl) hd;have e1:(st.put o.dst (.fz (.tup []))).n=st.n/\(st.put o.dst (.fz (.tup []))).heap=st.heap/\(st.put o.dst (.fz (.tup []))).ids=st.ids/\(st.put o.dst (.fz (.tup []))).dfr=st.dfr:=by cases o.dst <;> exact ⟨rfl,rfl,rfl,rfl⟩
 have d:Sim F S0 N0 st2 ψ S (a.put o.dst undef) w:=hp.congr (hn.trans e1.1.symm) b (fun i=>by rw [g,e1.2.1]) (by rw [hi,e1.2.2.1]) (by rw [c,e1.2.2.2]);exact kdn (fun e a' w'' q=>q.pre Fr.refl ⟨Ext.refl,fun i h=>by rw [hi];exact h,fun _ h=>h,fun _ _ _=>rfl⟩) _ _ _ (k F S0 N0 ψ S _ w d)
theorem LG.refl:LG s s:=⟨qx _,[],rfl,fun _ _ _ h=>h⟩
theorem LG.trans (h:LG s s1) (k:LG s1 s2):LG s s2:=by obtain ⟨m1,n1,e1,h1⟩:=h;obtain ⟨m2,n2,e2,b⟩:=k;refine ⟨qav m1 m2,n2++n1,by rw [e2,e1,qbh],fun id a ob c=>?_⟩;simp only [qau,not_or] at a;exact b id a.1 ob (h1 id a.2 ob c)
theorem k3e {D:List Deferred} {s:XS} {dd:Option Nat} {v:AV} (h:List (Nat×AObj)) (ids:List Nat) (t:Nat) (hs:s1.tmps=s.tmps):((s1.put dd v).st D).get t=(({ s.st D with heap:=h,ids:=ids }:St).put dd v).get t:=by
 cases dd with
 | none=>show look .any s1.tmps t=look .any s.tmps t;rw [hs]
 | some d=>
  show look .any (km7 s1.tmps d v) t=look .any ((d,v)::s.tmps) t;rw [kqr,kat,hs]
theorem ku4 (s:XS) (dd:Option Nat) (v:AV):(s.put dd v).n=s.n/\(s.put dd v).heap=s.heap/\(s.put dd v).k=s.k/\(s.put dd v).lg=s.lg:=by cases dd <;> exact ⟨rfl,rfl,rfl,rfl⟩
theorem LG.put {dd:Option Nat} {v:AV} (h:LG (s1.put dd v) s2):LG s1 s2:=by obtain ⟨_,e1,e3,e2⟩:=ku4 s1 dd v;obtain ⟨h0,new,h1,a⟩:=h;rw [e2] at h1;rw [e1] at a;rw [e3] at h0;exact ⟨h0,new,h1,a⟩
def kad0 (P:Program) (o:Oper) (s:XS) (c:AV) (s1:XS):Prop:=(∀ D,StepA P o (s.st D) c s1.heap (idsN s1.k))/\s1.n=s.n/\s1.tmps=s.tmps/\LG s s1
theorem kana {dl:Dl} (h:∀ D,StepA P o (s.st D) c (klv (s.st D) s.k dl) (dIds (s.st D) s.k dl)):kad0 P o s c (s.app dl):=by
 cases dl with
 | no=>exact ⟨h,rfl,rfl,LG.refl⟩
 | new ob=>
  refine ⟨h,rfl,rfl,Nat.le_succ _,[s.k],rfl,fun id b ob' d=>?_⟩;show kaa ((s.k,ob)::s.heap) id=_;rw [kac,qi (fun e=>b (by rw [e];exact qa2.2 rfl))];exact d
 | upd i ob=>
  refine ⟨fun D F S0 N0 ψ S a w hs=>kls (fun v w' ⟨ψ',S',h1,f⟩=>⟨ψ',S',h1.congr fun id=>?_,f⟩) (h D F S0 N0 ψ S a w hs),rfl,rfl,qx _,[i],rfl,fun id b ob' d=>?_⟩;show kaa (kys s.heap i ob) id=_;rw [kzg,qi (fun e=>b (by rw [e];exact qa2.2 rfl))];exact d
  ·show kaa (kys s.heap i ob) id=kaa ((i,ob)::s.heap) id;rw [kzg,kac]
end
def FT.ok (P:Program):FT->Prop
 | .lf=>True
 | .nd k v l r => (P.funcs[k]? = some v /\ (v.name == "runtime.NumGoroutine") = false) /\ FT.ok P l /\ FT.ok P r
def FT.fl:FT->List (Nat×Func)
 | .lf=>[]
 | .nd k v l r=>(k,v)::(FT.fl l++FT.fl r)
theorem FT.ok_of {P : Program} : ∀ {t : FT}, (FT.fl t).map (fun p => (P.funcs[p.1]?, p.2.name == "runtime.NumGoroutine")) = (FT.fl t).map (fun p => (some p.2, false)) -> FT.ok P t
 | .lf,_=>trivial
 | .nd k v l r,h=>by simp only [FT.fl,qa0,qb0,List.cons.injEq,qv] at h;obtain ⟨h1,b⟩:=h;have a:=List.append_inj b (by simp);exact ⟨h1,FT.ok_of a.1,FT.ok_of a.2⟩
def IbOk (P : Program) (f : Nat) : Prop := ∃ fn, P.funcs[f]? = some fn /\ (fn.name == "runtime.NumGoroutine") = false /\ fn.body.isNone = true /\ Extern.findNext fn = none /\ Extern.find fn = some Extern.BytealgIndexByte.indexByte
structure CxOk (P:Program) (C:Cx):Prop where
 T:TOk P C.T
 Z:ZOk P C.Z
 fn:C.fn.ok P
 fx:∀ p∈C.fx,PCall P p.1 p.2.1 p.2.2
 ib:∀ f∈C.ib,IbOk P f
 mixed:P.follows .mixedOrders=true
def EvOk (P:Program) (ih:EvT):Prop:=∀ mu c s e s1,ih mu c s=some (e,s1)->(∀ D,XC P c (s.st D) e (s1.st D))/\okX e=true/\LG s s1/\s1.n=s.n
section
variable {P:Program} {F S0:Nat->Prop} {N0:Nat} {w w' w0:World} {S S':Nat->Prop} {ψ ψ':Env} {K:Nat->Prop} {T:List (TypeId×TD)} {Z:List (TypeId×Value)} {o:Oper} {a a':Act} {st st' st1 st2:St} {t tx:TypeId} {d:TD} {id:Nat} {c:AV} {s s1 s2:XS} {e:Exit} {C:Cx} {ih:EvT}
theorem FT.get_ok {v : Func} {f : Nat} : ∀ {tr : FT}, tr.ok P -> tr.get f = some v -> P.funcs[f]? = some v /\ (v.name == "runtime.NumGoroutine") = false
 | .lf,_,h=>by cases h
 | .nd k u l r,b,h=>by
  obtain ⟨h0,hl,hr⟩:=b;have hs:(FT.nd k u l r).get f=Bool.rec (motive:=fun _=>Option Func) (Bool.rec (motive:=fun _=>Option Func) (r.get f) (l.get f) (Nat.blt f k)) (some u) (Nat.beq k f):=rfl;rw [hs] at h;cases hk:Nat.beq k f with
  | true=>
   rw [hk] at h;injection h with h;rw [<- qk hk,<- h];exact h0
  | false=>
   rw [hk] at h;simp only at h;cases a:Nat.blt f k with
   | true=>rw [a] at h;exact FT.get_ok hl h
   | false=>rw [a] at h;exact FT.get_ok hr h
theorem k66 (c:TOk P T) (hs:Sim F S0 N0 st ψ S a w):∀ {rs:List ResultVar} {ys:List AV},kyv T st.eval (kaa st.heap) rs=some ys ->
  ∃ vs:List Value,(rs.mapM (kin a.tmps)).run P w = .ok vs w/\vs.length=ys.length/\∀ (i:Nat) (v:Value) (y:AV),vs[i]?=some v->ys[i]?=some y->RV ψ (·∈st.ids) S w v y
 | [],ys,h=>by simp only [kyv,qc] at h;subst h;exact ⟨[],by simp,rfl,fun i v y h=>by simp at h⟩
 | r::rs,ys,h=>by
  simp only [kyv] at h;split at h
  ·rename_i y ys' h1 e;injection h with h;subst h;obtain ⟨vs,k1,k2,k3⟩:=k66 c hs e;have key:∃ v,(kin a.tmps r).run P w = .ok v w/\RV ψ (·∈st.ids) S w v y:=by
    unfold resE at h1;split at h1;rename_i t;injection h1 with h1;subst h1;exact ⟨_,rfl,hs.tmps t⟩
    ·rename_i x t;split at h1;rename_i d xs hd hx;obtain ⟨b,off,e1,hcl⟩:=k4e (hs.tmps x) (fun id o f=>(hs.core.obj id o f).2.1) hx;obtain ⟨u,e2,e3⟩:=k2t (P:=P) (c.get hd) hcl h1;refine ⟨u,?_,e3⟩;simp only [kin,e1,asAddr,Sem.run_bind,Sem.run_pure,Result.andThen_ok,e2]
     ·cases h1
   obtain ⟨v,e1,e2⟩:=key;refine ⟨v::vs,?_,by simp [k2],fun i v' y' hv hy=>?_⟩;rw [List.mapM_cons];simp only [Sem.run_bind,e1,Result.andThen_ok,k1,Sem.run_pure]
   ·cases i with
    | zero=>simp at hv hy;subst hv hy;exact e2
    | succ i=>exact k3 i v' y' (by simpa using hv) (by simpa using hy)
  ·cases h
theorem kaal (d:TOk P T) (hs:Sim F S0 N0 st ψ S a w) {fn:Func} {y:AV} (h:retE T st.eval (kaa st.heap) fn.results.toList=some y):∃ v,(results fn a.tmps).run P w = .ok v w/\RV ψ (·∈st.ids) S w v y:=by
 unfold retE at h;have key:∀ ys,kyv T st.eval (kaa st.heap) fn.results.toList=some ys->∃ vs:List Value,(results fn a.tmps).run P w = .ok (if h:vs.length=1 then vs[0] else .tuple vs.toArray) w/\vs.length=ys.length/\∀ (i:Nat) (v:Value) (y:AV),vs[i]?=some v->ys[i]?=some y->RV ψ (·∈st.ids) S w v y:=fun ys hy=>by
  obtain ⟨vs,k1,k2,k3⟩:=k66 d hs hy;refine ⟨vs,?_,k2,k3⟩;unfold results;rw [Array.mapM_eq_mapM_toList];have b:∀ (g:ResultVar->Sem Value),(∀ x,g x=kin a.tmps x)->(fn.results.toList.mapM g).run P w = .ok vs w:=fun g b=>by rw [show g=kin a.tmps from funext b];exact k1
  simp only [Sem.run_bind,Sem.run_map];rw [b _ fun x=>by cases x <;> rfl];simp only [Result.andThen_ok,Sem.run_pure];simp
 split at h
 ·rename_i z e;injection h with h;subst h;obtain ⟨vs,k1,k2,k3⟩:=key _ e;have hl:vs.length=1:=by simpa using k2
  rw [dif_pos hl] at k1;exact ⟨_,k1,k3 0 _ _ (qb (by omega)) rfl⟩
 ·rename_i ys c hy;injection h with h;subst h;obtain ⟨vs,k1,k2,k3⟩:=key _ hy;have hl:¬ vs.length=1:=fun hl=>by rw [k2] at hl;obtain ⟨z,rfl⟩:=List.length_eq_one_iff.1 hl;exact c z rfl
  rw [dif_neg hl] at k1;exact ⟨_,k1,RV.tupA (by simpa using k2) fun i v x hv hx=>k3 i v x (by simpa using hv) hx⟩
 ·cases h
theorem kq9 {f : FuncId} {fst caps : Array Value} {x : Operand} {args : Array Operand} {ts : Array TypeId} (e : o.op = .call { callee := .value x, args := args, argTypes := ts }) (hx : a.eval x = .func (.func f) fst caps) (g : ∃ fn, P.funcs[f]? = some fn /\ fn.body.isNone = false /\ (fn.name == "runtime.NumGoroutine") = false) :
  (execOp a.eval o).run P w = .ok (.enter f ((fst++args.map a.eval)++caps)) w:=by
 obtain ⟨fn,h1,c,d⟩:=g;have b:fn.body≠none:=by intro h;rw [h] at c;cases c
 simp only [qar,ne_eq] at d;simp [execOp,e,resolve,hx,Deferred.ofValue,invoke,callFunc,h1,b,d]
def RVL (ψ:Env) (K S:Nat->Prop) (w:World) (vs:List Value) (xs:List AV):Prop:=vs.length=xs.length/\∀ (i:Nat) (v:Value) (x:AV),vs[i]?=some v->xs[i]?=some x->RV ψ K S w v x
theorem RVL.append {vs us:List Value} {xs ys:List AV} (h:RVL ψ K S w vs xs) (k:RVL ψ K S w us ys):RVL ψ K S w (vs++us) (xs++ys):=by
 refine ⟨by simp [h.1,k.1],fun i v x hv hx=>?_⟩;by_cases hi:i<vs.length;rw [qad hi] at hv;rw [qad (by rw [<- h.1];exact hi)] at hx;exact h.2 i v x hv hx
 ·rw [qae (by omega)] at hv;rw [qae (by rw [<- h.1];omega),<- h.1] at hx;exact k.2 _ v x hv hx
theorem RVL.evals {ids:List Nat} (ht:∀ t,RV ψ (·∈ids) S w (a.tmps.getD t undef) (st.get t)) (l:List Operand):RVL ψ (·∈ids) S w (l.map a.eval) (l.map st.eval):=by refine ⟨by simp,fun i v x hv hx=>?_⟩;rw [qq,qt] at hv hx;obtain ⟨y,hy,rfl⟩:=hv;obtain ⟨z,b,rfl⟩:=hx;rw [hy] at b;injection b with b;subst b;exact Sim.eval_tmps ht y
theorem kpt {f:Nat} {fst caps:List AV} {x:Operand} (args:Array Operand) {ids:List Nat} (ht:∀ t,RV ψ (·∈ids) S w (a.tmps.getD t undef) (st.get t)) (h:knh st.eval x=some (f,fst,caps)):
  ∃ vf vc:Array Value,a.eval x = .func (.func f) vf vc/\RVL ψ (·∈ids) S w ((vf++args.map a.eval)++vc).toList (fst++(args.toList.map st.eval++caps)):=by
 have hv:=Sim.eval_tmps ht x;have fin:∀ (vf vc:Array Value),RVL ψ (·∈ids) S w vf.toList fst->RVL ψ (·∈ids) S w vc.toList caps->RVL ψ (·∈ids) S w ((vf++args.map a.eval)++vc).toList (fst++(args.toList.map st.eval++caps)):=fun vf vc h1 b=>by have:=h1.append ((RVL.evals ht args.toList).append b);simpa [qbh] using this
 unfold knh at h;split at h
 ·rename_i g cs hx;simp only [qc,qv] at h;obtain ⟨rfl,rfl,rfl⟩:=h;rw [hx] at hv;generalize a.eval x=u at hv;cases hv with
  | @fn _ vc _ h1 b=>exact ⟨#[],vc,rfl,fin _ _ ⟨rfl,fun i v x h=>by simp at h⟩ ⟨by simpa using h1,fun i v x hv hx=>b i v x (by simpa using hv) hx⟩⟩
 ·rename_i g cs hx;simp only [qc,qv] at h;obtain ⟨rfl,rfl,rfl⟩:=h;rw [hx] at hv;generalize a.eval x=u at hv;cases hv with
  | @mth _ vf _ h1 b=>exact ⟨vf,#[],rfl,fin _ _ ⟨by simpa using h1,fun i v x hv hx=>b i v x (by simpa using hv) hx⟩ ⟨rfl,fun i v x h=>by simp at h⟩⟩
 ·cases h
theorem kadt {f:Nat} {fst caps:List AV} {x:Operand} {args:Array Operand} {ts:Array TypeId} {y:AV} {b:List (Nat×AObj)} {ids':List Nat} (l:o.op = .call { callee := .value x,args:=args,argTypes:=ts }) (hc:knh st.eval x=some (f,fst,caps))
  (h:HCall P f (fst++(args.toList.map st.eval++caps)) st.heap st.ids (.ret y) b ids'):StepA P o st y b ids':=by
 intro F S0 N0 ψ S a w hs;obtain ⟨vf,vc,hx,h1,m⟩:=kpt args hs.tmps hc;unfold ket;rw [kq9 l hx h.1];refine (h.2 F S0 N0 ψ S w _ (by simpa using h1) (fun i v x hv hx=>m i v x (by rw [qat];exact hv) hx) hs.core).mono ?_;rintro e w' ⟨ψ',S',⟨v,rfl,hv⟩,c,k,g,j,hS,d⟩;exact ⟨v,rfl,ψ',S',c,hv,k,g,j,hS,d⟩
theorem kalp {f:Nat} {fst caps:List AV} {x:Operand} {args:Array Operand} {ts:Array TypeId} {ys:List FV} {r:FV} (c:o.op = .call { callee := .value x,args:=args,argTypes:=ts }) (hc:knh st.eval x=some (f,fst,caps)) (d:kn5 (fst++(args.toList.map st.eval++caps))=some ys)
  (h:PCall P f ys r):NStep P o st (.fz r):=by
 intro ψ S a w ht j;obtain ⟨vf,vc,hx,h1,b⟩:=kpt args ht hc;rw [knt d] at h1 b;unfold ket;rw [kq9 c hx h.1];refine (h.2 S w _ (by simpa using h1) fun i v x hv hx=>(b i v (.fz x) (by rw [qat];exact hv) (by rw [qq,hx];rfl)).inv).mono ?_;rintro e w' ⟨v,rfl,hv,g⟩;exact ⟨v,rfl,g, .fz hv⟩
theorem k7s {c:UInt8}:∀ {l:List UInt8} {i:Nat},ksn c l i=if Lib.indexByte l c = -1 then -1 else Lib.indexByte l c+i
 | [],i=>by simp [ksn,Lib.indexByte]
 | x::l,i=>by
  have a:∀ l:List UInt8,-1<=Lib.indexByte l c:=fun l=>by
   induction l with
   | nil=>simp [Lib.indexByte]
   | cons y l ih=>
    simp only [Lib.indexByte];split;omega
    ·split;omega
     ·omega
  by_cases h:x=c;subst h;simp [ksn,Lib.indexByte]
  ·have h1:(x == c)=false:=(by simpa using h);have b:Nat.beq x.toNat c.toNat=false:=Nat.beq_eq_false fun e=>h (UInt8.toNat_inj.1 e);have d:Lib.indexByte (x::l) c=if Lib.indexByte l c = -1 then -1 else Lib.indexByte l c+1:=by
    simp only [Lib.indexByte,h1,Bool.false_eq_true,if_false];by_cases hm:Lib.indexByte l c = -1;simp [hm]
    ·have:(Lib.indexByte l c == -1)=false:=(by simpa using hm);simp [hm]
   rw [d];simp only [ksn,b,qd];rw [k7s];have:=a l;by_cases hm:Lib.indexByte l c = -1;simp [hm]
   ·rw [qi hm,qi hm,qi (by omega)];omega
theorem ib_n {f:Nat} {fst caps:List AV} {x:Operand} {args:Array Operand} {ts:Array TypeId} {u:BA} {cc:Int} (g:o.op = .call { callee := .value x,args:=args,argTypes:=ts }) (hc:knh st.eval x=some (f,fst,caps)) (j:kn5 (fst++(args.toList.map st.eval++caps))=some [.atom (.string u), .atom (.int .u8 cc)])
  (h:IbOk P f):NStep P o st (.fz (.atom (.int .i64 (ksn cc.toNat.toUInt8 u.data.toList 0)))):=by
 obtain ⟨fn,k,b,l,hn,m⟩:=h;intro ψ S a w ht r;obtain ⟨vf,vc,hx,h1,c⟩:=kpt args ht hc;rw [knt j] at h1 c;obtain ⟨q,e⟩:∃ q,q=(vf++args.map a.eval)++vc:=⟨_,rfl⟩;rw [<- e] at h1 c;have d:q=#[.string u, .int .u8 cc]:=by
  have hl:q.size=2:=by simpa using h1
  apply Array.ext (by simpa using hl);intro i n p;have hi:i<2:=by omega
  match i,hi with
  | 0,_=>exact (c 0 q[0] _ (by simp [hl]) rfl).atom
  | 1,_=>exact (c 1 q[1] _ (by simp [hl]) rfl).atom
 have hi:ksn cc.toNat.toUInt8 u.data.toList 0=Lib.indexByte u.data.toList cc.toNat.toUInt8:=by
  rw [k7s];split;rename_i h;exact h.symm
  ·simp
 rw [hi];refine kae w (.int .i64 (Lib.indexByte u.data.toList cc.toNat.toUInt8)) ?_ ⟨kaf _, .fz (.atom rfl)⟩;have hr:(callFunc f q).run P w = .ok (.value (.int .i64 (Lib.indexByte u.data.toList cc.toNat.toUInt8))) w:=by rw [run_callFunc_extern k b l hn m,d,Lib.run_indexByteString];rfl
 rw [e] at hr;simp [execOp,g,resolve,hx,Deferred.ofValue,invoke] at hr ⊢;simpa [Array.append_assoc] using hr
theorem kahh {b x c1:Code} {rid t:Nat} {o1 o2:Oper} (h:k5w b=some (x,rid,o1,o2,t,c1)):b = .seq x (.seq (.region rid #[o1,o2] false) c1)/\o1.dst=some t/\o1.guard=none/\o2.dst=none/\o2.guard=none/\∃ ts,o2.op = .defer { callee := .value (.tmp t),args:=#[],argTypes:=ts }:=by
 unfold k5w at h;split at h
 ·rename_i x' rid' os c;split at h
  ·rename_i p1 p2 a;split at h
   ·rename_i t' cl h1 f g i j;split at h;rename_i t2 d e;replace h:=kam h;obtain ⟨k,h⟩:=h;simp only [qc,qv] at h;obtain ⟨rfl,rfl,rfl,rfl,rfl,rfl⟩:=h;obtain rfl:=qk k;obtain ⟨cal,as_,ts⟩:=cl;simp only at d e;have e1:os=#[p1,p2]:=(by apply qbm;simpa using a);have e2:as_=#[]:=(by apply qbm;simpa using e);subst e1 e2 d;exact ⟨rfl,h1,f,i,j,ts,g⟩
    ·cases h
   ·cases h
  ·cases h
 ·cases h
theorem k8p (h:k53 e=true):e = .normal\/e = .ret:=by cases e <;> simp [k53] at h <;> simp
theorem kac4 {args:List AV} {n:Nat} {heap:List (Nat×AObj)} {k:Nat} {lg:List Nat} {vs:Array Value} (b:args.length<=n) (hs:vs.size=args.length) (hr:∀ (i:Nat) (v:Value) (x:AV),vs[i]?=some v->args[i]?=some x->RV ψ (·∈idsN k) S w v x) (hc:Core F S0 N0 heap (idsN k) ψ S w):
  Sim F S0 N0 (XS.st ⟨n,argT 0 args,heap,k,lg⟩ []) ψ S { tmps:=vs++Array.replicate (n - vs.size) undef,defers:=[] } w:=by
 refine ⟨rfl,by show (vs++Array.replicate (n - vs.size) undef).size=n;simp;omega,fun t=>?_,hc⟩;show RV _ _ _ w _ (look .any (argT 0 args) t);rcases kla args 0 t with h | ⟨x,_,h1,c⟩;rw [h];exact .any
 ·rw [c];have h1:args[t]?=some x:=by simpa using h1
  have a:t<vs.size:=by rw [hs];exact (qg.1 h1).1
  have:(vs++Array.replicate (n - vs.size) undef).getD t undef=vs[t]:=by rw [qam,qa7 a];simp [a]
  show RV _ _ _ w ((vs++Array.replicate (n - vs.size) undef).getD t undef) x;rw [this];exact hr t _ x (by simp [a]) h1
theorem kagy (O : CxOk P C) (p : EvOk P ih) {f : Nat} {fn : Func} {b x c1 : Code} {rid t : Nat} {o1 o2 : Oper} {args : List AV} {heap : List (Nat × AObj)} {k : Nat} {lg : List Nat} {y : AV} (hf : P.funcs[f]? = some fn) (q : (fn.name == "runtime.NumGoroutine") = false) (hb : fn.body = some b) (hd : k5w b = some (x, rid, o1, o2, t, c1))
  (Q:args.length<=fn.ntmps) (ht:t<fn.ntmps) (h:kabi C ih f fn x o1 t c1 ⟨fn.ntmps,argT 0 args,heap,k,lg⟩=some (y,s1)):HCall P f args heap (idsN k) (.ret y) s1.heap (idsN s1.k)/\LG ⟨fn.ntmps,argT 0 args,heap,k,lg⟩ s1:=by
 obtain ⟨rfl,d1,d2,d3,d4,ts,d5⟩:=kahh hd;unfold kabi at h;split at h
 ·rename_i s2 hx;split at h
  ·rename_i f2 caps G;split at h
   ·rename_i fn2 H;obtain ⟨U,m⟩:=FT.get_ok O.fn H;split at h
    ·rename_i ta tb c2 I;split at h
     ·rename_i e s3 V;split at h
      ·rename_i e2 s4 hc2;replace hc2:=kam hc2;obtain ⟨r,hc2⟩:=hc2;simp only [qp] at r;have J:=qs r.2;have he:=k8p r.1;split at h
       ·rename_i y' hy;replace hy:=kam hy;obtain ⟨u,hy⟩:=hy;have u:=k8p u;simp only [qc,qv] at h;obtain ⟨rfl,rfl⟩:=h;obtain ⟨x1,_,x3,x4⟩:=p _ _ _ _ _ hx;obtain ⟨y1,_,y3,y4⟩:=p _ _ _ _ _ V;obtain ⟨z1,_,z3,z4⟩:=p _ _ _ _ _ hc2;obtain ⟨pr1,pr2,pr3,pr4⟩:=ku4 s2 (some t) (AV.fn f2 caps);refine ⟨⟨⟨fn,hf,by rw [hb];rfl,q⟩,fun F S0 N0 ψ S w vs hs hr hc=>calls_of_wp_defers hf hb (wp_wide.1 ?_)⟩,?_⟩
        ·refine kxn (kco ((x1 []).xw F S0 N0 ψ S _ w (kac4 Q hs hr hc)) ?_);rintro e' a1 w1 ⟨rfl,ψ1,S1,q1,q2,q3⟩;refine kxn (ko7 ?_);have K:NStep P o1 (s2.st []) (.fn f2 caps):=k5u O.T O.Z (by rw [E_eq [],H_eq []] at G;exact G);show kbg P #[o1,o2] _ [o1,o2] a1 w1;unfold kbg;rw [kew (ops:=#[o1,o2]) (o:=o1) (g:=true) q1 (by unfold kbp;rw [d2])];refine (kjm ?_ (K.step F S0 N0 ψ1 S1 a1 w1 q1));rintro v w2 ⟨ψ2,S2,g1,g2,g3,g4,g5,g6,g7⟩;have hp:=q1.put (st':=s2.st []) (d:=o1.dst) rfl rfl rfl g1 g2 g4 g5 g6 g7 (fun t' j=>by rw [d1] at j;injection j with j;show t'<s2.n;rw [x4];show t'<fn.ntmps;omega);rw [d1] at hp ⊢;cases g2 with
         | @fn _ cs _ L X=>
          have Y:(a1.put (some t) (.func (.func f2) #[] cs)).eval (.tmp t) = .func (.func f2) #[] cs:=(by show (a1.put (some t) _).tmps.getD t undef=_;rw [kot (some t) fn.ntmps t (by rw [q1.size];exact x4) (by intro t' j;injection j with j;omega),qo rfl]);have M:(execOp (a1.put (some t) (.func (.func f2) #[] cs)).eval o2).run P w2 = .ok (.defer (dfn f2 cs.toList)) w2:=(by simp [execOp,d5,resolve,Y,Deferred.ofValue,dfn]);unfold kbg;rw [kew (ops:=#[o1,o2]) (o:=o2) (g:=true) hp (by unfold kbp;rw [d4])];refine k7a M ?_;simp only [Oper.uponIn,d3];have A:Sim F S0 N0 ((s2.put (some t) (.fn f2 caps)).st [dfn f2 cs.toList]) ψ2 S2 { (a1.put (some t) (.func (.func f2) #[] cs)) with defers:=dfn f2 cs.toList::(a1.put (some t) (.func (.func f2) #[] cs)).defers } w2:=by
           refine ⟨?_,hp.size,fun t'=>?_,hp.core⟩;show dfn f2 cs.toList::a1.defers=_;rw [q1.defers];rfl
           ·rw [k3e (s:=s2) (D:=[dfn f2 cs.toList]) s2.heap (idsN s2.k) t' rfl];exact hp.tmps t'
          refine kco ((y1 [dfn f2 cs.toList]).xw F S0 N0 ψ2 S2 _ w2 A) ?_;rintro e' a4 w4 ⟨rfl,ψ4,S4,r1,r2,r3⟩;have r3':Hist (s2.st []) (s3.st []) ψ2 ψ4 S2 S4 w2 w4:=r3;obtain ⟨_,_,_,_,_,_,_,_,_,_,n1,n2,_⟩:=kvz I;have l:Sim F S0 N0 (XS.st ⟨fn2.ntmps,argT 0 caps,s3.heap,s3.k,s3.lg⟩ []) ψ4 S4 { tmps:=cs.toList.toArray++Array.replicate (fn2.ntmps - cs.toList.toArray.size) undef,defers:=[] } w4:=
           kac4 J (by simpa using L) (fun i v z hv hz=>(X i v z (by simpa using hv) hz).keep r3'.1 r3'.2.1 r3'.2.2.1 r3'.2.2.2) r1.core
          have N:=l.put (st':=XS.st ⟨fn2.ntmps,argT 0 caps,s3.heap,s3.k,s3.lg⟩ []) (d:=some ta) (v := .nilIface) (c:=nilA) rfl rfl rfl l.core (.fz (.atom rfl)) Ext.refl (fun _ h=>h) (fun _ h=>h) (fun _ _ _=>rfl) (fun t' j=>by injection j with j;show t'<fn2.ntmps;omega);have aa:=N.put (st':=(XS.st ⟨fn2.ntmps,argT 0 caps,s3.heap,s3.k,s3.lg⟩ []).put (some ta) nilA) (d:=some tb) (v := .nilIface) (c:=nilA) rfl rfl rfl N.core (.fz (.atom rfl)) Ext.refl (fun _ h=>h) (fun _ h=>h) (fun _ _ _=>rfl) (fun t' j=>by injection j with j;show t'<fn2.ntmps;omega);have B:=aa.congr (st':=XS.st ⟨fn2.ntmps,km7 (km7 (argT 0 caps) ta nilA) tb nilA,s3.heap,s3.k,s3.lg⟩ []) rfl (fun t'=>by show look .any (km7 (km7 (argT 0 caps) ta nilA) tb nilA) t'=look .any ((tb,nilA)::(ta,nilA)::argT 0 caps) t';rw [kqr,kqr,kat,kat]) (fun _=>rfl) rfl rfl;have fin:=kaka (w':=w4) (a:=a4) (P:=P) fn f2 cs.toList (fun e w'=>∃ ψ' S',HEnd.is e ψ' (·∈idsN s4.k) S' w' (.ret y')/\Core F S0 N0 s4.heap (idsN s4.k) ψ' S' w'/\Fr F w w'/\Ext (·∈idsN k) ψ ψ'/\(∀ i,i∈idsN k->i∈idsN s4.k)/\(∀ b,S b->S' b)/\Same S w w') r1.defers U I m (by simp [L];omega) (by refine kco ((z1 []).xw F S0 N0 ψ4 S4 _ w4 B) ?_;rintro e5 a5 w5 ⟨rfl,ψ5,S5,u1,u2,u3⟩;have u3':Hist (s3.st []) (s4.st []) ψ4 ψ5 S4 S5 w4 w5:=u3;have hR:Sim F S0 N0 (XS.st ⟨s3.n,s3.tmps,s4.heap,s4.k,s4.lg⟩ []) ψ5 S5 ⟨a4.tmps,[]⟩ w5:=⟨rfl,r1.size,fun t'=>(r1.tmps t').keep u3'.1 u3'.2.1 u3'.2.2.1 u3'.2.2.2,u1.core⟩;have ab:s3.E=(XS.st ⟨s3.n,s3.tmps,s4.heap,s4.k,s4.lg⟩ []).eval:=(by rw [E_eq []];funext z;cases z <;> rfl);rw [ab,H_eq []] at hy;obtain ⟨v,v1,v2⟩:=kaal O.T hR hy;obtain ⟨t1,t2,t3,t4⟩:=((q3.trans (st2:=s2.st []) ⟨g4,g5,g6,g7⟩).trans r3').trans u3';exact ⟨u,u1.defers,v,v1,ψ5,S5,⟨v,rfl,v2⟩,u1.core,((q2.trans g3).trans r2).trans u2,t1,t2,t3,t4⟩);rcases he with rfl | rfl <;> exact fin
        ·exact x3.trans ((LG.put y3).trans (by obtain ⟨m0,new,m1,m2⟩:=z3;exact ⟨m0,new,m1,m2⟩))
       ·cases h
      ·cases h
     ·cases h
    ·cases h
   ·cases h
  ·cases h
 ·cases h
theorem kvj (m:CxOk P C) (g:EvOk P ih) {f:Nat} {args:List AV} {heap:List (Nat×AObj)} {k:Nat} {lg:List Nat} {y:AV} (h:kyr C ih f args heap k lg=some (y,s1)):
  HCall P f args heap (idsN k) (.ret y) s1.heap (idsN s1.k)/\k<=s1.k/\∃ new,s1.lg=new++lg/\∀ id,id∉new->∀ ob,kaa heap id=some ob->kaa s1.heap id=some ob:=by
 unfold kyr at h;split at h
 ·rename_i fn n;obtain ⟨o,c⟩:=FT.get_ok m.fn n;split at h
  ·rename_i cc p;split at h;rename_i x rid o1 o2 t c1 hd;replace h:=kam h;obtain ⟨a,h⟩:=h;simp only [qp] at a;exact kagy m g o c p hd (qs a.1) (by simpa [Nat.blt_eq] using a.2) h;have main:∀ e s2,(bif Nat.ble args.length fn.ntmps then ih (C.mu.contains f) cc ⟨fn.ntmps,argT 0 args,heap,k,lg⟩ else none)=some (e,s2)->(e = .normal\/e = .ret)->retE C.T s2.E s2.H fn.results.toList=some y->HCall P f args heap (idsN k) (.ret y) s2.heap (idsN s2.k)/\k<=s2.k/\∃ new,s2.lg=new++lg/\∀ id,id∉new->∀ ob,kaa heap id=some ob->kaa s2.heap id=some ob:=by
    intro e s2 hi s hy;replace hi:=kam hi;obtain ⟨a,hi⟩:=hi;have a:=qs a;obtain ⟨q,_,r,_⟩:=g _ _ _ _ _ hi;refine ⟨⟨⟨fn,o,by rw [p];rfl,c⟩,fun F S0 N0 ψ S w vs hs hr hc=>calls_of_wp o p ?_⟩,r⟩;have j:Sim F S0 N0 (XS.st ⟨fn.ntmps,argT 0 args,heap,k,lg⟩ []) ψ S { tmps:=vs++Array.replicate (fn.ntmps - vs.size) undef,defers:=[] } w:=by
     refine ⟨rfl,by show (vs++Array.replicate (fn.ntmps - vs.size) undef).size=fn.ntmps;simp;omega,fun t=>?_,hc⟩;show RV _ _ _ w _ (look .any (argT 0 args) t);rcases kla args 0 t with h | ⟨x,_,h1,l⟩;rw [h];exact .any
     ·rw [l];have h1:args[t]?=some x:=(by simpa using h1);have d:t<vs.size:=(by rw [hs];exact (qg.1 h1).1);have:(vs++Array.replicate (fn.ntmps - vs.size) undef).getD t undef=vs[t]:=(by rw [qam,qa7 d];simp [d]);show RV _ _ _ w ((vs++Array.replicate (fn.ntmps - vs.size) undef).getD t undef) x;rw [this];exact hr t _ x (by simp [d]) h1
    refine wp_wide.1 (kco ((q []).xw F S0 N0 ψ S _ w j) ?_);rintro e' a' w' ⟨rfl,ψ',S',l,u,z,A,B,G⟩;rw [E_eq [],H_eq []] at hy;obtain ⟨v,e1,e2⟩:=kaal m.T l hy;have fin:a'.defers=[]/\∃ v,(results fn a'.tmps).run P w' = .ok v w'/\∃ ψ'' S'',HEnd.is (.returned v) ψ'' (·∈idsN s2.k) S'' w' (.ret y)/\Core F S0 N0 s2.heap (idsN s2.k) ψ'' S'' w'/\Fr F w w'/\Ext (·∈idsN k) ψ ψ''/\(∀ i,i∈idsN k->i∈idsN s2.k)/\(∀ b,S b->S'' b)/\Same S w w':=
     ⟨l.defers,v,e1,ψ',S',⟨v,rfl,e2⟩,l.core,u,z,A,B,G⟩
    rcases s with rfl | rfl <;> exact fin
   split at h
   ·rename_i e s2 hi;split at h;rename_i y' hy;simp only [qc,qv] at h;obtain ⟨rfl,rfl⟩:=h;exact main _ _ hi (.inr rfl) hy;rename_i y' hy;simp only [qc,qv] at h;obtain ⟨rfl,rfl⟩:=h;exact main _ _ hi (.inl rfl) hy
    ·cases h
   ·cases h
  ·cases h
 ·cases h
end
section
variable {P:Program} {F S0:Nat->Prop} {N0:Nat} {w w' w0:World} {S S' SB:Nat->Prop} {ψ ψ':Env} {K:Nat->Prop} {T:List (TypeId×TD)} {Z:List (TypeId×Value)} {o:Oper} {a a':Act} {st st' st1 st2:St} {t tx:TypeId} {d:TD} {id:Nat} {c:AV} {s s1 s2:XS} {e:Exit} {C:Cx} {ih:EvT} {heap:List (Nat×AObj)}
theorem k8u {x:FV} (h:x.single=true):x.cells=[x]:=by cases x <;> first | rfl | cases h
theorem k37:∀ {sz n:Nat} {l ys:List FV},(∀ x∈l,x.single=true)->krm sz n l=some ys->ys.length=n/\l.length=n*sz/\∀ (i:Nat) (x:FV),ys[i]?=some x->x.cells=(l.drop (i*sz)).take sz/\x.cells.length=sz
 | sz,0,l,ys,h1,h=>by
  cases l with
  | nil=>
   simp only [krm,qc] at h;subst h;exact ⟨rfl,by simp,fun i x h=>by simp at h⟩
  | cons x l=>simp only [krm] at h;cases h
 | sz,n+1,l,ys,h1,h=>by
  have gen:∀ (y:FV) (r:List FV),krm sz n (l.drop sz)=some r->(l.take sz).length=sz->y.cells=l.take sz->ys=y::r->ys.length=n+1/\l.length=(n+1)*sz/\∀ (i:Nat) (x:FV),ys[i]?=some x->x.cells=(l.drop (i*sz)).take sz/\x.cells.length=sz:=by
   intro y r hr hl hy a;subst a;obtain ⟨k1,k2,k3⟩:=k37 (fun x hx=>h1 x (qbq hx)) hr;have b:sz<=l.length:=(by rw [qaw] at hl;omega);rw [qa9] at k2;refine ⟨by simp [k1],by rw [qbc];omega,fun i x hx=>?_⟩;cases i with
   | zero=>
    simp only [List.getElem?_cons_zero,qc] at hx;subst hx;simp only [Nat.zero_mul,List.drop_zero];exact ⟨hy,by rw [hy];exact hl⟩
   | succ i=>
    simp only [qag] at hx;obtain ⟨q1,q2⟩:=k3 i x hx;rw [List.drop_drop] at q1;exact ⟨by rw [q1];congr 2;rw [qbc];omega,q2⟩
  simp only [krm] at h;split at h
  ·rename_i y r hy hr;injection h with h;unfold mkEl at hy;replace hy:=kam hy;obtain ⟨c,hy⟩:=hy;refine gen y r hr (qk c) ?_ h.symm;split at hy;rename_i x hx;injection hy with hy;subst hy;rw [hx];exact k8u (h1 x (qbr (by rw [hx];exact qa2.2 rfl)))
   ·injection hy with hy;subst hy;rfl
  ·cases h
theorem k9a {v:Value} {r:FV} {S':Nat->Prop} {w':World} (h:RF S w v r) (ha:atF r=true):RF S' w' v r:=by
 cases h with
 | atom h=>exact .atom h
 | @tup cs xs hl hr=>
  refine .tup hl fun i u x a hx=>?_;have:=qr.1 ha x (qn hx);cases x <;> simp at this;cases hr i u _ a hx with
  | atom h=>exact .atom h
 | @agg cs xs hl h1 hr=>
  refine .agg hl h1 fun i u x a hx=>?_;have:=qr.1 ha x (qn hx);cases x <;> simp at this;cases hr i u _ a hx with
  | atom h=>exact .atom h
 | _=>cases ha
theorem kxm {H:Nat->Option AObj} {fr:Bool} (hS:fr=false->∀ b,S b->SB b) (G:∀ id o,H id=some o->ObR ψ K S w id o/\∀ b,Blk (ψ.val id) b->SB b):∀ fuel:Nat,
  (∀ (x:AV) (y:FV),frz H fr fuel x=some y->(x.single=true->y.single=true)/\∀ v,RV ψ K S w v x->RF SB w v y) /\
  (∀ (xs:List AV) (ys:List FV),frzs H fr fuel xs=some ys->xs.length=ys.length/\∀ (i:Nat) (x:AV) (y:FV),xs[i]?=some x->ys[i]?=some y->(x.single=true->y.single=true)/\∀ v,RV ψ K S w v x->RF SB w v y)
 | 0=>⟨(fun x y h=>by unfold frz at h;cases h),fun xs ys h=>by unfold frzs at h;cases h⟩
 | f+1=>by
  obtain ⟨ih1,ih2⟩:=kxm hS G f;constructor
  ·intro x y h;unfold frz at h;split at h;rename_i h0;cases h0
   ·replace h:=kam h;obtain ⟨A,h⟩:=h;injection h with h;subst h;refine ⟨fun h=>h,fun v hv=>?_⟩;cases d:fr with
    | false=>exact hv.inv.mono (hS d)
    | true=>rw [d,qbo,Bool.false_or] at A;exact k9a hv.inv A
   ·cases d:fr with
    | true=>rw [d] at h;cases h
    | false=>
     rw [d] at h;injection h with h;subst h;refine ⟨fun _=>rfl,fun v hv=>?_⟩;cases hv with
     | lim h=>exact h.mono (hS d)
   ·rename_i f' cs d;cases d;split at h
    ·rename_i xs k;injection h with h;subst h;obtain ⟨k1,k2⟩:=ih2 _ _ k;refine ⟨fun h=>(by cases h),fun v hv=>?_⟩;cases hv with
     | @agg vs _ q1 q2 q3=>
      refine .agg (by omega) (fun y hy=>?_) fun i u y a hy=>?_;obtain ⟨i,hi,rfl⟩:=qai.1 hy;have hx:cs[i]?=some (cs[i]'(by omega)):=qb _;exact (k2 i _ _ hx (qb hi)).1 (q2 _ (q9 _))
      ·have hi:=(qg.1 hy).1;have hx:cs[i]?=some (cs[i]'(by omega)):=qb _;exact (k2 i _ _ hx hy).2 u (q3 i u _ a hx)
    ·cases h
   ·rename_i f' cs d;cases d;split at h
    ·rename_i xs k;injection h with h;subst h;obtain ⟨k1,k2⟩:=ih2 _ _ k;refine ⟨fun h=>(by cases h),fun v hv=>?_⟩;cases hv with
     | @tup vs _ q1 q3=>
      refine .tup (by omega) fun i u y a hy=>?_;have hi:=(qg.1 hy).1;have hx:cs[i]?=some (cs[i]'(by omega)):=qb _;exact (k2 i _ _ hx hy).2 u (q3 i u _ a hx)
    ·cases h
   ·rename_i f' id g off len cap d;cases d;split at h
    ·rename_i g' e sz cells J;replace h:=kam h;obtain ⟨A,h⟩:=h;obtain rfl:=qk A;split at h
     ·rename_i xs k;split at h
      ·rename_i ys B;injection h with h;subst h;refine ⟨fun _=>rfl,fun v hv=>?_⟩;obtain ⟨C,D⟩:=G id _ J;obtain ⟨q0,qz,b,cs,n,cap',q1,q2,q3,q4,q5,q6,q7⟩:=C;obtain ⟨hK,b',c,p,rfl,E,hm,_⟩:=kj1 hv q0;rw [q1] at p;simp only [kak,qc] at p;subst p;obtain ⟨k1,k2⟩:=ih2 _ _ k;have m:∀ x∈xs,x.single=true:=fun x hx=>(by obtain ⟨i,hi,rfl⟩:=qai.1 hx;have s:i<((cells.drop off).take (len*sz)).length:=(by omega);exact (k2 i _ _ (qb s) (qb hi)).1 (q6 _ (qbq (qbr (q9 s)))));obtain ⟨m1,m2,m3⟩:=k37 m B;have t:((cells.drop off).take (len*sz)).length=len*sz:=(by omega);have I:off+len*sz<=cells.length\/len*sz=0:=(by rw [qaw,qa9] at t;omega);have z:∀ (i:Nat),i<len->i*sz+sz<=len*sz:=fun i hi=>(by have:=qa4 sz (show i+1<=len by omega);rw [qbc] at this;omega);refine .lst (fun i=>(cs.toList.drop (off+i*sz)).take sz) m1.symm E hm qz (fun i x hx=>⟨b,off,rfl,D b (.of (by rw [q1];rfl)),fun j u a=>?_⟩) (fun i x hx=>?_) fun i x j u y hx a hy=>?_
       ·rw [qab] at a;split at a;rw [qao] at a;exact kyd q2 (by simpa using a)
        ·cases a
       have hi:i<len:=(by rw [<- m1];exact (qg.1 hx).1);have:=z i hi;obtain ⟨p1,p2⟩:=m3 i x hx;refine ⟨by rw [qaw,qa9,qal];omega,p2,fun y hy=>?_⟩;rw [p1] at hy;exact m y (qbq (qbr hy))
       ·have hi:i<len:=(by rw [<- m1];exact (qg.1 hx).1);have L:=z i hi;obtain ⟨p1,p2⟩:=m3 i x hx;rw [p1,qab] at hy;rw [qab] at a;split at a;rename_i M;rw [qo M,qao] at hy;rw [qao] at a;have F:i*sz+j<len*sz:=(by omega);have hc:((cells.drop off).take (len*sz))[i*sz+j]?=some (((cells.drop off).take (len*sz))[i*sz+j]'(by omega)):=qb _;refine (k2 _ _ _ hc hy).2 u (q7 (off+(i*sz+j)) u _ (by rw [<- Nat.add_assoc];simpa using a) ?_);rw [qab,qo F,qao] at hc;exact hc
        ·cases a
      ·cases h
     ·cases h
    ·cases h
   ·cases h
  ·intro xs ys h;unfold frzs at h;split at h;rename_i h0;cases h0;injection h with h;subst h;exact ⟨rfl,fun i x y h=>by simp at h⟩
   ·rename_i f' x l d;cases d;split at h
    ·rename_i y r hy hr;injection h with h;subst h;obtain ⟨k1,k2⟩:=ih2 _ _ hr;refine ⟨by simp [k1],fun i x' y' hx q=>?_⟩;cases i with
     | zero=>simp at hx q;subst hx q;exact ih1 _ _ hy
     | succ i=>exact k2 i x' y' (by simpa using hx) (by simpa using q)
    ·cases h
theorem k9x {f:Nat} {xs:List FV} {y:AV} {r:FV} (h:HCall P f (xs.map .fz) [] [] (.ret y) s1.heap (idsN s1.k)) (hr:frz (kaa s1.heap) false 1000 y=some r):PCall P f xs r:=by
 refine ⟨h.1,fun S w vs hs hv=>?_⟩;have d:∀ {v x},RF S w v x->RF (fun b=>S b/\b<w.heap.size) w v x:=fun h=>h.bound;refine (h.2 (fun b=>b<w.heap.size) (fun b=>S b/\b<w.heap.size) w.heap.size ⟨fun _=>0,fun _ => .nilFunc⟩ (fun b=>S b/\b<w.heap.size) w vs (by simpa using hs) (fun i v x g hx=>?_) ⟨fun id o h=>(by cases h),fun i i' o o' b h=>(by cases h),fun b h=>h.2,fun b h => .inl h,qx _,fun b h=>h⟩).mono ?_;rw [qq,qt] at hx;obtain ⟨z,m,rfl⟩:=hx;exact .fz (d (hv i v z g m))
 ·rintro e w' ⟨ψ',S',⟨v,rfl,j⟩,a,c,_⟩;refine ⟨v,rfl,((kxm (SB:=fun b=>S b\/w.heap.size<=b) (fun _ b d=>?_) (fun id o l=>⟨(a.obj id o l).2.1,fun b d => .inr ?_⟩) 1000).1 y r hr).2 v j,⟨⟨c.os,c.tape,c.output,c.size,c.block⟩,no0⟩⟩
  ·rcases a.s0 b d with h | h;exact .inl h.1
   ·exact .inr h
  ·have:=((a.obj id o l).2.2 b d).2.1;omega
theorem k0h {u v:Value} (h:k50 u v=true):u=v:=by
 unfold k50 at h;split at h;simp only [qp,qbx,beq_iff_eq] at h;rw [h.1,h.2];rw [kja,MapKept.bytes_beq] at h;rw [h];simp at h;rw [h]
 all_goals first | rfl | cases h
mutual
theorem kakf:∀ {a b:FV},eqFV a b=true->a=b
 | .atom v,b,h=>by cases b <;> simp only [eqFV] at h <;> first | (rw [k0h h]) | cases h
 | .agg v,b,h=>by cases b <;> simp only [eqFV] at h <;> first | (rw [knf h]) | cases h
 | .tup v,b,h=>by cases b <;> simp only [eqFV] at h <;> first | (rw [knf h]) | cases h
 | .lst s n v,b,h=>by
  cases b <;> simp only [eqFV] at h <;> try cases h
  simp only [qp] at h;rw [qk h.1,qk h.2.1,knf h.2.2]
 | .fp v,b,h=>by cases b <;> simp only [eqFV] at h <;> first | (rw [knf h]) | cases h
 | .bx v,b,h=>by cases b <;> simp only [eqFV] at h <;> first | (rw [knf h]) | cases h
theorem knf:∀ {a b:List FV},km5 a b=true->a=b
 | [],[],_=>rfl
 | [],_::_,h=>by simp only [km5] at h;cases h
 | _::_,[],h=>by simp only [km5] at h;cases h
 | a::l,b::m,h=>by simp only [km5,qp] at h;rw [kakf h.1,knf h.2]
end
theorem k6e {l:List (Nat×List FV×FV)} (hl:∀ p∈l,PCall P p.1 p.2.1 p.2.2) {f:Nat} {xs:List FV} {r:FV} (h:k1f l f xs=some r):PCall P f xs r:=by
 induction l with
 | nil=>cases h
 | cons p l ih=>
  obtain ⟨g,as_,q⟩:=p;simp only [k1f] at h;cases a:(Nat.beq g f && km5 as_ xs) with
  | true=>
   rw [a] at h;simp only [qe,qc] at h;subst h;simp only [qp] at a;have:=hl _ (qu ..)
   rwa [qk a.1,knf a.2] at this
  | false=>
   rw [a] at h;exact ih (fun p hp=>hl p (qh _ hp)) h
theorem k9e (b:CxOk P C) (a:EvOk P ih) {f:Nat} {xs:List FV} {r:FV} (hr:k5t C ih f xs=some r):PCall P f xs r:=by
 unfold k5t at hr;split at hr;rename_i r' c;injection hr with hr;subst hr;exact k6e b.fx c
 ·replace hr:=kam hr;obtain ⟨_,hr⟩:=hr;split at hr;rename_i y s2 d;rw [H_eq []] at hr;exact k9x (kvj b a d).1 hr
  ·cases hr
def PNew (P:Program) (f:FuncId) (args:List FV) (r:FV):Prop:=
 (∃ fn, P.funcs[f]? = some fn /\ fn.body.isNone = false /\ (fn.name == "runtime.NumGoroutine") = false) /\
 ∀ (S:Nat->Prop) (w:World) (vs:Array Value),vs.size=args.length->(∀ (i:Nat) (v:Value) (x:FV),vs[i]?=some v->args[i]?=some x->RF S w v x) ->
  Calls P f vs w fun e w'=>∃ v,e = .returned v/\RF (fun b=>w.heap.size<=b) w' v r/\Grow w w'
theorem kane {f:Nat} {xs:List FV} {y:AV} {r:FV} (h:HCall P f (xs.map .fz) [] [] (.ret y) s1.heap (idsN s1.k)) (hr:frz (kaa s1.heap) true 1000 y=some r):PNew P f xs r:=by
 refine ⟨h.1,fun S w vs hs hv=>?_⟩;have d:∀ {v x},RF S w v x->RF (fun b=>S b/\b<w.heap.size) w v x:=fun h=>h.bound;refine (h.2 (fun b=>b<w.heap.size) (fun b=>S b/\b<w.heap.size) w.heap.size ⟨fun _=>0,fun _ => .nilFunc⟩ (fun b=>S b/\b<w.heap.size) w vs (by simpa using hs) (fun i v x g hx=>?_) ⟨fun id o h=>(by cases h),fun i i' o o' b h=>(by cases h),fun b h=>h.2,fun b h => .inl h,qx _,fun b h=>h⟩).mono ?_;rw [qq,qt] at hx;obtain ⟨z,m,rfl⟩:=hx;exact .fz (d (hv i v z g m))
 ·rintro e w' ⟨ψ',S',⟨v,rfl,j⟩,a,c,_⟩;refine ⟨v,rfl,((kxm (fr:=true) (SB:=fun b=>w.heap.size<=b) (fun h=>by cases h) (fun id o l=>⟨(a.obj id o l).2.1,fun b d=>?_⟩) 1000).1 y r hr).2 v j,⟨⟨c.os,c.tape,c.output,c.size,c.block⟩,no0⟩⟩;have:=((a.obj id o l).2.2 b d).2.1;omega
theorem PNew.of_atF {f:Nat} {xs:List FV} {r:FV} (h:PCall P f xs r) (ha:atF r=true):PNew P f xs r:=
 ⟨h.1,fun S w vs hs hv=>(h.2 S w vs hs hv).mono fun e w' ⟨v,a,h1,b⟩=>⟨v,a,k9a h1 ha,b⟩⟩
theorem k9n (n:CxOk P C) (l:EvOk P ih) {H:Nat->Option AObj} (A:∀ id ob,H id=some ob->kaa st.heap id=some ob) {f:Nat} {fst caps:List AV} {x:Operand} {args:Array Operand} {ts:Array TypeId} {r:FV} (j:o.op = .call { callee := .value x,args:=args,argTypes:=ts }) (c:knh st.eval x=some (f,fst,caps)) (hr:k5p C ih H f (fst++(args.toList.map st.eval++caps))=some r):NStep P o st (.fz r):=by
 unfold k5p at hr;split at hr
 ·rename_i xs d;split at hr;rename_i u cc q;injection hr with hr;subst hr;exact ib_n j c d (n.ib f (by simpa using q))
  ·exact kalp j c d (k9e n l hr)
 ·split at hr
  ·rename_i xs d;have h:=k9e n l hr;intro ψ S a w ht B;obtain ⟨vf,vc,hx,h1,s⟩:=kpt args ht c;have m:=(kxm (H:=fun _=>none) (fr:=false) (ψ:=ψ) (K:=(·∈st.ids)) (S:=S) (w:=w) (SB:=S) (fun _ b k=>k) (fun id o j=>by cases j) 1000).2 _ _ d;unfold ket;rw [kq9 j hx h.1];refine (h.2 S w _ (by rw [<- m.1,<- h1,qal]) fun i v x hv g=>?_).mono ?_;have hi:i<(fst++(args.toList.map st.eval++caps)).length:=(by rw [m.1];exact (qg.1 g).1);exact (m.2 i _ x (qb hi) g).2 v (s i v _ (by rw [qat];exact hv) (qb hi))
   ·rintro e w' ⟨v,rfl,hv,t⟩;exact ⟨v,rfl,t, .fz hv⟩
  ·replace hr:=kam hr;obtain ⟨_,hr⟩:=hr;split at hr
   ·rename_i xs d;have h:PNew P f xs r:=by
     split at hr;rename_i r' E;replace hr:=kam hr;obtain ⟨z,hr⟩:=hr;injection hr with hr;subst hr;exact .of_atF (k6e n.fx E) z
     ·split at hr;rename_i y s2 k;rw [H_eq []] at hr;exact kane (kvj n l k).1 hr
      ·cases hr
    intro ψ S a w ht B;obtain ⟨vf,vc,hx,h1,s⟩:=kpt args ht c;obtain ⟨SB,p⟩:∃ SB:Nat->Prop,SB=fun b=>S b\/∃ id ob,kaa st.heap id=some ob/\Blk (ψ.val id) b:=⟨_,rfl⟩;have m:=(kxm (H:=H) (fr:=false) (ψ:=ψ) (K:=(·∈st.ids)) (S:=S) (w:=w) (SB:=SB) (fun _ b k=>by rw [p];exact .inl k) (fun id o j=>⟨B id o (A id o j),fun b k=>by rw [p];exact .inr ⟨id,o,A id o j,k⟩⟩) 1000).2 _ _ d;unfold ket;rw [kq9 j hx h.1];refine (h.2 SB w _ (by rw [<- m.1,<- h1,qal]) fun i v x hv g=>?_).mono ?_;have hi:i<(fst++(args.toList.map st.eval++caps)).length:=(by rw [m.1];exact (qg.1 g).1);exact (m.2 i _ x (qb hi) g).2 v (s i v _ (by rw [qat];exact hv) (qb hi))
    ·rintro e w' ⟨v,rfl,hv,t⟩;exact ⟨v,rfl,t, .fz (hv.mono fun b k => .inr k)⟩
   ·cases hr
theorem k6g {x:Operand} {as_:List Operand} (a:k51 o=some (x,as_)):∃ args ts,o.op = .call { callee := .value x,args:=args,argTypes:=ts }/\as_=args.toList:=by
 unfold k51 at a;split at a
 ·rename_i cl hcl;split at a;rename_i f b;simp only [qc,qv] at a;obtain ⟨rfl,rfl⟩:=a;obtain ⟨cal,args,ts⟩:=cl;simp only at b;exact ⟨args,ts,by rw [hcl,b],rfl⟩
  ·cases a
 ·cases a
theorem kadn (d:CxOk P C) (b:EvOk P ih) {mu:Bool} (h:opE C ih mu o s=some (c,s1)):kad0 P o s c s1:=by
 unfold opE at h;split at h
 ·rename_i x as_ e;obtain ⟨args,ts,i,rfl⟩:=k6g e;split at h
  ·rename_i f fst caps a;unfold kai4 at h;split at h;rename_i r hr;simp only [qc,qv] at h;obtain ⟨rfl,rfl⟩:=h;refine ⟨fun D=>?_,rfl,rfl,LG.refl⟩;rw [E_eq D] at a hr;exact (k9n d b (fun _ _ h=>by rw [H_eq D] at h;exact h) i a hr).step
   ·split at h;rename_i y s2 k;simp only [qc,qv] at h;obtain ⟨rfl,rfl⟩:=h;obtain ⟨j,g⟩:=kvj d b k;refine ⟨fun D=>?_,rfl,rfl,g⟩;rw [E_eq D] at a j;exact kadt i a j
    ·cases h
  ·cases h
 ·split at h;rename_i c' dl hs;simp only [qc,qv] at h;obtain ⟨rfl,rfl⟩:=h;refine kana fun D=>?_;rw [E_eq D,H_eq D] at hs;exact sE_ok d.T d.Z kab4 hs
  ·cases h
theorem NStep.moreH {st st':St} (h:NStep P o st c) (hn:st'.tmps=st.tmps) (hi:st'.ids=st.ids) (d:∀ id ob,kaa st.heap id=some ob->kaa st'.heap id=some ob):NStep P o st' c:=by
 intro ψ S a w ht b;have e:∀ t,st'.get t=st.get t:=fun t=>by unfold St.get;rw [hn]
 rw [hi] at ht b ⊢;exact h ψ S a w (fun t=>by rw [<- e];exact ht t) fun id ob f=>b id ob (d id ob f)
theorem ku6 {rf:List Nat} {id:Nat} {ob:AObj}:∀ {l:List (Nat×AObj)},kaa (kqq rf l) id=some ob->id∈rf/\kaa l id=some ob
 | [],h=>by cases h
 | (k,v)::l,h=>by
  simp only [kqq] at h;cases hc:rf.contains k with
  | true=>
   rw [hc] at h;simp only [qe] at h;rw [kac] at h ⊢;by_cases hk:k=id;subst hk;rw [qo rfl] at h ⊢;exact ⟨by simpa using hc,h⟩
   ·rw [qi hk] at h ⊢;exact ku6 h
  | false=>
   rw [hc] at h;simp only [qd] at h;obtain ⟨h1,a⟩:=ku6 (l:=l) h;refine ⟨h1,?_⟩;rw [kac,qi];exact a
   ·rintro rfl;have:rf.contains k=true:=(by simpa using h1);rw [this] at hc;cases hc
theorem kaap {k:Nat} {x:AV} (h:okN0 k x=true):okA (idsN k) x=true:=by
 have a:∀ {id},Nat.blt id k=true->(idsN k).contains id=true:=fun {id} h=>by
  have:id<k:=by simpa [Nat.blt_eq] using h
  simpa using mem_idsN.2 this
 cases x <;> simp only [okN0] at h <;> first | rfl | exact a h | cases h
theorem kami {k:Nat} {x:AV} (h:okN k x=true):okA (idsN k) x=true:=by
 have hl:∀ {cs:List AV},cs.all (okN0 k)=true->okAs (idsN k) cs=true:=fun {cs} h=>by rw [kk0];exact qr.2 fun x hx=>kaap (qr.1 h x hx)
 cases x <;> simp only [okN] at h <;> first | exact kaap h | exact hl h
theorem kad8 (D:List Deferred) (m:CxOk P C) (p:EvOk P ih) {mu:Bool} {os:Array Oper} {L:List Oper} {n i:Nat} {es:List Nat} (ch cs ai:List Nat) {rf:List Nat} {s0 hs hs1:XS} {fs:List (Nat×Option Nat×AV)} (u:∀ e,e∈es->phB L es e=true) (h:dz1 C ih mu os L n es s0 i o fs hs=some (c,hs1,rf)):
  LG hs hs1/\((∀ r,r∈rf->r∉ch)->(∀ new,hs1.lg=new++hs.lg->∀ r,r∈new->r∈cs)->(∀ id,id<hs1.k->id∈ai) ->
   (i∉es/\hs1=hs/\kxy P os (kes L n es ch ai (s0.st D) i o fs hs.heap (idsN hs.k)) o c/\(phB L es i || okA (s0.st D).ids c)=true) \/
   (i∈es/\k1v P os L n es cs ai (s0.st D) (kes L n es ch ai (s0.st D) i o fs hs.heap (idsN hs.k)) o c hs.heap (idsN hs.k) hs1.heap (idsN hs1.k))):=by
 unfold dz1 at h;obtain ⟨v,hv⟩:∃ v:XS,v=⟨s0.n,hadd fs (ki8 o) (kk9 L i n++s0.tmps),hs.heap,hs.k,hs.lg⟩:=⟨_,rfl⟩;simp only [<- hv] at h;have a:∀ b,kxs os v.E o=some b->kbp os (kes L n es ch ai (s0.st D) i o fs hs.heap (idsN hs.k)) o=some b:=fun b G=>by rw [E_eq D] at G;rw [<- G,hv];rfl
 have H:(v.st D).eval=(kes L n es ch ai (s0.st D) i o fs hs.heap (idsN hs.k)).eval:=by rw [hv];funext x;cases x <;> rfl
 have g:phB L es i=true->(v.st D)=kes L n es ch ai (s0.st D) i o fs hs.heap (idsN hs.k):=fun hp=>by rw [hv];unfold kes;rw [hp];rfl
 split at h
 ·rename_i j;simp only [qc,qv] at h;obtain ⟨rfl,rfl,rfl⟩:=h;refine ⟨LG.refl,fun _ _ l=>?_⟩;by_cases hi:i∈es;exact .inr ⟨hi, .inr ⟨a _ j,rfl,rfl,rfl⟩, .inr ⟨fun _ _ _ h=>h,fun id h=>l id (mem_idsN.1 h),fun _ h=>h⟩⟩
  ·exact .inl ⟨hi,rfl, .inr ⟨a _ j,rfl⟩,by simp [okA]⟩
 ·rename_i j;cases hc:es.contains i with
  | true=>
   have hi:i∈es:=(by simpa using hc);rw [hc] at h;simp only [qe] at h;split at h;rename_i c' v1 w;simp only [qc,qv] at h;obtain ⟨rfl,rfl,rfl⟩:=h;obtain ⟨k1,_,_,k5⟩:=kadn m p w;have q:LG hs v1:=(by rw [hv] at k5;exact k5);refine ⟨q,fun _ s l => .inr ⟨hi, .inl ⟨a _ j,by rw [<- g (u i hi)];exact k1 D⟩, .inr ?_⟩⟩;obtain ⟨m0,new,m1,m2⟩:=q;refine ⟨fun id y ob t=>m2 id (fun h=>y (s new m1 id h)) ob t,fun id h=>l id (mem_idsN.1 h),fun id h=>mem_idsN.2 (by have:=mem_idsN.1 h;omega)⟩
   ·cases h
  | false=>
   have hi:i∉es:=(by simpa using hc);rw [hc] at h;simp only [qd] at h;split at h
   ·rename_i x as_ z;obtain ⟨args,ts,t,rfl⟩:=k6g z;split at h
    ·rename_i f fst caps d;split at h
     ·rename_i r hr;simp only [qc,qv] at h;obtain ⟨rfl,rfl,rfl⟩:=h;rw [E_eq D,H] at d hr;refine ⟨LG.refl,fun _ _ _ => .inl ⟨hi,rfl, .inl ⟨a _ j,k9n m p (fun id ob hi=>?_) t d hr⟩,by simp [okA]⟩⟩;cases hp:phB L es i with
      | true=>rw [hp,qe,H_eq D,g hp] at hi;exact hi
      | false=>rw [hp] at hi;cases hi
     ·cases h
    ·cases h
   ·cases hp:phB L es i with
    | true=>
     rw [hp] at h;simp only [qe] at h;split at h;rename_i c' hn;simp only [qc,qv] at h;obtain ⟨rfl,rfl,rfl⟩:=h;rw [E_eq D,H_eq D,g hp] at hn;exact ⟨LG.refl,fun _ _ _ => .inl ⟨hi,rfl, .inl ⟨a _ j,k5u m.T m.Z hn⟩,rfl⟩⟩
     ·cases h
    | false=>
     rw [hp] at h;simp only [qd] at h;split at h
     ·rename_i c' hn;replace h:=kam h;obtain ⟨A,h⟩:=h;simp only [qc,qv] at h;obtain ⟨rfl,rfl,rfl⟩:=h;refine ⟨LG.refl,fun B _ _ => .inl ⟨hi,rfl, .inl ⟨a _ j,?_⟩,by rw [Bool.false_or];exact kami A⟩⟩;rw [show getO (kqq (kx8 v.E o) s0.heap)=kaa (kqq (kx8 v.E o) s0.heap) from funext fun i=>k9f,E_eq D] at hn;have F:NStep P o ⟨s0.n,hadd fs (ki8 o) (kk9 L i n++s0.tmps),kqq (kx8 v.E o) s0.heap,ai,D⟩ c':=(by refine k5u m.T m.Z ?_;have I:(v.st D).eval=St.eval ⟨s0.n,hadd fs (ki8 o) (kk9 L i n++s0.tmps),kqq (kx8 v.E o) s0.heap,ai,D⟩:=(by rw [H];funext x;cases x <;> rfl);rw [<- I,E_eq D];exact hn);refine F.moreH rfl ?_ fun id ob t=>?_;show (bif phB L es i then idsN hs.k else ai)=ai;rw [hp];rfl
      ·obtain ⟨q1,q2⟩:=ku6 t;show kaa (bif phB L es i then hs.heap else kph ch s0.heap) id=some ob;rw [hp];exact kus (B id q1) q2
     ·cases h
 ·cases h
theorem k9v {D:List Deferred} (h:dstE s.n o=true):∀ t,o.dst=some t->t<(s.st D).n:=fun t ht=>by unfold dstE at h;rw [ht] at h;show t<s.n;simpa [Nat.blt_eq] using h
theorem k20 (b:CxOk P C) (a:EvOk P ih) {mu:Bool} {ops:Array Oper}:∀ {l:List Oper} {s s1:XS},opsE C ih mu ops l s=some s1->(∀ D,XWL P ops l (s.st D) (s1.st D))/\LG s s1/\s1.n=s.n
 | [],s,s1,h=>by have h:some s=some s1:=h;injection h with h;subst h;exact ⟨fun D=>kal6,LG.refl,rfl⟩
 | o::l,s,s1,h=>by
  have h:(bif dstE s.n o then (match kxs ops s.E o with
   | some true=>match opE C ih mu o s with
    | some (c,s1)=>opsE C ih mu ops l (s1.put o.dst c)
    | none=>none
   | some false=>opsE C ih mu ops l (s.put o.dst (.fz (.tup [])))
   | none=>none) else none)=some s1:=h
  replace h:=kam h;obtain ⟨hd,h⟩:=h;have g:∀ D,kxs ops s.E o=kbp ops (s.st D) o:=fun D=>by rw [E_eq D];rfl
  split at h
  ·rename_i d;split at h;rename_i c s2 e;obtain ⟨k1,k2,k3,k5⟩:=kadn b a e;obtain ⟨j1,j2,j3⟩:=k20 b a h;obtain ⟨p1,p2,p3,p5⟩:=ku4 s2 o.dst c;exact ⟨fun D=>kakd (k1 D) ((g D).symm.trans d) (k9v hd) (by show (s2.put o.dst c).n=s.n;omega) (fun t=>k3e _ _ t k3) p2 (by show idsN (s2.put o.dst c).k=_;rw [p3]) rfl (j1 D),k5.trans j2.put,by omega⟩
   ·cases h
  rename_i f;obtain ⟨j1,j2,j3⟩:=k20 b a h;obtain ⟨p1,p2,p3,p5⟩:=ku4 s o.dst (AV.fz (.tup []));exact ⟨fun D=>kak5 ((g D).symm.trans f) (k9v hd) p1 (fun t=>k3e s.heap (idsN s.k) t rfl) p2 (by show idsN (s.put o.dst _).k=_;rw [p3];rfl) rfl (j1 D),j2.put,by omega⟩
  ·cases h
theorem k7q (D:List Deferred) (v:CxOk P C) (b:EvOk P ih) {mu:Bool} {os:Array Oper} {L:List Oper} {n:Nat} {es:List Nat} {s0:XS} (d:∀ e,e∈es->phB L es e=true):∀ (l:List Oper) (i:Nat) (fs:List (Nat×Option Nat×AV)) (hs:XS) (rf sl:List (Nat×List Nat)) {fsF:List (Nat×Option Nat×AV)} {a:XS} {rfF slF:List (Nat×List Nat)},
  dzE C ih mu os L n es s0 l i fs hs rf sl=some (fsF,a,rfF,slF)->L.drop i=l->i+l.length=n->∀ (c0:Nat->AV) (H0:Nat->XS),fs=fsOf L c0 i->H0 i=hs ->
  LG hs a/\(∀ r,r∈rf->r∈rfF)/\(∀ r,r∈sl->r∈slF)/\∃ (c:Nat->AV) (H:Nat->XS),(∀ j,j<i->c j=c0 j)/\(∀ j,j<=i->H j=H0 j)/\fsF=fsOf L c n/\H n=a /\
   ∀ (chi chs:Nat->List Nat) ai,(∀ p,p∈rfF->∀ r,r∈p.2->r∉chi p.1)->(∀ p,p∈slF->∀ r,r∈p.2->r∈chs p.1)->(∀ id,id<a.k->id∈ai)->∀ j o,i<=j->j<n->L[j]?=some o ->
    (j∉es/\H (j+1)=H j/\kxy P os (kes L n es (chi j) ai (s0.st D) j o (fsOf L c j) (H j).heap (idsN (H j).k)) o (c j)/\(phB L es j || okA (s0.st D).ids (c j))=true) \/
    (j∈es/\k1v P os L n es (chs j) ai (s0.st D) (kes L n es (chi j) ai (s0.st D) j o (fsOf L c j) (H j).heap (idsN (H j).k)) o (c j) (H j).heap (idsN (H j).k) (H (j+1)).heap (idsN (H (j+1)).k))
 | [],i,fs,hs,rf,sl,fsF,a,rfF,slF,h,hl,hn,c0,H0,u,w=>by
  have h:some (fs,hs,rf,sl)=some (fsF,a,rfF,slF):=h;simp only [qc,qv] at h;obtain ⟨rfl,rfl,rfl,rfl⟩:=h;have x:i=n:=by simpa using hn
  subst x;exact ⟨LG.refl,fun _ h=>h,fun _ h=>h,c0,H0,fun _ _=>rfl,fun _ _=>rfl,u,w,fun chi chs ai _ _ _ j o h1 G=>by omega⟩
 | o::l,i,fs,hs,rf,sl,fsF,a,rfF,slF,h,hl,hn,c0,H0,u,w=>by
  simp only [dzE] at h;split at h
  ·rename_i c' hs1 r1 hd;have m:L[i]?=some o:=(by have:=congrArg (·[0]?) hl;simpa using this);have y:L.drop (i+1)=l:=(by rw [<- List.drop_drop,hl];rfl);have z:dstT L i=o.dst:=(by unfold dstT;rw [m];rfl);have f:(i,o.dst,c')::fs=fsOf L (fun j=>if j=i then c' else c0 j) (i+1):=(by rw [u];simp only [fsOf,z,if_true];rw [klu (k:=i) (c':=fun j=>if j=i then c' else c0 j) fun j I=>by rw [qi (by omega)]]);obtain ⟨k1,k2,k2',c,H,k3,k4,k5,k6,k7⟩:=k7q D v b d l (i+1) _ hs1 _ _ h y (by simp at hn;omega) (fun j=>if j=i then c' else c0 j) (fun j=>if j=i+1 then hs1 else H0 j) f (by simp);have e1:∀ j,j<i->c j=c0 j:=fun j I=>(by rw [k3 j (by omega),qi (by omega)]);have e2:c i=c':=(by rw [k3 i (by omega),qo rfl]);have e3:H i=hs:=(by rw [k4 i (by omega),qi (by omega)];exact w);have e4:H (i+1)=hs1:=(by rw [k4 (i+1) (qx _),qo rfl]);have A:fsOf L c i=fs:=(by rw [u];exact klu e1);have B:=(kad8 D v b [] [] [] d hd).1;refine ⟨B.trans k1,fun r hr=>k2 r (qh _ hr),fun r hr=>k2' r (qh _ hr),c,H,e1,fun j I=>by rw [k4 j (by omega),qi (by omega)],k5,k6,fun chi chs ai q s t j o' h1 G g=>?_⟩;obtain ⟨m2,_⟩:=k1;by_cases E:j=i;subst E;rw [m] at g;obtain rfl:=qw g;have:=(kad8 D v b (chi j) (chs j) ai d hd).2 (q (j,r1) (k2 _ (qu ..))) (fun new F r hr=>s (j,hs1.lg.take (hs1.lg.length - hs.lg.length)) (k2' _ (qu ..)) r (by have:hs1.lg.take (hs1.lg.length - hs.lg.length)=new:=(by rw [F,qah,Nat.add_sub_cancel];exact List.take_left' rfl);rw [this];exact hr)) (fun id J=>t id (by omega));rw [A,e2,e3,e4];exact this
   ·exact k7 chi chs ai q s t j o' (by omega) G g
  ·cases h
theorem kv3 {t:Nat} {base:List (Nat×AV)}:∀ {fs:List (Nat×Option Nat×AV)},look .any (krl fs base) t=look .any (hadd fs (fun _=>true) base) t
 | []=>rfl
 | (j,some d,c)::l=>by simp only [krl,hadd,qe];rw [kqr,kat,kv3]
 | (j,none,c)::l=>by simp only [krl,hadd];exact kv3
theorem ky1 (B:CxOk P C) (y:EvOk P ih) {mu:Bool} {rid:Nat} {ops:Array Oper} {es:List Nat} (h:drzA C ih mu ops s es=some s1):(∀ D,XW P (.region rid ops true) (s.st D) .normal (s1.st D))/\LG s s1/\s1.n=s.n:=by
 obtain ⟨L,rfl⟩:∃ L:List Oper,ops=L.toArray:=⟨ops.toList,by simp⟩;unfold drzA at h;simp only [List.toList_toArray] at h;replace h:=kam h;obtain ⟨A,h⟩:=h;simp only [qp] at A;split at h
 ·rename_i fs hs rf sl hd;replace h:=kam h;obtain ⟨E,h⟩:=h;injection h with h;have f:∀ e,e∈es->phB L es e=true:=fun e O=>by have:=qr.1 A.2 e O;rw [qp] at this;exact this.2
  have k1:LG s hs:=(k7q [] B y f L 0 [] s [] [] hd rfl (by simp) (fun _ => .any) (fun _=>s) rfl rfl).1;subst h;refine ⟨fun D=>?_,k1,rfl⟩;obtain ⟨k1,k2,k2',c,H,k3,k4,k5,k6,k7⟩:=k7q D B y f L 0 [] s [] [] hd rfl (by simp) (fun _ => .any) (fun _=>s) rfl rfl;obtain ⟨chs,l⟩:∃ chs:Nat->List Nat,chs=fun j=>sl.flatMap fun q=>bif Nat.beq q.1 j then q.2 else []:=⟨_,rfl⟩;obtain ⟨chi,m⟩:∃ chi:Nat->List Nat,chi=fun i=>sl.flatMap fun q=>bif anc L q.1 i then [] else q.2:=⟨_,rfl⟩;have u:=k7 chi chs (idsN hs.k) (fun p hp r hr hc=>by
   rw [m] at hc;obtain ⟨q,G,b⟩:=qa1.1 hc;have:=qr.1 (qr.1 E p hp) q G;cases ha:anc L q.1 p.1 with
   | true=>rw [ha] at b;cases b
   | false=>
    rw [ha] at b this;simp only [qd] at b;rw [Bool.false_or] at this;have:=qr.1 this r hr;simp at this;exact this b) (fun p hp r hr=>by
   rw [l];exact qa1.2 ⟨p,hp,by simp only [Nat.beq_refl,qe];exact hr⟩) (fun id g=>mem_idsN.2 g)
  have I:H 0=s:=k4 0 (qx _);have Q:=k1.1;intro F S0 N0 ψ S a w z;refine k6c (ai:=idsN hs.k) B.mixed c (fun i=>((H i).heap,idsN (H i).k)) chi chs A.1 A.2 ?_ (by rw [I];rfl) ?_ ?_ z _ ?_
  ·exact qr.2 fun x hx=>by have:=mem_idsN.1 (show x∈idsN s.k from hx);simpa using mem_idsN.2 (show x<hs.k by omega)
  ·intro j i R hi ha id g;rw [l] at g;obtain ⟨q,G,b⟩:=qa1.1 g;rw [m];refine qa1.2 ⟨q,G,?_⟩;cases v:Nat.beq q.1 j with
   | false=>rw [v] at b;cases b
   | true=>
    rw [v] at b;rw [qk v,ha];exact b
  ·intro i o J K;rcases u i o (qaj _) J K with ⟨q1,q2,q3,q4⟩ | ⟨q1,q2⟩;exact .inl ⟨q1,by simp only [q2],q3,q4⟩
   ·exact .inr ⟨q1,q2⟩
  ·intro ψ' S' a' w' M N d;rw [List.drop_length];refine ⟨rfl,ψ',S',M.congr rfl (fun t=>?_) (fun id=>?_) ?_ rfl,N,?_⟩;show look .any (krl fs s.tmps) t=look .any (hadd (fsOf L c L.length) (fun _=>true) s.tmps) t;rw [kv3,k5];show kaa hs.heap id=kaa (H L.length).heap id;rw [k6];show idsN hs.k=idsN (H L.length).k;rw [k6]
   ·have d:HistI (idsN s.k) (idsN (H L.length).k) ψ ψ' S S' w w':=d;rw [k6] at d;exact d
 ·cases h
theorem kamu (b:CxOk P C) (a:EvOk P ih) {mu:Bool} {rid:Nat} {ops:Array Oper} (h:drzE C ih mu ops s=some s1):(∀ D,XW P (.region rid ops true) (s.st D) .normal (s1.st D))/\LG s s1/\s1.n=s.n:=by
 unfold drzE at h;split at h;rename_i r hr;injection h with h;subst h;exact ky1 b a hr
 ·split at h;rename_i r hr;injection h with h;subst h;exact ky1 b a hr
  ·split at h;rename_i r hr;injection h with h;subst h;exact ky1 b a hr
   ·exact ky1 b a h
theorem XC.of {x:Code} (h:XW P x st e st1) (hl:∀ y,x ≠ .loop y):XC P x st e st1:=by
 unfold XC;split;exact absurd rfl (hl _)
 ·exact h
theorem kanh (d:CxOk P C) (a:EvOk P ih):EvOk P (evB C ih):=by
 intro mu x s e s1 h;unfold evB at h;split at h;simp only [qc,qv] at h;obtain ⟨rfl,rfl⟩:=h;exact ⟨fun D=>XC.of kajs (fun _ h=>by cases h),rfl,LG.refl,rfl⟩
 ·split at h;rename_i s2 hs;simp only [qc,qv] at h;obtain ⟨rfl,rfl⟩:=h;obtain ⟨k1,k2,k3⟩:=k20 d a hs;exact ⟨fun D=>XC.of (kae5 (k1 D)) (fun _ h=>by cases h),rfl,k2,k3⟩
  ·cases h
 ·split at h;rename_i s2 hs;simp only [qc,qv] at h;obtain ⟨rfl,rfl⟩:=h;obtain ⟨k1,k2,k3⟩:=kamu d a hs;exact ⟨fun D=>XC.of (k1 D) (fun _ h=>by cases h),rfl,k2,k3⟩
  ·cases h
 ·rename_i x y;cases hx:ih mu x s with
  | none=>rw [hx] at h;cases h
  | some p=>
   obtain ⟨e1,s2⟩:=p;rw [hx] at h;obtain ⟨k1,k2,k3,k4⟩:=a _ _ _ _ _ hx;cases e1 with
   | normal=>
    obtain ⟨j1,j2,j3,j4⟩:=a _ _ _ _ _ h;exact ⟨fun D=>XC.of (kamp (k1 D).xw (j1 D).xw) (fun _ h=>by cases h),j2,k3.trans j3,j4.trans k4⟩
   | _=>
    simp only [qc,qv] at h;obtain ⟨rfl,rfl⟩:=h;exact ⟨fun D=>XC.of (kajp (k1 D).xw (fun h=>by cases h)) (fun _ h=>by cases h),k2,k3,k4⟩
 ·rename_i cc x y;split at h;rename_i b c;obtain ⟨k1,k2⟩:=a _ _ _ _ _ h;exact ⟨fun D=>XC.of (kaln (by rw [E_eq D] at c;exact c) (k1 D).xw) (fun _ h=>by cases h),k2⟩
  ·cases h
 ·rename_i i x;cases hx:ih mu x s with
  | none=>rw [hx] at h;cases h
  | some p=>
   obtain ⟨e1,s2⟩:=p;rw [hx] at h;obtain ⟨k1,k2,k3⟩:=a _ _ _ _ _ hx;cases e1 with
   | exit j=>
    simp only at h;cases c:Nat.beq j i with
    | true=>
     rw [c] at h;simp only [qe,qc,qv] at h;obtain ⟨rfl,rfl⟩:=h;obtain rfl:=qk c;exact ⟨fun D=>XC.of (kagz (k1 D).xw) (fun _ h=>by cases h),rfl,k3⟩
    | false=>
     rw [c] at h;simp only [qd,qc,qv] at h;obtain ⟨rfl,rfl⟩:=h;exact ⟨fun D=>XC.of (k5b (k1 D).xw (fun h=>by injection h with h;subst h;simp at c)) (fun _ h=>by cases h),rfl,k3⟩
   | _=>
    simp only [qc,qv] at h;obtain ⟨rfl,rfl⟩:=h;exact ⟨fun D=>XC.of (k5b (k1 D).xw (fun h=>by cases h)) (fun _ h=>by cases h),k2,k3⟩
 ·rename_i x;cases hx:ih mu x s with
  | none=>rw [hx] at h;cases h
  | some p=>
   obtain ⟨e1,s2⟩:=p;rw [hx] at h;obtain ⟨k1,k2,k3,k4⟩:=a _ _ _ _ _ hx;cases e1 with
   | normal=>
    obtain ⟨j1,j2,j3,j4⟩:=a _ _ _ _ _ h;exact ⟨fun D=>xr_go (k1 D).xw (j1 D),j2,k3.trans j3,j4.trans k4⟩
   | _=>
    simp only [qc,qv] at h;obtain ⟨rfl,rfl⟩:=h;exact ⟨fun D=>kam9 (k1 D).xw (fun h=>by cases h),k2,k3,k4⟩
 simp only [qc,qv] at h;obtain ⟨rfl,rfl⟩:=h;exact ⟨fun D=>XC.of kakl (fun _ h=>by cases h),rfl,LG.refl,rfl⟩;simp only [qc,qv] at h;obtain ⟨rfl,rfl⟩:=h;exact ⟨fun D=>XC.of kal4 (fun _ h=>by cases h),rfl,LG.refl,rfl⟩;obtain ⟨k1,k2,k3⟩:=a _ _ _ _ _ h;exact ⟨fun D=>XC.of (kah4 (k1 D).xw k2) (fun _ h=>by cases h),k2,k3⟩
 ·cases h
theorem kaia (a:CxOk P C):∀ n,EvOk P (ev C n)
 | 0=>fun mu c s e s1 h=>by cases h
 | n+1=>kanh a (kaia a n)
theorem kuc (a:CxOk P C) (n:Nat) {f:Nat} {xs:List FV} {r:FV} (h:runE C n f xs=some r:=by kernel_rfl):PCall P f xs r:=by
 unfold runE at h;split at h;rename_i y s1 b;rw [H_eq []] at h;exact k9x (kvj a (kaia a n) b).1 h
 ·cases h
mutual
def leFV:FV->FV->Bool
 | .atom (.slice none 0 0), .lst s n xs=>Nat.ble 1 s && (Nat.beq n 0 && xs.isEmpty)
 | .atom v, .atom u=>k50 v u
 | .agg a, .agg b=>klr a b
 | .tup a, .tup b=>klr a b
 | .lst s n a, .lst s' n' b=>Nat.beq s s' && (Nat.beq n n' && klr a b)
 | _,_=>false
def klr:List FV->List FV->Bool
 | [],[]=>true
 | a::l,b::m=>leFV a b && klr l m
 | _,_=>false
end
theorem klb:∀ {a b:List FV},klr a b=true->a.length=b.length/\∀ (i:Nat) (x y:FV),a[i]?=some x->b[i]?=some y->leFV x y=true
 | [],[],_=>⟨rfl,fun i x y h=>by simp at h⟩
 | [],_::_,h=>by simp only [klr] at h;cases h
 | _::_,[],h=>by simp only [klr] at h;cases h
 | a::l,b::m,h=>by
  simp only [klr,qp] at h;obtain ⟨h1,c⟩:=klb h.2;refine ⟨by simp [h1],fun i x y hx hy=>?_⟩;cases i with
  | zero=>simp at hx hy;subst hx hy;exact h.1
  | succ i=>exact c i x y (by simpa using hx) (by simpa using hy)
theorem kzi {x y:FV} (h:leFV x y=true) (hx:x.single=true):y.single=true:=by
 unfold leFV at h;split at h;rfl;rw [<- k0h h];exact hx;cases hx;cases hx;rfl
 ·cases h
theorem k2f {x y:FV} (h:leFV x y=true):klr x.cells y.cells=true:=by
 have one:klr [x] [y]=true:=by simp only [klr,h,Bool.and_true]
 revert one
 unfold leFV at h;intro one;split at h;exact one;exact one;exact h;exact one;exact one
 ·cases h
theorem kakr {v:Value} {x:FV} (h:RF S w v x):∀ {y:FV},leFV x y=true->RF S w v y:=by
 induction h with
 | @atom v h=>
  intro y hy;unfold leFV at hy;split at hy
  ·rename_i s n xs b;cases b;simp only [qp] at hy;have hn:=qk hy.2.1;have hx:xs=[]:=(by simpa using hy.2.2);subst hn hx;exact .lst (fun _=>[]) rfl (qx _) (by omega) (qs hy.1) (fun i x h=>by simp at h) (fun i x h=>by simp at h) fun i x j v y h=>by simp at h
  rename_i u _ b;cases b;rw [<- k0h hy];exact .atom h;rename_i b;cases b;rename_i b;cases b;rename_i b;cases b
  ·cases hy
 | @agg cs xs hl h1 hr ih=>
  intro y hy;cases y <;> simp only [leFV] at hy <;> try cases hy
  rename_i ys;obtain ⟨k1,k2⟩:=klb hy;refine .agg (by omega) (fun z a=>?_) fun i u z e a=>?_;obtain ⟨i,hi,rfl⟩:=qai.1 a;have hx:xs[i]?=some (xs[i]'(by omega)):=qb _;exact kzi (k2 i _ _ hx (qb hi)) (h1 _ (q9 _))
  ·have hi:=(qg.1 a).1;have hx:xs[i]?=some (xs[i]'(by omega)):=qb _;exact ih i u _ e hx (k2 i _ _ hx a)
 | @tup cs xs hl hr ih=>
  intro y hy;cases y <;> simp only [leFV] at hy <;> try cases hy
  rename_i ys;obtain ⟨k1,k2⟩:=klb hy;refine .tup (by omega) fun i u z e a=>?_;have hi:=(qg.1 a).1;have hx:xs[i]?=some (xs[i]'(by omega)):=qb _;exact ih i u _ e hx (k2 i _ _ hx a)
 | @lst A cap size n xs css hn hc hm hs ha hl hr ih=>
  intro y hy;cases y <;> simp only [leFV] at hy <;> try cases hy
  rename_i s' n' ys;simp only [qp] at hy;obtain ⟨e1,e2,e3⟩:=hy;have e1:=qk e1;have e2:=qk e2;subst e1 e2;obtain ⟨k1,k2⟩:=klb e3;have get:∀ (i:Nat) (y:FV),ys[i]?=some y->∃ x,xs[i]?=some x/\leFV x y=true:=fun i y hy=>by have hi:=(qg.1 hy).1;have hx:xs[i]?=some (xs[i]'(by omega)):=qb _;exact ⟨_,hx,k2 i _ _ hx hy⟩
  refine .lst css (by omega) hc hm hs (fun i y hy=>?_) (fun i y hy=>?_) fun i y j u z hy e a=>?_;obtain ⟨x,hx,_⟩:=get i y hy;exact ha i x hx;obtain ⟨x,hx,d⟩:=get i y hy;obtain ⟨q1,q2,q3⟩:=hl i x hx;obtain ⟨r1,r2⟩:=klb (k2f d);refine ⟨q1,by omega,fun z a=>?_⟩;obtain ⟨j,f,rfl⟩:=qai.1 a;have c:x.cells[j]?=some (x.cells[j]'(by omega)):=qb _;exact kzi (r2 j _ _ c (qb f)) (q3 _ (q9 _))
  ·obtain ⟨x,hx,d⟩:=get i y hy;obtain ⟨r1,r2⟩:=klb (k2f d);have f:=(qg.1 a).1;have c:x.cells[j]?=some (x.cells[j]'(by omega)):=qb _;exact ih i x j u _ hx e c (r2 j _ _ c a)
 | fp=>intro y hy;cases y <;> simp only [leFV] at hy <;> cases hy
 | bx=>intro y hy;cases y <;> simp only [leFV] at hy <;> cases hy
 | bn=>intro y hy;cases y <;> simp only [leFV] at hy <;> cases hy
theorem PCall.le {f:FuncId} {xs ys:List FV} {r:FV} (h:PCall P f xs r) (a:klr ys xs=true):PCall P f ys r:=by obtain ⟨k1,k2⟩:=klb a;refine ⟨h.1,fun S w vs hs hv=>h.2 S w vs (by omega) fun i v x b hx=>?_⟩;have hi:=(qg.1 hx).1;have hy:ys[i]?=some (ys[i]'(by omega)):=qb _;exact kakr (hv i v _ b hy) (k2 i _ _ hy hx)
end
set_option linter.unusedSectionVars false
variable [Dr]
class Tab (P:Program) where
 T:List (TypeId×TD)
 ok:TOk P T
 mixed:P.follows .mixedOrders=true
abbrev FsT:=List (Nat×Option Nat×AV)
structure Zn where
 os:Array Oper
 n:Nat
 es:List Nat
 ch:List Nat
 ai:List Nat
inductive Foc where
 | code (c:Code)
 | ops (os:Array Oper) (l:List Oper)
 | drz (z:Zn) (k i:Nat) (l:List Oper) (fs:FsT) (hp:List (Nat×AObj)) (ids:List Nat) (pn:Option Nat)
 | dry (z:Zn) (k i:Nat) (l:List Oper) (fs:FsT) (hp:List (Nat×AObj)) (nid:List Nat) (es:List (Nat×Nat))
 | fin (e:Exit)
 | bad
inductive Frm where
 | seq (c:Code)
 | block (id:Nat)
structure Cfg where
 foc:Foc
 ks:List Frm
 st:St
def kvs (T:List (TypeId×TD)) (t:TypeId):Option TK:=match kad T t with
 | some d=>some d.kind
 | none=>none
def kais (T:List (TypeId×TD)) (sr t:TypeId) (x:AV):Option AV:=match kvs T sr,kvs T t,x with
 | some _,some (.int k), .fz (.atom (.int _ n))=>some (.fz (.atom (.int k (k.wrap n))))
 | some .str,some .str, .fz (.atom (.string s))=>some (.fz (.atom (.string s)))
 | _,_,_=>none
def k1k (T:List (TypeId×TD)) (o:Oper) (st:St):Option AV:=match k1q T o st with
 | some c=>some c
 | none=>match o.op with
  | .convert sr t x=>kais T sr t (st.eval x)
  | .call c=>match c.callee,c.args.toList with
   | .builtin .min,[x,y]=>match st.eval x,st.eval y with
    | .fz (.atom (.int k m)), .fz (.atom (.int _ n))=>some (.fz (.atom (.int k (imin m n))))
    | _,_=>none
   | .builtin .max,[x,y]=>match st.eval x,st.eval y with
    | .fz (.atom (.int k m)), .fz (.atom (.int _ n))=>some (.fz (.atom (.int k (imax m n))))
    | _,_=>none
   | _,_=>none
  | .makeInterface t x=>match kvs T t with
   | some .ifc=>none
   | some _=>match toV (st.eval x) with
    | some v=>some (.fz (.atom (.iface t v)))
    | none=>none
   | none=>none
  | .typeAssert x _ t true=>match kvs T t,st.eval x with
   | some .ifc,_=>none
   | some _, .fz (.atom (.iface t' v))=>bif Nat.beq t' t then (match ofV v with
    | some y=>some (.fz (.tup [y, .atom (.bool true)]))
    | none=>none) else none
   | _,_=>none
  | .binOp op t x (.const .nilIface) _=>match kvs T t,st.eval x,op with
   | some .ifc, .fz (.atom (.iface _ _)), .eql=>some (.fz (.atom (.bool false)))
   | some .ifc, .fz (.atom (.iface _ _)), .neq=>some (.fz (.atom (.bool true)))
   | some .ifc, .fz (.atom .nilIface), .eql=>some (.fz (.atom (.bool true)))
   | some .ifc, .fz (.atom .nilIface), .neq=>some (.fz (.atom (.bool false)))
   | _,_,_=>none
  | _=>none
theorem khg {T:List (TypeId×TD)} {t:TypeId} {k:TK} (h:kvs T t=some k):∃ d,kad T t=some d/\d.kind=k:=by
 unfold kvs at h;split at h;rename_i d hd;injection h with h;exact ⟨d,hd,h⟩
 ·cases h
theorem ksz {α:Type} {xs:Array α} {x y:α} (h:xs.toList=[x,y]):xs=#[x,y]:=by apply qbm;simpa using h
theorem k5c {P:Program} {T:List (TypeId×TD)} (e:TOk P T) {o:Oper} {st:St} {c:AV} (h:k1k T o st=some c):NStep P o st c:=by
 unfold k1k at h;split at h;rename_i c' hc;injection h with h;subst h;exact kii _ (h:=e) (hx:=hc)
 ·split at h
  ·rename_i sr t x b;unfold kais at h;split at h;rename_i ks k k' n h1 f i;injection h with h;subst h;obtain ⟨ds,hs,_⟩:=khg h1;obtain ⟨d,hd,hk⟩:=khg f;exact kad3 e b hs hd hk i;rename_i s h1 f i;injection h with h;subst h;obtain ⟨ds,hs,j⟩:=khg h1;obtain ⟨d,hd,hk⟩:=khg f;exact kaae e b hs j hd hk i
   ·cases h
  ·rename_i c' b;obtain ⟨cc,as_,ts⟩:=c';split at h
   ·rename_i x y h1 f;simp only at h1 f;rw [h1,ksz f] at b;split at h;rename_i k m k' n hx hy;injection h with h;subst h;exact kain b hx hy
    ·cases h
   ·rename_i x y h1 f;simp only at h1 f;rw [h1,ksz f] at b;split at h;rename_i k m k' n hx hy;injection h with h;subst h;exact kaiu b hx hy
    ·cases h
   ·cases h
  ·rename_i tt x b;split at h;cases h
   ·rename_i kk g hk;obtain ⟨d,hd,a⟩:=khg hk;split at h;rename_i v hv;injection h with h;subst h;exact kalz b (e.get hd) (fun hi=>g (by rw [hi] at a;exact a.symm)) hv
    ·cases h
   ·cases h
  ·rename_i x xt tt b;split at h;cases h
   ·rename_i kk t' v g hk hx;obtain ⟨d,hd,a⟩:=khg hk;cases l:Nat.beq t' tt with
    | false=>rw [l] at h;cases h
    | true=>
     rw [l] at h;obtain rfl:=qk l;(try simp only [qe] at h);split at h;rename_i y hy;injection h with h;subst h;exact kadw b (e.get hd) (fun hi=>g (by rw [hi] at a;exact a.symm)) hx hy
     ·cases h
   ·cases h
  ·rename_i op tt x yt b;split at h;rename_i s z hk hx;obtain ⟨d,hd,a⟩:=khg hk;injection h with h;subst h;exact krk false false b (e.get hd) a hx (.inl ⟨rfl,_,_,rfl⟩);rename_i s z hk hx;obtain ⟨d,hd,a⟩:=khg hk;injection h with h;subst h;exact krk true false b (e.get hd) a hx (.inl ⟨rfl,_,_,rfl⟩);rename_i hk hx;obtain ⟨d,hd,a⟩:=khg hk;injection h with h;subst h;exact krk false true b (e.get hd) a hx (.inr ⟨rfl,rfl⟩);rename_i hk hx;obtain ⟨d,hd,a⟩:=khg hk;injection h with h;subst h;exact krk true true b (e.get hd) a hx (.inr ⟨rfl,rfl⟩)
   ·cases h
  ·cases h
def unwN:List Frm->St->Cfg
 | [],st=>⟨.fin .normal,[],st⟩
 | .seq y::ks,st=>⟨.code y,ks,st⟩
 | .block _::ks,st=>unwN ks st
def unwX (id:Nat):List Frm->St->Cfg
 | [],st=>⟨.fin (.exit id),[],st⟩
 | .seq _::ks,st=>unwX id ks st
 | .block i::ks,st=>bif Nat.beq id i then unwN ks st else unwX id ks st
def unw:Exit->List Frm->St->Cfg
 | .normal,ks,st=>unwN ks st
 | .exit i,ks,st=>unwX i ks st
 | .ret,_,st=>⟨.fin .ret,[],st⟩
 | .panic cs,_,st=>⟨.fin (.panic cs),[],st⟩
 | _,_,st=>⟨.bad,[],st⟩
def kacb (T:List (TypeId×TD)) (os:Array Oper) (o:Oper) (l:List Oper) (ks:List Frm) (st:St):Cfg:=match kbp os st o,kuy st o with
 | some true,true=>match kx6 T o st with
  | some (c,h,i)=>⟨.ops os l,ks,({ st with heap:=h,ids:=i }:St).put o.dst c⟩
  | none=>match k1k T o st with
   | some c=>⟨.ops os l,ks,st.put o.dst c⟩
   | none=>⟨.bad,ks,st⟩
 | some false,true=>⟨.ops os l,ks,st.put o.dst (.fz (.tup []))⟩
 | _,_=>⟨.bad,ks,st⟩
def k5q (T:List (TypeId×TD)) (os:Array Oper) (st:St) (o:Oper):Option AV:=match kbp os st o with
 | some true=>k1k T o st
 | some false=>some (.fz (.tup []))
 | none=>none
def kab6:Code->List Frm->St->Cfg
 | .skip,ks,st=>unwN ks st
 | .label _,ks,st=>unwN ks st
 | .exit i,ks,st=>unwX i ks st
 | .ret,_,st=>⟨.fin .ret,[],st⟩
 | .seq x y,ks,st=>⟨.code x, .seq y::ks,st⟩
 | .block id c,ks,st=>⟨.code c, .block id::ks,st⟩
 | .cond c x y,ks,st=>match st.eval c with
  | .fz (.atom (.bool b))=>⟨.code (bif b then x else y),ks,st⟩
  | _=>⟨.bad,ks,st⟩
 | .region _ os false,ks,st=>⟨.ops os os.toList,ks,st⟩
 | _,ks,st=>⟨.bad,ks,st⟩
def ko9 (z:Zn) (st:St) (i:Nat) (o:Oper) (fs:FsT) (hp:List (Nat×AObj)) (ids:List Nat):St:=kes z.os.toList z.n z.es z.ch z.ai st i o fs hp ids
def kacc (ch:List Nat):List (Nat×AObj)->Bool
 | (k,_)::_=>ch.contains k
 | []=>true
def kvh (ai ids ids':List Nat):Bool:=ids'.all ai.contains && ids.all ids'.contains
def k56 (z:Zn) (i:Nat):Option Nat->Bool
 | some e=>anc z.os.toList i e
 | none=>false
def kacl (T:List (TypeId×TD)) (z:Zn) (k i:Nat) (o:Oper) (l:List Oper) (fs:FsT) (hp:List (Nat×AObj)) (ids:List Nat) (pn:Option Nat) (ks:List Frm) (st:St):Cfg:=
 bif k56 z i pn then ⟨.drz z k (i+1) l ((i,o.dst, .any)::fs) hp ids pn,ks,st⟩ else
 bif z.es.contains i then (match kbp z.os (ko9 z st i o fs hp ids) o,kx6 T o (ko9 z st i o fs hp ids),pn with
  | some false,_,none=>bif kvh z.ai ids ids then ⟨.drz z k (i+1) l ((i,o.dst, .fz (.tup []))::fs) hp ids none,ks,st⟩ else ⟨.bad,ks,st⟩
  | some true,some (c,a,i'),none=>bif Nat.beq (ko9 z st i o fs hp ids).heap.length hp.length && (phB z.os.toList z.es i && (kacc z.ch a && kvh z.ai ids i')) then ⟨.drz z k (i+1) l ((i,o.dst,c)::fs) a i' none,ks,st⟩ else ⟨.bad,ks,st⟩
  | _,_,_=>⟨.bad,ks,st⟩)
 else (match k5q T z.os (ko9 z st i o fs hp ids) o with
  | some c=>bif phB z.os.toList z.es i || okA st.ids c then ⟨.drz z k (i+1) l ((i,o.dst,c)::fs) hp ids pn,ks,st⟩ else ⟨.bad,ks,st⟩
  | none=>⟨.bad,ks,st⟩)
def k2i (z:Zn) (st:St) (i:Nat) (o:Oper) (fs:FsT):St:=kyk z.os.toList z.n z.ai st i o fs
def k6p (T:List (TypeId×TD)) (o:Oper):Option (TypeId×List AV):=match o.op with
 | .alloc e=>match kad T e with
  | some d=>match ksj d with
   | some cells=>some (e,cells)
   | none=>none
  | none=>none
 | _=>none
def k79 (T:List (TypeId×TD)) (v:St) (o:Oper):Option (Nat×AObj):=match o.op with
 | .store t x y=>match kxj T v t x y with
  | some (_,q::_,_)=>some q
  | _=>none
 | _=>none
def k8e (z:Zn) (st:St) (es:List (Nat×Nat)) (id:Nat):Bool:=!(st.ids.contains id || (st.heap.any fun q=>q.1 == id) || (es.any fun q=>q.2 == id) || !z.ai.contains id)
def kacu (T:List (TypeId×TD)) (z:Zn) (k i:Nat) (o:Oper) (l:List Oper) (fs:FsT) (hp:List (Nat×AObj)) (nid:List Nat) (es:List (Nat×Nat)) (ks:List Frm) (st:St):Cfg:=
 match k5q T z.os (k2i z st i o fs) o with
 | some c=>bif okA (idsB z.os.toList i nid es st.ids) c then ⟨.dry z k (i+1) l ((i,o.dst,c)::fs) hp nid es,ks,st⟩ else ⟨.bad,ks,st⟩
 | none=>match kbp z.os (k2i z st i o fs) o,k6p T o with
  | some true,some (e,cells)=>bif k8e z st es (fresh (nid++st.ids)) then ⟨.dry z k (i+1) l ((i,o.dst, .ref (fresh (nid++st.ids)) 0 0)::fs) ((fresh (nid++st.ids), .box e cells)::hp) (fresh (nid++st.ids)::nid) ((i,fresh (nid++st.ids))::es),ks,st⟩ else ⟨.bad,ks,st⟩
  | some true,none=>match k79 T { k2i z st i o fs with heap:=hp++st.heap } o with
   | some q=>bif !(st.heap.any fun r=>r.1 == q.1) && befB z.os.toList i q.1 es then ⟨.dry z k (i+1) l ((i,o.dst, .any)::fs) (q::hp) nid ((i,q.1)::es),ks,st⟩ else ⟨.bad,ks,st⟩
   | none=>⟨.bad,ks,st⟩
  | _,_=>⟨.bad,ks,st⟩
def kabf (T:List (TypeId×TD)) (g:Cfg):Cfg:=match g with
 | ⟨.code c,ks,st⟩=>kab6 c ks st
 | ⟨.ops _ [],ks,st⟩=>unwN ks st
 | ⟨.ops os (o::l),ks,st⟩=>kacb T os o l ks st
 | ⟨.drz z 0 _ l fs hp ids none,ks,st⟩=>⟨.ops z.os l,ks,{ st with tmps:=hadd fs (fun _=>true) st.tmps,heap:=hp,ids:=ids }⟩
 | ⟨.drz z (k+1) i (o::l) fs hp ids pn,ks,st⟩=>kacl T z k i o l fs hp ids pn ks st
 | ⟨.dry z 0 _ l fs hp nid _,ks,st⟩=>⟨.ops z.os l,ks,{ st with tmps:=hadd fs (fun _=>true) st.tmps,heap:=hp++st.heap,ids:=nid++st.ids }⟩
 | ⟨.dry z (k+1) i (o::l) fs hp nid es,ks,st⟩=>kacu T z k i o l fs hp nid es ks st
 | ⟨_,ks,st⟩=>⟨.bad,ks,st⟩
def crunT (T:List (TypeId×TD)) (k:Nat) (g:Cfg):Cfg:=Nat.rec g (fun _ r=>kabf T r) k
def crun (P:Program) [t:Tab P] (k:Nat) (g:Cfg):Cfg:=crunT t.T k g
def kgu [Rd] (P:Program):List Frm->(Exit->St->Prop)->Exit->St->Prop
 | [],Q=>Q
 | .seq y::ks,Q=>kaiq (fun st=>awp P y st (kgu P ks Q)) (kgu P ks Q)
 | .block id::ks,Q=>k2w id (kgu P ks Q)
def FW [Rd] (P:Program) (foc:Foc) (st:St) (Q:Exit->St->Prop):Prop:=match foc with
 | .code c=>awp P c st Q
 | .ops os l=>awpL P os l st Q
 | .drz z k i l fs hp ids pn=>kra P z.os z.n z.es z.ch z.ai Q st k i l fs hp ids pn
 | .dry z k i l fs hp nid es=>k08 P z.os z.n z.ai Q st k i l fs hp nid es
 | .fin e=>Q e st
 | .bad=>False
def W [Rd] (P:Program) (g:Cfg) (Q:Exit->St->Prop):Prop:=FW P g.foc g.st (kgu P g.ks Q)
section
variable {P:Program} {T:List (TypeId×TD)} {Q:Exit->St->Prop} {st:St} {ks:List Frm}
theorem koy [Rd]:∀ {ks:List Frm},W P (unwN ks st) Q->kgu P ks Q .normal st
 | [],h=>h
 | .seq _::_,h=>h
 | .block id::ks,h=>show k2w id (kgu P ks Q) .normal st from koy (ks:=ks) h
theorem kx4 [Rd] {i:Nat}:∀ {ks:List Frm},W P (unwX i ks st) Q->kgu P ks Q (.exit i) st
 | [],h=>h
 | .seq _::ks,h=>kx4 (ks:=ks) h
 | .block id::ks,h=>by
  show (if i=id then kgu P ks Q .normal st else kgu P ks Q (.exit i) st);simp only [unwX] at h;by_cases hi:i=id;subst hi;rw [qo rfl];simp only [Nat.beq_refl,qe] at h;exact koy h
  ·rw [qi hi];rw [Nat.beq_eq_false hi] at h;exact kx4 h
theorem kye [Rd] {ks:List Frm}:Q .ret st->kgu P ks Q .ret st:=by
 induction ks with
 | nil=>exact id
 | cons k ks ih=>cases k <;> exact ih
theorem k3s [Rd] {cs} {ks:List Frm}:Q (.panic cs) st->kgu P ks Q (.panic cs) st:=by
 induction ks with
 | nil=>exact id
 | cons k ks ih=>cases k <;> exact ih
theorem k77 [Rd] {e:Exit} {ks:List Frm} (h:W P (unw e ks st) Q):kgu P ks Q e st:=by
 cases e with
 | normal=>exact koy h
 | exit i=>exact kx4 h
 | ret=>exact kye h
 | panic cs=>exact k3s h
 | _=>exact h.elim
theorem k8r (b:TOk P T) {os:Array Oper} {o:Oper} {c:AV} (h:k5q T os st o=some c):(kbp os st o=some true/\NStep P o st c)\/(kbp os st o=some false/\c = .fz (.tup [])):=by
 unfold k5q at h;split at h;rename_i a;exact .inl ⟨a,k5c b h⟩;rename_i a;injection h with h;exact .inr ⟨a,h.symm⟩
 ·cases h
theorem kafy [Rd] (b:TOk P T) {os:Array Oper} {o:Oper} {l:List Oper} (h:W P (kacb T os o l ks st) Q):awpL P os (o::l) st (kgu P ks Q):=by
 unfold kacb at h;split at h
 ·rename_i a hd;split at h;rename_i c d i hx;exact k2d (k7u b hx) a (kmp hd) h
  ·split at h;rename_i c hx;exact k2d (k5c b hx).step a (kmp hd) h
   ·exact h.elim
 rename_i a hd;exact kam4 a (kmp hd) h
 ·exact h.elim
theorem kahm [Rd] {c:Code} (h:W P (kab6 c ks st) Q):awp P c st (kgu P ks Q):=by
 unfold kab6 at h;split at h;exact kags (koy h);exact fun F S0 N0 ψ S a w hs=>kafo ⟨st,ψ,S,koy h,hs,Fr.refl⟩;exact kag3 (kx4 h);exact kajm (kye h);exact kajt h;exact kae4 h
 ·split at h;rename_i b;exact k7r b h
  ·exact h.elim
 exact kace h
 ·exact h.elim
theorem kaa6 {o:Oper} {c:AV} {h:List (Nat×AObj)} {i:List Nat} (hx:kx6 T o st=some (c,h,i)):h=st.heap\/∃ id ob,h=(id,ob)::st.heap:=by
 unfold kx6 at hx;have a:∀ {e:TypeId} {cells:List AV},boxX e st cells=some (c,h,i)->h=st.heap\/∃ id ob,h=(id,ob)::st.heap:=fun {e cells} hx=>by
  unfold boxX at hx;cases d:(cells.all AV.single && !st.ids.contains (Go.Proofs.YtjpkdegjcilndaaGreatDoor.fresh st.ids)) with
  | false=>rw [d] at hx;cases hx
  | true=>rw [d] at hx;simp only [qe,qc,qv] at hx;exact .inr ⟨_,_,hx.2.1.symm⟩
 split at hx;exact a hx
 ·split at hx
  ·split at hx;exact a hx
   ·cases hx
  ·cases hx
 ·unfold kxj at hx;split at hx
  ·split at hx
   ·rename_i e cells f;generalize (Nat.beq _ 0 && _)=b at hx;cases b with
    | false=>cases hx
    | true=>simp only [qe,qc,qv] at hx;exact .inr ⟨_,_,hx.2.1.symm⟩
   ·cases hx
  ·cases hx
 ·refine .inl ?_;generalize k1q T o st=c0 at hx;cases c0 with
  | none=>cases hx
  | some x=>simp only [nres,qc,qv] at hx;exact hx.2.1.symm
theorem k0a {ai ids ids':List Nat} (h:kvh ai ids ids'=true):(∀ id,id∈ids'->id∈ai)/\∀ id,id∈ids->id∈ids':=by unfold kvh at h;simp only [qp] at h;exact ⟨fun id hi=>by simpa using qr.1 h.1 id hi,fun id hi=>by simpa using qr.1 h.2 id hi⟩
theorem kagu [Rd] (m:TOk P T) {z:Zn} {k i:Nat} {o:Oper} {l:List Oper} {fs:FsT} {hp:List (Nat×AObj)} {ids:List Nat} {pn:Option Nat} (h:W P (kacl T z k i o l fs hp ids pn ks st) Q):kra P z.os z.n z.es z.ch z.ai (kgu P ks Q) st (k+1) i (o::l) fs hp ids pn:=by
 unfold kacl at h;cases hd:k56 z i pn with
 | true=>
  rw [hd] at h;cases pn with
  | none=>cases hd
  | some e=>exact .inl ⟨e,rfl,hd,h⟩
 | false=>
  rw [hd] at h;simp only [qd] at h;cases d:z.es.contains i with
  | true=>
   rw [d] at h;simp only [qe] at h;split at h
   ·rename_i g;cases a:kvh z.ai ids ids with
    | false=>rw [a] at h;exact h.elim
    | true=>
     rw [a] at h;exact .inr (.inr (.inl ⟨d,rfl,_,hp,ids,⟨.inr ⟨g,rfl,rfl,rfl⟩, .inr ⟨fun _ _ _ h=>h,k0a a⟩⟩,h⟩))
   ·rename_i c p i' g hx;generalize a:(Nat.beq (ko9 z st i o fs hp ids).heap.length hp.length && (phB z.os.toList z.es i && (kacc z.ch p && kvh z.ai ids i')))=b at h;cases b with
    | false=>exact h.elim
    | true=>
     simp only [qp] at a;obtain ⟨_,b2,b3,b4⟩:=a;refine .inr (.inr (.inl ⟨d,rfl,c,p,i',⟨.inl ⟨g,k7u m hx⟩, .inr ⟨?_,k0a b4⟩⟩,h⟩));have hv:(ko9 z st i o fs hp ids).heap=hp:=(by show (bif phB z.os.toList z.es i then hp else _)=hp;rw [b2];rfl);rcases kaa6 hx with f | ⟨id,ob,f⟩;rw [f,hv];exact fun _ _ _ h=>h
     ·rw [f,hv];rw [f] at b3;intro id' j ob' q;rw [kac,qi];exact q
      ·rintro rfl;exact j (by simpa [kacc] using b3)
   ·exact h.elim
  | false=>
   rw [d] at h;simp only [qd] at h;split at h
   ·rename_i c hc;cases hk:(phB z.os.toList z.es i || okA st.ids c) with
    | false=>rw [hk] at h;exact h.elim
    | true=>rw [hk] at h;exact .inr (.inl ⟨d,c,k8r m hc,hk,h⟩)
   ·exact h.elim
theorem kad9 (c:TOk P T) {o:Oper} {e:TypeId} {cells:List AV} (h:k6p T o=some (e,cells)) {v:St} (id:Nat):kai3 P v o (.ref id 0 0) id (.box e cells):=by
 unfold k6p at h;split at h
 ·rename_i e' f;split at h
  ·rename_i d hd;split at h;rename_i cells' g;simp only [qc,qv] at h;obtain ⟨rfl,rfl⟩:=h;exact fun a ids' b=>k28 (st:={ v with heap:=a,ids:=ids' }) f (c.get hd) g b
   ·cases h
  ·cases h
 ·cases h
theorem kac6 (f:TOk P T) {v:St} {o:Oper} {q:Nat×AObj} (h:k79 T v o=some q):kai1 P v o .any q.1 q.2:=by
 unfold k79 at h;split at h
 ·rename_i t x y g;unfold kxj at h;cases hd:kad T t with
  | none=>rw [hd] at h;cases h
  | some d=>
   rw [hd] at h;generalize hx:v.eval x=ex at h;cases ex with
   | ref id n off=>
    simp only at h;cases a:kaa v.heap id with
    | none=>rw [a] at h;cases h
    | some ob=>
     rw [a] at h;cases ob with
     | box e cells=>
      simp only at h;cases b:(Nat.beq n 0 && (Nat.beq (v.eval y).cells.length d.size && ((v.eval y).cells.all AV.single && Nat.ble (off+(v.eval y).cells.length) cells.length))) with
      | false=>rw [b] at h;cases h
      | true=>
       rw [b] at h;simp only [qe,qc] at h;subst h;simp only [qp] at b;obtain ⟨b1,b2,b3,b4⟩:=b;obtain rfl:=qk b1;exact fun c ids' hl=>k9p (st:={ v with heap:=c,ids:=ids' }) g (f.get hd) hx (by rw [<- a];exact hl) rfl (qk b2) b3 (qs b4)
     | _=>cases h
   | _=>cases h
 ·cases h
theorem kaf3 [Rd] (b:TOk P T) {z:Zn} {k i:Nat} {o:Oper} {l:List Oper} {fs:FsT} {hp:List (Nat×AObj)} {nid:List Nat} {es:List (Nat×Nat)} (h:W P (kacu T z k i o l fs hp nid es ks st) Q):k08 P z.os z.n z.ai (kgu P ks Q) st (k+1) i (o::l) fs hp nid es:=by
 unfold kacu at h;split at h
 ·rename_i c hc;cases hk:okA (idsB z.os.toList i nid es st.ids) c with
  | false=>rw [hk] at h;exact h.elim
  | true=>rw [hk] at h;exact .inl ⟨c,k8r b hc,hk,h⟩
 ·split at h
  ·rename_i e cells d ha;cases hk:k8e z st es (Go.Proofs.YtjpkdegjcilndaaGreatDoor.fresh (nid++st.ids)) with
   | false=>rw [hk] at h;exact h.elim
   | true=>
    rw [hk] at h;have a:=hk;unfold k8e at a;rw [qbp] at a;exact .inr (.inl ⟨_,_,_,d,kad9 b ha _,a,h⟩)
  ·rename_i d _;split at h
   ·rename_i q f;cases hk:(!(st.heap.any fun r=>r.1 == q.1) && befB z.os.toList i q.1 es) with
    | false=>rw [hk] at h;exact h.elim
    | true=>
     rw [hk] at h;rw [qp,qbp] at hk;exact .inr (.inr ⟨_,_,_,d,kac6 b f,hk.1,hk.2,h⟩)
   ·exact h.elim
  ·exact h.elim
theorem kaha [Rd] (a:TOk P T) {g:Cfg} (h:W P (kabf T g) Q):W P g Q:=by
 unfold kabf at h;split at h;exact kahm h;exact l_nil (koy h);exact kafy a h;exact h;exact kagu a h;exact h;exact kaf3 a h
 ·exact h.elim
theorem ka3 [Rd] [t:Tab P] (k:Nat) {g:Cfg} (h:W P (crun P k g) Q):W P g Q:=by
 unfold crun at h
 induction k with
 | zero=>exact h
 | succ k ih=>exact ih (kaha t.ok h)
variable [t:Tab P] {g:Cfg} {β:Type} {r:β}
def kxi (g:Cfg):Bool:=match g.foc with
 | .code _=>true
 | .ops _ _=>true
 | _=>false
def kalq (g:Cfg):Bool:=match g.foc with
 | .code _=>true
 | _=>false
def stOf (g:Cfg):St:=g.st
def kpg (g:Cfg) (st:St):Cfg:=⟨g.foc,g.ks,st⟩
theorem wle [Rd] (k:Nat) {st':St} (hl:LeSt (stOf (crun P k g)) st') (h:W P (kpg (crun P k g) st') Q) (hc:kxi (crun P k g)=true:=by kernel_rfl):W P g Q:=by
 refine ka3 k ?_;generalize crun P k g=g' at *
 obtain ⟨foc,ks,st⟩:=g';cases foc with
 | code c=>exact kae9 hl h
 | ops os l=>exact l_le hl h
 | _=>cases hc
def kai0 (g:Cfg):Option Bool:=match g.foc with
 | .code (.cond c _ _)=>match g.st.eval c with
  | .fz (.atom (.bool b))=>some b
  | _=>none
 | _=>none
def brc (b:Bool) (g:Cfg):Cfg:=match g.foc with
 | .code (.cond _ x y)=>⟨.code (bif b then x else y),g.ks,g.st⟩
 | _=>⟨.bad,g.ks,g.st⟩
theorem cd [Rd] (k:Nat) {b:Bool} {X Y:Option β} (h:(bif b then X else Y)=some r) (h1:X=some r->W P (brc true (crun P k g)) Q) (a:Y=some r->W P (brc false (crun P k g)) Q) (hc:kai0 (crun P k g)=some b:=by kernel_rfl):W P g Q:=by
 refine ka3 k ?_;generalize crun P k g=g' at *
 obtain ⟨foc,ks,st⟩:=g';have key:W P (brc b ⟨foc,ks,st⟩) Q:=by
  cases b with
  | true=>exact h1 h
  | false=>exact a h
 unfold kai0 at hc;simp only at hc;split at hc
 ·rename_i c x y;split at hc;rename_i b' d;injection hc with hc;subst hc;exact k7r d key
  ·cases hc
 ·cases hc
def setT (t:Nat) (v:AV):List (Nat×AV)->List (Nat×AV)
 | []=>[]
 | (k,x)::l=>bif Nat.beq k t then (k,v)::l else (k,x)::setT t v l
def setF (j:Nat) (v:AV):FsT->FsT
 | []=>[]
 | (k,d,x)::l=>bif Nat.beq k j then (k,d,v)::l else (k,d,x)::setF j v l
def getF (j:Nat):FsT->Option AV
 | []=>none
 | (k,d,x)::l=>bif Nat.beq k j then some x else getF j l
def kyi:AV->Option Bool
 | .fz (.atom (.bool b))=>some b
 | _=>none
def k6s (g:Cfg):Option Bool:=match g.foc with
 | .ops os (o::_)=>match o.guard with
  | some (j,_)=>match (os[j]?).bind (·.dst) with
   | some t=>kyi (g.st.get t)
   | none=>none
  | none=>none
 | .drz _ _ _ (o::_) fs _ _ _=>match o.guard with
  | some (j,_)=>match getF j fs with
   | some v=>kyi v
   | none=>none
  | none=>none
 | _=>none
def setG (b:Bool) (g:Cfg):Cfg:=match g.foc with
 | .ops os (o::l)=>match o.guard with
  | some (j,_)=>match (os[j]?).bind (·.dst) with
   | some t=>⟨.ops os (o::l),g.ks,{ g.st with tmps:=setT t (.fz (.atom (.bool b))) g.st.tmps }⟩
   | none=>g
  | none=>g
 | .drz z k i (o::l) fs hp ids pn=>match o.guard with
  | some (j,_)=>⟨.drz z k i (o::l) (setF j (.fz (.atom (.bool b))) fs) hp ids pn,g.ks,g.st⟩
  | none=>g
 | _=>g
theorem k9t {t:Nat} {b:Bool}:∀ {l:List (Nat×AV)},kyi (look .any l t)=some b->setT t (.fz (.atom (.bool b))) l=l
 | [],_=>rfl
 | (k,x)::l,h=>by
  simp only [setT,look] at h ⊢;cases hk:Nat.beq k t with
  | true=>
   rw [hk] at h;simp only [qe] at h ⊢;unfold kyi at h;split at h;injection h with h;rw [h]
   ·cases h
  | false=>rw [hk] at h;simp only [qd] at h ⊢; rw [k9t h]
theorem kaay {j:Nat} {b:Bool}:∀ {l:FsT} {v:AV},getF j l=some v->kyi v=some b->setF j (.fz (.atom (.bool b))) l=l
 | [],_,h,_=>rfl
 | (k,d,x)::l,v,h,a=>by
  simp only [setF,getF] at h ⊢;cases hk:Nat.beq k j with
  | true=>
   rw [hk] at h;simp only [qe,qc] at h ⊢;subst h;unfold kyi at a;split at a;injection a with a;rw [a]
   ·cases a
  | false=>rw [hk] at h;simp only [qd] at h ⊢; rw [kaay h a]
theorem kakc {b:Bool} (h:k6s g=some b):setG b g=g:=by
 obtain ⟨foc,ks,st⟩:=g;unfold k6s at h;unfold setG;cases foc with
 | ops os l=>
  cases l with
  | nil=>rfl
  | cons o l=>
   (try dsimp only at h ⊢);split at h
   ·rename_i j w a;split at h;rename_i t ht;(try simp only [ht]);rw [k9t h]
    ·cases h
   ·cases h
 | drz z k i l fs hp ids pn=>
  cases l with
  | nil=>rfl
  | cons o l=>
   (try dsimp only at h ⊢);split at h
   ·rename_i j w a;split at h;rename_i v hv;(try dsimp only);rw [kaay hv h]
    ·cases h
   ·cases h
 | _=>rfl
theorem gd [Rd] (k:Nat) {b:Bool} {X Y:Option β} (h:(bif b then X else Y)=some r) (h1:X=some r->W P (setG true (crun P k g)) Q) (a:Y=some r->W P (setG false (crun P k g)) Q) (hc:k6s (crun P k g)=some b:=by kernel_rfl):W P g Q:=by
 refine ka3 k ?_;rw [<- kakc hc];cases b with
 | true=>exact h1 h
 | false=>exact a h
def krz (g:Cfg):Option (Oper×St):=match g.foc with
 | .ops os (o::_)=>match kbp os g.st o,kuy g.st o with
  | some true,true=>some (o,g.st)
  | _,_=>none
 | .drz z (_+1) i (o::_) fs hp ids pn=>match kbp z.os (ko9 z g.st i o fs hp ids) o with
  | some true=>bif z.es.contains i || k56 z i pn then none else some (o,ko9 z g.st i o fs hp ids)
  | _=>none
 | .dry z (_+1) i (o::_) fs _ _ _=>match kbp z.os (k2i z g.st i o fs) o with
  | some true=>some (o,k2i z g.st i o fs)
  | _=>none
 | _=>none
def klx (g:Cfg):Oper:=match g.foc with
 | .ops _ (o::_)=>o
 | .drz _ _ _ (o::_) _ _ _ _=>o
 | .dry _ _ _ (o::_) _ _ _ _=>o
 | _=>default
def k5x (g:Cfg):St:=match krz g with
 | some p=>p.2
 | none=>g.st
def rsm (c:AV) (g:Cfg):Cfg:=match g.foc with
 | .ops os (o::l)=>⟨.ops os l,g.ks,g.st.put o.dst c⟩
 | .drz z (k+1) i (o::l) fs hp ids pn=>bif phB z.os.toList z.es i || okA g.st.ids c then ⟨.drz z k (i+1) l ((i,o.dst,c)::fs) hp ids pn,g.ks,g.st⟩ else ⟨.bad,g.ks,g.st⟩
 | .dry z (k+1) i (o::l) fs hp nid es=>bif okA (idsB z.os.toList i nid es g.st.ids) c then ⟨.dry z k (i+1) l ((i,o.dst,c)::fs) hp nid es,g.ks,g.st⟩ else ⟨.bad,g.ks,g.st⟩
 | _=>⟨.bad,g.ks,g.st⟩
end
variable {P:Program} {T:List (TypeId×TD)} {Q:Exit->St->Prop} {st:St} {ks:List Frm} {g:Cfg} {β:Type} {r:β}
theorem k7l [Rd] {o:Oper} {v:St} {c:AV} (hv:krz g=some (o,v)) (hn:NStep P o v c) (h:W P (rsm c g) Q):W P g Q:=by
 obtain ⟨foc,ks,st⟩:=g;unfold krz at hv;simp only at hv;split at hv
 ·split at hv;rename_i a hd;simp only [qc,qv] at hv;obtain ⟨rfl,rfl⟩:=hv;exact k2d hn.step a (kmp hd) h
  ·cases hv
 ·rename_i z k i o' l fs hp ids pn;split at hv
  ·rename_i a;generalize d:(z.es.contains i || k56 z i pn)=b at hv;cases b with
   | true=>cases hv
   | false=>
    rw [Bool.or_eq_false_iff] at d;simp only [qd,qc,qv] at hv;obtain ⟨rfl,rfl⟩:=hv;simp only [rsm] at h;cases hk:(phB z.os.toList z.es i || okA st.ids c) with
    | false=>rw [hk] at h;exact h.elim
    | true=>rw [hk] at h;exact .inr (.inl ⟨d.1,c, .inl ⟨a,hn⟩,hk,h⟩)
  ·cases hv
 ·rename_i z k i o' l fs hp nid es;split at hv
  ·rename_i a;simp only [qc,qv] at hv;obtain ⟨rfl,rfl⟩:=hv;simp only [rsm] at h;cases hk:okA (idsB z.os.toList i nid es st.ids) c with
   | false=>rw [hk] at h;exact h.elim
   | true=>rw [hk] at h;exact .inl ⟨c, .inl ⟨a,hn⟩,hk,h⟩
  ·cases hv
 ·cases hv
section
variable {P:Program} {T:List (TypeId×TD)} {Q:Exit->St->Prop} {st:St} {ks:List Frm} [t:Tab P] {g:Cfg} {β:Type} {r:β}
def mokV (g:Cfg):Bool:=(krz g).isSome
theorem k62 {o:Oper} {v:St} (h:krz g=some (o,v)):klx g=o/\k5x g=v:=by
 refine ⟨?_,by unfold k5x;rw [h]⟩;obtain ⟨foc,ks,st⟩:=g;unfold krz at h;unfold klx;simp only at h ⊢;split at h
 ·split at h;simp only [qc,qv] at h;exact h.1
  ·cases h
 ·rename_i z k i o' l fs hp ids pn;split at h
  ·generalize (z.es.contains i || _)=b at h;cases b with
   | true=>cases h
   | false=>simp only [qd,qc,qv] at h;exact h.1
  ·cases h
 ·split at h;simp only [qc,qv] at h;exact h.1
  ·cases h
 ·cases h
theorem nst [Rd] (k:Nat) {c:AV} (hn:NStep P (klx (crun P k g)) (k5x (crun P k g)) c) (hv:mokV (crun P k g)=true) (h:W P (rsm c (crun P k g)) Q):W P g Q:=by refine ka3 k ?_;unfold mokV at hv;obtain ⟨⟨o,v⟩,hv⟩:=Option.isSome_iff_exists.1 hv;obtain ⟨e1,e2⟩:=k62 hv;rw [e1,e2] at hn;exact k7l hv hn h
def okP (g:Cfg):Bool:=match g.foc with
 | .ops os (o::_)=>match kbp os g.st o,kuy g.st o with
  | some true,true=>true
  | _,_=>false
 | _=>false
def rsmA (c:AV) (h:List (Nat×AObj)) (i:List Nat) (g:Cfg):Cfg:=match g.foc with
 | .ops os (o::l)=>⟨.ops os l,g.ks,({ g.st with heap:=h,ids:=i }:St).put o.dst c⟩
 | _=>⟨.bad,g.ks,g.st⟩
theorem sst [Rd] (k:Nat) {c:AV} {h:List (Nat×AObj)} {i:List Nat} (hn:StepA P (klx (crun P k g)) (stOf (crun P k g)) c h i) (hv:okP (crun P k g)=true) (a:W P (rsmA c h i (crun P k g)) Q):W P g Q:=by
 refine ka3 k ?_;generalize crun P k g=g' at *
 obtain ⟨foc,ks,st⟩:=g';unfold okP at hv;simp only at hv;split at hv
 ·split at hv;rename_i b hd;exact k2d hn b (kmp hd) a
  ·cases hv
 ·cases hv
theorem sstD [Rd] (k:Nat) {R:AV->List (Nat×AObj)->List Nat->Prop} (hn:kgr P (klx (crun P k g)) (stOf (crun P k g)) R) (hv:okP (crun P k g)=true) (a:∀ c h i,R c h i->W P (rsmA c h i (crun P k g)) Q):W P g Q:=by
 refine ka3 k ?_;generalize crun P k g=g' at *
 obtain ⟨foc,ks,st⟩:=g';unfold okP at hv;simp only at hv;split at hv
 ·split at hv;rename_i b hd;exact kalk hn b (kmp hd) a
  ·cases hv
 ·cases hv
def dzOk (n:Nat) (es ai:List Nat) (g:Cfg):Bool:=match g.foc with
 | .code (.region _ os true)=>relB os.toList n g.st.n && (krx os.toList n es && g.st.ids.all ai.contains)
 | _=>false
def dzOf (n:Nat) (es ch ai:List Nat) (g:Cfg):Cfg:=match g.foc with
 | .code (.region _ os true)=>⟨.drz ⟨os,n,es,ch,ai⟩ n 0 os.toList [] g.st.heap g.st.ids none,g.ks,g.st⟩
 | _=>⟨.bad,g.ks,g.st⟩
theorem dz [Rd] (k n:Nat) (es ch ai:List Nat) (a:W P (dzOf n es ch ai (crun P k g)) Q) (hc:dzOk n es ai (crun P k g)=true:=by kernel_rfl):W P g Q:=by
 refine ka3 k ?_;generalize crun P k g=g' at *
 obtain ⟨foc,ks,st⟩:=g';unfold dzOk at hc;simp only at hc;split at hc;rename_i id os;simp only [qp] at hc;obtain ⟨l⟩:=os;exact kajq t.mixed hc.1 hc.2.1 hc.2.2 a
 ·cases hc
def kaif (g:Cfg):List Nat:=g.st.ids
theorem dw [Rd] (k n:Nat) (hc:dzOk n [] (kaif (crun P k g)) (crun P k g)=true) (a:W P (dzOf n [] [] (kaif (crun P k g)) (crun P k g)) Q):W P g Q:=dz k n [] [] _ a (hc:=hc)
def okZ (g:Cfg):Bool:=match g.foc with
 | .drz z (_+1) i (o::_) fs hp ids none=>z.es.contains i && (match kbp z.os (ko9 z g.st i o fs hp ids) o with | some true=>true | _=>false)
 | _=>false
def kmn (g:Cfg):St:=match g.foc with
 | .drz z _ i (o::_) fs hp ids _=>ko9 z g.st i o fs hp ids
 | _=>g.st
def offZ (g:Cfg) (h:List (Nat×AObj)):List (Option AObj):=match g.foc with
 | .drz z _ _ _ _ hp _ _=>(kv4 z.ch hp).map (kaa h)
 | _=>[]
def hpZ (g:Cfg):List (Nat×AObj):=match g.foc with
 | .drz _ _ _ _ _ hp _ _=>hp
 | _=>[]
def idsZ (i':List Nat) (g:Cfg):Bool:=match g.foc with
 | .drz z _ _ _ _ _ ids _=>kvh z.ai ids i'
 | _=>false
def rsmZ (c:AV) (a:List (Nat×AObj)) (i':List Nat) (g:Cfg):Cfg:=match g.foc with
 | .drz z (k+1) i (o::l) fs _ _ _=>⟨.drz z k (i+1) l ((i,o.dst,c)::fs) a i' none,g.ks,g.st⟩
 | _=>⟨.bad,g.ks,g.st⟩
theorem zst [Rd] (k:Nat) {c:AV} {a:List (Nat×AObj)} {i':List Nat} (hn:StepA P (klx (crun P k g)) (kmn (crun P k g)) c a i') (hv:okZ (crun P k g)=true) (hi:idsZ i' (crun P k g)=true) (hk:offZ (crun P k g) a=offZ (crun P k g) (hpZ (crun P k g))) (d:W P (rsmZ c a i' (crun P k g)) Q):W P g Q:=by
 refine ka3 k ?_;generalize crun P k g=g' at *
 obtain ⟨foc,ks,st⟩:=g';unfold okZ at hv;simp only at hv;split at hv
 ·rename_i z k i o l fs hp ids;simp only [qp] at hv;obtain ⟨h1,b⟩:=hv;split at b;rename_i e;exact .inr (.inr (.inl ⟨h1,rfl,c,a,i',⟨.inl ⟨e,hn⟩, .inr ⟨kam8 hk,k0a hi⟩⟩,d⟩))
  ·cases b
 ·cases hv
def mpre (g:Cfg):Cfg:=⟨g.foc,[],g.st⟩
def ksOf (g:Cfg):List Frm:=g.ks
end
theorem kahz [Rd] {os:Array Oper} {l:List Oper} (h:awpL P os l st fun e st'=>∃ st2,LeSt st' st2/\Q e st2):awpL P os l st Q:=fun F S0 N0 ψ S a w hs=>
 kdn (fun e a' w' ⟨st',ψ',S',⟨st2,h0,h1⟩,b,c⟩=>by obtain ⟨ψ2,S2,d⟩:=h0 F S0 N0 ψ' S' a' w' b;exact ⟨st2,ψ2,S2,h1,d,c⟩) _ _ _ (h F S0 N0 ψ S a w hs)
theorem kads [Rd] {os:Array Oper} {l:List Oper} {Q':Exit->St->Prop} (h:awpL P os l st Q) (b:∀ e st,Q e st->Q' e st):awpL P os l st Q':=fun F S0 N0 ψ S a w hs=>
 kdn (fun e a' w' ⟨st',ψ',S',h1,c⟩=>⟨st',ψ',S',b _ _ h1,c⟩) _ _ _ (h F S0 N0 ψ S a w hs)
section
variable {P:Program} {T:List (TypeId×TD)} {Q:Exit->St->Prop} {st:St} {ks:List Frm} [t:Tab P] {g:Cfg} {β:Type} {r:β}
def WeakQ (Q:Exit->St->Prop):Exit->St->Prop:=fun e st'=>∃ st2,LeSt st' st2/\Q e st2
end
section
variable {P:Program} {T:List (TypeId×TD)} {Q:Exit->St->Prop} {st:St} {ks:List Frm} [t:Tab P] {g:Cfg} {β:Type} {r:β}
theorem jn [Rd] (k:Nat) (Qa:Exit->St->Prop) (hc:kxi (crun P k g)=true) (ha:W P (mpre (crun P k g)) Qa) (b:∀ e st',Qa e st'->∃ st2,LeSt st' st2/\W P (unw e (ksOf (crun P k g)) st2) Q):W P g Q:=by
 refine ka3 k ?_;generalize crun P k g=g' at *
 obtain ⟨foc,ks,st⟩:=g';have a:∀ e st',Qa e st'->WeakQ (kgu P ks Q) e st':=fun e st' h=>let ⟨st2,h1,d⟩:=b e st' h;⟨st2,h1,k77 d⟩;cases foc with
 | code c=>exact kvt (kv5 (show awp P c st Qa from ha) a)
 | ops os l=>exact kahz (kads (show awpL P os l st Qa from ha) a)
 | _=>cases hc
theorem jn1 [Rd] {α:Type} {E:Option α} {K:α->Option β} (k:Nat) (e:Exit) (J:α->St) (h:Option.bind E K=some r) (ha:∀ v,E=some v->W P (mpre (crun P k g)) fun e' st=>e'=e/\LeSt st (J v)) (a:∀ v,K v=some r->W P (unw e (ksOf (crun P k g)) (J v)) Q) (hc:kxi (crun P k g)=true:=by kernel_rfl):W P g Q:=by
 obtain ⟨v,h1,b⟩:=ql.1 h;refine jn k _ hc (ha v h1) ?_;rintro _ st' ⟨rfl,hl⟩;exact ⟨_,hl,a v b⟩
theorem jnQ [Rd] {α:Type} {E:Option α} {K:α->Option β} (k:Nat) (Qa:α->Exit->St->Prop) (h:Option.bind E K=some r) (ha:∀ v,E=some v->W P (mpre (crun P k g)) (Qa v)) (a:∀ v,K v=some r->∀ e st',Qa v e st'->∃ st2,LeSt st' st2/\W P (unw e (ksOf (crun P k g)) st2) Q) (hc:kxi (crun P k g)=true:=by kernel_rfl):W P g Q:=by obtain ⟨v,h1,b⟩:=ql.1 h;exact jn k _ hc (ha v h1) (a v b)
def kair:FV->C0
 | .lst s _ _ => .sl s
 | .bx _ => .px
 | _ => .keep
def kaa4:AV->C0
 | .fz x=>kair x
 | _ => .keep
def auto1:AV->C1
 | .fz (.agg xs) => .ag (xs.map kair)
 | .agg xs => .ag (xs.map kaa4)
 | x => .one (kaa4 x)
def autoT (st:St):List (Nat×C1):=st.tmps.map fun p=>(p.1,auto1 p.2)
def autoO:AObj->List C0
 | .box _ cs=>cs.map kaa4
 | _=>[]
def autoH (st:St):List (Nat×List C0):=st.heap.map fun p=>(p.1,autoO p.2)
def coA (st J:St):Option St:=coSt st J.ids (autoT J) (autoH J)
theorem le_a {st J:St} (h:coA st J=some J:=by kernel_rfl):LeSt st J:=kaij h
def kju:Foc->Exit->Bool
 | .fin .normal, .normal=>true
 | .fin .ret, .ret=>true
 | .fin (.exit i), .exit j=>Nat.beq i j
 | _,_=>false
theorem knc {foc:Foc} {e:Exit} (h:kju foc e=true):foc = .fin e/\(e = .normal\/e = .ret\/∃ i,e = .exit i):=by
 unfold kju at h;split at h;exact ⟨rfl, .inl rfl⟩;exact ⟨rfl, .inr (.inl rfl)⟩;rename_i i j;rw [qk h];exact ⟨rfl, .inr (.inr ⟨_,rfl⟩)⟩
 ·cases h
def jok (g:Cfg) (e:Exit) (J:St):Option St:=bif kju g.foc e then coA g.st J else none
end
section
variable {P:Program} {T:List (TypeId×TD)} {Q:Exit->St->Prop} {st:St} {ks:List Frm} [t:Tab P] {g:Cfg} {β:Type} {r:β}
def nilK (g:Cfg):Bool:=match g.ks with
 | []=>true
 | _=>false
theorem lj [Rd] (k:Nat) {e:Exit} {J:St} (hc:(bif nilK (crun P k g) then jok (crun P k g) e J else none)=some J:=by kernel_rfl):W P g fun e' st=>e'=e/\LeSt st J:=by
 refine ka3 k ?_;generalize crun P k g=g' at *
 obtain ⟨foc,ks,st⟩:=g';cases ks with
 | cons=>cases hc
 | nil=>
  simp only [nilK,jok,qe] at hc;cases a:kju foc e with
  | false=>rw [a] at hc;cases hc
  | true=>
   rw [a] at hc;obtain ⟨rfl,_⟩:=knc a;exact ⟨rfl,le_a hc⟩
theorem ljx [Rd] (k:Nat) {e:Exit} {J:St} (hl:LeSt (stOf (crun P k g)) J) (hc:(nilK (crun P k g) && kju (crun P k g).foc e)=true:=by kernel_rfl):W P g fun e' st=>e'=e/\LeSt st J:=by
 refine ka3 k ?_;generalize crun P k g=g' at *
 obtain ⟨foc,ks,st⟩:=g';simp only [qp] at hc;cases ks with
 | cons=>cases hc.1
 | nil=>
  obtain ⟨rfl,_⟩:=knc hc.2;exact ⟨rfl,hl⟩
theorem lo [Rd] (k:Nat) {e:Exit} {J:St} (hc:(bif nilK (crun P k g) && !kju (crun P k g).foc .normal then jok (crun P k g) e J else none)=some J):W P g fun e' st=>(e' ≠ .normal/\e' ≠ .outgrown)/\(e'=e/\LeSt st J):=by
 refine ka3 k ?_;generalize crun P k g=g' at *
 obtain ⟨foc,ks,st⟩:=g';cases ks with
 | cons=>cases hc
 | nil=>
  simp only [nilK,jok,Bool.true_and] at hc;cases hn:kju foc .normal with
  | true=>rw [hn] at hc;cases hc
  | false=>
   rw [hn] at hc;cases a:kju foc e with
   | false=>rw [a] at hc;cases hc
   | true=>
    rw [a] at hc;obtain ⟨rfl,b⟩:=knc a;refine ⟨⟨fun h=>?_,fun h=>?_⟩,rfl,le_a hc⟩;subst h;cases hn
    ·rcases b with rfl | rfl | ⟨i,rfl⟩ <;> cases h
theorem lox [Rd] (k:Nat) {e:Exit} {J:St} (hl:LeSt (stOf (crun P k g)) J) (hc:(nilK (crun P k g) && (!kju (crun P k g).foc .normal && kju (crun P k g).foc e))=true:=by kernel_rfl):W P g fun e' st=>(e' ≠ .normal/\e' ≠ .outgrown)/\(e'=e/\LeSt st J):=by
 refine ka3 k ?_;generalize crun P k g=g' at *
 obtain ⟨foc,ks,st⟩:=g';simp only [qp,qbp] at hc;cases ks with
 | cons=>cases hc.1
 | nil=>
  obtain ⟨rfl,a⟩:=knc hc.2.2;refine ⟨⟨fun h=>?_,fun h=>?_⟩,rfl,hl⟩;subst h;cases hc.2.1
  ·rcases a with rfl | rfl | ⟨i,rfl⟩ <;> cases h
def kjx:Foc->Bool
 | .fin .normal=>true
 | .fin .ret=>true
 | _=>false
def kxb:Foc->Bool
 | .fin .ret=>true
 | _=>false
def rokq (T:List (TypeId×TD)) (g:Cfg) (rs:List ResultVar) (cs:List C1):Option FV:=bif nilK g && kjx g.foc then retX T g.st rs cs else none
def rokr (T:List (TypeId×TD)) (g:Cfg) (rs:List ResultVar) (cs:List C1):Option FV:=bif kxb g.foc then retX T g.st rs cs else none
theorem lq [Rd] (k:Nat) {rs:List ResultVar} {cs:List C1} {y:FV} (hc:rokq t.T (crun P k g) rs cs=some y:=by kernel_rfl):W P g (retQ t.T rs cs y):=by
 refine ka3 k ?_;generalize crun P k g=g' at *
 obtain ⟨foc,ks,st⟩:=g';unfold rokq at hc;cases ks with
 | cons=>cases hc
 | nil=>
  simp only [nilK,Bool.true_and] at hc;cases a:kjx foc with
  | false=>rw [a] at hc;cases hc
  | true=>
   rw [a] at hc;unfold kjx at a;split at a;exact hc;exact hc
   ·cases a
theorem lr [Rd] (k:Nat) {rs:List ResultVar} {cs:List C1} {y:FV} (hc:rokr t.T (crun P k g) rs cs=some y:=by kernel_rfl):W P g fun e st=>e = .ret/\retX t.T st rs cs=some y:=by
 refine ka3 k ?_;generalize crun P k g=g' at *
 obtain ⟨foc,ks,st⟩:=g';unfold rokr at hc;cases a:kxb foc with
 | false=>simp only [a] at hc;cases hc
 | true=>
  simp only [a] at hc;unfold kxb at a;split at a;exact kye (Q:=fun e st=>e = .ret/\retX t.T st rs cs=some y) ⟨rfl,hc⟩
  ·cases a
theorem lor [Rd] (k:Nat) {rs:List ResultVar} {cs:List C1} {y:FV} (hc:rokr t.T (crun P k g) rs cs=some y:=by kernel_rfl):W P g fun e st=>(e ≠ .normal/\e ≠ .outgrown)/\(e = .ret/\retX t.T st rs cs=some y):=by
 refine ka3 k ?_;generalize crun P k g=g' at *
 obtain ⟨foc,ks,st⟩:=g';unfold rokr at hc;cases a:kxb foc with
 | false=>simp only [a] at hc;cases hc
 | true=>
  simp only [a] at hc;unfold kxb at a;split at a;exact kye (Q:=fun e st=>(e ≠ .normal/\e ≠ .outgrown)/\(e = .ret/\retX t.T st rs cs=some y)) ⟨⟨(fun h=>nomatch h),(fun h=>nomatch h)⟩,rfl,hc⟩
  ·cases a
theorem lv [Rd] {rs:List ResultVar} {cs:List C1} {y:FV} {st:St} {ks:List Frm} (h:retX t.T st rs cs=some y):W P (unw .ret ks st) (retQ t.T rs cs y):=h
theorem lvr [Rd] {rs:List ResultVar} {cs:List C1} {y:FV} {st:St} {ks:List Frm} (h:retX t.T st rs cs=some y):W P (unw .ret ks st) fun e st=>e = .ret/\retX t.T st rs cs=some y:=⟨rfl,h⟩
theorem lvo [Rd] {rs:List ResultVar} {cs:List C1} {y:FV} {st:St} {ks:List Frm} (h:retX t.T st rs cs=some y):W P (unw .ret ks st) fun e st=>(e ≠ .normal/\e ≠ .outgrown)/\(e = .ret/\retX t.T st rs cs=some y):=⟨⟨fun h=>(nomatch h),fun h=>(nomatch h)⟩,rfl,h⟩
end
theorem ob [Rd] {α:Type} {E:Option α} {K:α->Option β} (h:Option.bind E K=some r) (f:∀ v,E=some v->K v=some r->W P g Q):W P g Q:=by obtain ⟨v,h1,a⟩:=ql.1 h;exact f v h1 a
def HidG (_:Nat) (p:Prop):Prop:=p
theorem ls [Rd] {α:Type} {X v:α} {Qf:α->Exit->St->Prop} (h:some X=some v) (a:W P g (Qf X)):W P g (Qf v):=by obtain rfl:=qw h;exact a
theorem lJ {p q:Prop} (k:Nat) (a:p->HidG k q:=by intro h;cases h;exact ljh _):p->q:=a
theorem lO {p q:Prop} (k:Nat) (a:p->HidG k q:=by intro h;cases h;exact loh _):p->q:=a
theorem lQ {p q:Prop} (k:Nat) (a:p->HidG k q:=by intro h;cases h;exact lqh _):p->q:=a
theorem lR {p q:Prop} (k:Nat) (a:p->HidG k q:=by intro h;cases h;exact lorh _):p->q:=a
section
variable {P:Program} {T:List (TypeId×TD)} {Q:Exit->St->Prop} {st:St} {ks:List Frm} [t:Tab P] {g:Cfg} {β:Type} {r:β}
theorem ljh [Rd] (k:Nat) {e:Exit} {J:St} (hc:(bif nilK (crun P k g) then jok (crun P k g) e J else none)=some J:=by kernel_rfl):HidG k (W P g fun e' st=>e'=e/\LeSt st J):=lj k hc
theorem loh [Rd] (k:Nat) {e:Exit} {J:St} (hc:(bif nilK (crun P k g) && !kju (crun P k g).foc .normal then jok (crun P k g) e J else none)=some J:=by kernel_rfl):HidG k (W P g fun e' st=>(e' ≠ .normal/\e' ≠ .outgrown)/\(e'=e/\LeSt st J)):=lo k hc
theorem lqh [Rd] (k:Nat) {rs:List ResultVar} {cs:List C1} {y:FV} (hc:rokq t.T (crun P k g) rs cs=some y:=by kernel_rfl):HidG k (W P g (retQ t.T rs cs y)):=lq k hc
theorem lorh [Rd] (k:Nat) {rs:List ResultVar} {cs:List C1} {y:FV} (hc:rokr t.T (crun P k g) rs cs=some y:=by kernel_rfl):HidG k (W P g fun e st=>(e ≠ .normal/\e ≠ .outgrown)/\(e = .ret/\retX t.T st rs cs=some y)):=lor k hc
def kps (g:Cfg):Cfg:=match g.foc with
 | .code (.loop c)=>⟨.code c,[],g.st⟩
 | _=>⟨.bad,[],g.st⟩
def knu (g:Cfg):Bool:=match g.foc with
 | .code (.loop _)=>true
 | _=>false
theorem lpx [Rd] {σ α:Type} {step:σ->Option (σ ⊕ α)} {n:Nat} {s0:σ} {K:α->Option β} (k:Nat) (H:σ->St) (Qb:α->Exit->St->Prop) (h:Option.bind (kab step n s0) K=some r) (h0:LeSt (stOf (crun P k g)) (H s0)) (a:∀ s r',step s=some r'->W P (kpg (kps (crun P k g)) (H s)) (Sum.elim (fun s' e st=>e = .normal/\LeSt st (H s')) (fun v e st=>(e ≠ .normal/\e ≠ .outgrown)/\Qb v e st) r')) (ha:∀ v,K v=some r->∀ e st',Qb v e st'->∃ st2,LeSt st' st2/\W P (unw e (ksOf (crun P k g)) st2) Q) (hc:knu (crun P k g)=true:=by kernel_rfl):W P g Q:=by
 refine ka3 k ?_;generalize crun P k g=g' at *
 obtain ⟨foc,ks,st⟩:=g';obtain ⟨v,h1,d⟩:=ql.1 h;unfold knu at hc;simp only at hc;split at hc
 ·rename_i c;refine k6m (kacy (st:=st) (P:=P) c H Qb h1 h0 fun s r' hs=>?_) fun e st' f=>?_
  ·have:=a s r' hs;cases r' with
   | inl s'=>exact this
   | inr b=>exact this
  ·obtain ⟨st2,e1,e2⟩:=ha v d e st' f;exact ⟨st2,e1,k77 e2⟩
 ·cases hc
theorem lpI [Rd] (σ:Type) (k:Nat) (H:σ->St) (I:σ->Prop) (μ:σ->Nat) (Qb:Exit->St->Prop) (s0:σ) (a:I s0) (hc:knu (crun P k g)=true) (h0:LeSt (stOf (crun P k g)) (H s0)) (b:∀ s,I s->W P (kpg (kps (crun P k g)) (H s)) (fun e st=>(e = .normal/\∃ s',(I s'/\μ s'<μ s)/\LeSt st (H s'))\/((e ≠ .normal/\e ≠ .outgrown)/\Qb e st))) (ha:∀ e st',Qb e st'->∃ st2,LeSt st' st2/\W P (unw e (ksOf (crun P k g)) st2) Q):W P g Q:=by
 refine ka3 k ?_;generalize crun P k g=g' at *
 obtain ⟨foc,ks,st⟩:=g';unfold knu at hc;simp only at hc;split at hc;rename_i c;refine k6m (kafj (st:=st) (P:=P) c Qb H I μ a h0 fun s hs=>b s hs) fun e st' d=>?_;obtain ⟨st2,e1,e2⟩:=ha e st' d;exact ⟨st2,e1,k77 e2⟩
 ·cases hc
theorem lpr [Rd] {σ α ρ:Type} {step:σ->Option (σ ⊕ (α ⊕ ρ))} {n:Nat} {s0:σ} {f:α->Option β} {q:ρ->Option β} (k:Nat) (h:Option.bind (kab step n s0) (fun v=>Sum.elim f q v)=some r) (H:σ->St) (e:Exit) (J:α->St) (rs:List ResultVar) (cs:List C1) (y:ρ->FV)
  (c:∀ s r',step s=some r'->W P (kpg (kps (crun P k g)) (H s)) (Sum.elim (fun s' e' st=>e' = .normal/\LeSt st (H s')) (fun v e' st=>(e' ≠ .normal/\e' ≠ .outgrown)/\Sum.elim (fun p=>e'=e/\LeSt st (J p)) (fun p=>e' = .ret/\retX t.T st rs cs=some (y p)) v) r'))
  (h1:∀ p,f p=some r->W P (unw e (ksOf (crun P k g)) (J p)) Q)
  (d:∀ p st,q p=some r->retX t.T st rs cs=some (y p)->W P (unw .ret (ksOf (crun P k g)) st) Q:=by intro _ _ h a;cases h;first | exact lv a | exact lvo a | exact lvr a)
  (hc:knu (crun P k g)=true:=by kernel_rfl) (h0:coA (stOf (crun P k g)) (H s0)=some (H s0):=by kernel_rfl):W P g Q:=by
 refine lpx k H (fun v e' st=>Sum.elim (fun p=>e'=e/\LeSt st (J p)) (fun p=>e' = .ret/\retX t.T st rs cs=some (y p)) v) h (le_a h0) c (fun v hv e' st' b=>?_) (hc:=hc);cases v with
 | inl p=>obtain ⟨rfl,hl⟩:=b;exact ⟨_,hl,h1 p hv⟩
 | inr p=>obtain ⟨rfl,hr⟩:=b;exact ⟨_,LeSt.refl,d p _ hv hr⟩
theorem lpq [Rd] {σ α:Type} {step:σ->Option (σ ⊕ (α ⊕ β))} {n:Nat} {s0:σ} {f:α->Option β} {rs:List ResultVar} {cs:List C1} (k:Nat) (h:Option.bind (kab step n s0) (fun v=>Sum.elim f (fun w=>some w) v)=some r) (H:σ->St) (e:Exit) (J:α->St) (y:β->FV)
  (b:∀ s r',step s=some r'->W P (kpg (kps (crun P k g)) (H s)) (Sum.elim (fun s' e' st=>e' = .normal/\LeSt st (H s')) (fun v e' st=>(e' ≠ .normal/\e' ≠ .outgrown)/\Sum.elim (fun p=>e'=e/\LeSt st (J p)) (fun p=>e' = .ret/\retX t.T st rs cs=some (y p)) v) r'))
  (h1:∀ p,f p=some r->W P (unw e (ksOf (crun P k g)) (J p)) (retQ t.T rs cs (y r)))
  (hc:knu (crun P k g)=true:=by kernel_rfl) (h0:coA (stOf (crun P k g)) (H s0)=some (H s0):=by kernel_rfl):W P g (retQ t.T rs cs (y r)):=
 lpr k h H e J rs cs y b h1 (fun p st hp a=>by cases hp;exact lv a) hc h0
theorem lp1 [Rd] {σ α:Type} {step:σ->Option (σ ⊕ α)} {n:Nat} {s0:σ} {K:α->Option β} (k:Nat) (H:σ->St) (e:Exit) (J:α->St) (h:Option.bind (kab step n s0) K=some r) (a:∀ s r',step s=some r'->W P (kpg (kps (crun P k g)) (H s)) (Sum.elim (fun s' e st=>e = .normal/\LeSt st (H s')) (fun v e' st=>(e' ≠ .normal/\e' ≠ .outgrown)/\(e'=e/\LeSt st (J v))) r')) (ha:∀ v,K v=some r->W P (unw e (ksOf (crun P k g)) (J v)) Q) (hc:knu (crun P k g)=true:=by kernel_rfl) (h0:coA (stOf (crun P k g)) (H s0)=some (H s0):=by kernel_rfl):W P g Q:=by refine lpx k H _ h (le_a h0) a (fun v hv e' st' b=>?_) (hc:=hc);obtain ⟨rfl,hl⟩:=b;exact ⟨_,hl,ha v hv⟩
theorem opc [Rd] (k:Nat) (id:Nat) (e:TypeId) (cells:List AV) (h1:W P (kpg (crun P k g) { stOf (crun P k g) with heap:=(id, .box e (.fz (.atom (.pointer none))::cells))::(stOf (crun P k g)).heap }) Q) (b:W P (kpg (crun P k g) { stOf (crun P k g) with heap:=(id, .box e (.ref id 0 0::cells))::(stOf (crun P k g)).heap }) Q) (a:kaa (stOf (crun P k g)).heap id=some (.box e (.opt id::cells)):=by kernel_rfl) (hc:kalq (crun P k g)=true:=by kernel_rfl):W P g Q:=by
 refine ka3 k ?_;generalize crun P k g=g' at *
 obtain ⟨foc,ks,st⟩:=g';cases foc with
 | code c=>exact k6b a h1 b
 | _=>cases hc
def kjb (fn:Func):Code:=fn.body.getD .skip
theorem kpu {fn:Func} (h:fn.body.isSome=true):fn.body=some (kjb fn):=by
 unfold kjb;cases a:fn.body with
 | none=>rw [a] at h;cases h
 | some c=>rfl
def inlW (P:Program) (os:Array Oper) (l:List Oper) (ks:List Frm) (dst:Option Nat) (n:Nat) (D:List Deferred) (gi:Nat) (cs:List Value) (keep:List (Nat×AV)) (rs:List ResultVar) (Q:Exit->St->Prop):Exit->St->Prop:=inlQ P os l dst n D gi cs keep rs (kgu P ks Q)
def inlF (g:Cfg):Option (FuncId×List AV):=match g.foc with
 | .ops os (o::_)=>match kbp os g.st o,kuy g.st o with
  | some true,true=>match o.op with
   | .call c=>match c.callee with
    | .value x=>match g.st.eval x with
     | .fn f cap=>some (f,c.args.toList.map g.st.eval++cap)
     | _=>none
    | _=>none
   | _=>none
  | _,_=>none
 | _=>none
def opsOf (g:Cfg):Array Oper:=match g.foc with
 | .ops os _=>os
 | _=>#[]
def kalv (g:Cfg):List Oper:=match g.foc with
 | .ops _ (_::l)=>l
 | _=>[]
def dstOf (g:Cfg):Option Nat:=match g.foc with
 | .ops _ (o::_)=>o.dst
 | _=>none
theorem inl (k : Nat) {f : FuncId} {fn : Func} {n gi : Nat} {ys : List AV} (d : P.funcs[f]? = some fn) (e : fn.body.isSome = true) (hn : (fn.name == "runtime.NumGoroutine") = false) (a : fn.ntmps = n) (b : Nat.ble ys.length n = true) (c : (stOf (crun P k g)).ids.contains gi = false)
  (hc:inlF (crun P k g)=some (f,ys))
  (h:∀ cs,W P ⟨.code (kjb fn),[],{ n:=n,tmps:=argT 0 ys,heap:=(gi, .gho cs ((stOf (crun P k g)).tmps.map fun p=>(stOf (crun P k g)).get p.1))::(stOf (crun P k g)).heap,ids:=gi::(stOf (crun P k g)).ids }⟩
   (inlW P (opsOf (crun P k g)) (kalv (crun P k g)) (ksOf (crun P k g)) (dstOf (crun P k g)) (stOf (crun P k g)).n (stOf (crun P k g)).dfr gi cs (stOf (crun P k g)).tmps fn.results.toList Q)):W P g Q:=by
 refine ka3 k ?_;generalize crun P k g=g' at *
 obtain ⟨foc,ks,st⟩:=g';unfold inlF at hc;simp only at hc;split at hc
 ·split at hc
  ·rename_i i hd;split at hc
   ·rename_i c' j;split at hc
    ·rename_i x hx;split at hc;rename_i f' cap hv;simp only [qc,qv] at hc;obtain ⟨rfl,rfl⟩:=hc;obtain ⟨cc,as1,ts⟩:=c';simp only at hx;subst hx;exact kag9 j hv i (kmp hd) d (kpu e) hn a rfl b c h
     ·cases hc
    ·cases hc
   ·cases hc
  ·cases hc
 ·cases hc
theorem li (k:Nat) {os:Array Oper} {l:List Oper} {ks:List Frm} {dst:Option Nat} {n gi:Nat} {D:List Deferred} {cs:List Value} {keep:List (Nat×AV)} {rs:List ResultVar} (vs:List AV) (rv:AV) (hr:(rs=[]/\rv = .any)\/∃ z,rs=[.tmp z]/\(stOf (crun P k g)).get z=rv) (h:W P ⟨.ops os l,ks,({ n:=n,tmps:=zipS keep vs,heap:=ka9 gi (stOf (crun P k g)).heap,ids:=(stOf (crun P k g)).ids,dfr:=D }:St).put dst rv⟩ Q) (hc:(bif nilK (crun P k g) && kjx (crun P k g).foc then kaa (stOf (crun P k g)).heap gi else none)=some (.gho cs vs):=by kernel_rfl) (a:(stOf (crun P k g)).dfr=[]:=by kernel_rfl):W P g (inlW P os l ks dst n D gi cs keep rs Q):=by
 refine ka3 k ?_;generalize crun P k g=g' at *
 obtain ⟨foc,ks',st⟩:=g';cases ks' with
 | cons=>cases hc
 | nil=>
  simp only [nilK,Bool.true_and] at hc;cases b:kjx foc with
  | false=>rw [b] at hc;cases hc
  | true=>
   rw [b] at hc;unfold kjx at b;split at b;exact ⟨.inl rfl,a,vs,rv,hc,hr,h⟩;exact ⟨.inr rfl,a,vs,rv,hc,hr,h⟩
   ·cases b
theorem hcx0 {f : FuncId} {fn : Func} {args : List AV} {pre : List (Nat × AObj)} {ids : List Nat} {E : HEnd} {post : List (Nat × AObj)} {ids' : List Nat} {gi : Nat} (d : P.funcs[f]? = some fn) (e : fn.body.isSome = true) (hn : (fn.name == "runtime.NumGoroutine") = false)
  (a:Nat.ble args.length fn.ntmps=true) (g:ids.contains gi=false) (b:ids'.contains gi=false) (c:(post.all fun p=>okO ids' p.2)=true) (i:E.ok ids'=true) (hk:(post.all fun p=>ids'.contains p.1)=true)
  (h:∀ ψ0 S1 w0,W P ⟨.code (kjb fn),[],{ n:=fn.ntmps,tmps:=argT 0 args,heap:=(gi, .was ψ0 ids S1 w0)::pre,ids:=gi::ids }⟩ (hQ t.T fn.results.toList gi ids E post ids' ψ0 S1 w0)):HCall P f args pre ids E post ids':=
 k7g t.ok d (kpu e) hn a g b c i hk h
theorem hcx {f: FuncId} {fn: Func} {args: List AV} {pre: List (Nat × AObj)} {ids: List Nat} {E: HEnd} {post: List (Nat × AObj)} {ids': List Nat} (gi: Nat) (d: P.funcs[f]? = some fn) (h:∀ ψ0 S1 w0,W P ⟨.code (kjb fn),[],{ n:=fn.ntmps,tmps:=argT 0 args,heap:=(gi, .was ψ0 ids S1 w0)::pre,ids:=gi::ids }⟩ (hQ t.T fn.results.toList gi ids E post ids' ψ0 S1 w0)) (e: fn.body.isSome = true:=by kernel_rfl) (hn: (fn.name == "runtime.NumGoroutine") = false:=by kernel_rfl) (a:Nat.ble args.length fn.ntmps=true:=by kernel_rfl) (g:ids.contains gi=false:=by kernel_rfl) (b:ids'.contains gi=false:=by kernel_rfl) (c:(post.all fun p=>okO ids' p.2)=true:=by kernel_rfl) (i:E.ok ids'=true:=by kernel_rfl) (hk:(post.all fun p=>ids'.contains p.1)=true:=by kernel_rfl):HCall P f args pre ids E post ids':=
 hcx0 d e hn a g b c i hk h
theorem lh [Rd] (k:Nat) {rs:List ResultVar} {gi:Nat} {ids ids':List Nat} {res:AV} {post:List (Nat×AObj)} {ψ0:Env} {S1:Nat->Prop} {w0:World} (st2:St) (hl:LeSt (stOf (crun P k g)) st2) (b:st2.heap=(gi, .was ψ0 ids S1 w0)::post) (hi:st2.ids=gi::ids')
  (hc:(nilK (crun P k g) && kjx (crun P k g).foc)=true:=by kernel_rfl) (hr:retA t.T st2 rs=some res:=by kernel_rfl):W P g (hQ t.T rs gi ids (.ret res) post ids' ψ0 S1 w0):=by
 refine ka3 k ?_;generalize crun P k g=g' at *
 obtain ⟨foc,ks,st⟩:=g';simp only [qp] at hc;cases ks with
 | cons=>cases hc.1
 | nil=>
  have a:kjx foc=true:=hc.2;unfold kjx at a;split at a;exact k1i hl b hi (.inl rfl) hr;exact k1i hl b hi (.inr rfl) hr
  ·cases a
def zipR (st:St):List ResultVar->List AV->List (Nat×AV)
 | .tmp t::rs,x::xs=>(t,x)::zipR st rs xs
 | .cell t _::rs,_::xs=>(t,st.get t)::zipR st rs xs
 | _,_=>[]
def retT (st:St):List ResultVar->AV->List (Nat×AV)
 | [.tmp t],a=>[(t,a)]
 | [.cell t _],_=>[(t,st.get t)]
 | rs, .fz (.tup xs)=>zipR st rs (xs.map .fz)
 | rs, .tup xs=>zipR st rs xs
 | _,_=>[]
def retJ (st:St) (rs:List ResultVar) (res:AV) (gi:Nat) (o:AObj) (post:List (Nat×AObj)) (ids':List Nat):St:={ n:=st.n,tmps:=retT st rs res,heap:=(gi,o)::post,ids:=gi::ids' }
theorem lhy [Rd] (k:Nat) {rs:List ResultVar} {gi:Nat} {ids ids':List Nat} {res:AV} {post:List (Nat×AObj)} {ψ0:Env} {S1:Nat->Prop} {w0:World} (hl:coA (stOf (crun P k g)) (retJ (stOf (crun P k g)) rs res gi (.was ψ0 ids S1 w0) post ids')=some (retJ (stOf (crun P k g)) rs res gi (.was ψ0 ids S1 w0) post ids'):=by kernel_rfl)
  (hc:(nilK (crun P k g) && kjx (crun P k g).foc)=true:=by kernel_rfl) (hr:retA t.T (retJ (stOf (crun P k g)) rs res gi (.was ψ0 ids S1 w0) post ids') rs=some res:=by kernel_rfl):W P g (hQ t.T rs gi ids (.ret res) post ids' ψ0 S1 w0):=
 lh k _ (le_a hl) rfl rfl hc hr
theorem pcl {f : FuncId} {fn : Func} {args : List FV} {y : FV} (cs : List C1) (b : P.funcs[f]? = some fn) (c : fn.body.isSome = true) (hn : (fn.name == "runtime.NumGoroutine") = false) (a : Nat.ble args.length fn.ntmps = true)
  (h:W P ⟨.code (kjb fn),[],{ n:=fn.ntmps,tmps:=kqa 0 args,heap:=[],ids:=[] }⟩ (retQ t.T fn.results.toList cs y)):PCall P f args y:=k81 t.ok cs b (kpu c) hn a h
def pncV (g:Cfg):Option Value:=match g.foc with
 | .ops os (o::_)=>match kbp os g.st o,o.op with
  | some true, .panic x=>match g.st.eval x with
   | .fz (.atom (.iface t v))=>some (.iface t v)
   | _=>none
  | _,_=>none
 | _=>none
theorem pnc [Rd] (k:Nat) (v:Value) (h:W P ⟨.fin (.panic [pnE v]),[],stOf (crun P k g)⟩ Q) (hc:pncV (crun P k g)=some v:=by kernel_rfl):W P g Q:=by
 refine ka3 k ?_;generalize crun P k g=g' at *
 obtain ⟨foc,ks,st⟩:=g';unfold pncV at hc;simp only at hc;split at hc
 ·rename_i os o l;split at hc
  ·rename_i x e d;split at hc;rename_i tt u hx;injection hc with hc;subst hc;intro F S0 N0 ψ S a w hs;unfold kbg;rw [kew hs e];have hv:=hs.eval x;rw [hx] at hv;have hv:=hv.atom;have b:(execOp a.eval o).run P w = .halt (.panic (.iface tt u)) w:=(by simp only [execOp,d,hv,Instr.panic,goPanic];rfl);exact kyt (fun c h=>by rw [d] at h;cases h) b ⟨st,ψ,S,k3s h,hs,Fr.refl⟩
   ·cases hc
  ·cases hc
 ·cases hc
def kaib (g:Cfg):Option (FuncId×List AV):=match g.foc with
 | .ops os (o::_)=>match kbp os g.st o,kuy g.st o,o.op with
  | some true,true, .defer c=>match c.callee,c.args.toList with
   | .value x,[]=>match g.st.eval x with
    | .fn f vs=>some (f,vs)
    | _=>none
   | _,_=>none
  | _,_,_=>none
 | _=>none
def rsmD (gi:Nat) (f:FuncId) (cs:List Value) (vs:List AV) (g:Cfg):Cfg:=match g.foc with
 | .ops os (o::l)=>⟨.ops os l,g.ks,({ g.st with heap:=(gi, .gho cs vs)::g.st.heap,ids:=gi::g.st.ids,dfr:=dfn f cs::g.st.dfr }:St).put o.dst (.fz (.tup []))⟩
 | _=>⟨.bad,g.ks,g.st⟩
theorem dfer (k gi:Nat) (f:FuncId) (vs:List AV) (h:∀ cs,cs.length=vs.length->W P (rsmD gi f cs vs (crun P k g)) Q) (hc:kaib (crun P k g)=some (f,vs):=by kernel_rfl) (e:(stOf (crun P k g)).ids.contains gi=false:=by kernel_rfl):W P g Q:=by
 refine ka3 k ?_;generalize crun P k g=g' at *
 obtain ⟨foc,ks,st⟩:=g';have m:gi∉st.ids:=by simpa [stOf] using e
 clear e;have e:=m;clear m;unfold kaib at hc;simp only at hc;split at hc
 ·rename_i os o l;split at hc
  ·rename_i c B hd C;split at hc
   ·rename_i x h1 r;split at hc
    ·rename_i f' vs' hx;simp only [qc,qv] at hc;obtain ⟨rfl,rfl⟩:=hc;obtain ⟨cc,as_,ts⟩:=c;simp only at h1 r;have r:as_=#[]:=(by apply qbm;simpa using r);subst h1 r;intro F S0 N0 ψ S a w hs;unfold kbg;rw [kew hs B];have hv:=hs.eval x;rw [hx] at hv;obtain ⟨caps,hcx,s,z⟩:∃ caps:Array Value,a.eval x = .func (.func f') #[] caps/\caps.size=vs'.length/\∀ (i:Nat) (v:Value) (y:AV),caps[i]?=some v->vs'[i]?=some y->RV ψ (·∈st.ids) S w v y:=by
      generalize a.eval x=u at hv;cases hv with
      | fn h hr=>exact ⟨_,rfl,h,hr⟩
     have p:(execOp a.eval o).run P w = .ok (.defer (dfn f' caps.toList)) w:=(by simp [execOp,C,resolve,hcx,Deferred.ofValue,dfn]);refine k7a p ?_;have j:=hs.core.add (n:=0) (v := .nilFunc) (w':=w) (ob := .gho caps.toList vs') (kaf _) e (fun b D=>by cases D)
      ⟨kbf _ _,by rw [kai];rfl,by rw [kai];rfl,fun i v x hv hx=>(z i v x (by simpa using hv) hx).keep (ka8 e _ _) (fun _ h=>qh _ h) (fun _ h=>h) (fun _ _ _=>rfl)⟩
     have A:Sim F S0 N0 { st with heap:=(gi, .gho caps.toList vs')::st.heap,ids:=gi::st.ids,dfr:=dfn f' caps.toList::st.dfr } (ψ.set gi 0 .nilFunc) S { a with defers:=dfn f' caps.toList::a.defers } w:=
      ⟨by show _::a.defers=_;rw [hs.defers],hs.size,fun t=>(hs.tmps t).keep (ka8 e _ _) (fun _ h=>qh _ h) (fun _ h=>h) (fun _ _ _=>rfl),j⟩
     have q:=A.put (st':={ st with heap:=(gi, .gho caps.toList vs')::st.heap,ids:=gi::st.ids,dfr:=dfn f' caps.toList::st.dfr }) (d:=o.dst) (v:=undef) (c := .fz (.tup [])) rfl rfl rfl j (.fz RF.undef) Ext.refl (fun _ h=>h) (fun _ h=>h) (fun _ _ _=>rfl) (kmp hd);exact h caps.toList (by simpa using s) F S0 N0 _ S _ w q
    ·cases hc
   ·cases hc
  ·cases hc
 ·cases hc
def kub:Foc->Option Exit
 | .fin e=>some e
 | _=>none
def kabn (fn:Func):Code:=match kni fn with
 | some q=>q.2.2
 | none => .skip
def dfxQ (T:List (TypeId×TD)) (rs:List ResultVar) (gi0:Nat) (ids:List Nat) (E:HEnd) (post:List (Nat×AObj)) (ids':List Nat) (ψ0:Env) (S1:Nat->Prop) (w0:World) (keep:List Nat) (gi2:Nat) (ocs:List Value) (st:St):Exit->St->Prop:=fun e2 st2=>
 (e2 = .normal\/e2 = .ret)/\st2.dfr=[]/\∃ vs',kaa st2.heap gi2=some (.gho ocs vs')/\hQ T rs gi0 ids E post ids' ψ0 S1 w0 .ret (dstB keep gi2 vs' st st2)
theorem dfx (k gi2 t1 t2:Nat) (keep:List Nat) {rs:List ResultVar} {gi0:Nat} (gi:Nat) {ids ids':List Nat} {E:HEnd} {post:List (Nat×AObj)} {ψ0:Env} {S1:Nat->Prop} {w0:World} {f:FuncId} {fn2:Func} {cvals:List Value} {vs:List AV} (pv:Value) (e:Exit) (b: cvals.length = vs.length) (m: P.funcs[f]? = some fn2) (h: ∀ ocs, W P ⟨.code (kabn fn2), [], dst0 keep fn2.ntmps t1 t2 pv vs gi2 ocs (stOf (crun P k g))⟩ (dfxQ t.T rs gi0 ids E post ids' ψ0 S1 w0 keep gi2 ocs (stOf (crun P k g)))) (j: kaa (stOf (crun P k g)).heap gi = some (.gho cvals vs) := by kernel_rfl) (a: (bif nilK (crun P k g) then kub (crun P k g).foc else none) = some e := by kernel_rfl) (l: recV e = some pv := by kernel_rfl) (c: (stOf (crun P k g)).ids.contains gi2 = false := by kernel_rfl) (n: kni fn2 = some (t1, t2, kabn fn2):=by kernel_rfl) (hn: (fn2.name == "runtime.NumGoroutine") = false:=by kernel_rfl) (d: Nat.ble vs.length fn2.ntmps = true:=by kernel_rfl) (i: (stOf (crun P k g)).dfr = [dfn f cvals]:=by kernel_rfl): W P g (hdQ P t.T rs gi0 ids E post ids' ψ0 S1 w0) := by
 refine ka3 k ?_;generalize crun P k g=g' at *
 obtain ⟨foc,ks,st⟩:=g';cases ks with
 | cons=>cases a
 | nil=>
  simp only [nilK,qe] at a;unfold kub at a;split at a;injection a with a;subst a;exact .inr ⟨keep,f,fn2,t1,t2,kabn fn2,gi,cvals,vs,pv,gi2,i,j,b,m,n,hn,d,l,c,fun ocs=>h ocs⟩
  ·cases a
theorem ldx (k:Nat) {rs:List ResultVar} {gi0 gi2:Nat} {ids ids':List Nat} {res:AV} {post:List (Nat×AObj)} {ψ0:Env} {S1:Nat->Prop} {w0:World} {keep:List Nat} {ocs:List Value} (vs':List AV) {st:St} (st3:St) (hl:LeSt (dstB keep gi2 vs' st (stOf (crun P k g))) st3) (hr:retA t.T st3 rs=some res:=by kernel_rfl) (hc:(bif nilK (crun P k g) && kjx (crun P k g).foc then kaa (stOf (crun P k g)).heap gi2 else none)=some (.gho ocs vs'):=by kernel_rfl) (a:(stOf (crun P k g)).dfr=[]:=by kernel_rfl) (c:st3.heap=(gi0, .was ψ0 ids S1 w0)::post:=by rfl) (hi:st3.ids=gi0::ids':=by rfl):W P g (dfxQ t.T rs gi0 ids (.ret res) post ids' ψ0 S1 w0 keep gi2 ocs st):=by
 refine ka3 k ?_;generalize crun P k g=g' at *
 obtain ⟨foc,ks,st'⟩:=g';cases ks with
 | cons=>cases hc
 | nil=>
  simp only [nilK,Bool.true_and] at hc;cases b:kjx foc with
  | false=>rw [b] at hc;cases hc
  | true=>
   rw [b] at hc;unfold kjx at b;split at b;exact ⟨.inl rfl,a,vs',hc,k1i hl c hi (.inr rfl) hr⟩;exact ⟨.inr rfl,a,vs',hc,k1i hl c hi (.inr rfl) hr⟩
   ·cases b
theorem hdx {f: FuncId} {fn: Func} {args: List AV} {pre: List (Nat × AObj)} {ids: List Nat} {E: HEnd} {post: List (Nat × AObj)} {ids': List Nat} (gi: Nat) (d: P.funcs[f]? = some fn) (h: ∀ ψ0 S1 w0, W P ⟨.code (kjb fn), [], { n := fn.ntmps, tmps := argT 0 args, heap := (gi, .was ψ0 ids S1 w0) :: pre, ids := gi :: ids }⟩ (hdQ P t.T fn.results.toList gi ids E post ids' ψ0 S1 w0)) (e: fn.body.isSome = true := by kernel_rfl) (hn: (fn.name == "runtime.NumGoroutine") = false := by kernel_rfl) (a: Nat.ble args.length fn.ntmps = true := by kernel_rfl) (g: ids.contains gi = false := by kernel_rfl) (b: ids'.contains gi = false := by kernel_rfl) (c: (post.all fun p => okO ids' p.2) = true := by kernel_rfl) (i: E.ok ids' = true := by kernel_rfl) (hk: (post.all fun p => ids'.contains p.1) = true := by kernel_rfl): HCall P f args pre ids E post ids' :=
 k6f t.ok d (kpu e) hn a g b c i hk h
theorem lhp (k:Nat) {rs:List ResultVar} {gi:Nat} {ids ids':List Nat} {v:Value} {post:List (Nat×AObj)} {ψ0:Env} {S1:Nat->Prop} {w0:World} (st2:St) (hl:LeSt (stOf (crun P k g)) st2) (a:st2.heap=(gi, .was ψ0 ids S1 w0)::post) (hi:st2.ids=gi::ids') (hd:st2.dfr=[]) (hc:(bif nilK (crun P k g) then kub (crun P k g).foc else none)=some (.panic [pnE v]):=by kernel_rfl):W P g (hQ t.T rs gi ids (.pan v) post ids' ψ0 S1 w0):=by
 refine ka3 k ?_;generalize crun P k g=g' at *
 obtain ⟨foc,ks,st⟩:=g';cases ks with
 | cons=>cases hc
 | nil=>
  simp only [nilK,qe] at hc;unfold kub at hc;split at hc;injection hc with hc;subst hc;exact kaml hl a hi hd
  ·cases hc
theorem hcx2 {α α':Type} {f:FuncId} {fn:Func} {args:List AV} {pre:List (Nat×AObj)} {ids:List Nat} {E:α->HEnd} {post:α->List (Nat×AObj)} {ids':List Nat} {E2:α'->HEnd} {post2:α'->List (Nat×AObj)} {ids2:List Nat} (gi:Nat) {r:α ⊕ α'} (j: P.funcs[f]? = some fn) (h:∀ ψ0 S1 w0,W P ⟨.code (kjb fn),[],{ n:=fn.ntmps,tmps:=argT 0 args,heap:=(gi, .was ψ0 ids S1 w0)::pre,ids:=gi::ids }⟩
   (Sum.elim (fun v=>hQ t.T fn.results.toList gi ids (E v) (post v) ids' ψ0 S1 w0) (fun v=>hQ t.T fn.results.toList gi ids (E2 v) (post2 v) ids2 ψ0 S1 w0) r)) (k: fn.body.isSome = true:=by kernel_rfl) (hn: (fn.name == "runtime.NumGoroutine") = false:=by kernel_rfl) (a: Nat.ble args.length fn.ntmps = true:=by kernel_rfl) (l: ids.contains gi = false:=by kernel_rfl) (b:ids'.contains gi=false:=by kernel_rfl) (c:∀ v,((post v).all fun p=>okO ids' p.2)=true:=by intro _;kernel_rfl) (m:∀ v,(E v).ok ids'=true:=by intro _;kernel_rfl) (hk:∀ v,((post v).all fun p=>ids'.contains p.1)=true:=by intro _;kernel_rfl) (d:ids2.contains gi=false:=by kernel_rfl) (e:∀ v,((post2 v).all fun p=>okO ids2 p.2)=true:=by intro _;kernel_rfl) (g:∀ v,(E2 v).ok ids2=true:=by intro _;kernel_rfl) (i:∀ v,((post2 v).all fun p=>ids2.contains p.1)=true:=by intro _;kernel_rfl):
  Sum.elim (fun v=>HCall P f args pre ids (E v) (post v) ids') (fun v=>HCall P f args pre ids (E2 v) (post2 v) ids2) r:=by
 cases r with
 | inl v=>exact hcx0 j k hn a l b (c v) (m v) (hk v) h
 | inr v=>exact hcx0 j k hn a l d (e v) (g v) (i v) h
theorem lop [Rd] (k:Nat) {l:List PanicEntry} {J:St} (hl:LeSt (stOf (crun P k g)) J) (hc:(bif nilK (crun P k g) then kub (crun P k g).foc else none)=some (.panic l):=by kernel_rfl):W P g fun e' st=>(e' ≠ .normal/\e' ≠ .outgrown)/\(e' = .panic l/\LeSt st J):=by
 refine ka3 k ?_;generalize crun P k g=g' at *
 obtain ⟨foc,ks,st⟩:=g';cases ks with
 | cons=>cases hc
 | nil=>
  simp only [nilK,qe] at hc;unfold kub at hc;split at hc;injection hc with hc;subst hc;exact ⟨⟨(fun h=>nomatch h),(fun h=>nomatch h)⟩,rfl,hl⟩
  ·cases hc
theorem hpan [Rd] (k:Nat) {f:FuncId} {cap:List AV} {x:Operand} {args:Array Operand} {ts:Array TypeId} {cs:List C1} {as1 as2 pre:_} {ids0 ids1:List Nat} {v:Value} {post:List (Nat×AObj)} {keys:List Nat} (r1 r2:List (Nat×Nat)) (hv:okP (crun P k g)=true) (e:(klx (crun P k g)).op = .call { callee := .value x,args:=args,argTypes:=ts })
  (hx:fnOf args.size ((stOf (crun P k g)).eval x)=some (f,cap)) (hc:HCall P f (as1++as2) pre ids0 (.pan v) post ids1) (a:kpi (stOf (crun P k g)) r1 (renI r2 ids0) cs args.toList=some as1) (c:kog r1 (renI r2 ids0) cap=some as2)
  (b:klq (stOf (crun P k g)) r1 r2 keys ids0 ids1 post=true) (d:preX (stOf (crun P k g)) r1 r2 (renI r2 ids0) keys=some pre)
  (h:W P ⟨.fin (.panic [pnE v]),[],{ stOf (crun P k g) with heap:=renH r2 post++kir (renI r2 ids0) (stOf (crun P k g)).heap,ids:=renI r2 ids1++(stOf (crun P k g)).ids }⟩ Q):W P g Q:=by
 refine ka3 k ?_;generalize crun P k g=g' at *
 obtain ⟨foc,ks,st⟩:=g';unfold okP at hv;simp only at hv;split at hv
 ·split at hv;rename_i i hd;exact h_pan r1 r2 e hx hc a c b d i (k3s h)
  ·cases hv
 ·cases hv
def ksx {γ:Type} (f:Oper->St->Option γ) (g:Cfg):Option γ:=bif okP g then f (klx g) (stOf g) else none
theorem kvb {γ:Type} {f:Oper->St->Option γ} {z:γ} {g:Cfg} (h:ksx f g=some z):okP g=true/\f (klx g) (stOf g)=some z:=by
 unfold ksx at h;cases hk:okP g with
 | false=>rw [hk] at h;cases h
 | true=>rw [hk] at h;exact ⟨rfl,h⟩
def tabX (T:List (TypeId×TD)) (o:Oper) (st:St):Option (TypeId×Int×Int×Nat):=match o.op with
 | .makeSlice t X Y=>match kad T t with
  | some d=>match d.kind,st.eval X,st.eval Y with
   | .slice e, .fz (.atom (.int _ n)), .fz (.atom (.int _ m))=>match kad T e with
    | some de=>match de.zero with
     | [.slice none 0 0]=>bif Nat.beq de.size 1 then some (e,n,m,de.bytes) else none
     | _=>none
    | none=>none
   | _,_,_=>none
  | none=>none
 | _=>none
theorem tabm [Rd] {α:Type} (f:α->Value) {bytes:Nat} {n:Int} (eo:TypeId) {K:List (List α)->Option β} (k id:Nat) (ei:TypeId) (h:Option.bind (mkL bytes ([]:List α) n) K=some r) (c:∀ v,K v=some r->∀ ov,W P (rsmA (.fz (.atom ov)) ((id, .tab 0 ov eo ei (v.map (List.map f)))::(stOf (crun P k g)).heap) (id::(stOf (crun P k g)).ids) (crun P k g)) Q) (hc:ksx (tabX t.T) (crun P k g)=some (eo,n,n,bytes):=by kernel_rfl) (i:(stOf (crun P k g)).ids.contains id=false:=by kernel_rfl):W P g Q:=by
 obtain ⟨v,h1,u⟩:=ql.1 h;obtain ⟨rfl,h0,w,j⟩:=kvc h1;have c:=c _ u;refine ka3 k ?_;generalize crun P k g=g' at *
 obtain ⟨hk,a⟩:=kvb hc;obtain ⟨foc,ks,st⟩:=g';cases foc with
 | ops os l=>
  cases l with
  | nil=>cases hk
  | cons o l=>
   have a:tabX t.T o st=some (eo,n,n,bytes):=a;unfold okP at hk;simp only at hk;split at hk
   ·rename_i x hd;unfold tabX at a;split at a
    ·rename_i tt X Y y;split at a
     ·rename_i d m;split at a
      ·rename_i e k1 n' k2 m' p z A;split at a
       ·rename_i de q;split at a
        ·rename_i s;cases b:Nat.beq de.size 1 with
         | false=>rw [b] at a;cases a
         | true=>
          rw [b] at a;simp only [qe,qc,qv] at a;obtain ⟨rfl,rfl,rfl,rfl⟩:=a;refine l_tab (id:=id) ei y t.ok m p q (qk b) s z A h0 w j i x (kmp hd) fun ov=>?_;have:=c ov;rw [List.map_replicate] at this;exact this
        ·cases a
       ·cases a
      ·cases a
     ·cases a
    ·cases a
   ·cases hk
 | _=>cases hk
end
theorem kal1 [Rd] {c:Code} (h:awp P c st Q):W P ⟨.code c,[],st⟩ Q:=h
theorem k05 [Rd] {c:Code} (h:W P ⟨.code c,[],st⟩ Q):awp P c st Q:=h
attribute [irreducible] W
end Go.Proofs.YtjpkdegjcilndaaGreatDoor
set_option linter.all false
set_option linter.unusedSectionVars false
namespace Go.Proofs.YtjpkdegjcilndaaGreatDoor
open Go Go.RowKit
variable [Dr]
structure En (α:Type) where
 f:α->FV
 n:Nat
 cl:α->List FV
 hcl:∀ x,(f x).cells=cl x
 hn:∀ x,(f x).cells.length=n
def nB:En Bool:=⟨eB,1,fun x=>[eB x],fun _=>rfl,fun _=>rfl⟩
def nI:En Int:=⟨eI,1,fun x=>[eI x],fun _=>rfl,fun _=>rfl⟩
def nS:En BA:=⟨eS,1,fun x=>[eS x],fun _=>rfl,fun _=>rfl⟩
def nU8:En Int:=⟨eU8,1,fun x=>[eU8 x],fun _=>rfl,fun _=>rfl⟩
def nL {α:Type} (s:Nat) (E:En α):En (List α):=⟨eL s E.f,1,fun x=>[eL s E.f x],fun _=>rfl,fun _=>rfl⟩
def nVaR:En Va:=⟨eVaR,4,fun x=>(eVa x).cells,kach,kaf6⟩
def nTmR:En Tm:=⟨eTmR,2,fun x=>(eTm x).cells,kaa9,kagq⟩
def nSy:En Sy:=⟨eSy,2,fun x=>(eSy x).cells,fun _=>rfl,fun _=>rfl⟩
def nRu:En Ru:=⟨eRu,9,fun x=>(eRu x).cells,fun _=>rfl,fun _=>rfl⟩
def ku0 {γ:Type} (f:Oper->St->Option γ) (g:Cfg):Option γ:=match krz g with
 | some p=>f p.1 p.2
 | none=>none
section
variable {P:Program} [t:Tab P] {Q:Exit->St->Prop} {g:Cfg} {β:Type} {r:β}
theorem vst [Rd] {γ:Type} {f:Oper->St->Option γ} {z:γ} {c:AV} (k:Nat) (hc:ku0 f (crun P k g)=some z) (hn:∀ o v,f o v=some z->NStep P o v c) (h:W P (rsm c (crun P k g)) Q):W P g Q:=by
 refine ka3 k ?_;unfold ku0 at hc;split at hc;rename_i p hp;exact k7l hp (hn _ _ hc) h
 ·cases hc
def ixOf (T:List (TypeId×TD)) (o:Oper) (st:St):Option (Nat×List FV×Int):=match o.op with
 | .indexAddr t x y=>match kad T t with
  | some d=>match d.kind,kn6 (st.eval x),st.eval y with
   | .slice e,some xs, .fz (.atom (.int _ i))=>match kad T e with
    | some de=>some (de.size,xs,i)
    | none=>none
   | _,_,_=>none
  | none=>none
 | _=>none
theorem ix [Rd] {α:Type} {ys:List α} {i:Int} {K:α->Option β} (E:En α) (k:Nat) (h:Option.bind (idx ys i) K=some r) (c:∀ v,K v=some r->W P (rsm (.fz (.fp (E.cl v))) (crun P k g)) Q) (hc:ku0 (ixOf t.T) (crun P k g)=some (E.n,ys.map E.f,i):=by kernel_rfl):W P g Q:=by
 obtain ⟨v,h1,j⟩:=ql.1 h;refine vst k hc (fun o st a=>?_) (c v j);unfold ixOf at a;split at a
 ·rename_i tt x y l;split at a
  ·rename_i d hd;split at a
   ·rename_i e xs k' i' hk hx hy;split at a;rename_i de b;simp only [qc,qv] at a;obtain ⟨z1,z2,z3⟩:=a;subst z2 z3;exact kajf E.f h1 t.ok l hd hk b hx (fun x=>by rw [E.hn,z1]) hy (E.hcl v)
    ·cases a
   ·cases a
  ·cases a
 ·cases a
def byOf (T:List (TypeId×TD)) (o:Oper) (st:St):Option (BA×Int):=match o.op with
 | .index t x y=>match kad T t with
  | some d=>match d.kind,st.eval x,st.eval y with
   | .str, .fz (.atom (.string s)), .fz (.atom (.int _ i))=>some (s,i)
   | _,_,_=>none
  | none=>none
 | _=>none
theorem byx [Rd] {s:BA} {i:Int} {K:Int->Option β} (k:Nat) (h:Option.bind (byt s i) K=some r) (b:∀ v,K v=some r->W P (rsm (.fz (eU8 v)) (crun P k g)) Q) (hc:ku0 (byOf t.T) (crun P k g)=some (s,i):=by kernel_rfl):W P g Q:=by
 obtain ⟨v,h1,c⟩:=ql.1 h;refine vst k hc (fun o st a=>?_) (b v c);unfold byOf at a;split at a
 ·rename_i tt x y e;split at a
  ·rename_i d hd;split at a;rename_i s' k' i' hk hx hy;simp only [qc,qv] at a;obtain ⟨rfl,rfl⟩:=a;exact kanj h1 t.ok e hd hk hx hy
   ·cases a
  ·cases a
 ·cases a
def tyCs (T:List (TypeId×TD)):Nat->TypeId->List C0
 | 0,_=>[]
 | n+1,t=>match kad T t with
  | some d=>match d.kind with
   | .slice e=>match kad T e with
    | some de=>[.sl de.size]
    | none=>[.keep]
   | .st fs=>fs.flatMap fun p=>tyCs T n p.1
   | .arr m e=>(List.replicate m e).flatMap fun e=>tyCs T n e
   | _=>[.keep]
  | none=>[.keep]
def tyC (T:List (TypeId×TD)) (t:TypeId):C1:=match kad T t with
 | some d=>match d.kind with
  | .slice e=>match kad T e with
   | some de => .one (.sl de.size)
   | none => .one .keep
  | .st _ => .ag (tyCs T 9 t)
  | .arr _ _ => .ag (tyCs T 9 t)
  | _ => .one .keep
 | none => .one .keep
def clOf (T:List (TypeId×TD)) (o:Oper) (st:St):Option (FuncId×List FV):=match o.op with
 | .call c=>match c.callee with
  | .value (.func f)=>match kpk st (c.argTypes.toList.map (tyC T)) c.args.toList with
   | some ys=>some (f,ys)
   | none=>none
  | _=>none
 | _=>none
theorem cl [Rd] {α:Type} {E:Option α} {K:α->Option β} {f:FuncId} {ys:List FV} {y:α->FV} (k:Nat) (h:Option.bind E K=some r) (hp:∀ v,E=some v->PCall P f ys (y v)) (d:∀ v,K v=some r->W P (rsm (.fz (y v)) (crun P k g)) Q) (hc:ku0 (clOf t.T) (crun P k g)=some (f,ys):=by kernel_rfl):W P g Q:=by
 obtain ⟨v,h1,e⟩:=ql.1 h;refine vst k hc (fun o st a=>?_) (d v e);unfold clOf at a;split at a
 ·rename_i c i;split at a
  ·rename_i f' b;split at a;rename_i ys' hy;simp only [qc,qv] at a;obtain ⟨rfl,rfl⟩:=a;obtain ⟨cc,as_,ts⟩:=c;simp only at b;subst b;exact k2u _ i hy (hp v h1)
   ·cases a
  ·cases a
 ·cases a
def hcOf (cs:List C1) (r1 r2:List (Nat×Nat)) (keys ids0 ids1:List Nat) (post:List (Nat×AObj)) (o:Oper) (st:St):Option (FuncId×List AV×List (Nat×AObj)):=match o.op with
 | .call c=>match c.callee with
  | .value x=>match fnOf c.args.size (st.eval x) with
   | some (f,cap)=>match kpi st r1 (renI r2 ids0) cs c.args.toList,kog r1 (renI r2 ids0) cap,preX st r1 r2 (renI r2 ids0) keys with
    | some as1,some as2,some pre=>bif klq st r1 r2 keys ids0 ids1 post then some (f,as1++as2,pre) else none
    | _,_,_=>none
   | _=>none
  | _=>none
 | _=>none
theorem hcl [Rd] {α:Type} {E:Option α} {K:α->Option β} {f:FuncId} {as_:List AV} {pre:List (Nat×AObj)} {ids0 ids1:List Nat} {res:α->AV} {post:α->List (Nat×AObj)} (k:Nat) (cs:List C1) (r1 r2:List (Nat×Nat)) (keys:List Nat) (h:Option.bind E K=some r) (hp:∀ v,E=some v->HCall P f as_ pre ids0 (.ret (res v)) (post v) ids1) (e:∀ v,K v=some r->W P (rsmA (renA r2 (res v)) (renH r2 (post v)++kir (renI r2 ids0) (stOf (crun P k g)).heap) (renI r2 ids1++(stOf (crun P k g)).ids) (crun P k g)) Q) (hc:∀ v,ksx (hcOf cs r1 r2 keys ids0 ids1 (post v)) (crun P k g)=some (f,as_,pre):=by intro _;kernel_rfl):W P g Q:=by
 obtain ⟨v,h1,i⟩:=ql.1 h;obtain ⟨hk,a⟩:=kvb (hc v);refine sst k ?_ hk (e v i);unfold hcOf at a;split at a
 ·rename_i c j;split at a
  ·rename_i x hx;split at a
   ·rename_i f' cap b;split at a
    ·rename_i as1 as2 pre' e1 e2 e3;cases d:klq (stOf (crun P k g)) r1 r2 keys ids0 ids1 (post v) with
     | false=>rw [d] at a;cases a
     | true=>
      rw [d] at a;simp only [qe,qc,qv] at a;obtain ⟨rfl,rfl,rfl⟩:=a;obtain ⟨cc,as_,ts⟩:=c;simp only at hx;subst hx;exact kaek r1 r2 j b (hp v h1) e1 e2 d e3
    ·cases a
   ·cases a
  ·cases a
 ·cases a
theorem kaa1 {cs:List C1} {r1 r2:List (Nat×Nat)} {keys ids0 ids1:List Nat} {post:List (Nat×AObj)} {o:Oper} {st:St} {f:FuncId} {as_:List AV} {pre:List (Nat×AObj)} (a:hcOf cs r1 r2 keys ids0 ids1 post o st=some (f,as_,pre)):
  ∃ x args ts cap as1 as2,o.op = .call { callee := .value x,args:=args,argTypes:=ts }/\fnOf args.size (st.eval x)=some (f,cap)/\kpi st r1 (renI r2 ids0) cs args.toList=some as1/\kog r1 (renI r2 ids0) cap=some as2/\as_=as1++as2/\klq st r1 r2 keys ids0 ids1 post=true/\preX st r1 r2 (renI r2 ids0) keys=some pre:=by
 unfold hcOf at a;split at a
 ·rename_i c e;split at a
  ·rename_i x hx;split at a
   ·rename_i f' cap b;split at a
    ·rename_i as1 as2 pre' e1 e2 e3;cases d:klq st r1 r2 keys ids0 ids1 post with
     | false=>rw [d] at a;cases a
     | true=>
      rw [d] at a;simp only [qe,qc,qv] at a;obtain ⟨rfl,rfl,rfl⟩:=a;obtain ⟨cc,as_,ts⟩:=c;simp only at hx;subst hx;exact ⟨x,as_,ts,cap,as1,as2,e,b,e1,e2,rfl,rfl,e3⟩
    ·cases a
   ·cases a
  ·cases a
 ·cases a
theorem hclS [Rd] {α α':Type} {E:Option (α ⊕ α')} {K1:α->Option β} {K2:α'->Option β} {f:FuncId} {as_:List AV} {pre:List (Nat×AObj)} {ids0 ids1 ids2:List Nat} {res:α->AV} {post:α->List (Nat×AObj)} {pv:α'->Value} {post2:α'->List (Nat×AObj)} (k:Nat) (cs:List C1) (r1 r2:List (Nat×Nat)) (keys:List Nat) (h:Option.bind E (fun v=>Sum.elim K1 K2 v)=some r) (hp:∀ v,E=some v->Sum.elim (fun v=>HCall P f as_ pre ids0 (.ret (res v)) (post v) ids1) (fun v=>HCall P f as_ pre ids0 (.pan (pv v)) (post2 v) ids2) v) (a:∀ v,K2 v=some r->W P ⟨.fin (.panic [pnE (pv v)]),[],{ stOf (crun P k g) with heap:=renH r2 (post2 v)++kir (renI r2 ids0) (stOf (crun P k g)).heap,ids:=renI r2 ids2++(stOf (crun P k g)).ids }⟩ Q) (c:∀ v,K1 v=some r->W P (rsmA (renA r2 (res v)) (renH r2 (post v)++kir (renI r2 ids0) (stOf (crun P k g)).heap) (renI r2 ids1++(stOf (crun P k g)).ids) (crun P k g)) Q) (hc:∀ v,ksx (hcOf cs r1 r2 keys ids0 ids1 (post v)) (crun P k g)=some (f,as_,pre):=by intro _;kernel_rfl) (hc2:∀ v,ksx (hcOf cs r1 r2 keys ids0 ids2 (post2 v)) (crun P k g)=some (f,as_,pre):=by intro _;kernel_rfl):W P g Q:=by
 obtain ⟨v,h1,b⟩:=ql.1 h;have hp:=hp v h1;cases v with
 | inl v=>exact hcl (post:=post) (res:=res) (K:=fun v=>K1 v) (E:=some v) k cs r1 r2 keys b (fun v' hv=>by injection hv with hv;subst hv;exact hp) c (hc:=hc)
 | inr v=>
  obtain ⟨hk,d⟩:=kvb (hc2 v);obtain ⟨x,args,ts,cap,as1,as2,e1,e2,e3,e4,rfl,e5,e6⟩:=kaa1 d;exact hpan k r1 r2 hk e1 e2 hp e3 e4 e5 e6 (a v b)
structure ApR where
 id:Nat
 e:TypeId
 size:Nat
 bytes:Nat
 n:Nat
 xs:List FV
 ys:List FV
def kaby (size:Nat):AV->Option (List FV)
 | .fz (.lst s _ ys)=>bif Nat.beq s size then some ys else none
 | .lim s _ ys=>bif Nat.beq s size then some ys else none
 | _=>none
theorem kafz {size:Nat} {x:AV} {ys:List FV} (h:kaby size x=some ys):∃ m,x = .fz (.lst size m ys)\/x = .lim size m ys:=by
 unfold kaby at h;split at h
 ·rename_i s m zs;cases a:Nat.beq s size with
  | false=>rw [a] at h;cases h
  | true=>
   rw [a] at h;obtain rfl:=qk a;obtain rfl:=qw h;exact ⟨m, .inl rfl⟩
 ·rename_i s m zs;cases a:Nat.beq s size with
  | false=>rw [a] at h;cases h
  | true=>
   rw [a] at h;obtain rfl:=qk a;obtain rfl:=qw h;exact ⟨m, .inr rfl⟩
 ·cases h
def apOf (T:List (TypeId×TD)) (o:Oper) (st:St):Option ApR:=match o.op with
 | .call c=>match c.callee,c.args.toList,c.argTypes.toList with
  | .builtin .append,[X,Y],[t,u]=>bif Nat.beq u t then (match kad T t with
   | some d=>match d.kind,st.eval X with
    | .slice e, .row id n=>match kad T e,kaa st.heap id with
     | some de,some (.frow e' s xs)=>match kaby de.size (st.eval Y) with
      | some ys=>bif Nat.beq e' e && (Nat.beq s de.size && (Nat.ble 1 de.size && Nat.beq de.zero.length de.size)) then some ⟨id,e,de.size,de.bytes,n,xs,ys⟩ else none
      | none=>none
     | _,_=>none
    | _,_=>none
   | none=>none) else none
  | _,_,_=>none
 | _=>none
theorem k9m {α:Type} {E:En α} {xs ys v:List α} {o:Oper} {st:St} {q:ApR} (a:apOf t.T o st=some q) (h:app q.bytes xs ys=some v) (hn:q.n=xs.length) (hx:q.xs=xs.map E.f) (hy:q.ys=ys.map E.f):
  ∃ (X Y:Operand) (ty:TypeId) (d de:TD) (m:Nat),o.op = .call { callee := .builtin .append,args:=#[X,Y],argTypes:=#[ty,ty] }/\kad t.T ty=some d/\d.kind = .slice q.e/\kad t.T q.e=some de/\de.size=q.size/\Nat.ble 1 de.size=true/\de.zero.length=de.size/\de.bytes=q.bytes /\
   st.eval X = .row q.id xs.length/\kaa st.heap q.id=some (.frow q.e de.size (xs.map E.f))/\(st.eval Y = .fz (.lst de.size m (ys.map E.f))\/st.eval Y = .lim de.size m (ys.map E.f)):=by
 unfold apOf at a;split at a
 ·rename_i c k;split at a
  ·rename_i X Y ty u h1 l p;cases g:Nat.beq u ty with
   | false=>rw [g] at a;cases a
   | true=>
    rw [g] at a;obtain rfl:=qk g;simp only [qe] at a;split at a
    ·rename_i d hd;split at a
     ·rename_i e id n hk r;split at a
      ·rename_i de e' s xs' i j;split at a
       ·rename_i ys' w;cases b:(Nat.beq e' e && (Nat.beq s de.size && (Nat.ble 1 de.size && Nat.beq de.zero.length de.size))) with
        | false=>rw [b] at a;cases a
        | true=>
         rw [b] at a;obtain rfl:=qw a;simp only [qp] at b;obtain ⟨b1,b2,b3,b4⟩:=b;obtain rfl:=qk b1;obtain rfl:=qk b2;simp only at hn hx hy;subst hn hx hy;obtain ⟨m,hm⟩:=kafz w;obtain ⟨cc,as_,ts⟩:=c;simp only at h1 l p;rw [h1,ksz l,ksz p] at k;exact ⟨X,Y,_,d,de,m,k,hd,hk,i,rfl,b3,qk b4,rfl,r,j,hm⟩
       ·cases a
      ·cases a
     ·cases a
    ·cases a
  ·cases a
 ·cases a
def apK (q:Option ApR):Option (Nat×Nat×List FV×List FV):=match q with
 | some q=>some (q.bytes,q.n,q.xs,q.ys)
 | none=>none
def apG {α:Type} (T:List (TypeId×TD)) (E:En α) (v:List α) (g:Cfg):Cfg:=match ksx (apOf T) g with
 | some q=>rsmA (.row q.id v.length) ((q.id, .frow q.e q.size (v.map E.f))::(stOf g).heap) (stOf g).ids g
 | none=>⟨.bad,g.ks,g.st⟩
theorem ap [Rd] {α:Type} {bytes:Nat} {xs ys:List α} {K:List α->Option β} (E:En α) (k:Nat) (h:Option.bind (app bytes xs ys) K=some r) (a:∀ v,K v=some r->W P (apG t.T E v (crun P k g)) Q) (hc:apK (ksx (apOf t.T) (crun P k g))=some (bytes,xs.length,xs.map E.f,ys.map E.f):=by kernel_rfl):W P g Q:=by
 obtain ⟨v,h1,c⟩:=ql.1 h;have a:=a v c;unfold apK at hc;split at hc;rename_i q b;simp only [qc,qv] at hc;obtain ⟨rfl,e1,e2,e3⟩:=hc;unfold apG at a;rw [b] at a;obtain ⟨hk,e⟩:=kvb b;refine sst k ?_ hk a;obtain ⟨X,Y,ty,d,de,m,k1,k2,k3,k4,k5,k6,k7,k8,k9,k10,k11⟩:=k9m e h1 e1 e2 e3;rw [<- k5];exact k6w E.f h1 t.ok k1 k2 k3 k4 k6 k7 k8 k9 k10 rfl k11
 ·cases hc
def kuj {γ:Type} (f:Oper->St->Option γ) (g:Cfg):Option γ:=bif okZ g then f (klx g) (kmn g) else none
theorem k4u {γ:Type} {f:Oper->St->Option γ} {z:γ} {g:Cfg} (h:kuj f g=some z):okZ g=true/\f (klx g) (kmn g)=some z:=by
 unfold kuj at h;cases hk:okZ g with
 | false=>rw [hk] at h;cases h
 | true=>rw [hk] at h;exact ⟨rfl,h⟩
def apZh {α:Type} (T:List (TypeId×TD)) (E:En α) (v:List α) (g:Cfg):List (Nat×AObj):=match kuj (apOf T) g with
 | some q=>(q.id, .frow q.e q.size (v.map E.f))::(kmn g).heap
 | none=>[]
def apGZ {α:Type} (T:List (TypeId×TD)) (E:En α) (v:List α) (g:Cfg):Cfg:=match kuj (apOf T) g with
 | some q=>rsmZ (.row q.id v.length) (apZh T E v g) (kmn g).ids g
 | none=>⟨.bad,g.ks,g.st⟩
theorem apZ [Rd] {α:Type} {bytes:Nat} {xs ys:List α} {K:List α->Option β} (E:En α) (k:Nat) (h:Option.bind (app bytes xs ys) K=some r) (a:∀ v,K v=some r->W P (apGZ t.T E v (crun P k g)) Q) (hc:apK (kuj (apOf t.T) (crun P k g))=some (bytes,xs.length,xs.map E.f,ys.map E.f):=by kernel_rfl) (hi:idsZ (kmn (crun P k g)).ids (crun P k g)=true:=by kernel_rfl) (hk:∀ v,offZ (crun P k g) (apZh t.T E v (crun P k g))=offZ (crun P k g) (hpZ (crun P k g)):=by intro _;kernel_rfl):W P g Q:=by
 obtain ⟨v,h1,e⟩:=ql.1 h;have a:=a v e;have hk:=hk v;unfold apK at hc;split at hc;rename_i q b;simp only [qc,qv] at hc;obtain ⟨rfl,e1,e2,e3⟩:=hc;unfold apGZ at a;rw [b] at a;obtain ⟨c,i⟩:=k4u b;refine zst k ?_ c hi hk a;obtain ⟨X,Y,ty,d,de,m,k1,k2,k3,k4,k5,k6,k7,k8,k9,k10,k11⟩:=k9m i h1 e1 e2 e3;unfold apZh;rw [b];simp only;rw [<- k5];exact k6w E.f h1 t.ok k1 k2 k3 k4 k6 k7 k8 k9 k10 rfl k11
 ·cases hc
theorem hclZ [Rd] {α:Type} {E:Option α} {K:α->Option β} {f:FuncId} {as_:List AV} {pre:List (Nat×AObj)} {ids0 ids1:List Nat} {res:α->AV} {post:α->List (Nat×AObj)} (k:Nat) (cs:List C1) (r1 r2:List (Nat×Nat)) (keys:List Nat) (h:Option.bind E K=some r) (hp:∀ v,E=some v->HCall P f as_ pre ids0 (.ret (res v)) (post v) ids1) (b:∀ v,K v=some r->W P (rsmZ (renA r2 (res v)) (renH r2 (post v)++kir (renI r2 ids0) (kmn (crun P k g)).heap) (renI r2 ids1++(kmn (crun P k g)).ids) (crun P k g)) Q) (hc:∀ v,kuj (hcOf cs r1 r2 keys ids0 ids1 (post v)) (crun P k g)=some (f,as_,pre):=by intro _;kernel_rfl) (hi:idsZ (renI r2 ids1++(kmn (crun P k g)).ids) (crun P k g)=true:=by kernel_rfl) (hk:∀ v,offZ (crun P k g) (renH r2 (post v)++kir (renI r2 ids0) (kmn (crun P k g)).heap)=offZ (crun P k g) (hpZ (crun P k g)):=by intro _;kernel_rfl):W P g Q:=by
 obtain ⟨v,h1,c⟩:=ql.1 h;obtain ⟨a,d⟩:=k4u (hc v);obtain ⟨x,args,ts,cap,as1,as2,e1,e2,e3,e4,rfl,e5,e6⟩:=kaa1 d;exact zst k (kaek r1 r2 e1 e2 (hp v h1) e3 e4 e5 e6) a hi (hk v) (b v c)
theorem clL [Rd] {α:Type} {E:Option α} {K:α->Option β} {f:FuncId} {ys:List FV} {y:α->FV} (k:Nat) (ls:List LendI) (h:Option.bind E K=some r) (hp:∀ v,E=some v->PCall P f ys (y v)) (hl:∀ l∈ls,l.ok (k5x (crun P k g))) (a:∀ v,K v=some r->W P (rsm (.fz (y v)) (crun P k g)) Q) (hc:ku0 (fun o st=>clOf t.T o (kaiw ls st)) (crun P k g)=some (f,ys):=by kernel_rfl) (ha:∀ v,kaa7 (y v)=true:=by intro _;kernel_rfl):W P g Q:=by
 obtain ⟨v,h1,d⟩:=ql.1 h;refine ka3 k ?_;have a:=a v d;generalize crun P k g=g' at *
 unfold ku0 at hc;split at hc
 ·rename_i p hv;obtain ⟨o,st⟩:=p;obtain ⟨e1,e2⟩:=k62 hv;rw [e2] at hl;refine k7l hv (kal8 ls hl ?_ (ha v)) a;unfold clOf at hc;simp only at hc;split at hc
  ·rename_i c e;split at hc
   ·rename_i f' b;split at hc;rename_i ys' hy;simp only [qc,qv] at hc;obtain ⟨rfl,rfl⟩:=hc;obtain ⟨cc,as_,ts⟩:=c;simp only at b;subst b;exact k2u _ e hy (hp v h1)
    ·cases hc
   ·cases hc
  ·cases hc
 ·cases hc
end
end Go.Proofs.YtjpkdegjcilndaaGreatDoor
set_option linter.all false
set_option linter.unusedSectionVars false
namespace Go.Proofs.YtjpkdegjcilndaaGreatDoor
open Go Go.RowKit
variable [Dr]
section
variable {P:Program} {F S0:Nat->Prop} {N0:Nat} {w w':World} {S S':Nat->Prop} {ψ:Env} {K:Nat->Prop} {T:List (TypeId×TD)} {o:Oper} {a:Act} {st:St} {t:TypeId} {d:TD} {id:Nat}
theorem kaa3 {v:Value} {e:TypeId} {size n:Nat} {cs:List Value} (h:w.ownsRow 0 e size v n cs) (hn:0<n):∃ g cap,v = .slice (some ⟨g,0,none⟩) n cap:=by
 rcases h.2 with ⟨_,h0⟩ | ⟨g,cap,cur,hv,_⟩;omega
 ·exact ⟨g,cap,hv⟩
theorem k14 {α:Type} (E:En α) (xs:List α) {x:α} {i:Int} (X Y:Operand) (e:TypeId) (de:TD) (k:IntKind) (n:Nat) (h:idx xs i=some x) (r:TOk P T) (hn:n=xs.length) (s:o.op = .indexAddr t X Y:=by kernel_rfl) (hd:kad T t=some d:=by kernel_rfl) (hk:d.kind = .slice e:=by kernel_rfl) (l:kad T e=some de:=by kernel_rfl) (y:de.size=E.n:=by kernel_rfl) (hx:st.eval X = .row id n:=by kernel_rfl) (q:kaa st.heap id=some (.frow e E.n (xs.map E.f)):=by kernel_rfl) (hy:st.eval Y = .fz (.atom (.int k i)):=by kernel_rfl):NStep P o st (.ref id n (i.toNat*E.n+0)):=by
 intro ψ S a w ht z;subst hn;have hd:=r.get hd;have l:=r.get l;obtain ⟨h0,hi⟩:=kvm h;have A:i.toNat<xs.length:=(qg.1 hi).1;have m:=Sim.eval_tmps ht X;rw [hx] at m;have b:=Sim.eval_tmps ht Y;rw [hy] at b;have b:=b.atom;obtain ⟨hl,_,cs,c,_,_⟩:=z id _ q;rw [qaa] at hl c;obtain ⟨g,cap,j⟩:=kaa3 c (by omega);have hK:id∈st.ids/\a.eval X=ψ.val id:=by
  generalize a.eval X=u at m;cases m with
  | row hK B h1 hv=>exact ⟨hK,hv hl.symm⟩
 refine kae w (.pointer (some ⟨g,i.toNat*E.n+0,none⟩)) ?_ ⟨kaf _, .ref hK.1 (by omega) rfl fun _=>⟨g,by rw [j];rfl,rfl⟩⟩;have p:i<(xs.length:Int):=by omega
 simp [execOp,s,hK.2,j,b,Instr.indexAt,asIntOf,run_underlying (hd.slice hk),h0,p,l.size,y,kb6]
end
end Go.Proofs.YtjpkdegjcilndaaGreatDoor
set_option linter.all false
set_option linter.unusedSectionVars false
namespace Go.Proofs.YtjpkdegjcilndaaGreatDoor
open Go Go.RowKit
variable [Dr]
section
variable {P:Program} {F S0:Nat->Prop} {N0:Nat} {w w':World} {S S':Nat->Prop} {ψ:Env} {K:Nat->Prop} {T:List (TypeId×TD)} {o:Oper} {a:Act} {st:St} {t:TypeId} {d:TD} {id:Nat}
end
section
variable {P:Program} [t:Tab P] {g:Cfg} {Q:Exit->St->Prop} {β:Type} {r:β}
end
end Go.Proofs.YtjpkdegjcilndaaGreatDoor
set_option linter.all false
namespace Go.Proofs.YtjpkdegjcilndaaGreatDoor
open Go Go.RowKit
section
variable {P:Program} {F S0:Nat->Prop} {N0:Nat} {w w':World} {S S':Nat->Prop} {ψ:Env} {K:Nat->Prop} {T:List (TypeId×TD)} {o:Oper} {a:Act} {st:St} {t:TypeId} {d:TD} {id:Nat}
end
variable {P:Program} {w:World} {t:TypeId} {st:St} {o:Oper} {a:Act}
section
variable {P:Program} [t:Tab P] {Q:Exit->St->Prop} {g:Cfg}
def k54 (ks ids:List Nat) (st:St):St:=⟨st.n,ks.map fun t=>(t,look .any st.tmps t),ids.filterMap fun i=>(kaa st.heap i).map fun o=>(i,o),ids,st.dfr⟩
theorem wrl (k:Nat) (ks ids:List Nat) (i q m n:Nat) (b:W P (kpg (crun P k g) (k55 i n (k54 ks ids (stOf (crun P k g))))) Q) (a:m=n:=by simp) (hl:coA (stOf (crun P k g)) (k54 ks ids (stOf (crun P k g)))=some (k54 ks ids (stOf (crun P k g))):=by kernel_rfl)
  (hr:k3m i (k54 ks ids (stOf (crun P k g)))=List.replicate q m:=by kernel_rfl) (hc:kxi (crun P k g)=true:=by kernel_rfl):W P g Q:=wle k ((le_a hl).trans (kagc i hr a)) b (hc:=hc)
end
def klt {σ α:Type} (P:Program) (l:Nat) (enc:α->FV) (step:σ->α->Option σ) (J:σ->(Nat->Prop)->List Nat->World->Prop):Prop:=
 ∀ (s:σ) (x:α) (s':σ),step s x=some s'->∀ (F S:Nat->Prop) (bs:List Nat) (w:World) (v:Value),OpqC (J s) S bs w->(∀ b∈bs,b<w.heap.size/\¬ S b/\¬ F b)->(∀ b,S b->b<w.heap.size)->(∀ b,F b->b<w.heap.size)->RF S w v (enc x) ->
  YieldAt Fence.wide 0 P l #[v] w fun e w'=>e = .returned (.bool true)/\∃ (S':Nat->Prop) (bs':List Nat),OpqC (J s') S' bs' w'/\(∀ b∈bs',b<w'.heap.size/\¬ S' b/\¬ F b/\(b∈bs\/w.heap.size<=b)) /\
   (∀ b,S b->S' b)/\(∀ b,S' b->b<w'.heap.size/\(S b\/b∈bs\/w.heap.size<=b))/\Same S w w'/\Fr F w w'
variable {F S0:Nat->Prop} {N0:Nat} {w':World} {S S':Nat->Prop} {ψ:Env}
theorem k4y {heap:List (Nat×AObj)} {ids:List Nat} {id:Nat} {J J':(Nat->Prop)->List Nat->World->Prop} {bs':List Nat} (h:Core F S0 N0 heap ids ψ S w) (v:kaa heap id=some (.xo (.opq J)))
  (o:w.heap.size<=w'.heap.size) (x:OpqC J' S' bs' w') (l:∀ b∈bs',b<w'.heap.size/\¬ S' b/\¬ F b/\(S0 b\/N0<=b)/\∀ i ob,i≠id->kaa heap i=some ob->¬ Blk (ψ.val i) b)
  (hS:∀ b,S b->S' b) (m:∀ b,S' b->b<w'.heap.size/\(S0 b\/N0<=b)/\∀ i ob,i≠id->kaa heap i=some ob->¬ Blk (ψ.val i) b) (hk:Same S w w') (p:∀ i ob b,i≠id->kaa heap i=some ob->Blk (ψ.val i) b->w'.heap[b]?=w.heap[b]?):
  Core F S0 N0 ((id, .xo (.opq J'))::heap) ids (ψ.set id (ψ.len id+1) (.tuple (bs'.map fun b => .pointer (some ⟨b,0,none⟩)).toArray)) S' w'/\Ext (·∈ids) ψ (ψ.set id (ψ.len id+1) (.tuple (bs'.map fun b => .pointer (some ⟨b,0,none⟩)).toArray)):=by
 obtain ⟨r,y,z⟩:=h.obj id _ v;have hx:Ext (·∈ids) ψ (ψ.set id (ψ.len id+1) (.tuple (bs'.map fun b => .pointer (some ⟨b,0,none⟩)).toArray)):=kl2 (.inl (Nat.lt_succ_self _));refine ⟨⟨fun i o' c=>?_,fun i i' o' o'' b k f d g e=>?_,fun b l=>(m b l).1,fun b s=>(m b s).2.1,qav h.n0 o,fun b l=>qa8 (h.fr b l) o⟩,hx⟩
 ·rw [kac] at c;by_cases j:id=i;subst j;rw [qo rfl] at c;injection c with c;subst c;refine ⟨r,⟨bs',kai _ _,fun b a=>(l b a).1,x⟩,fun b a=>?_⟩;rw [kai] at a;obtain ⟨q1,q2,q3,q4,_⟩:=l b (blk_ptrs.1 a);exact ⟨q2,q3,q4⟩
  ·rw [qi j] at c;obtain ⟨h1,A,B⟩:=h.obj i o' c;have q:=ka6 ψ (Ne.symm j) (ψ.len id+1) (.tuple (bs'.map fun b => .pointer (some ⟨b,0,none⟩)).toArray);refine ⟨h1,A.keep hx (fun _ h=>h) hS hk q fun b a=>p i o' b (Ne.symm j) c a,fun b a=>?_⟩;rw [q.2] at a;exact ⟨fun hs=>(m b hs).2.2 i o' (Ne.symm j) c a,(B b a).2⟩
 ·have key:∀ {i' o'' b},id≠i'->kaa heap i'=some o''->Blk (ψ.val i') b->b∉bs':=fun {i' o'' b} d t u hm=>(l b hm).2.2.2.2 i' o'' (Ne.symm d) t u;rw [kac] at k f;by_cases j:id=i;subst j;rw [kai] at g;rw [qi d] at f;rw [(ka6 ψ (Ne.symm d) _ _).2] at e;exact key d f e (blk_ptrs.1 g)
  ·rw [qi j] at k;rw [(ka6 ψ (Ne.symm j) _ _).2] at g;by_cases n:id=i';subst n;rw [kai] at e;exact key j k g (blk_ptrs.1 e)
   ·rw [qi n] at f;rw [(ka6 ψ (Ne.symm n) _ _).2] at e;exact h.inj i i' o' o'' b k f d g e
theorem kafw {heap:List (Nat×AObj)} {ids:List Nat} {id:Nat} {J J':(Nat->Prop)->List Nat->World->Prop} {bs bs':List Nat} (h:Core F S0 N0 heap ids ψ S w) (f:kaa heap id=some (.xo (.opq J)))
  (hv:ψ.val id = .tuple (bs.map fun b => .pointer (some ⟨b,0,none⟩)).toArray) (g:w.heap.size<=w'.heap.size) (n:OpqC J' S' bs' w') (o:∀ b∈bs',b<w'.heap.size/\¬ S' b/\¬ F b/\(b∈bs\/w.heap.size<=b))
  (hS:∀ b,S b->S' b) (j:∀ b,S' b->b<w'.heap.size/\(S b\/b∈bs\/w.heap.size<=b)) (hk:Same S w w') (c:∀ i ob b,i≠id->kaa heap i=some ob->Blk (ψ.val i) b->w'.heap[b]?=w.heap[b]?):
  Core F S0 N0 ((id, .xo (.opq J'))::heap) ids (ψ.set id (ψ.len id+1) (.tuple (bs'.map fun b => .pointer (some ⟨b,0,none⟩)).toArray)) S' w'/\Ext (·∈ids) ψ (ψ.set id (ψ.len id+1) (.tuple (bs'.map fun b => .pointer (some ⟨b,0,none⟩)).toArray)):=by
 obtain ⟨_,_,k⟩:=h.obj id _ f;have a:∀ b,b∈bs\/w.heap.size<=b->(S0 b\/N0<=b)/\∀ i ob,i≠id->kaa heap i=some ob->¬ Blk (ψ.val i) b:=fun b q=>by
  rcases q with q | q;exact ⟨(k b (by rw [hv];exact blk_ptrs.2 q)).2.2,fun i ob d h1 e=>h.inj i id ob _ b h1 f d e (by rw [hv];exact blk_ptrs.2 q)⟩
  ·exact ⟨.inr (qav h.n0 q),fun i ob d h1 e=>by have:=(h.obj i ob h1).2.1.lt e;omega⟩
 refine k4y h f g n (fun b l=>?_) hS (fun b m=>?_) hk c;obtain ⟨q1,q2,q3,q4⟩:=o b l;exact ⟨q1,q2,q3,a b q4⟩
 ·obtain ⟨q1,q⟩:=j b m;rcases q with q | q;exact ⟨q1,h.s0 b q,fun i ob _ h1 e=>((h.obj i ob h1).2.2 b e).1 q⟩
  ·exact ⟨q1,a b q⟩
theorem kajo [Rd] {σ α:Type} {enc:α->FV} {step:σ->α->Option σ} {J:σ->(Nat->Prop)->List Nat->World->Prop} {l:Nat} {s s':σ} {z:α} {ops:Array Oper} {os:List Oper} {Q:Exit->St->Prop} {x y:Operand} {ts:Array TypeId} {id:Nat}
  (H:klt P l enc step J) (hst:step s z=some s') (G:o.op = .call { callee := .value x,args:=#[y],argTypes:=ts }) (hx:st.eval x = .fz (.atom (.func (.yield l) #[] #[]))) (c:C1) (hy:co1 c (st.eval y) = .fz (enc z)) (q:kaa st.heap id=some (.xo (.opq (J s))))
  (I:kbp ops st o=some true) (hd:∀ t,o.dst=some t->t<st.n)
  (hn:awpL P ops os (({ st with heap:=(id, .xo (.opq (J s')))::st.heap }:St).put o.dst (.fz (.atom (.bool true)))) Q):awpL P ops (o::os) st Q:=by
 intro F S0 N0 ψ S a w hs;unfold kbg;rw [kew hs I];have d:=hs.core;obtain ⟨K,⟨bs,hv,D,L⟩,r⟩:=d.obj id _ q;have j:=hs.eval x;rw [hx] at j;have j:=j.atom;have u:=kpx c (hs.eval y);rw [hy] at u;obtain ⟨F',f⟩:∃ F':Nat->Prop,∀ b,F' b↔(F b\/∃ i ob,i≠id/\kaa st.heap i=some ob/\Blk (ψ.val i) b):=⟨_,fun _=>Iff.rfl⟩;obtain ⟨fn,tmps,assign,body,v,m⟩:=H s z s' hst F' S bs w (a.eval y) L (fun b g=>⟨D b g,(r b (by rw [hv];exact blk_ptrs.2 g)).1,fun p=>by
  rcases (f b).1 p with p | ⟨i,ob,h1,A,B⟩;exact (r b (by rw [hv];exact blk_ptrs.2 g)).2.1 p
  ·exact d.inj i id ob _ b A q h1 B (by rw [hv];exact blk_ptrs.2 g)⟩) d.lt (fun b p=>by
  rcases (f b).1 p with p | ⟨i,ob,h1,A,B⟩;exact d.fr b p
  ·exact (d.obj i ob A).2.1.lt B) u.inv
 have E:(execOp a.eval o).run P w = .ok (.round l fn tmps assign body) w:=by simp [execOp,G,resolve,j,Deferred.ofValue,invoke,v]
 refine kyt (fun c h=>by rw [G] at h;cases h) E ⟨fun h=>(by cases h),RoundIn.mono (F:=Fd) (show RoundIn Fd 0 P l fn tmps assign body w _ from m) ?_⟩;rintro e w' ⟨rfl,S',bs',q1,q2,q3,q4,q5,q6⟩;obtain ⟨c1,c2⟩:=kafw d q hv q6.size q1 (fun b g=>⟨(q2 b g).1,(q2 b g).2.1,fun p=>(q2 b g).2.2.1 ((f b).2 (.inl p)),(q2 b g).2.2.2⟩) q3 q4 q5 fun i ob b h1 A B=>q6.block b ((f b).2 (.inr ⟨i,ob,h1,A,B⟩));have C:Fr F w w':=⟨q6.os,q6.tape,q6.output,q6.size,fun b g=>q6.block b ((f b).2 (.inl g)),q6.drawn⟩;exact kdn (fun e a' w'' k=>k.pre C) _ _ _ (hn F S0 N0 _ S' _ w' (hs.put (st':={ st with heap:=(id, .xo (.opq (J s')))::st.heap }) rfl rfl rfl c1 (.fz (.atom rfl)) c2 (fun _ h=>h) q3 q5 hd))
inductive Dk where
 | mk (rule hole:Int) (args:List Dk)
namespace Dk
def rule:Dk->Int | mk r _ _=>r
def hole:Dk->Int | mk _ h _=>h
def args:Dk->List Dk | mk _ _ l=>l
end Dk
mutual
def eDkR:Dk->FV
 | .mk r h l => .agg [eI r,eI h, .lst 3 l.length (k2z l)]
def k2z:List Dk->List FV
 | []=>[]
 | x::l=>eDkR x::k2z l
end
def eDk (x:Dk):FV := .agg [eI x.rule,eI x.hole,eL 3 eDkR x.args]
theorem k6k:∀ l:List Dk,k2z l=l.map eDkR
 | []=>by simp [k2z]
 | x::l=>by simp [k2z,k6k l]
theorem kox (x:Dk):eDkR x=eDk x:=by cases x;simp [eDkR,eDk,k6k,eL,Dk.rule,Dk.hole,Dk.args]
theorem kacf (x:Dk):(eDkR x).cells=(eDk x).cells:=by rw [kox]
theorem kah0 (x:Dk):(eDkR x).cells.length=3:=by rw [kox];rfl
def nDkR:En Dk:=⟨eDkR,3,fun x=>(eDk x).cells,kacf,kah0⟩
section
variable {P:Program} {F S0:Nat->Prop} {N0:Nat} {w w':World} {S S':Nat->Prop} {ψ ψ':Env} {K:Nat->Prop} {T:List (TypeId×TD)} {o:Oper} {a:Act} {st:St} {t tx:TypeId} {d:TD} {id:Nat}
end
def tt2:TD:=⟨1,8, .int .i64,[.int .i64 0]⟩
def tt3:TD:=⟨1,8, .int .i64,[.int .i64 0]⟩
def tt4:TD:=⟨1,1, .bool,[.bool false]⟩
def tt5:TD:=⟨1,1, .int .u8,[.int .u8 0]⟩
def tt9:TD:=⟨1,16, .str,[.string ⟨#[]⟩]⟩
def tt20:TD:=⟨1,16, .ifc,[.nilIface]⟩
def tt21:TD:=⟨1,4, .int .i32,[.int .i32 0]⟩
def tt22:TD:=⟨1,24, .slice 3,[.slice none 0 0]⟩
def tt23:TD:=⟨1,24, .slice 64,[.slice none 0 0]⟩
def tt24:TD:=⟨1,24, .slice 70,[.slice none 0 0]⟩
def tt26:TD:=⟨4,88, .st [(9,0),(22,1),(23,2),(24,3)],[.string ⟨#[]⟩, .slice none 0 0, .slice none 0 0, .slice none 0 0]⟩
def tt27:TD:=⟨1,24, .slice 29,[.slice none 0 0]⟩
def tt29:TD:=⟨2,32, .st [(3,0),(27,1)],[.int .i64 0, .slice none 0 0]⟩
def tt31:TD:=⟨2,32, .st [(22,0),(3,1)],[.slice none 0 0, .int .i64 0]⟩
def tt35:TD:=⟨1,8, .int .i64,[.int .i64 0]⟩
def tt39:TD:=⟨1,24, .slice 41,[.slice none 0 0]⟩
def tt41:TD:=⟨3,40, .st [(3,0),(3,1),(39,2)],[.int .i64 0, .int .i64 0, .slice none 0 0]⟩
def tt42:TD:=⟨1,24, .slice 82,[.slice none 0 0]⟩
def tt44:TD:=⟨4,64, .st [(41,0),(42,3)],[.int .i64 0, .int .i64 0, .slice none 0 0, .slice none 0 0]⟩
def tt60:TD:=⟨1,8, .fn,[.nilFunc]⟩
def tt64:TD:=⟨2,24, .st [(9,0),(3,1)],[.string ⟨#[]⟩, .int .i64 0]⟩
def tt66:TD:=⟨1,24, .slice 68,[.slice none 0 0]⟩
def tt68:TD:=⟨4,56, .st [(3,0),(2,1),(9,2),(66,3)],[.int .i64 0, .int .i64 0, .string ⟨#[]⟩, .slice none 0 0]⟩
def tt70:TD:=⟨9,120, .st [(3,0),(3,1),(3,2),(68,3),(9,7),(22,8)],[.int .i64 0, .int .i64 0, .int .i64 0, .int .i64 0, .int .i64 0, .string ⟨#[]⟩, .slice none 0 0, .string ⟨#[]⟩, .slice none 0 0]⟩
def tt73:TD:=⟨1,24, .slice 2,[.slice none 0 0]⟩
def tt74:TD:=⟨1,24, .slice 73,[.slice none 0 0]⟩
def tt82:TD:=⟨2,32, .st [(3,0),(27,1)],[.int .i64 0, .slice none 0 0]⟩
def tt88:TD:=⟨1,24, .slice 22,[.slice none 0 0]⟩
def tt93:TD:=⟨1,8, .fn,[.nilFunc]⟩
def tt94:TD:=⟨1,8, .ptr 97,[.pointer none]⟩
def tt95:TD:=⟨1,24, .slice 5,[.slice none 0 0]⟩
def tt97:TD:=⟨2,32, .st [(94,0),(95,1)],[.pointer none, .slice none 0 0]⟩
def tt103:TD:=⟨1,8, .fn,[.nilFunc]⟩
def tt106:TD:=⟨1,8, .fn,[.nilFunc]⟩
def kabu:TD:=⟨1,8, .map 9 4,[.map none]⟩
def tt117:TD:=⟨1,8, .fn,[.nilFunc]⟩
def tt121:TD:=⟨1,8, .int .u64,[.int .u64 0]⟩
def tt129:TD:=⟨1,24, .slice 9,[.slice none 0 0]⟩
def tt131:TD:=⟨1,8, .ptr 5,[.pointer none]⟩
def tt133:TD:=⟨1,8, .fn,[.nilFunc]⟩
def tt139:TD:=⟨3,48, .st [(9,0),(22,1),(3,2)],[.string ⟨#[]⟩, .slice none 0 0, .int .i64 0]⟩
def tt146:TD:=⟨1,8, .ptr 189,[.pointer none]⟩
def tt150:TD:=⟨1,8, .fn,[.nilFunc]⟩
def k58:TD:=⟨1,24, .slice 194,[.slice none 0 0]⟩
def tt155:TD:=⟨5,112, .st [(26,0),(153,4)],[.string ⟨#[]⟩, .slice none 0 0, .slice none 0 0, .slice none 0 0, .slice none 0 0]⟩
def tt162:TD:=⟨1,8, .int .i64,[.int .i64 0]⟩
def tt170:TD:=⟨1,4, .int .u32,[.int .u32 0]⟩
def tt172:TD:=⟨1,8, .int .u64,[.int .u64 0]⟩
def tt176:TD:=⟨1,24, .slice 178,[.slice none 0 0]⟩
def tt178:TD:=⟨3,48, .arr 3 9,[.string ⟨#[]⟩, .string ⟨#[]⟩, .string ⟨#[]⟩]⟩
def tt184:TD:=⟨4,64, .st [(139,0),(9,3)],[.string ⟨#[]⟩, .slice none 0 0, .int .i64 0, .string ⟨#[]⟩]⟩
def kact:TD:=⟨1,8, .map 9 2,[.map none]⟩
def tt189:TD:=⟨5,96, .st [(26,0),(187,4)],[.string ⟨#[]⟩, .slice none 0 0, .slice none 0 0, .slice none 0 0, .map none]⟩
def tt194:TD:=⟨1,24, .slice 4,[.slice none 0 0]⟩
def tt200:TD:=⟨1,8, .ptr 202,[.pointer none]⟩
def tt202:TD:=⟨5,112, .st [(26,0),(22,4)],[.string ⟨#[]⟩, .slice none 0 0, .slice none 0 0, .slice none 0 0, .slice none 0 0]⟩
def tt204:TD:=⟨1,8, .int .u64,[.int .u64 0]⟩
def tt208:TD:=⟨1,8, .ptr 3,[.pointer none]⟩
def tt215:TD:=⟨1,24, .slice 184,[.slice none 0 0]⟩
def tt219:TD:=⟨1,8, .fn,[.nilFunc]⟩
def tt223:TD:=⟨24,24, .arr 24 5,List.replicate 24 (.int .u8 0)⟩
def tt229:TD:=⟨1,24, .slice 215,[.slice none 0 0]⟩
def tt231:TD:=⟨20,160, .arr 20 172,List.replicate 20 (.int .u64 0)⟩
def tt237:TD:=⟨32,32, .arr 32 5,List.replicate 32 (.int .u8 0)⟩
def tt238:TD:=⟨64,64, .arr 64 5,List.replicate 64 (.int .u8 0)⟩
def tt253:TD:=⟨2,2, .st [(5,0),(5,1)],[.int .u8 0, .int .u8 0]⟩
def tt254:TD:=⟨32,32, .arr 16 253,List.replicate 32 (.int .u8 0)⟩
def TT:List (TypeId×TD):=[(2,tt2),(3,tt3),(4,tt4),(5,tt5),(9,tt9),(20,tt20),(21,tt21),(22,tt22),(23,tt23),(24,tt24),(26,tt26),(27,tt27),(29,tt29),(31,tt31),(35,tt35),(39,tt39),(41,tt41),(42,tt42),(44,tt44),(60,tt60),(64,tt64),(66,tt66),(68,tt68),(70,tt70),(73,tt73),(74,tt74),(82,tt82),(88,tt88),(93,tt93),(94,tt94),(95,tt95),(97,tt97),(103,tt103),(106,tt106),(112,kabu),(117,tt117),(121,tt121),(129,tt129),(131,tt131),(133,tt133),(139,tt139),(146,tt146),(150,tt150),(153,k58),(155,tt155),(162,tt162),(170,tt170),(172,tt172),(176,tt176),(178,tt178),(184,tt184),(187,kact),(189,tt189),(194,tt194),(200,tt200),(202,tt202),(204,tt204),(208,tt208),(215,tt215),(219,tt219),(223,tt223),(229,tt229),(231,tt231),(237,tt237),(238,tt238),(253,tt253),(254,tt254)]
theorem tt_ok:TOk Tryz.prog TT:=kad4 (by kernel_rfl)
instance tabP:Tab Tryz.prog:=⟨TT,tt_ok,by kernel_rfl⟩
def gv0:Array Value:=#[.int .u64 1, .int .u64 10, .int .u64 100, .int .u64 1000, .int .u64 10000, .int .u64 100000, .int .u64 1000000, .int .u64 10000000, .int .u64 100000000, .int .u64 1000000000, .int .u64 10000000000, .int .u64 100000000000, .int .u64 1000000000000, .int .u64 10000000000000, .int .u64 100000000000000, .int .u64 1000000000000000, .int .u64 10000000000000000, .int .u64 100000000000000000, .int .u64 1000000000000000000, .int .u64 10000000000000000000]
def gv1:Array Value:=#[.int .u8 0, .int .u8 1, .int .u8 28, .int .u8 2, .int .u8 29, .int .u8 14, .int .u8 24, .int .u8 3, .int .u8 30, .int .u8 22, .int .u8 20, .int .u8 15, .int .u8 25, .int .u8 17, .int .u8 4, .int .u8 8, .int .u8 31, .int .u8 27, .int .u8 13, .int .u8 23, .int .u8 21, .int .u8 19, .int .u8 16, .int .u8 7, .int .u8 26, .int .u8 12, .int .u8 18, .int .u8 6, .int .u8 11, .int .u8 5, .int .u8 10, .int .u8 9]
def gv2:Array Value:=#[.int .u8 0, .int .u8 1, .int .u8 56, .int .u8 2, .int .u8 57, .int .u8 49, .int .u8 28, .int .u8 3, .int .u8 61, .int .u8 58, .int .u8 42, .int .u8 50, .int .u8 38, .int .u8 29, .int .u8 17, .int .u8 4, .int .u8 62, .int .u8 47, .int .u8 59, .int .u8 36, .int .u8 45, .int .u8 43, .int .u8 51, .int .u8 22, .int .u8 53, .int .u8 39, .int .u8 33, .int .u8 30, .int .u8 24, .int .u8 18, .int .u8 12, .int .u8 5, .int .u8 63, .int .u8 55, .int .u8 48, .int .u8 27, .int .u8 60, .int .u8 41, .int .u8 37, .int .u8 16, .int .u8 46, .int .u8 35, .int .u8 44, .int .u8 21, .int .u8 52, .int .u8 32, .int .u8 23, .int .u8 11, .int .u8 54, .int .u8 26, .int .u8 40, .int .u8 15, .int .u8 34, .int .u8 20, .int .u8 31, .int .u8 10, .int .u8 25, .int .u8 14, .int .u8 19, .int .u8 9, .int .u8 13, .int .u8 8, .int .u8 7, .int .u8 6]
def gv4:Array Value:=#[.int .u8 240, .int .u8 240, .int .u8 240, .int .u8 240, .int .u8 240, .int .u8 240, .int .u8 240, .int .u8 240, .int .u8 240, .int .u8 240, .int .u8 240, .int .u8 240, .int .u8 240, .int .u8 240, .int .u8 240, .int .u8 240, .int .u8 240, .int .u8 240, .int .u8 240, .int .u8 240, .int .u8 240, .int .u8 240, .int .u8 240, .int .u8 240, .int .u8 240, .int .u8 240, .int .u8 240, .int .u8 240, .int .u8 240, .int .u8 240, .int .u8 240, .int .u8 240, .int .u8 240, .int .u8 240, .int .u8 240, .int .u8 240, .int .u8 240, .int .u8 240, .int .u8 240, .int .u8 240, .int .u8 240, .int .u8 240, .int .u8 240, .int .u8 240, .int .u8 240, .int .u8 240, .int .u8 240, .int .u8 240, .int .u8 240, .int .u8 240, .int .u8 240, .int .u8 240, .int .u8 240, .int .u8 240, .int .u8 240, .int .u8 240, .int .u8 240, .int .u8 240, .int .u8 240, .int .u8 240, .int .u8 240, .int .u8 240, .int .u8 240, .int .u8 240, .int .u8 240, .int .u8 240, .int .u8 240, .int .u8 240, .int .u8 240, .int .u8 240, .int .u8 240, .int .u8 240, .int .u8 240, .int .u8 240, .int .u8 240, .int .u8 240, .int .u8 240, .int .u8 240, .int .u8 240, .int .u8 240, .int .u8 240, .int .u8 240, .int .u8 240, .int .u8 240, .int .u8 240, .int .u8 240, .int .u8 240, .int .u8 240, .int .u8 240, .int .u8 240, .int .u8 240, .int .u8 240, .int .u8 240, .int .u8 240, .int .u8 240, .int .u8 240, .int .u8 240, .int .u8 240, .int .u8 240, .int .u8 240, .int .u8 240, .int .u8 240, .int .u8 240, .int .u8 240, .int .u8 240, .int .u8 240, .int .u8 240, .int .u8 240, .int .u8 240, .int .u8 240, .int .u8 240, .int .u8 240, .int .u8 240, .int .u8 240, .int .u8 240, .int .u8 240, .int .u8 240, .int .u8 240, .int .u8 240, .int .u8 240, .int .u8 240, .int .u8 240, .int .u8 240, .int .u8 240, .int .u8 240, .int .u8 240, .int .u8 240, .int .u8 240, .int .u8 241, .int .u8 241, .int .u8 241, .int .u8 241, .int .u8 241, .int .u8 241, .int .u8 241, .int .u8 241, .int .u8 241, .int .u8 241, .int .u8 241, .int .u8 241, .int .u8 241, .int .u8 241, .int .u8 241, .int .u8 241, .int .u8 241, .int .u8 241, .int .u8 241, .int .u8 241, .int .u8 241, .int .u8 241, .int .u8 241, .int .u8 241, .int .u8 241, .int .u8 241, .int .u8 241, .int .u8 241, .int .u8 241, .int .u8 241, .int .u8 241, .int .u8 241, .int .u8 241, .int .u8 241, .int .u8 241, .int .u8 241, .int .u8 241, .int .u8 241, .int .u8 241, .int .u8 241, .int .u8 241, .int .u8 241, .int .u8 241, .int .u8 241, .int .u8 241, .int .u8 241, .int .u8 241, .int .u8 241, .int .u8 241, .int .u8 241, .int .u8 241, .int .u8 241, .int .u8 241, .int .u8 241, .int .u8 241, .int .u8 241, .int .u8 241, .int .u8 241, .int .u8 241, .int .u8 241, .int .u8 241, .int .u8 241, .int .u8 241, .int .u8 241, .int .u8 241, .int .u8 241, .int .u8 2, .int .u8 2, .int .u8 2, .int .u8 2, .int .u8 2, .int .u8 2, .int .u8 2, .int .u8 2, .int .u8 2, .int .u8 2, .int .u8 2, .int .u8 2, .int .u8 2, .int .u8 2, .int .u8 2, .int .u8 2, .int .u8 2, .int .u8 2, .int .u8 2, .int .u8 2, .int .u8 2, .int .u8 2, .int .u8 2, .int .u8 2, .int .u8 2, .int .u8 2, .int .u8 2, .int .u8 2, .int .u8 2, .int .u8 2, .int .u8 19, .int .u8 3, .int .u8 3, .int .u8 3, .int .u8 3, .int .u8 3, .int .u8 3, .int .u8 3, .int .u8 3, .int .u8 3, .int .u8 3, .int .u8 3, .int .u8 3, .int .u8 35, .int .u8 3, .int .u8 3, .int .u8 52, .int .u8 4, .int .u8 4, .int .u8 4, .int .u8 68, .int .u8 241, .int .u8 241, .int .u8 241, .int .u8 241, .int .u8 241, .int .u8 241, .int .u8 241, .int .u8 241, .int .u8 241, .int .u8 241, .int .u8 241]
def gv5:Array Value:=#[.int .u8 128, .int .u8 191, .int .u8 160, .int .u8 191, .int .u8 128, .int .u8 159, .int .u8 144, .int .u8 191, .int .u8 128, .int .u8 143, .int .u8 0, .int .u8 0, .int .u8 0, .int .u8 0, .int .u8 0, .int .u8 0, .int .u8 0, .int .u8 0, .int .u8 0, .int .u8 0, .int .u8 0, .int .u8 0, .int .u8 0, .int .u8 0, .int .u8 0, .int .u8 0, .int .u8 0, .int .u8 0, .int .u8 0, .int .u8 0, .int .u8 0, .int .u8 0]
end Go.Proofs.YtjpkdegjcilndaaGreatDoor
