import Derived.Test.YtpnnpkmjohkgiaaGreatDoorXg
import Derived.Scope
set_option linter.all false
namespace Go.Proofs.YtpnnpkmjohkgiaaGreatDoor
open Go Go.RowKit
def Hist (st st':St) (ψ ψ':Env) (S S':Nat->Prop) (w w':World):Prop:=Ext (·∈st.ids) ψ ψ'/\(∀ i,i∈st.ids->i∈st'.ids)/\(∀ b,S b->S' b)/\Same S w w'
def PX (F S0:Nat->Prop) (N0:Nat) (ψ:Env) (S:Nat->Prop) (w:World) (st:St) (e0:Exit) (st':St) (e:Exit) (a':Act) (w':World):Prop:=
 e=e0/\∃ ψ' S',Sim F S0 N0 st' ψ' S' a' w'/\Fr F w w'/\Hist st st' ψ ψ' S S' w w'
def XW (P:Program) (c:Code) (st:St) (e:Exit) (st':St):Prop:=
 ∀ F S0 N0 ψ S a w,Sim F S0 N0 st ψ S a w->c.wp P (PX F S0 N0 ψ S w st e st') a w
def XR (P:Program) (c:Code) (st:St) (e:Exit) (st':St):Prop:=
 ∃ n,∀ F S0 N0 ψ S a w,Sim F S0 N0 st ψ S a w->Code.rounds P c (PX F S0 N0 ψ S w st e st') n a w
def XWL (P:Program) (ops:Array Oper) (l:List Oper) (st st':St):Prop:=
 ∀ F S0 N0 ψ S a w,Sim F S0 N0 st ψ S a w->wpList P ops (PX F S0 N0 ψ S w st .normal st') l a w
def okX:Exit->Bool
 | .normal=>true
 | .ret=>true
 | .exit _=>true
 | _=>false
def XC (P:Program) (c:Code) (st:St) (e:Exit) (st':St):Prop:=match c with
 | .loop x=>XR P x st e st'
 | c=>XW P c st e st'
def LG (s s1:XS):Prop:=s.k<=s1.k/\∃ new,s1.lg=new++s.lg/\∀ id,id∉new->∀ ob,kab s.heap id=some ob->kab s1.heap id=some ob
section
variable {P:Program} {F S0:Nat->Prop} {N0:Nat} {w w' w0:World} {S S':Nat->Prop} {ψ ψ':Env} {K:Nat->Prop} {T:List (TypeId×TD)} {Z:List (TypeId×Value)} {o:Oper} {a a':Act} {st st' st1 st2:St} {t tx:TypeId} {d:TD} {id:Nat} {c:AV} {s s1 s2:XS} {e:Exit}
theorem ky7 {l:List (Nat×AV)} {t:Nat}:getQ l t=look .any l t:=by
 induction l with
 | nil=>rfl
 | cons p l ih=>
  obtain ⟨k,v⟩:=p;rw [ka5,<- ih];have hs:getQ ((k,v)::l) t=Bool.rec (motive:=fun _=>AV) (getQ l t) v (Nat.beq k t):=rfl;rw [hs];by_cases h:k=t;subst h;simp
  ·rw [qh h,Nat.beq_eq_false h]
theorem kqc {l:List (Nat×AObj)} {t:Nat}:getO l t=kab l t:=by
 induction l with
 | nil=>rfl
 | cons p l ih=>
  obtain ⟨k,v⟩:=p;rw [kae,<- ih];have hs:getO ((k,v)::l) t=Bool.rec (motive:=fun _=>Option AObj) (getO l t) (some v) (Nat.beq k t):=rfl;rw [hs];by_cases h:k=t;subst h;simp
  ·rw [qh h,Nat.beq_eq_false h]
theorem kgt {l:List (Nat×AV)} {t j:Nat} {v:AV}:look .any (kfi l t v) j=if t=j then v else look .any l j:=by
 induction l with
 | nil=>exact ka5
 | cons p l ih=>
  obtain ⟨k,u⟩:=p;have hs:kfi ((k,u)::l) t v=Bool.rec ((k,u)::kfi l t v) ((t,v)::l) (Nat.beq k t):=rfl;rw [hs,ka5];by_cases h:k=t
  ·subst h;simp only [Nat.beq_refl];rw [ka5];by_cases a:k=j;rw [qq a,qq a]
   ·rw [qh a,qh a,qh a]
  ·rw [Nat.beq_eq_false h];simp only;rw [ka5,ih];by_cases a:k=j;rw [qq a,qq a,qh (fun e=>h (a.trans e.symm))]
   ·rw [qh a,qh a]
theorem kkz {l:List (Nat×AObj)} {t j:Nat} {v:AObj}:kab (kkn l t v) j=if t=j then some v else kab l j:=by
 induction l with
 | nil=>exact kae
 | cons p l ih=>
  obtain ⟨k,u⟩:=p;have hs:kkn ((k,u)::l) t v=Bool.rec ((k,u)::kkn l t v) ((t,v)::l) (Nat.beq k t):=rfl;rw [hs,kae];by_cases h:k=t
  ·subst h;simp only [Nat.beq_refl];rw [kae];by_cases a:k=j;rw [qq a,qq a]
   ·rw [qh a,qh a,qh a]
  ·rw [Nat.beq_eq_false h];simp only;rw [kae,ih];by_cases a:k=j;rw [qq a,qq a,qh (fun e=>h (a.trans e.symm))]
   ·rw [qh a,qh a]
theorem E_eq {D:List Deferred}:s.E=(s.st D).eval:=by
 funext x;cases x with
 | tmp t=>exact ky7
 | _=>rfl
theorem H_eq {D:List Deferred}:s.H=kab (s.st D).heap:=by funext i;exact kqc
theorem mem_idsN {i k:Nat}:i∈idsN k↔i<k:=by
 induction k with
 | zero=>simp [idsN]
 | succ k ih=>
  simp only [idsN,qaw,ih];omega
theorem kr7 {k:Nat}:(idsN k).contains k=false:=by
 cases h:(idsN k).contains k with
 | false=>rfl
 | true=>
  have:k∈idsN k:=by simpa using h
  have:=mem_idsN.1 this;omega
theorem Core.congr {h1 c:List (Nat×AObj)} {ids:List Nat} (h:Core F S0 N0 h1 ids ψ S w) (e:∀ id,kab c id=kab h1 id):Core F S0 N0 c ids ψ S w:=
 ⟨fun id o ho=>h.obj id o ((e id) ▸ ho),fun i i' o o' b ho a=>h.inj i i' o o' b ((e i) ▸ ho) ((e i') ▸ a),h.lt,h.s0,h.n0,h.fr⟩
theorem Sim.congr (h:Sim F S0 N0 st ψ S a w) (hn:st'.n=st.n) (b:∀ t,st'.get t=st.get t) (c:∀ id,kab st'.heap id=kab st.heap id) (hi:st'.ids=st.ids) (d:st'.dfr=st.dfr):Sim F S0 N0 st' ψ S a w:=
 ⟨h.defers.trans d.symm,by rw [hn];exact h.size,fun t=>by rw [b,hi];exact h.tmps t,by rw [hi];exact h.core.congr c⟩
theorem Hist.refl:Hist st st ψ ψ S S w w:=⟨Ext.refl,fun _ h=>h,fun _ h=>h,fun _ _ _=>rfl⟩
theorem Hist.trans {ψ2:Env} {S2:Nat->Prop} {w2:World} (h:Hist st st1 ψ ψ' S S' w w') (k:Hist st1 st2 ψ' ψ2 S' S2 w' w2):Hist st st2 ψ ψ2 S S2 w w2:=
 ⟨h.1.trans' k.1 h.2.1,fun i hi=>k.2.1 i (h.2.1 i hi),fun b a=>k.2.2.1 b (h.2.2.1 b a),h.2.2.2.trans' k.2.2.2 h.2.2.1⟩
theorem PX.pre {w2:World} {e':Exit} (hf:Fr F w w') (a:Hist st st1 ψ ψ' S S' w w') (k:PX F S0 N0 ψ' S' w' st1 e st2 e' a' w2):PX F S0 N0 ψ S w st e st2 e' a' w2:=by obtain ⟨rfl,ψ2,S2,h1,b,c⟩:=k;exact ⟨rfl,ψ2,S2,h1,hf.trans b,a.trans c⟩
theorem kyq:XW P .skip st .normal st:=fun F S0 N0 ψ S a w hs=>wp_skip ⟨rfl,ψ,S,hs,Fr.refl,Hist.refl⟩
theorem kzo {i:Nat}:XW P (.exit i) st (.exit i) st:=fun F S0 N0 ψ S a w hs=>wp_exit ⟨rfl,ψ,S,hs,Fr.refl,Hist.refl⟩
theorem k04:XW P .ret st .ret st:=fun F S0 N0 ψ S a w hs=>wp_ret ⟨rfl,ψ,S,hs,Fr.refl,Hist.refl⟩
theorem k1l {x y:Code} (h:XW P x st .normal st1) (k:XW P y st1 e st2):XW P (.seq x y) st e st2:=fun F S0 N0 ψ S a w hs=>
 wp_seq (wp_mono (h F S0 N0 ψ S a w hs) fun e' a' w' ⟨b,ψ',S',h1,c,d⟩=>by subst b;exact wp_mono (k F S0 N0 ψ' S' a' w' h1) fun e2 a2 w2 q=>q.pre c d)
theorem kyl {x y:Code} (h:XW P x st e st1) (hn:e ≠ .normal):XW P (.seq x y) st e st1:=fun F S0 N0 ψ S a w hs=>
 wp_seq (wp_mono (h F S0 N0 ψ S a w hs) fun e' a' w' q=>by have:=q.1;subst this;cases e' <;> first | exact absurd rfl hn | exact q)
theorem k0o {cc:Operand} {x y:Code} {b:Bool} (hc:st.eval cc = .fz (.atom (.bool b))) (h:XW P (bif b then x else y) st e st1):XW P (.cond cc x y) st e st1:=fun F S0 N0 ψ S a w hs=>by have c:=hs.eval cc;rw [hc] at c;refine wp_cond (t:=b) c.atom ?_;cases b <;> exact h F S0 N0 ψ S a w hs
theorem kv5 {i:Nat} {x:Code} (h:XW P x st (.exit i) st1):XW P (.block i x) st .normal st1:=fun F S0 N0 ψ S a w hs=>
 wp_block (wp_mono (h F S0 N0 ψ S a w hs) fun e' a' w' q=>by have:=q.1;subst this;simp only [Exit.inBlock,if_true];exact ⟨rfl,q.2⟩)
theorem kns {i:Nat} {x:Code} (h:XW P x st e st1) (hn:e ≠ .exit i):XW P (.block i x) st e st1:=fun F S0 N0 ψ S a w hs=>
 wp_block (wp_mono (h F S0 N0 ψ S a w hs) fun e' a' w' q=>by
  have:=q.1;subst this;cases e' <;> simp only [Exit.inBlock] <;> try exact q
  rename_i j;rw [qh (fun h=>hn (by rw [h]))];exact q)
theorem xr_go {x:Code} (h:XW P x st .normal st1) (k:XR P x st1 e st2):XR P x st e st2:=by
 obtain ⟨n,k⟩:=k;refine ⟨n+1,fun F S0 N0 ψ S a w hs=>?_⟩;rw [rounds_succ];refine wp_mono (h F S0 N0 ψ S a w hs) fun e' a' w' ⟨b,ψ',S',h1,c,d⟩=>?_;subst b;have mono:∀ (n:Nat) (a:Act) (w2:World),Code.rounds P x (PX F S0 N0 ψ' S' w' st1 e st2) n a w2->Code.rounds P x (PX F S0 N0 ψ S w st e st2) n a w2:=by
  intro n
  induction n with
  | zero=>intro a w2 h;exact h.elim
  | succ n ih=>
   intro a w2 h;rw [rounds_succ] at h ⊢;refine wp_mono h fun e3 a3 w3 q=>?_;cases e3 with
   | normal=>exact ih _ _ q
   | _=>exact PX.pre c d q
 exact mono n a' w' (k F S0 N0 ψ' S' a' w' h1)
theorem k18 {x:Code} (h:XW P x st e st1) (hn:e ≠ .normal):XR P x st e st1:=by refine ⟨1,fun F S0 N0 ψ S a w hs=>?_⟩;rw [rounds_succ];refine wp_mono (h F S0 N0 ψ S a w hs) fun e' a' w' q=>?_;have:=q.1;subst this;cases e' <;> first | exact absurd rfl hn | exact q
theorem kz4 {x:Code} (h:XR P x st e st1):XW P (.loop x) st e st1:=by obtain ⟨n,h⟩:=h;exact fun F S0 N0 ψ S a w hs=>wp_loop_rounds n (h F S0 N0 ψ S a w hs)
theorem kw8 {x:Code} (h:XW P x st e st1) (b:okX e=true):XW P (.scope x) st e st1:=fun F S0 N0 ψ S a w hs=>
 wp_scope_straight (wp_mono (h F S0 N0 ψ S a w hs) fun e' a' w' q=>by have:=q.1;subst this;cases e' <;> first | exact q | cases b)
theorem XC.xw {x:Code} (h:XC P x st e st1):XW P x st e st1:=by
 unfold XC at h;split at h;exact kz4 h
 ·exact h
theorem kuk {i:Nat} {ops:Array Oper} (h:XWL P ops ops.toList st st1):XW P (.region i ops false) st .normal st1:=fun F S0 N0 ψ S a w hs=>wp_region_list (h F S0 N0 ψ S a w hs)
theorem k07 {ops:Array Oper}:XWL P ops [] st st:=fun F S0 N0 ψ S a w hs=>⟨rfl,ψ,S,hs,Fr.refl,Hist.refl⟩
theorem kzd {ops:Array Oper} {l:List Oper} {b:List (Nat×AObj)} {ids':List Nat} (h:StepA P o st c b ids') (s:ka8 ops st o=some true) (u:∀ t,o.dst=some t->t<st.n)
  (hn:st2.n=st.n) (d:∀ t,st2.get t=(({ st with heap:=b,ids:=ids' }:St).put o.dst c).get t) (x:st2.heap=b) (hi:st2.ids=ids') (f:st2.dfr=st.dfr) (k:XWL P ops l st2 st1):XWL P ops (o::l) st st1:=fun F S0 N0 ψ S a w hs=>by
 unfold wpList;rw [kcw hs s];refine .inl (kco ?_ (h F S0 N0 ψ S a w hs));rintro v w' ⟨ψ',S',h1,y,z,j,m,p,r⟩;have hp:=hs.put (st':={ st with heap:=b,ids:=ids' }) rfl rfl rfl h1 y j m p r u;have e1:(({ st with heap:=b,ids:=ids' }:St).put o.dst c).n=st.n/\(({ st with heap:=b,ids:=ids' }:St).put o.dst c).heap=b/\(({ st with heap:=b,ids:=ids' }:St).put o.dst c).ids=ids'/\(({ st with heap:=b,ids:=ids' }:St).put o.dst c).dfr=st.dfr:=by cases o.dst <;> exact ⟨rfl,rfl,rfl,rfl⟩
 have g:Sim F S0 N0 st2 ψ' S' (a.put o.dst v) w':=hp.congr (hn.trans e1.1.symm) d (fun i=>by rw [x,e1.2.1]) (by rw [hi,e1.2.2.1]) (by rw [f,e1.2.2.2]);exact kbu (fun e a' w'' q=>q.pre z ⟨j,by rw [hi];exact m,p,r⟩) _ _ _ (k F S0 N0 ψ' S' _ w' g)
theorem k0a {ops:Array Oper} {l:List Oper} (f:ka8 ops st o=some false) (g:∀ t,o.dst=some t->t<st.n) (hn:st2.n=st.n) (b:∀ t,st2.get t=(st.put o.dst (.fz (.tup []))).get t) (j:st2.heap=st.heap) (hi:st2.ids=st.ids) (c:st2.dfr=st.dfr) (k:XWL P ops l st2 st1):XWL P ops (o::l) st st1:=fun F S0 N0 ψ S a w hs=>by
 unfold wpList;rw [kcw hs f];have hp:=hs.put (st':=st) rfl rfl rfl hs.core (.fz RF.undef) Ext.refl (fun _ h=>h) (fun _ h=>h) (fun _ _ _=>rfl) g;have e1:(st.put o.dst (.fz (.tup []))).n=st.n/\(st.put o.dst (.fz (.tup []))).heap=st.heap/\(st.put o.dst (.fz (.tup []))).ids=st.ids/\(st.put o.dst (.fz (.tup []))).dfr=st.dfr:=by cases o.dst <;> exact ⟨rfl,rfl,rfl,rfl⟩
 have d:Sim F S0 N0 st2 ψ S (a.put o.dst undef) w:=hp.congr (hn.trans e1.1.symm) b (fun i=>by rw [j,e1.2.1]) (by rw [hi,e1.2.2.1]) (by rw [c,e1.2.2.2]);exact kbu (fun e a' w'' q=>q.pre Fr.refl ⟨Ext.refl,fun i h=>by rw [hi];exact h,fun _ h=>h,fun _ _ _=>rfl⟩) _ _ _ (k F S0 N0 ψ S _ w d)
theorem LG.refl:LG s s:=⟨qt _,[],rfl,fun _ _ _ h=>h⟩
theorem LG.trans (h:LG s s1) (k:LG s1 s2):LG s s2:=by obtain ⟨m1,n1,e1,h1⟩:=h;obtain ⟨m2,n2,e2,b⟩:=k;refine ⟨qat m1 m2,n2++n1,by rw [e2,e1,List.append_assoc],fun id a ob ho=>?_⟩;simp only [qad,not_or] at a;exact b id a.1 ob (h1 id a.2 ob ho)
theorem kmx {D:List Deferred} {s:XS} {dd:Option Nat} {v:AV} {h:List (Nat×AObj)} {ids:List Nat} (t:Nat) (hs:s1.tmps=s.tmps):((s1.put dd v).st D).get t=(({ s.st D with heap:=h,ids:=ids }:St).put dd v).get t:=by
 cases dd with
 | none=>show look .any s1.tmps t=look .any s.tmps t;rw [hs]
 | some d=>
  show look .any (kfi s1.tmps d v) t=look .any ((d,v)::s.tmps) t;rw [kgt,ka5,hs]
theorem kir {s:XS} {dd:Option Nat} {v:AV}:(s.put dd v).n=s.n/\(s.put dd v).heap=s.heap/\(s.put dd v).k=s.k/\(s.put dd v).lg=s.lg:=by cases dd <;> exact ⟨rfl,rfl,rfl,rfl⟩
theorem LG.put {dd:Option Nat} {v:AV} (h:LG (s1.put dd v) s2):LG s1 s2:=by obtain ⟨_,e1,e3,e2⟩:=kir (s:=s1) (dd:=dd) (v:=v);obtain ⟨h0,new,h1,a⟩:=h;rw [e2] at h1;rw [e1] at a;rw [e3] at h0;exact ⟨h0,new,h1,a⟩
def kty (P:Program) (o:Oper) (s:XS) (c:AV) (s1:XS):Prop:=(∀ D,StepA P o (s.st D) c s1.heap (idsN s1.k))/\s1.n=s.n/\s1.tmps=s.tmps/\LG s s1
theorem k2a {dl:Dl} (h:∀ D,StepA P o (s.st D) c (ke4 (s.st D) s.k dl) (dIds (s.st D) s.k dl)):kty P o s c (s.app dl):=by
 cases dl with
 | no=>exact ⟨h,rfl,rfl,LG.refl⟩
 | new ob=>
  refine ⟨h,rfl,rfl,Nat.le_succ _,[s.k],rfl,fun id b ob' ho=>?_⟩;show kab ((s.k,ob)::s.heap) id=_;rw [kae,qh (fun e=>b (by rw [e];exact qao.2 rfl))];exact ho
 | upd i ob=>
  refine ⟨fun D F S0 N0 ψ S a w hs=>kgr (fun v w' ⟨ψ',S',h1,d⟩=>⟨ψ',S',h1.congr fun id=>?_,d⟩) (h D F S0 N0 ψ S a w hs),rfl,rfl,qt _,[i],rfl,fun id b ob' ho=>?_⟩;show kab (kkn s.heap i ob) id=_;rw [kkz,qh (fun e=>b (by rw [e];exact qao.2 rfl))];exact ho
  ·show kab (kkn s.heap i ob) id=kab ((i,ob)::s.heap) id;rw [kkz,kae]
end
end Go.Proofs.YtpnnpkmjohkgiaaGreatDoor
