import Derived.Test.YtjpkdegjcilndaaGreatDoorTT
import Derived.Test.YtjpkdegjcilndaaGreatDoorEE
set_option linter.all false
namespace Go.Proofs.YtjpkdegjcilndaaGreatDoor
open Go Go.RowKit
inductive RZ:List Value->List FV->Prop where
 | nil:RZ [] []
 | at {v:Value} {l:List Value} {m:List FV} (h:v.oneCell'=true) (k:RZ l m):RZ (v::l) (.atom v::m)
 | sl {n:Nat} {l:List Value} {m:List FV} (h:0<n) (k:RZ l m):RZ (.slice none 0 0::l) (.lst n 0 []::m)
theorem RZ.len {l:List Value} {m:List FV} (h:RZ l m):m.length=l.length:=by
 induction h with
 | nil=>rfl
 | «at» _ _ ih=>simp [ih]
 | sl _ _ ih=>simp [ih]
theorem RZ.single {l:List Value} {m:List FV} (h:RZ l m):∀ y∈m,y.single=true:=by
 induction h with
 | nil=>simp
 | «at» h _ ih=>intro y hy;rcases qac.1 hy with rfl | hy;exact h;exact ih y hy
 | sl _ _ ih=>intro y hy;rcases qac.1 hy with rfl | hy;rfl;exact ih y hy
theorem RZ.rf {l:List Value} {m:List FV} (h:RZ l m) {S:Nat->Prop} {w:World}:∀ (j:Nat) (v:Value) (y:FV),l[j]?=some v->m[j]?=some y->RF S w v y:=by
 induction h with
 | nil=>intro j v y h;simp at h
 | «at» h _ ih=>
  intro j v y hv hy;cases j with
  | zero=>simp at hv hy;subst hv hy;exact .atom h
  | succ j=>simp at hv hy;exact ih j v y hv hy
 | sl h _ ih=>
  intro j v y hv hy;cases j with
  | zero=>simp at hv hy;subst hv hy;exact .lst (fun _=>[]) rfl (qx _) (by decide) h (fun i x hx=>by simp at hx) (fun i x hx=>by simp at hx) (fun i x j v y hx=>by simp at hx)
  | succ j=>simp at hv hy;exact ih j v y hv hy
variable {P:Program} {F S0:Nat->Prop} {N0:Nat} {w w':World} {S S':Nat->Prop} {ψ:Env} {K:Nat->Prop} {T:List (TypeId×TD)} {o:Oper} {a:Act} {st:St} {t:TypeId} {d:TD} {id:Nat}
theorem k5n (z:Array Value) (n k:Nat) (hk:k<n) (a:0<z.size):(madeCells z n)[k]?=z[k % z.size]?:=by have hm:k % z.size<z.size:=Nat.mod_lt _ a;simp [madeCells,hk,hm]
theorem kaj2 {α:Type} (E:En α) {bytes:Nat} {z:α} {n:Int} {xs:List α} (X Y:Operand) (e:TypeId) (de:TD) (k k':IntKind) (zs:List Value) (zl:List FV) (h:mkL bytes z n=some xs) (V:o.op = .makeSlice t X Y) (U:TOk P T) (hd:kad T t=some d) (hk:d.kind = .slice e) (q:kad T e=some de) (G:de.size=E.n) (H:de.zero=zs) (r:E.cl z=zl) (c:RZ zs zl) (s:Nat.ble 1 E.n=true) (I:de.bytes=bytes) (hx:st.eval X = .fz (.atom (.int k n))) (hy:st.eval Y = .fz (.atom (.int k' n))) (l:st.ids.contains id=false):
  StepA P o st (.row id xs.length) ((id, .frow e E.n (xs.map E.f))::st.heap) (id::st.ids):=by
 have l:id∉st.ids:=by simpa using l
 have s:0<E.n:=qs s;obtain ⟨rfl,h0,J,K⟩:=kvc h;have hd:=U.get hd;have q:=U.get q;subst I;intro F S0 N0 ψ S a w u;have m:=u.eval X;rw [hx] at m;have m:=m.atom;have p:=u.eval Y;rw [hy] at p;have p:=p.atom;obtain ⟨⟨i,z',hi,L,M,Z,N⟩,_⟩:=q;have g:=u.core;have hcl:z'.cells.toList=zs:=by rw [N,H]
 have A:zs.length=E.n:=by rw [<- c.len,<- r,<- E.hcl,E.hn]
 have O:z'.cells.size=E.n:=by rw [<- qal,hcl,A]
 have hr:=run_make (P:=P) w t e i z' (hd.slice hk) hi Z k k' n n h0 (Int.le_refl _) (by rw [M];exact J) K;rw [L,G] at hr;have B:Grow w (w.alloc (.cells (madeCells z'.cells (n.toNat*E.n)) e)):=kbj _ _;have C:(List.replicate n.toNat z).length=n.toNat:=qby;rw [C];refine kae (w.alloc (.cells (madeCells z'.cells (n.toNat*E.n)) e)) (.slice (some ⟨w.heap.size,0,none⟩) n.toNat n.toNat) ?_ ⟨ψ.set id n.toNat (.slice (some ⟨w.heap.size,0,none⟩) n.toNat n.toNat),S,?_,?_,kjo _ g.fr,ka8 l _ _,fun _ h=>qh _ h,fun _ h=>h,Same.of_grow B⟩;simp [execOp,V,m,p,hr]
 ·refine g.add B l (fun b J=>by simp [kak] at J;omega) ⟨by rw [kbf];simp,s,(madeCells z'.cells (n.toNat*E.n)).toList,?_,fun x hx=>?_,fun i x j v y hx hv hy=>?_⟩;rw [kai];have:=World.ownsRow_lit (base:=0) (size:=E.n) (e:=e) w (madeCells z'.cells (n.toNat*E.n)) n.toNat (qaj _) (by unfold maxLen;omega) (by rw [size_madeCells]);simpa using this;simp only [List.map_replicate,qbu] at hx;rw [hx.2,E.hcl,r];exact ⟨by rw [c.len,A],c.single⟩
  ·have Q:i<n.toNat:=(by have:=(qg.1 hx).1;simpa using this);have D:=qn hx;simp only [List.map_replicate,qbu] at D;rw [D.2,E.hcl,r] at hy;have hj:j<E.n:=(by rw [<- A,<- c.len];exact (qg.1 hy).1);have R:i*E.n+j<n.toNat*E.n:=(by have:(i+1)*E.n<=n.toNat*E.n:=qa4 _ Q;rw [qbc,Nat.one_mul] at this;omega);rw [qat,k5n _ _ _ R (by omega),O,Nat.mul_comm i,Nat.mul_add_mod,Nat.mod_eq_of_lt hj,<- qat,hcl] at hv;exact c.rf j v y hv hy
 ·exact .row (qu ..) (by rw [kbf];exact qx _) rfl fun _=>by rw [kai]
theorem k2y {v:Value} {e:TypeId} {n size:Nat} {cs:List Value} (h:w.ownsRow 0 e size v n cs) (hn:0<n:=by omega):∃ g cap cur,v = .slice (some ⟨g,0,none⟩) n cap/\w.heap[g]?=some (.cells cur e (0,0))/\n<=cap/\cap<=maxLen/\cur.size=cap*size/\cur.toList.take (n*size)=cs:=by
 rcases h.2 with ⟨_,h0⟩ | ⟨g,cap,cur,hv,_,a,h1,b,c,d⟩;omega
 ·exact ⟨g,cap,cur,hv,a,h1,b,c,by rw [d]⟩
theorem ktc (d:TD) (id:Nat) {α:Type} (E:En α) (xs:List α) (x y:α) (i:Int) (X Y:Operand) (n:Nat) (u:FV) (h:idx xs i=some x) (hn:n=xs.length) (hu:E.f y=u) (N:∀ q∈E.cl y,q.single=true) (hT:TOk P T:=by exact tt_ok) (ho:o.op = .store t X Y:=by kernel_rfl) (hd:kad T t=some d:=by kernel_rfl) (hz:d.size=E.n:=by kernel_rfl) (hx:st.eval X = .ref id n (i.toNat*E.n+0):=by kernel_rfl) (M:kaa st.heap id=some (.frow t E.n (xs.map E.f)):=by kernel_rfl) (hy:st.eval Y = .fz u:=by kernel_rfl):StepA P o st .any ((id, .frow t E.n ((xs.set i.toNat y).map E.f))::st.heap) st.ids:=by
 subst hn;subst hu;intro F S0 N0 ψ S a w I;have hd:=hT.get hd;obtain ⟨h0,hi⟩:=kvm h;have ad:i.toNat<xs.length:=(qg.1 hi).1;have m:=I.core;obtain ⟨al,⟨hl,O,cs,p,ae,hr⟩,af⟩:=m.obj id _ M;rw [qaa] at hl p;have hcl:cs.length=xs.length*E.n:=p.1;obtain ⟨g,cap,cur,r,hg,Q,hc2,J,ag⟩:=k2y p;have K:=I.eval X;rw [hx] at K;have hp:a.eval X = .pointer (some ⟨g,i.toNat*E.n,none⟩):=by
  generalize a.eval X=u at K;cases K with
  | ref hK am h1 hv=>
   obtain ⟨b,R,rfl⟩:=hv hl.symm;rw [r] at R;simp only [kak,qc] at R;rw [R,Nat.add_zero]
 have s:=I.eval Y;rw [hy] at s;have s:RF S w (a.eval Y) (E.f y):=by
  generalize a.eval Y=u at s;cases s with
  | fz h=>exact h
 obtain ⟨hc,ah,U⟩:=s.cells (by rw [E.hcl];exact N);rw [E.hn] at hc;obtain ⟨us,A⟩:∃ us,us=(a.eval Y).cells.toList:=⟨_,rfl⟩;have B:us.length=E.n:=by rw [A,qal,hc]
 have an:i.toNat*E.n+E.n<=xs.length*E.n:=by have:(i.toNat+1)*E.n<=xs.length*E.n:=qa4 _ ad;rw [qbc,Nat.one_mul] at this;exact this
 have ak:xs.length*E.n<=cap*E.n:=qa4 _ Q;have hst:=run_storeCells_at (P:=P) g (i.toNat*E.n) t us 0 cur w hg (by rw [B,J];omega) (fun v hv=>U v (by rw [<- A];exact hv));obtain ⟨new,D⟩:∃ new:Array Value,new=(cur.toList.take (i.toNat*E.n+0)++us++cur.toList.drop (i.toNat*E.n+0+us.length)).toArray:=⟨_,rfl⟩;rw [<- D] at hst;have V:new.toList=cur.toList.take (i.toNat*E.n)++us++cur.toList.drop (i.toNat*E.n+E.n):=by rw [D,B];simp
 have Z:new.size=cap*E.n:=by rw [<- qal,V];simp only [qah,qaw,qa9,qal,J,B];omega
 have ai:new.toList.length=cap*E.n:=by rw [qal];exact Z
 have G:∀ k,k<w.heap.size->¬ Blk (ψ.val id) k->(w.setRow g new).heap[k]?=w.heap[k]?:=fun k _ hk=>kjd g new k fun e=>hk (.of (by rw [r,e];rfl));have ao:(w.setRow g new).heap.size=w.heap.size:=by simp [World.setRow]
 have H:ψ.set id xs.length (ψ.val id)=ψ:=by
  unfold Env.set;congr 1
  ·funext j;split;rename_i hj;rw [hj,hl]
   ·rfl
  ·funext j;split;rename_i hj;rw [hj]
   ·rfl
 have hk:Same S w (w.setRow g new):=fun k hk hl=>G k hl fun e=>(af k e).1 hk;have aa:∀ q,(new.toList.take (xs.length*E.n))[q]?=if i.toNat*E.n<=q/\q<i.toNat*E.n+E.n then us[q - i.toNat*E.n]? else cs[q]?:=fun q=>by
  have h1:(cur.toList.take (i.toNat*E.n)).length=i.toNat*E.n:=by rw [qaw,qal,J];omega
  rw [<- ag,qab,qab,V];by_cases a1:q<i.toNat*E.n;rw [qbh,qad (by omega),qab,qo a1,qo (by omega),qi (by omega)]
  ·by_cases a2:q<i.toNat*E.n+E.n;rw [qo (by omega),qo (by omega),qad (by rw [qah];omega),qae (by omega),h1]
   ·rw [qi (c:=_/\_) (by omega),qae (by rw [qah];omega),qah,h1,B,qao];congr 2;omega
 obtain ⟨c1,c2,c3⟩:=m.upd (n:=xs.length) (v:=ψ.val id) (w':=w.setRow g new) (ob' := .frow t E.n ((xs.set i.toNat y).map E.f)) M (by omega) G (.inr ⟨hl,rfl⟩) (fun b R => .inl R) (by
  rw [H];refine ⟨by simp [hl],O,new.toList.take (xs.length*E.n),?_,fun z C=>?_,fun k z j v q C hv hq=>?_⟩;rw [qaa,List.length_set,r];exact ⟨by rw [qaw,ai];omega, .inr ⟨g,cap,new,rfl,qaj _,kic g hg,Q,hc2,Z,rfl⟩⟩
  ·obtain ⟨z0,l,rfl⟩:=qas.1 C;rcases List.mem_or_eq_of_mem_set l with l | rfl;exact ae _ (List.mem_map_of_mem l)
   ·exact ⟨E.hn _,by rw [E.hcl];exact N⟩
  ·obtain ⟨z0,l,rfl⟩:∃ z0,(xs.set i.toNat y)[k]?=some z0/\E.f z0=z:=(by rw [qq,qt] at C;exact C);have hj:j<E.n:=(by rw [<- E.hn z0];exact (qg.1 hq).1);rw [aa] at hv;by_cases L:i.toNat=k;subst L;rw [qbv (by omega)] at l;injection l with l;subst l;rw [qo (by omega),Nat.add_sub_cancel_left,A,qat] at hv;exact (ah j v q hv hq).keep hk
   ·rw [List.getElem?_set_ne L] at l;have aj:¬ (i.toNat*E.n<=k*E.n+j/\k*E.n+j<i.toNat*E.n+E.n):=by
     intro ⟨b1,b2⟩;rcases Nat.lt_or_gt_of_ne L with ab | ac;have:(i.toNat+1)*E.n<=k*E.n:=qa4 _ ab;rw [qbc,Nat.one_mul] at this;omega
     ·have:(k+1)*E.n<=i.toNat*E.n:=qa4 _ ac;rw [qbc,Nat.one_mul] at this;omega
    rw [qi aj] at hv;exact (hr k (E.f z0) j v q (by rw [qq,l];rfl) hv hq).keep hk)
 rw [H] at c1;refine kjh (w.setRow g new) ?_ ⟨ψ,S,c1, .any,⟨rfl,rfl,rfl,by omega,c3,no0⟩,Ext.refl,fun _ h=>h,fun _ h=>h,c2⟩;simp only [execOp,ho,Instr.storeAt,hp,Instr.sureAddr,storeVar,hd.size,Sem.run_bind,Sem.run_pure,Result.andThen_ok];rw [qi (by rw [hc,hz];simp)];simp [<- A,hst]
theorem kaea {α:Type} (E:En α) (xs ys:List α) (X Y:Operand) (t1 t2 e:TypeId) (d1 de:TD) (n:Nat) (hT:TOk P T) (ho:o.op = .call { callee := .builtin .copy,args:=#[X,Y],argTypes:=#[t1,t2] }) (hd:kad T t1=some d1) (hk:d1.kind = .slice e) (ab:kad T e=some de) (ac:de.size=E.n) (hx:st.eval X = .row id n) (hy:kn6 (st.eval Y)=some (ys.map E.f)) (B:kaa st.heap id=some (.frow e E.n (xs.map E.f))) (hn:n=xs.length) (i:xs.length=ys.length) (ae:∀ y,∀ q∈E.cl y,q.single=true):
  StepA P o st (.fz (.atom (.int .i64 (ys.length:Nat)))) ((id, .frow e E.n (ys.map E.f))::st.heap) st.ids:=by
 subst hn;intro F S0 N0 ψ S a w C;have d:=C.core;obtain ⟨aq,s,af⟩:=d.obj id _ B;obtain ⟨hl,K,cs,p,ar,hr⟩:=_root_.id s;rw [qaa] at hl p;have D:=C.eval X;rw [hx] at D;have L:a.eval X=ψ.val id:=by
  generalize a.eval X=u at D;cases D with
  | row hK au h1 hv=>exact hv hl.symm
 obtain ⟨_,_,size,m,hm,_,ag⟩:=kw5 (C.eval Y) hy;obtain ⟨A2,cap2,news,M,ah,_,_,l,N,O,Q,R⟩:=kad7 ag;rw [qaa] at hm ah l;subst hm;have c:ψ.set id xs.length (ψ.val id)=ψ:=by
  unfold Env.set;congr 1
  ·funext j;split;rename_i U;rw [U,hl]
   ·rfl
  ·funext j;split;rename_i U;rw [U]
   ·rfl
 have G:=(hT.get ab).size (P:=P) (w:=w);rw [‹de.size=E.n›] at G;have V:Nat.min ys.length xs.length=ys.length:=by rw [i];exact Nat.min_self _
 by_cases h0:ys=[]
 ·subst h0;obtain rfl:xs=[]:=qa5 i;obtain ⟨A1,cap1,ai⟩:∃ A1 cap1,ψ.val id = .slice A1 0 cap1:=by
   rcases p.2 with ⟨hv,h0⟩ | ⟨g,cap,cur,hv,_⟩;exact ⟨none,0,hv⟩
   ·exact ⟨_,_,hv⟩
  have H:(Builtin.firstCells E.n 0 (.slice A2 0 cap2)).run P w = .ok #[] w:=by
   cases A2 with
   | none=>simpa using run_firstCells_none (P:=P) w E.n 0 0 cap2
   | some ad=>exact run_firstCells_some w E.n 0 ad 0 cap2 [] (by simp) fun j v U=>by simp at U
  obtain ⟨c1,c2,c3⟩:=d.upd (n:=0) (v:=ψ.val id) (w':=w) (ob' := .frow e E.n []) B (qx _) (fun _ _ _=>rfl) (.inr ⟨hl,rfl⟩) (fun b hb => .inl hb) (by have c:ψ.set id 0 (ψ.val id)=ψ:=c;rw [c];exact s);have c:ψ.set id 0 (ψ.val id)=ψ:=c;rw [c] at c1;refine kae w (.int .i64 0) ?_ ⟨ψ,S,c1, .fz (.atom rfl),Fr.refl,Ext.refl,fun _ h=>h,fun _ h=>h,c2⟩;simp [execOp,ho,resolve,invoke,builtin,Builtin.copy_,run_underlying ((hT.get hd).slice hk),L,ai,M,Builtin.lenOf,G,H,goInt,storeCells];cases A1 <;> simp
 ·have Z:0<ys.length:=List.length_pos_iff.2 h0;obtain ⟨g,cap,cur,r,hg,aj,hc2,aa,av⟩:=k2y p;have hs1:size=E.n:=by have:=(Q (E.f ys[0]) (qas.2 ⟨_,q9 Z,rfl⟩)).1;rw [E.hn] at this;exact this.symm
  subst hs1;obtain ⟨ad,rfl,I⟩:∃ ad,A2=some ad/\∀ j u,news[j]?=some u->w.cell? (ad.add j)=some u:=by
   rcases R with ⟨_,h⟩ | ⟨h,_⟩ | h;have:=congrArg List.length h;rw [qaa,qbn] at this;omega;have:=congrArg List.length h;rw [qaa,qbn] at this;omega
   ·exact h
  have ao:xs.length*E.n<=cap*E.n:=qa4 _ aj;have hst:=run_storeCells_at (P:=P) g 0 e news 0 cur w hg (by rw [l,aa,<- i];omega) N;obtain ⟨new,t⟩:∃ new:Array Value,new=(cur.toList.take (0+0)++news++cur.toList.drop (0+0+news.length)).toArray:=⟨_,rfl⟩;rw [<- t] at hst;have x:new.toList=news++cur.toList.drop news.length:=by rw [t];simp
  have ak:new.toList.length=cap*E.n:=by rw [x];simp only [qah,qa9,qal,aa,l];rw [<- i];omega
  have al:new.size=cap*E.n:=by rw [<- qal];exact ak
  have A:∀ k,k<w.heap.size->¬ Blk (ψ.val id) k->(w.setRow g new).heap[k]?=w.heap[k]?:=fun k _ hk=>kjd g new k fun e=>hk (.of (by rw [r,e];rfl));have ac:(w.setRow g new).heap.size=w.heap.size:=by simp [World.setRow]
  have am:Same S w (w.setRow g new):=fun k hk hl=>A k hl fun e=>(af k e).1 hk;have an:new.toList.take (ys.length*E.n)=news:=by rw [x,<- l];simp
  obtain ⟨c1,c2,c3⟩:=d.upd (n:=xs.length) (v:=ψ.val id) (w':=w.setRow g new) (ob' := .frow e E.n (ys.map E.f)) B (by omega) A (.inr ⟨hl,rfl⟩) (fun b hb => .inl hb) (by
   rw [c];refine ⟨by simp [hl,i],K,news,?_,fun z J=>?_,fun k z j v q J hv hq=>?_⟩;rw [qaa,r];refine ⟨l, .inr ⟨g,cap,new,by rw [i],qaj _,kic g hg,by omega,hc2,al,an⟩⟩;obtain ⟨z0,aw,rfl⟩:=qas.1 J;exact ⟨E.hn _,by rw [E.hcl];exact ae _⟩
   ·exact (O k z j v q J hv hq).keep am)
  rw [c] at c1;refine kae (w.setRow g new) (.int .i64 ((ys.length:Nat):Int)) ?_ ⟨ψ,S,c1, .fz (.atom rfl),⟨rfl,rfl,rfl,by omega,c3,no0⟩,Ext.refl,fun _ h=>h,fun _ h=>h,c2⟩;have H:=run_firstCells_some (P:=P) w E.n ys.length ad ys.length cap2 news l I;simp [execOp,ho,resolve,invoke,builtin,Builtin.copy_,run_underlying ((hT.get hd).slice hk),L,r,M,Builtin.lenOf,G,V,H,hst,goInt]
set_option maxRecDepth 100000
open Go Go.RowKit Go.Proofs
set_option maxHeartbeats 2000000
attribute [local irreducible] NStep StepA kgr kiu LeSt
end Go.Proofs.YtjpkdegjcilndaaGreatDoor
