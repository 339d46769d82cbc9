import Derived.Test.YtpnnpkmjohkgiaaGreatDoorOpm
import Derived.MapKept
import Derived.Laws.OwnMore
set_option linter.all false
namespace Go.Proofs.YtpnnpkmjohkgiaaGreatDoor
open Go Go.RowKit
def kk5 (id:Nat):AV->List Nat
 | .row k m=>bif Nat.beq k id then [m] else []
 | _=>[]
def kru (id:Nat):AV->List Nat
 | .agg cs=>cs.flatMap (kk5 id)
 | .fn _ cs=>cs.flatMap (kk5 id)
 | y=>kk5 id y
def kxv (id:Nat):AV->List Nat
 | .tup cs=>cs.flatMap (kru id)
 | y=>kru id y
def kxw (id:Nat):AObj->List Nat
 | .box _ cs=>cs.flatMap (kk5 id)
 | _=>[]
section
variable {F S0:Nat->Prop} {N0:Nat} {w:World} {S:Nat->Prop} {ψ:Env} {K:Nat->Prop} {id n:Nat} {x:FV} {st:St}
end
theorem kml (a b:BA):(a.toList == b.toList)=(a == b):=by
 rw [Bool.eq_iff_iff,beq_iff_eq,MapKept.bytes_beq,ByteArray.toList_eq,ByteArray.toList_eq];constructor;intro h;exact ByteArray.ext (Array.toList_inj.1 h)
 ·intro h;rw [h]
section
variable {P:Program} {F S0:Nat->Prop} {N0:Nat} {w w':World} {S S':Nat->Prop} {ψ:Env} {K:Nat->Prop} {T:List (TypeId×TD)} {o:Oper} {a:Act} {st:St} {t:TypeId} {d:TD} {id:Nat}
theorem TdOk.mp {k e:Nat} (h:TdOk P t d) (hk:d.kind = .map k e):P.underlying t=some (.map k e):=by obtain ⟨_,e',h1,a⟩:=h;rw [hk] at a;cases e' <;> simp [kah] at a;rw [h1,a.1,a.2]
end
mutual
def depV:Va->Nat
 | .mk _ _ _ l=>kya l+1
def kya:List Va->Nat
 | []=>0
 | x::l=>Nat.max (depV x) (kya l)
end
section
variable {P:Program} {F S0:Nat->Prop} {N0:Nat} {w w':World} {S S':Nat->Prop} {ψ:Env} {K:Nat->Prop} {T:List (TypeId×TD)} {o:Oper} {a:Act} {st:St} {t:TypeId} {d:TD}
end
def mkL {α:Type} (bytes:Nat) (z:α) (n:Int):Option (List α):=if 0<=n/\(bytes:Int)*n<=281474976710656/\n<=9223372036854775807 then some (List.replicate n.toNat z) else none
theorem kwm {α:Type} {bytes:Nat} {z:α} {n:Int} {xs:List α} (h:mkL bytes z n=some xs):xs=List.replicate n.toNat z/\0<=n/\(bytes:Int)*n<=281474976710656/\n<=9223372036854775807:=by
 unfold mkL at h;split at h;rename_i hc;injection h with h;exact ⟨h.symm,hc⟩
 ·cases h
section
variable {P:Program} {F S0:Nat->Prop} {N0:Nat} {w w':World} {S S':Nat->Prop} {ψ:Env} {K:Nat->Prop} {T:List (TypeId×TD)} {o:Oper} {a:Act} {st:St} {t:TypeId} {d:TD} {id:Nat}
theorem kt0 {α:Type} {enc:α->FV} {bytes:Nat} {z:α} {n:Int} {xs:List α} {X Y:Operand} {e:TypeId} {de:TD} {k k':IntKind} {zv:Value} (h:mkL bytes z n=some xs) (ho:o.op = .makeSlice t X Y) (O:TOk P T) (E:kac T t=some d) (hk:d.kind = .slice e) (m:kac T e=some de)
  (G:de.size=1) (H:de.zero=[zv]) (r:enc z = .atom zv) (s:zv.oneCell'=true) (I:de.bytes=bytes) (q:st.eval X = .fz (.atom (.int k n)):=by kernel_rfl) (hy:st.eval Y = .fz (.atom (.int k' n)):=by kernel_rfl) (f:st.ids.contains id=false:=by kernel_rfl):
  kam P o st (.row id xs.length) ((id, .frow e 1 (xs.map enc))::st.heap) (id::st.ids):=by
 have f:id∉st.ids:=by simpa using f
 obtain ⟨rfl,h0,J,K⟩:=kwm h;have E:=O.get E;have m:=O.get m;subst I;intro F S0 N0 ψ S a w p;have g:=p.eval X;rw [q] at g;have g:=g.atom;have l:=p.eval Y;rw [hy] at l;have l:=l.atom;obtain ⟨⟨i,z',hi,L,M,Q,N⟩,_⟩:=m;have c:=p.core;have hcl:z'.cells=#[zv]:=by apply qa5;rw [N,H]
 have hr:=run_make (P:=P) w t e i z' (E.slice hk) hi Q k k' n n h0 (Int.le_refl _) (by rw [M];exact J) K;rw [L,G,hcl,Nat.mul_one] at hr;have u:Grow w (w.alloc (.cells (madeCells #[zv] n.toNat) e)):=ka8 _ _;have A:(List.replicate n.toNat z).length=n.toNat:=List.length_replicate;rw [A];refine kae (w':=w.alloc (.cells (madeCells #[zv] n.toNat) e)) (v := .slice (some ⟨w.heap.size,0,none⟩) n.toNat n.toNat) ?_ ⟨ψ.set id n.toNat (.slice (some ⟨w.heap.size,0,none⟩) n.toNat n.toNat),S,?_,?_,ke0 _ c.fr,kb3 f _ _,fun _ h=>qp _ h,fun _ h=>h,Same.of_grow u⟩;simp [execOp,ho,g,l,hr]
 ·refine c.add u f (fun b J=>by simp [kau] at J;omega) ⟨by rw [kb2];simp,by omega,(madeCells #[zv] n.toNat).toList,?_,fun x q=>?_,fun i x j v y q hv hy=>?_⟩;rw [kao];have:=World.ownsRow_lit (base:=0) (size:=1) (e:=e) w (madeCells #[zv] n.toNat) n.toNat (qak _) (by unfold maxLen;omega) (by rw [size_madeCells,Nat.mul_one]);simpa using this;simp only [List.map_replicate,List.mem_replicate] at q;rw [q.2,r];refine ⟨rfl,fun y hy=>?_⟩;simp [FV.cells] at hy;subst hy;exact s
  ·have B:=qk q;simp only [List.map_replicate,List.mem_replicate] at B;rw [B.2,r] at hy;rw [toList_madeCells_one] at hv;have C:=qk hv;rw [List.mem_replicate] at C;rw [C.2];have D:=qk hy;simp [FV.cells] at D;subst D;exact .atom s
 ·exact .row (q9 ..) (by rw [kb2];exact qx _) rfl fun _=>by rw [kao]
theorem kkn {v:Value} {e:TypeId} {n:Nat} {cs:List Value} (h:w.ownsRow 0 e 1 v n cs) (hn:0<n):∃ g cap cur,v = .slice (some ⟨g,0,none⟩) n cap/\w.heap[g]?=some (.cells cur e (0,0))/\n<=cap/\cap<=maxLen/\cur.size=cap/\cur.toList.take n=cs:=by
 rcases h.2 with ⟨_,h0⟩ | ⟨g,cap,cur,hv,_,a,h1,b,c,d⟩;omega
 ·exact ⟨g,cap,cur,hv,a,h1,b,by simpa using c,by simpa using d⟩
theorem kg8 {α:Type} {enc:α->FV} {xs:List α} {x:α} {i:Int} {X Y:Operand} {e:TypeId} {de:TD} {k:IntKind} {n:Nat} (h:idx xs i=some x) (r:TOk P T) (ho:o.op = .indexAddr t X Y) (p:kac T t=some d) (hk:d.kind = .slice e) (j:kac T e=some de) (s:de.size=1)
  (y:st.eval X = .row id n) (q:kaa st.heap id=some (.frow e 1 (xs.map enc))) (hn:n=xs.length) (hy:st.eval Y = .fz (.atom (.int k i)):=by kernel_rfl):NStep P o st (.ref id n i.toNat):=by
 intro ψ S a w ht z;subst hn;have p:=r.get p;have j:=r.get j;unfold idx at h;split at h
 ·rename_i h0;have A:i.toNat<xs.length:=(qd.1 h).1;have l:=Sim.eval_tmps ht X;rw [y] at l;have b:=Sim.eval_tmps ht Y;rw [hy] at b;have b:=b.atom;obtain ⟨hl,_,cs,c,_,_⟩:=z id _ q;rw [qas] at hl c;obtain ⟨g,cap,cur,f,C,_⟩:=kkn c (by omega);have hK:id∈st.ids/\a.eval X=ψ.val id:=by
   generalize a.eval X=u at l;cases l with
   | row hK B h1 hv=>exact ⟨hK,hv hl.symm⟩
  refine kae (w':=w) (v := .pointer (some ⟨g,i.toNat,none⟩)) ?_ ⟨kag _, .ref hK.1 (by omega) rfl fun _=>⟨g,by rw [f];rfl,rfl⟩⟩;have m:i<(xs.length:Int):=by omega
  simp [execOp,ho,hK.2,f,b,Instr.indexAt,asIntOf,run_underlying (p.slice hk),h0,m,j.size,s,kbl]
 ·cases h
theorem koe {α:Type} {enc:α->FV} {xs:List α} {x:α} {i:Int} {X:Operand} {n:Nat} (h:idx xs i=some x) (r:TOk P T) (ho:o.op = .load t X) (k:kac T t=some d) (hk:d.kind.agg=false) (s:st.eval X = .ref id n i.toNat) (l:kaa st.heap id=some (.frow t 1 (xs.map enc))) (hn:n=xs.length) (m:∀ y,(enc y).cells=[enc y]):NStep P o st (.fz (enc x)):=by
 intro ψ S a w ht z;subst hn;have k:=r.get k;unfold idx at h;split at h
 ·rename_i h0;have A:i.toNat<xs.length:=(qd.1 h).1;have f:=Sim.eval_tmps ht X;rw [s] at f;obtain ⟨hl,_,cs,c,_,hr⟩:=z id _ l;rw [qas] at hl c;obtain ⟨g,cap,cur,e,F,B,hc2,C,D⟩:=kkn c (by omega);have hp:a.eval X = .pointer (some ⟨g,i.toNat,none⟩):=by
   generalize a.eval X=u at f;cases f with
   | ref hK E h1 hv=>
    obtain ⟨b,p,rfl⟩:=hv hl.symm;rw [e] at p;simp only [kau,qb] at p;rw [p]
  have q:cs[i.toNat]?=some (cs[i.toNat]'(by rw [c.1];omega)):=qa _;have j:w.cell? ⟨g,i.toNat,none⟩=some (cs[i.toNat]'(by rw [c.1];omega)):=by rw [e] at c;rw [World.ownsRow.cellAt c i.toNat (by omega),q]
  refine kae (w':=w) (v:=cs[i.toNat]'(by rw [c.1];omega)) ?_ ⟨kag _, .fz ((hr i.toNat (enc x) 0 _ (enc x) (by rw [qr,h];rfl) (by simp) (by rw [m];rfl)).mono fun _ h => .inl h)⟩;simp [execOp,ho,hp,Instr.loadAt,Instr.sureAddr,loadVar,k.isAgg,hk,j]
 ·cases h
theorem kji {α:Type} {enc:α->FV} {xs:List α} {x y:α} {i:Int} {X Y:Operand} {n:Nat} (h:idx xs i=some x) (hT:TOk P T) (ho:o.op = .store t X Y) (Q:kac T t=some d) (hz:d.size=1) (hx:st.eval X = .ref id n i.toNat) (I:kaa st.heap id=some (.frow t 1 (xs.map enc))) (hn:n=xs.length) (hy:st.eval Y = .fz (enc y))
  (D:∀ y,∃ u,enc y = .atom u/\u.oneCell'=true):kam P o st .any ((id, .frow t 1 ((xs.set i.toNat y).map enc))::st.heap) st.ids:=by
 subst hn;intro F S0 N0 ψ S a w E;have Q:=hT.get Q;unfold idx at h;split at h
 ·rename_i h0;have ac:i.toNat<xs.length:=(qd.1 h).1;have f:=E.core;obtain ⟨ad,⟨hl,J,cs,l,ae,hr⟩,R⟩:=f.obj id _ I;rw [qas] at hl l;have hcl:cs.length=xs.length:=by rw [l.1,Nat.mul_one]
  obtain ⟨g,cap,cur,m,hg,U,hc2,V,Z⟩:=kkn l (by omega);have G:=E.eval X;rw [hx] at G;have hp:a.eval X = .pointer (some ⟨g,i.toNat,none⟩):=by
   generalize a.eval X=u at G;cases G with
   | ref hK af h1 hv=>
    obtain ⟨b,K,rfl⟩:=hv hl.symm;rw [m] at K;simp only [kau,qb] at K;rw [K]
  obtain ⟨u,hu,H⟩:=D y;have p:=E.eval Y;rw [hy,hu] at p;have p:=p.atom;have L:u.cells=#[u]:=by cases u <;> first | rfl | cases H
  have hst:=run_storeCells_at (P:=P) g i.toNat t [u] 0 cur w hg (by simp;omega) (fun v hv=>by simp at hv;rw [hv];exact H);obtain ⟨new,s⟩:∃ new:Array Value,new=(cur.toList.take (i.toNat+0)++[u]++cur.toList.drop (i.toNat+0+[u].length)).toArray:=⟨_,rfl⟩;rw [<- s] at hst;have M:new.toList=cur.toList.set i.toNat u:=by rw [s,List.set_eq_take_append_cons_drop,qq (by simp;omega)];simp
  have aa:new.size=cap:=by rw [<- qal,M,List.length_set,qal,V]
  have A:∀ k,k<w.heap.size->¬ Blk (ψ.val id) k->(w.setRow g new).heap[k]?=w.heap[k]?:=fun k _ hk=>khl g new k fun e=>hk (.of (by rw [m,e];rfl));have ag:(w.setRow g new).heap.size=w.heap.size:=by simp [World.setRow]
  have B:ψ.set id xs.length (ψ.val id)=ψ:=by
   unfold Env.set;congr 1
   ·funext j;split;rename_i N;rw [N,hl]
    ·rfl
   ·funext j;split;rename_i N;rw [N]
    ·rfl
  have hk:Same S w (w.setRow g new):=fun k hk hl=>A k hl fun e=>(R k e).1 hk;obtain ⟨c1,c2,c3⟩:=f.upd (n:=xs.length) (v:=ψ.val id) (w':=w.setRow g new) (ob' := .frow t 1 ((xs.set i.toNat y).map enc)) I (by omega) A (.inr ⟨hl,rfl⟩) (fun b K => .inl K) (by
   rw [B];refine ⟨by simp [hl],J,cs.set i.toNat u,?_,fun z r=>?_,fun k z j v q r hv C=>?_⟩;rw [qas,List.length_set,m];refine ⟨by rw [List.length_set,hcl,Nat.mul_one], .inr ⟨g,cap,new,rfl,qak _,kfq g hg,U,hc2,by rw [aa,Nat.mul_one],?_⟩⟩;rw [Nat.mul_one,M,List.take_set,Z];obtain ⟨z0,_,rfl⟩:=qat.1 r;obtain ⟨u0,h1,h2⟩:=D z0;rw [h1];exact ⟨rfl,fun q C=>by simp [FV.cells] at C;subst C;exact h2⟩
   ·obtain ⟨z0,c,rfl⟩:∃ z0,(xs.set i.toNat y)[k]?=some z0/\enc z0=z:=(by rw [qr,qs] at r;exact r);obtain ⟨u0,h1,h2⟩:=D z0;have N:j=0:=(by rw [h1] at C;have:=(qd.1 C).1;simp [FV.cells] at this;exact this);subst N;have ab:q=enc z0:=(by rw [h1] at C ⊢; simp [FV.cells] at C;exact C.symm);subst ab;simp only [Nat.mul_one,Nat.add_zero] at hv;by_cases O:i.toNat=k;subst O;rw [List.getElem?_set_self (by omega)] at hv c;injection hv with hv;injection c with c;subst hv c;rw [hu];exact .atom H
    ·rw [List.getElem?_set_ne O] at hv c;exact (hr k (enc z0) 0 v (enc z0) (by rw [qr,c];rfl) (by simpa using hv) (by rw [h1];rfl)).keep hk)
  rw [B] at c1;refine kgn (w':=w.setRow g new) ?_ ⟨ψ,S,c1, .any,⟨rfl,rfl,rfl,by omega,c3⟩,Ext.refl,fun _ h=>h,fun _ h=>h,c2⟩;simp only [execOp,ho,Instr.storeAt,hp,p,Instr.sureAddr,storeVar,Q.size,Sem.run_bind,Sem.run_pure,Result.andThen_ok];rw [qh (by rw [L,hz];simp)];simp [L,hst]
 ·cases h
end
def rel1 (id n:Nat):AV->AV
 | .row k m=>bif Nat.beq k id then .row k n else .row k m
 | y=>y
def relG (id n:Nat):AV->AV
 | .agg cs => .agg (cs.map (rel1 id n))
 | .fn f cs => .fn f (cs.map (rel1 id n))
 | y=>rel1 id n y
def relT (id n:Nat):AV->AV
 | .tup cs => .tup (cs.map (relG id n))
 | y=>relG id n y
def relO (id n:Nat):AObj->AObj
 | .box e cs => .box e (cs.map (rel1 id n))
 | y=>y
def kq9 (id:Nat) (st:St):List Nat:=st.tmps.flatMap (fun p=>kxv id p.2)++st.heap.flatMap (fun p=>kxw id p.2)
def ktb (id n:Nat) (st:St):St:={ dfr:=st.dfr,n:=st.n,tmps:=st.tmps.map (fun p=>(p.1,relT id n p.2)),heap:=st.heap.map (fun p=>(p.1,relO id n p.2)),ids:=st.ids }
theorem kk2 {id n:Nat} {y:AV} (h:∀ m∈kk5 id y,m=n):rel1 id n y=y:=by
 cases y with
 | row k m=>
  simp only [rel1];cases a:Nat.beq k id with
  | false=>rfl
  | true=>rw [h m (by simp [kk5,a])];rfl
 | _=>rfl
theorem kgq {α:Type} {f:α->α} {l:List α} (h:∀ x∈l,f x=x):l.map f=l:=by rw [List.map_congr_left h];simp
theorem kkt {id n:Nat} {y:AV} (h:∀ m∈kru id y,m=n):relG id n y=y:=by
 cases y with
 | agg cs=>exact congrArg AV.agg (kgq fun x a=>kk2 fun m hm=>h m (List.mem_flatMap.2 ⟨x,a,hm⟩))
 | fn f cs=>exact congrArg (AV.fn f) (kgq fun x a=>kk2 fun m hm=>h m (List.mem_flatMap.2 ⟨x,a,hm⟩))
 | row k m=>exact kk2 (y := .row k m) h
 | _=>rfl
theorem k0x {id n:Nat} {y:AV} (h:∀ m∈kxv id y,m=n):relT id n y=y:=by
 cases y with
 | tup cs=>exact congrArg AV.tup (kgq fun x a=>kkt fun m hm=>h m (List.mem_flatMap.2 ⟨x,a,hm⟩))
 | agg cs=>exact kkt (y := .agg cs) h
 | fn f cs=>exact kkt (y := .fn f cs) h
 | row k m=>exact kkt (y := .row k m) h
 | _=>rfl
theorem k0i {id n:Nat} {y:AObj} (h:∀ m∈kxw id y,m=n):relO id n y=y:=by
 cases y with
 | box e cs=>exact congrArg (AObj.box e) (kgq fun x a=>kk2 fun m hm=>h m (List.mem_flatMap.2 ⟨x,a,hm⟩))
 | _=>rfl
theorem klx {st:St} (id:Nat) {k m n:Nat} (h:kq9 id st=List.replicate k m) (b:m=n):LeSt st (ktb id n st):=by
 have a:∀ x∈kq9 id st,x=n:=fun x c=>by rw [h] at c;rw [(List.mem_replicate.1 c).2,b]
 have:ktb id n st=st:=by
  unfold ktb;have h1:st.tmps.map (fun p=>(p.1,relT id n p.2))=st.tmps:=kgq fun p hp=>by rw [k0x fun m hm=>a m (qan.2 (.inl (List.mem_flatMap.2 ⟨p,hp,hm⟩)))]
  have d:st.heap.map (fun p=>(p.1,relO id n p.2))=st.heap:=kgq fun p hp=>by rw [k0i fun m hm=>a m (qan.2 (.inr (List.mem_flatMap.2 ⟨p,hp,hm⟩)))]
  rw [h1,d]
 rw [this];exact LeSt.refl
end Go.Proofs.YtpnnpkmjohkgiaaGreatDoor
