import Derived.Test.YtpnnpkmjohkgiaaGreatDoorOpm
import Derived.MapKept
import Derived.Laws.OwnMore
set_option linter.all false
namespace Go.Proofs.YtpnnpkmjohkgiaaGreatDoor
open Go Go.RowKit
def kht (id:Nat):AV->List Nat
 | .row k m=>bif Nat.beq k id then [m] else []
 | _=>[]
def kn2 (id:Nat):AV->List Nat
 | .agg cs=>cs.flatMap (kht id)
 | .fn _ cs=>cs.flatMap (kht id)
 | y=>kht id y
def kj8 (id:Nat):AV->List Nat
 | .tup cs=>cs.flatMap (kn2 id)
 | y=>kn2 id y
def klv (id:Nat):AObj->List Nat
 | .box _ cs=>cs.flatMap (kht id)
 | _=>[]
def frz1 (id:Nat) (x:FV):AV->AV
 | .row k m=>bif Nat.beq k id then .fz x else .row k m
 | y=>y
def frzG (id:Nat) (x:FV):AV->AV
 | .agg cs=>aggA (cs.map (frz1 id x))
 | .fn f cs => .fn f (cs.map (frz1 id x))
 | y=>frz1 id x y
def frzT (id:Nat) (x:FV):AV->AV
 | .tup cs=>tupA (cs.map (frzG id x))
 | y=>frzG id x y
def frzO (id:Nat) (x:FV):AObj->AObj
 | .box e cs => .box e (cs.map (frz1 id x))
 | y=>y
def ktz (id:Nat) (st:St):List Nat:=st.tmps.flatMap (fun p=>kj8 id p.2)++(kb6 id st.heap).flatMap (fun p=>klv id p.2)
def frzSt (id:Nat) (x:FV) (st:St):St:={ dfr:=st.dfr,n:=st.n,tmps:=st.tmps.map (fun p=>(p.1,frzT id x p.2)),heap:=(kb6 id st.heap).map (fun p=>(p.1,frzO id x p.2)),ids:=st.ids }
section
variable {F S0:Nat->Prop} {N0:Nat} {w:World} {S:Nat->Prop} {ψ:Env} {K:Nat->Prop} {id n:Nat} {x:FV} {st:St}
theorem kks (a:∀ v,RV ψ K S w v (.row id n)->RF S w v x) {v:Value} {y:AV} (h:RV ψ K S w v y) (hr:∀ m∈kht id y,m=n):RV ψ K S w v (frz1 id x y):=by
 cases y with
 | row k m=>
  simp only [frz1];cases b:Nat.beq k id with
  | false=>exact h
  | true=>
   have hk:=qf b;subst hk;have hm:m=n:=hr m (by simp [kht]);subst hm;exact .fz (a v h)
 | _=>exact h
theorem kky (hs:x.single=true) {y:AV} (h:y.single=true):(frz1 id x y).single=true:=by
 cases y with
 | row k m=>
  simp only [frz1];cases Nat.beq k id with
  | false=>exact h
  | true=>exact hs
 | _=>exact h
theorem kka {α β γ:Type} {R Q:α->γ->Prop} {f:β->γ} {R':α->β->Prop} {cs:Array α} {xs:List β} (hr:∀ (i:Nat) (v:α) (y:β),cs[i]?=some v->xs[i]?=some y->R' v y) (hf:∀ v y,y∈xs->R' v y->Q v (f y)):
  ∀ (i:Nat) (v:α) (y:γ),cs[i]?=some v->(xs.map f)[i]?=some y->Q v y:=by
 intro i v y hv hy;simp only [qr,qp] at hy;obtain ⟨z,a,rfl⟩:=hy;exact hf v z (qm a) (hr i v z hv a)
theorem kki (hs:x.single=true) (b:∀ v,RV ψ K S w v (.row id n)->RF S w v x) {v:Value} {y:AV} (h:RV ψ K S w v y) (hr:∀ m∈kn2 id y,m=n):RV ψ K S w v (frzG id x y):=by
 cases y with
 | agg cs=>
  cases h with
  | agg h h1 a=>
   refine RV.aggA (by simpa using h) (fun y hy=>?_) (kka (R:=fun _ _=>True) a fun v y hy hv=>kks b hv fun m hm=>hr m ?_);simp only [qaf] at hy;obtain ⟨z,c,rfl⟩:=hy;exact kky hs (h1 z c)
   ·exact qa2.2 ⟨y,hy,hm⟩
 | fn f cs=>
  cases h with
  | fn h a=>exact .fn (by simpa using h) (kka (R:=fun _ _=>True) a fun v y hy hv=>kks b hv fun m hm=>hr m (qa2.2 ⟨y,hy,hm⟩))
 | row k m=>exact kks b h hr
 | _=>exact h
theorem ky8 (hs:x.single=true) (a:∀ v,RV ψ K S w v (.row id n)->RF S w v x) {v:Value} {y:AV} (h:RV ψ K S w v y) (hr:∀ m∈kj8 id y,m=n):RV ψ K S w v (frzT id x y):=by
 cases y with
 | tup cs=>
  cases h with
  | tup h b=>exact RV.tupA (by simpa using h) (kka (R:=fun _ _=>True) b fun v y hy hv=>kki hs a hv fun m hm=>hr m (qa2.2 ⟨y,hy,hm⟩))
 | agg cs=>exact kki hs a h hr
 | fn f cs=>exact kki hs a h hr
 | row k m=>exact kki hs a h hr
 | _=>exact h
theorem kvc (l:List (Nat×AV)) (t:Nat):look .any (l.map fun p=>(p.1,frzT id x p.2)) t=frzT id x (look .any l t)/\∀ m∈kj8 id (look .any l t),m∈l.flatMap (fun p=>kj8 id p.2):=by
 induction l with
 | nil=>exact ⟨rfl,fun m hm=>by cases hm⟩
 | cons p l ih=>
  obtain ⟨k,v⟩:=p;simp only [qa3,ka5,List.flatMap_cons,qad];by_cases h:k=t;simp only [qq h];exact ⟨trivial,fun m hm => .inl hm⟩
  ·simp only [qh h];exact ⟨ih.1,fun m hm => .inr (ih.2 m hm)⟩
theorem kjg (l:List (Nat×AObj)) (t:Nat):kab (l.map fun p=>(p.1,frzO id x p.2)) t=(kab l t).map (frzO id x)/\∀ o,kab l t=some o->∀ m∈klv id o,m∈l.flatMap (fun p=>klv id p.2):=by
 induction l with
 | nil=>exact ⟨rfl,fun o h=>by cases h⟩
 | cons p l ih=>
  obtain ⟨k,v⟩:=p;simp only [qa3,kae,List.flatMap_cons,qad];by_cases h:k=t;simp only [qq h];exact ⟨rfl,fun o ho m hm=>by injection ho with ho;subst ho;exact .inl hm⟩
  ·simp only [qh h];exact ⟨ih.1,fun o ho m hm => .inr (ih.2 o ho m hm)⟩
theorem ko6 (id:Nat) {n k:Nat} {e:TypeId} {size:Nat} {xs:List FV} (f:kab st.heap id=some (.frow e size xs)) (hn:n=xs.length) (g:ktz id st=List.replicate k n:=by kernel_rfl):LeSt st (frzSt id (.lst size n xs) st):=by
 subst hn;intro F S0 N0 ψ S a w hs;obtain ⟨c1,c2⟩:=kh6 hs.core f;have d:∀ m∈ktz id st,m=xs.length:=fun m hm=>by rw [g] at hm;exact (List.mem_replicate.1 hm).2
 have h0:=(hs.core.obj id _ f).2.1.1;have s:∀ v,RV ψ (·∈st.ids) (fun b=>S b\/kav (ψ.val id)=some b) w v (.row id xs.length)->RF (fun b=>S b\/kav (ψ.val id)=some b) w v (.lst size xs.length xs):=by
  intro v hv;cases hv with
  | row hK A h1 hv=>rw [hv (by rw [h0])];exact c2
 refine ⟨ψ,_,hs.defers,hs.size,fun t=>?_,⟨fun i o ho=>?_,fun i i' o o' b ho c q B=>?_,c1.lt,c1.s0,c1.n0,c1.fr⟩⟩;obtain ⟨l1,l2⟩:=kvc (id:=id) (x := .lst size xs.length xs) st.tmps t;show RV ψ (·∈st.ids) _ w (a.tmps.getD t undef) (look .any (st.tmps.map fun p=>(p.1,frzT id (.lst size xs.length xs) p.2)) t);rw [l1];refine ky8 rfl s ((hs.tmps t).mono (fun _ h=>h) fun _ h => .inl h) fun m hm=>d m ?_;exact qad.2 (.inl (l2 m hm))
 ·obtain ⟨l1,l2⟩:=kjg (id:=id) (x := .lst size xs.length xs) (kb6 id st.heap) i;have c:kab ((kb6 id st.heap).map fun p=>(p.1,frzO id (.lst size xs.length xs) p.2)) i=some o:=ho;rw [l1,qp] at c;obtain ⟨o',h1,rfl⟩:=c;obtain ⟨k1,k2,k7⟩:=c1.obj i o' h1;refine ⟨k1,?_,k7⟩;cases o' with
  | box e2 cells=>
   obtain ⟨g0,b,cs,g2,g3,g4,g5,g6⟩:=k2;refine ⟨g0,b,cs,g2,g3,by simpa using g4,fun y hy=>?_,kka (R:=fun _ _=>True) g6 fun v y hy hv=>kks s hv fun m hm=>d m ?_⟩;simp only [qaf] at hy;obtain ⟨z,C,rfl⟩:=hy;exact kky rfl (g5 z C)
   ·exact qad.2 (.inr (l2 _ h1 m (qa2.2 ⟨y,hy,hm⟩)))
  | _=>exact k2
 ·obtain ⟨l1,_⟩:=kjg (id:=id) (x := .lst size xs.length xs) (kb6 id st.heap) i;obtain ⟨l2,_⟩:=kjg (id:=id) (x := .lst size xs.length xs) (kb6 id st.heap) i';have j:kab ((kb6 id st.heap).map fun p=>(p.1,frzO id (.lst size xs.length xs) p.2)) i=some o:=ho;have l:kab ((kb6 id st.heap).map fun p=>(p.1,frzO id (.lst size xs.length xs) p.2)) i'=some o':=c;rw [l1,qp] at j;rw [l2,qp] at l;obtain ⟨u,D,_⟩:=j;obtain ⟨u',r,_⟩:=l;exact c1.inj i i' u u' b D r q B
end
theorem kly (a b:BA):(a.toList == b.toList)=(a == b):=by
 rw [Bool.eq_iff_iff,beq_iff_eq,MapKept.bytes_beq,ByteArray.toList_eq,ByteArray.toList_eq];constructor;intro h;exact ByteArray.ext (Array.toList_inj.1 h)
 ·intro h;rw [h]
section
variable {P:Program} {F S0:Nat->Prop} {N0:Nat} {w w':World} {S S':Nat->Prop} {ψ:Env} {K:Nat->Prop} {T:List (TypeId×TD)} {o:Oper} {a:Act} {st:St} {t:TypeId} {d:TD} {id:Nat}
theorem TdOk.mp {k e:Nat} (h:TdOk P t d) (hk:d.kind = .map k e):P.underlying t=some (.map k e):=by obtain ⟨_,e',h1,a⟩:=h;rw [hk] at a;cases e' <;> simp [kai] at a;rw [h1,a.1,a.2]
end
mutual
def depV:Va->Nat
 | .mk _ _ _ l=>kxs l+1
def kxs:List Va->Nat
 | []=>0
 | x::l=>Nat.max (depV x) (kxs l)
end
section
variable {P:Program} {F S0:Nat->Prop} {N0:Nat} {w w':World} {S S':Nat->Prop} {ψ:Env} {K:Nat->Prop} {T:List (TypeId×TD)} {o:Oper} {a:Act} {st:St} {t:TypeId} {d:TD}
end
def mkL {α:Type} (bytes:Nat) (z:α) (n:Int):Option (List α):=if 0<=n/\(bytes:Int)*n<=281474976710656/\n<=9223372036854775807 then some (List.replicate n.toNat z) else none
theorem kv0 {α:Type} {bytes:Nat} {z:α} {n:Int} {xs:List α} (h:mkL bytes z n=some xs):xs=List.replicate n.toNat z/\0<=n/\(bytes:Int)*n<=281474976710656/\n<=9223372036854775807:=by
 unfold mkL at h;split at h;rename_i hc;injection h with h;exact ⟨h.symm,hc⟩
 ·cases h
section
variable {P:Program} {F S0:Nat->Prop} {N0:Nat} {w w':World} {S S':Nat->Prop} {ψ:Env} {K:Nat->Prop} {T:List (TypeId×TD)} {o:Oper} {a:Act} {st:St} {t:TypeId} {d:TD} {id:Nat}
theorem kia {α:Type} {enc:α->FV} {bytes:Nat} {z:α} {n:Int} {xs:List α} {X Y:Operand} {e:TypeId} {de:TD} {k k':IntKind} {zv:Value} (h:mkL bytes z n=some xs) (ho:o.op = .makeSlice t X Y) (O:TOk P T) (E:kad T t=some d) (hk:d.kind = .slice e) (m:kad T e=some de)
  (G:de.size=1) (H:de.zero=[zv]) (r:enc z = .atom zv) (s:zv.oneCell'=true) (I:de.bytes=bytes) (q:st.eval X = .fz (.atom (.int k n)):=by kernel_rfl) (hy:st.eval Y = .fz (.atom (.int k' n)):=by kernel_rfl) (f:st.ids.contains id=false:=by kernel_rfl):
  StepA P o st (.row id xs.length) ((id, .frow e 1 (xs.map enc))::st.heap) (id::st.ids):=by
 have f:id∉st.ids:=by simpa using f
 obtain ⟨rfl,h0,J,K⟩:=kv0 h;have E:=O.get E;have m:=O.get m;subst I;intro F S0 N0 ψ S a w p;have g:=p.eval X;rw [q] at g;have g:=g.atom;have l:=p.eval Y;rw [hy] at l;have l:=l.atom;obtain ⟨⟨i,z',hi,L,M,Q,N⟩,_⟩:=m;have c:=p.core;have hcl:z'.cells=#[zv]:=by apply qa8;rw [N,H]
 have hr:=run_make (P:=P) w t e i z' (E.slice hk) hi Q k k' n n h0 (Int.le_refl _) (by rw [M];exact J) K;rw [L,G,hcl,Nat.mul_one] at hr;have u:Grow w (w.alloc (.cells (madeCells #[zv] n.toNat) e)):=ka7 _ _;have A:(List.replicate n.toNat z).length=n.toNat:=List.length_replicate;rw [A];refine kaf (w':=w.alloc (.cells (madeCells #[zv] n.toNat) e)) (v := .slice (some ⟨w.heap.size,0,none⟩) n.toNat n.toNat) ?_ ⟨ψ.set id n.toNat (.slice (some ⟨w.heap.size,0,none⟩) n.toNat n.toNat),S,?_,?_,kel _ c.fr,kb2 f _ _,fun _ h=>qs _ h,fun _ h=>h,Same.of_grow u⟩;simp [execOp,ho,g,l,hr]
 ·refine c.add u f (fun b J=>by simp [kav] at J;omega) ⟨by rw [kbz];simp,by omega,(madeCells #[zv] n.toNat).toList,?_,fun x q=>?_,fun i x j v y q hv hy=>?_⟩;rw [kar];have:=World.ownsRow_lit (base:=0) (size:=1) (e:=e) w (madeCells #[zv] n.toNat) n.toNat (qar _) (by unfold maxLen;omega) (by rw [size_madeCells,Nat.mul_one]);simpa using this;simp only [List.map_replicate,List.mem_replicate] at q;rw [q.2,r];refine ⟨rfl,fun y hy=>?_⟩;simp [FV.cells] at hy;subst hy;exact s
  ·have B:=qm q;simp only [List.map_replicate,List.mem_replicate] at B;rw [B.2,r] at hy;rw [toList_madeCells_one] at hv;have C:=qm hv;rw [List.mem_replicate] at C;rw [C.2];have D:=qm hy;simp [FV.cells] at D;subst D;exact .atom s
 ·exact .row (qv ..) (by rw [kbz];exact qt _) rfl fun _=>by rw [kar]
theorem kjz {v:Value} {e:TypeId} {n:Nat} {cs:List Value} (h:w.ownsRow 0 e 1 v n cs) (hn:0<n):∃ g cap cur,v = .slice (some ⟨g,0,none⟩) n cap/\w.heap[g]?=some (.cells cur e (0,0))/\n<=cap/\cap<=maxLen/\cur.size=cap/\cur.toList.take n=cs:=by
 rcases h.2 with ⟨_,h0⟩ | ⟨g,cap,cur,hv,_,a,h1,b,c,d⟩;omega
 ·exact ⟨g,cap,cur,hv,a,h1,b,by simpa using c,by simpa using d⟩
theorem ka9 {α:Type} {enc:α->FV} {xs:List α} {x:α} {i:Int} {X Y:Operand} {e:TypeId} {de:TD} {k:IntKind} {n:Nat} (h:idx xs i=some x) (r:TOk P T) (ho:o.op = .indexAddr t X Y) (p:kad T t=some d) (hk:d.kind = .slice e) (j:kad T e=some de) (s:de.size=1)
  (y:st.eval X = .row id n) (q:kab st.heap id=some (.frow e 1 (xs.map enc))) (hn:n=xs.length) (hy:st.eval Y = .fz (.atom (.int k i)):=by kernel_rfl):NStep P o st (.ref id n i.toNat):=by
 intro ψ S a w ht z;subst hn;have p:=r.get p;have j:=r.get j;unfold idx at h;split at h
 ·rename_i h0;have A:i.toNat<xs.length:=(qd.1 h).1;have l:=Sim.eval_tmps ht X;rw [y] at l;have b:=Sim.eval_tmps ht Y;rw [hy] at b;have b:=b.atom;obtain ⟨hl,_,cs,c,_,_⟩:=z id _ q;rw [qaj] at hl c;obtain ⟨g,cap,cur,f,C,_⟩:=kjz c (by omega);have hK:id∈st.ids/\a.eval X=ψ.val id:=by
   generalize a.eval X=u at l;cases l with
   | row hK B h1 hv=>exact ⟨hK,hv hl.symm⟩
  refine kaf (w':=w) (v := .pointer (some ⟨g,i.toNat,none⟩)) ?_ ⟨kag _, .ref hK.1 (by omega) rfl fun _=>⟨g,by rw [f];rfl,rfl⟩⟩;have m:i<(xs.length:Int):=by omega
  simp [execOp,ho,hK.2,f,b,Instr.indexAt,asIntOf,run_underlying (p.slice hk),h0,m,j.size,s,kbl]
 ·cases h
theorem kdc {α:Type} {enc:α->FV} {xs:List α} {x:α} {i:Int} {X:Operand} {n:Nat} (h:idx xs i=some x) (r:TOk P T) (ho:o.op = .load t X) (k:kad T t=some d) (hk:d.kind.agg=false) (s:st.eval X = .ref id n i.toNat) (l:kab st.heap id=some (.frow t 1 (xs.map enc))) (hn:n=xs.length) (m:∀ y,(enc y).cells=[enc y]):NStep P o st (.fz (enc x)):=by
 intro ψ S a w ht z;subst hn;have k:=r.get k;unfold idx at h;split at h
 ·rename_i h0;have A:i.toNat<xs.length:=(qd.1 h).1;have f:=Sim.eval_tmps ht X;rw [s] at f;obtain ⟨hl,_,cs,c,_,hr⟩:=z id _ l;rw [qaj] at hl c;obtain ⟨g,cap,cur,e,F,B,hc2,C,D⟩:=kjz c (by omega);have hp:a.eval X = .pointer (some ⟨g,i.toNat,none⟩):=by
   generalize a.eval X=u at f;cases f with
   | ref hK E h1 hv=>
    obtain ⟨b,p,rfl⟩:=hv hl.symm;rw [e] at p;simp only [kav,qb] at p;rw [p]
  have q:cs[i.toNat]?=some (cs[i.toNat]'(by rw [c.1];omega)):=qa _;have j:w.cell? ⟨g,i.toNat,none⟩=some (cs[i.toNat]'(by rw [c.1];omega)):=by rw [e] at c;rw [World.ownsRow.cellAt c i.toNat (by omega),q]
  refine kaf (w':=w) (v:=cs[i.toNat]'(by rw [c.1];omega)) ?_ ⟨kag _, .fz ((hr i.toNat (enc x) 0 _ (enc x) (by rw [qr,h];rfl) (by simp) (by rw [m];rfl)).mono fun _ h => .inl h)⟩;simp [execOp,ho,hp,Instr.loadAt,Instr.sureAddr,loadVar,k.isAgg,hk,j]
 ·cases h
theorem kcr {α:Type} {enc:α->FV} {xs:List α} {x y:α} {i:Int} {X Y:Operand} {n:Nat} (h:idx xs i=some x) (hT:TOk P T) (ho:o.op = .store t X Y) (Q:kad T t=some d) (hz:d.size=1) (hx:st.eval X = .ref id n i.toNat) (I:kab st.heap id=some (.frow t 1 (xs.map enc))) (hn:n=xs.length) (hy:st.eval Y = .fz (enc y))
  (D:∀ y,∃ u,enc y = .atom u/\u.oneCell'=true):StepA P o st .any ((id, .frow t 1 ((xs.set i.toNat y).map enc))::st.heap) st.ids:=by
 subst hn;intro F S0 N0 ψ S a w E;have Q:=hT.get Q;unfold idx at h;split at h
 ·rename_i h0;have ac:i.toNat<xs.length:=(qd.1 h).1;have f:=E.core;obtain ⟨ad,⟨hl,J,cs,l,ae,hr⟩,R⟩:=f.obj id _ I;rw [qaj] at hl l;have hcl:cs.length=xs.length:=by rw [l.1,Nat.mul_one]
  obtain ⟨g,cap,cur,m,hg,U,hc2,V,Z⟩:=kjz l (by omega);have G:=E.eval X;rw [hx] at G;have hp:a.eval X = .pointer (some ⟨g,i.toNat,none⟩):=by
   generalize a.eval X=u at G;cases G with
   | ref hK af h1 hv=>
    obtain ⟨b,K,rfl⟩:=hv hl.symm;rw [m] at K;simp only [kav,qb] at K;rw [K]
  obtain ⟨u,hu,H⟩:=D y;have p:=E.eval Y;rw [hy,hu] at p;have p:=p.atom;have L:u.cells=#[u]:=by cases u <;> first | rfl | cases H
  have hst:=run_storeCells_at (P:=P) g i.toNat t [u] 0 cur w hg (by simp;omega) (fun v hv=>by simp at hv;rw [hv];exact H);obtain ⟨new,s⟩:∃ new:Array Value,new=(cur.toList.take (i.toNat+0)++[u]++cur.toList.drop (i.toNat+0+[u].length)).toArray:=⟨_,rfl⟩;rw [<- s] at hst;have M:new.toList=cur.toList.set i.toNat u:=by rw [s,List.set_eq_take_append_cons_drop,qq (by simp;omega)];simp
  have aa:new.size=cap:=by rw [<- qas,M,qbc,qas,V]
  have A:∀ k,k<w.heap.size->¬ Blk (ψ.val id) k->(w.setRow g new).heap[k]?=w.heap[k]?:=fun k _ hk=>kgy g new k fun e=>hk (.of (by rw [m,e];rfl));have ag:(w.setRow g new).heap.size=w.heap.size:=by simp [World.setRow]
  have B:ψ.set id xs.length (ψ.val id)=ψ:=by
   unfold Env.set;congr 1
   ·funext j;split;rename_i N;rw [N,hl]
    ·rfl
   ·funext j;split;rename_i N;rw [N]
    ·rfl
  have hk:Same S w (w.setRow g new):=fun k hk hl=>A k hl fun e=>(R k e).1 hk;obtain ⟨c1,c2,c3⟩:=f.upd (n:=xs.length) (v:=ψ.val id) (w':=w.setRow g new) (ob' := .frow t 1 ((xs.set i.toNat y).map enc)) I (by omega) A (.inr ⟨hl,rfl⟩) (fun b K => .inl K) (by
   rw [B];refine ⟨by simp [hl],J,cs.set i.toNat u,?_,fun z r=>?_,fun k z j v q r hv C=>?_⟩;rw [qaj,qbc,m];refine ⟨by rw [qbc,hcl,Nat.mul_one], .inr ⟨g,cap,new,rfl,qar _,kfa g hg,U,hc2,by rw [aa,Nat.mul_one],?_⟩⟩;rw [Nat.mul_one,M,List.take_set,Z];obtain ⟨z0,_,rfl⟩:=qaf.1 r;obtain ⟨u0,h1,h2⟩:=D z0;rw [h1];exact ⟨rfl,fun q C=>by simp [FV.cells] at C;subst C;exact h2⟩
   ·obtain ⟨z0,c,rfl⟩:∃ z0,(xs.set i.toNat y)[k]?=some z0/\enc z0=z:=(by rw [qr,qp] at r;exact r);obtain ⟨u0,h1,h2⟩:=D z0;have N:j=0:=(by rw [h1] at C;have:=(qd.1 C).1;simp [FV.cells] at this;exact this);subst N;have ab:q=enc z0:=(by rw [h1] at C ⊢; simp [FV.cells] at C;exact C.symm);subst ab;simp only [Nat.mul_one,Nat.add_zero] at hv;by_cases O:i.toNat=k;subst O;rw [List.getElem?_set_self (by omega)] at hv c;injection hv with hv;injection c with c;subst hv c;rw [hu];exact .atom H
    ·rw [List.getElem?_set_ne O] at hv c;exact (hr k (enc z0) 0 v (enc z0) (by rw [qr,c];rfl) (by simpa using hv) (by rw [h1];rfl)).keep hk)
  rw [B] at c1;refine kf4 (w':=w.setRow g new) ?_ ⟨ψ,S,c1, .any,⟨rfl,rfl,rfl,by omega,c3⟩,Ext.refl,fun _ h=>h,fun _ h=>h,c2⟩;simp only [execOp,ho,Instr.storeAt,hp,p,Instr.sureAddr,storeVar,Q.size,Sem.run_bind,Sem.run_pure,Result.andThen_ok];rw [qh (by rw [L,hz];simp)];simp [L,hst]
 ·cases h
end
def rel1 (id n:Nat):AV->AV
 | .row k m=>bif Nat.beq k id then .row k n else .row k m
 | y=>y
def relG (id n:Nat):AV->AV
 | .agg cs => .agg (cs.map (rel1 id n))
 | .fn f cs => .fn f (cs.map (rel1 id n))
 | y=>rel1 id n y
def relT (id n:Nat):AV->AV
 | .tup cs => .tup (cs.map (relG id n))
 | y=>relG id n y
def relO (id n:Nat):AObj->AObj
 | .box e cs => .box e (cs.map (rel1 id n))
 | y=>y
def kqt (id:Nat) (st:St):List Nat:=st.tmps.flatMap (fun p=>kj8 id p.2)++st.heap.flatMap (fun p=>klv id p.2)
def ksu (id n:Nat) (st:St):St:={ dfr:=st.dfr,n:=st.n,tmps:=st.tmps.map (fun p=>(p.1,relT id n p.2)),heap:=st.heap.map (fun p=>(p.1,relO id n p.2)),ids:=st.ids }
theorem kkf {id n:Nat} {y:AV} (h:∀ m∈kht id y,m=n):rel1 id n y=y:=by
 cases y with
 | row k m=>
  simp only [rel1];cases a:Nat.beq k id with
  | false=>rfl
  | true=>rw [h m (by simp [kht,a])];rfl
 | _=>rfl
theorem kf6 {α:Type} {f:α->α} {l:List α} (h:∀ x∈l,f x=x):l.map f=l:=by rw [List.map_congr_left h];simp
theorem kj4 {id n:Nat} {y:AV} (h:∀ m∈kn2 id y,m=n):relG id n y=y:=by
 cases y with
 | agg cs=>exact congrArg AV.agg (kf6 fun x a=>kkf fun m hm=>h m (qa2.2 ⟨x,a,hm⟩))
 | fn f cs=>exact congrArg (AV.fn f) (kf6 fun x a=>kkf fun m hm=>h m (qa2.2 ⟨x,a,hm⟩))
 | row k m=>exact kkf (y := .row k m) h
 | _=>rfl
theorem k0k {id n:Nat} {y:AV} (h:∀ m∈kj8 id y,m=n):relT id n y=y:=by
 cases y with
 | tup cs=>exact congrArg AV.tup (kf6 fun x a=>kj4 fun m hm=>h m (qa2.2 ⟨x,a,hm⟩))
 | agg cs=>exact kj4 (y := .agg cs) h
 | fn f cs=>exact kj4 (y := .fn f cs) h
 | row k m=>exact kj4 (y := .row k m) h
 | _=>rfl
theorem kz6 {id n:Nat} {y:AObj} (h:∀ m∈klv id y,m=n):relO id n y=y:=by
 cases y with
 | box e cs=>exact congrArg (AObj.box e) (kf6 fun x a=>kkf fun m hm=>h m (qa2.2 ⟨x,a,hm⟩))
 | _=>rfl
theorem kdq {st:St} (id:Nat) {k m n:Nat} (h:kqt id st=List.replicate k m) (b:m=n):LeSt st (ksu id n st):=by
 have a:∀ x∈kqt id st,x=n:=fun x c=>by rw [h] at c;rw [(List.mem_replicate.1 c).2,b]
 have:ksu id n st=st:=by
  unfold ksu;have h1:st.tmps.map (fun p=>(p.1,relT id n p.2))=st.tmps:=kf6 fun p hp=>by rw [k0k fun m hm=>a m (qad.2 (.inl (qa2.2 ⟨p,hp,hm⟩)))]
  have d:st.heap.map (fun p=>(p.1,relO id n p.2))=st.heap:=kf6 fun p hp=>by rw [kz6 fun m hm=>a m (qad.2 (.inr (qa2.2 ⟨p,hp,hm⟩)))]
  rw [h1,d]
 rw [this];exact LeSt.refl
end Go.Proofs.YtpnnpkmjohkgiaaGreatDoor
