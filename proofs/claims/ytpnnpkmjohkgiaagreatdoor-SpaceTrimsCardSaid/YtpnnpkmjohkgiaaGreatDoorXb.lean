import Derived.Test.YtpnnpkmjohkgiaaGreatDoorXa
set_option linter.all false
namespace Go.Proofs.YtpnnpkmjohkgiaaGreatDoor
open Go Go.RowKit
def srcH (T:List (TypeId×TD)) (H:Nat->Option AObj) (sz:Nat) (tx:TypeId) (y:AV):Option (Nat×List AV):=match kad T tx with
 | some d=>match d.kind,y with
  | .slice _,y=>match rdH H sz y with
   | some (n,_,ys)=>some (n,ys)
   | none=>none
  | .str, .fz (.atom (.string s))=>bif Nat.beq sz 1 then some (s.size,(byteCells s).map fun v => .fz (.atom v)) else none
  | _,_=>none
 | none=>none
abbrev srcE (T:List (TypeId×TD)) (sz:Nat) (st:St) (tx:TypeId) (y:AV):Option (Nat×List AV):=srcH T (kab st.heap) sz tx y
section
variable {P:Program} {F S0:Nat->Prop} {N0:Nat} {w w':World} {S S':Nat->Prop} {ψ ψ':Env} {K:Nat->Prop} {T:List (TypeId×TD)} {o:Oper} {a:Act} {st:St} {t tx:TypeId} {d:TD} {id:Nat}
theorem kkc (j:TOk P T) {sz n:Nat} {v:Value} {y:AV} {ys:List AV} (hv:RV ψ (·∈st.ids) S w v y) (p:∀ id o,kab st.heap id=some o->ObR ψ (·∈st.ids) S w id o) (h:srcE T sz st tx y=some (n,ys)):
  ∃ news,Src P sz tx v n news w/\CR ψ (·∈st.ids) S w news ys:=by
 unfold srcE srcH at h;split at h
 ·rename_i d k;split at h
  ·rename_i e hk;split at h
   ·rename_i m c zs hr;simp only [qb,qj] at h;obtain ⟨rfl,rfl⟩:=h;obtain ⟨A,cap,rfl,h1,r,_,cs,b,q,l⟩:=kg2 hv p hr;have a:=(j.get k).slice hk;cases A with
    | none=>
     obtain ⟨rfl,rfl⟩:=l;exact ⟨[],Src.ofNil w a cap,b⟩
    | some ad=>exact ⟨cs,Src.ofSlice w a ad _ cap cs (by rw [b.1,q]) l b.one,b⟩
   ·cases h
  ·rename_i s hk;cases g:Nat.beq sz 1 with
   | false=>rw [g] at h;cases h
   | true=>
    rw [g] at h;simp only [qe,qb,qj] at h;obtain ⟨rfl,rfl⟩:=h;obtain rfl:=qf g;rw [hv.atom];refine ⟨byteCells s,Src.ofString w ((j.get k).str hk) s,by simp,fun x f=>?_,fun i v x hv f=>?_⟩;obtain ⟨u,a,rfl⟩:=qaf.1 f;unfold byteCells at a;obtain ⟨c,_,rfl⟩:=qaf.1 a;rfl
    ·rw [qr,qp] at f;obtain ⟨u,a,rfl⟩:=f;rw [hv] at a;injection a with a;subst a;have:=qm hv;unfold byteCells at this;obtain ⟨c,_,rfl⟩:=qaf.1 this;exact .fz (.atom rfl)
  ·cases h
 ·cases h
theorem kk0 {t ty e:TypeId} {i:TypeInfo} (ht:P.underlying t=some (.slice e)) (hi:P.info? e=some i) {b off sLen sCap:Nat} {x:Value} {n:Nat} {news:List Value} (hs:Src P i.size tx x n news w)
  (a:sLen+n<=sCap) {w1:World} (hst:(storeCells ⟨b,off+sLen*i.size,none⟩ news).run P w = .ok () w1):
  (Builtin.append_ #[t,tx] ty #[.slice (some ⟨b,off,none⟩) sLen sCap,x]).run P w = .ok (.slice (some ⟨b,off,none⟩) (sLen+n) sCap) w1:=by
 rcases hs.kind with ⟨e',hk⟩ | hk <;> simp [Builtin.append_,run_underlying ht,run_underlying hk,sizeOf,typeInfo,hi,hs.len,a,hs.cells,kbl,hst]
theorem kk6 {t ty e:TypeId} {de:TD} (ht:P.underlying t=some (.slice e)) (k:TdOk P e de) (l:de.zero.length=de.size) {A:Option Addr} {m cap n:Nat} {olds news:List Value} {xs ys:List AV} {x:Value}
  (hc:CR ψ K S w olds xs) (hl:xs.length=m*de.size) (hA:kpp w m olds A) (hs:Src P de.size tx x n news w) (hy:CR ψ K S w news ys) (C:cap<m+n) (D:(m+n)*(de.bytes+1)<=140737488355328):
  ∃ gc cur,(Builtin.append_ #[t,tx] ty #[.slice A m cap,x]).run P w = .ok (.slice (some ⟨w.heap.size,0,none⟩) (m+n) gc) (w.drew.alloc (.cells cur e))/\cur.size=gc*de.size/\m+n<=gc/\gc<=9223372036854775807/\(xs++ys).length=(m+n)*de.size /\
   (∀ x∈xs++ys,x.single=true)/\∀ (i:Nat) (v:Value) (x:AV),cur[i]?=some v->(xs++ys)[i]?=some x->RV ψ K S w v x:=by
 obtain ⟨⟨i,z,hi,c,d,o,p⟩,_⟩:=k;have q:z.cells.size=i.size:=by rw [<- qas,p,l,c]
 rw [<- c] at hs hl ⊢;rw [Nat.mul_add,Nat.mul_one] at D;have f:(Builtin.firstCells i.size m (.slice A m cap)).run P w.drew = .ok olds.toArray w.drew:=by
  cases A with
  | none=>
   obtain ⟨rfl,rfl⟩:=hA;exact run_firstCells_none w.drew i.size 0 0 cap
  | some ad=>exact run_firstCells_some w.drew i.size m ad m cap olds (by rw [hc.1,hl]) fun j v r=>by simpa using hA j v r
 have s:=nextslicecap_le C;have g:Builtin.nextslicecap (m+n) cap*i.bytes<=281474976710656:=by have:=qay i.bytes s;rw [Nat.mul_assoc,d] at this;rw [d];omega
 have h:=run_append_grow_src (P:=P) w t tx ty e i z ht hi o A m cap olds f x n news hs C (by omega) g;have u:=grownCap_ge w (m+n) cap e;have B:=grownCap_le_maxLen w (m+n) cap e (by unfold maxLen;omega);have a:=hc.append hy;have b:(xs++ys).length=(m+n)*i.size:=by rw [List.length_append,hl,<- hy.1,hs.newsLen,qa4]
 refine ⟨grownCap w (m+n) cap e,_,h,?_,u,by unfold maxLen at B;omega,b,a.2.1,fun j v y hv hy=>?_⟩;simp only [Array.size_append,List.size_toArray,size_zeroCells,q];rw [a.1,b,<- qa4];congr 1;omega
 ·have r:j<(olds++news).length:=by rw [a.1];exact (qd.1 hy).1
  rw [qa7 (by simpa using r)] at hv;exact a.2.2 j v y (by simpa using hv) hy
theorem ki2 {x y:Operand} {ts:Array TypeId} {v:Value} {w1:World} (ho:o.op = .call { callee := .builtin .append,args:=#[x,y],argTypes:=ts }) (h:(Builtin.append_ ts o.type #[a.eval x,a.eval y]).run P w = .ok v w1):(execOp a.eval o).run P w = .ok (.value v) w1:=by simp only [execOp,ho,resolve,invoke,builtin,Sem.run_bind,Sem.run_pure,Result.andThen_ok,List.map_toArray,qa3,List.map_nil,h]
theorem grow_grow {cur:Array Value} {e:TypeId}:Grow w (w.drew.alloc (.cells cur e)):=Below.step (kth w) (ka7 _ _)
theorem kuc {x y:Operand} {e:TypeId} {de:TD} {m n k:Nat} {xs ys:List AV} (ho:o.op = .call { callee := .builtin .append,args:=#[x,y],argTypes:=#[t,tx] }) (q:TOk P T) (G:kad T t=some d) (hk:d.kind = .slice e) (r:kad T e=some de) (s:0<de.size) (u:de.zero.length=de.size)
  (H:rdSl de.size st (st.eval x)=some (m,some k,xs)) (hy:srcE T de.size st tx (st.eval y)=some (n,ys)) (I:k<m+n) (B:(m+n)*(de.bytes+1)<=140737488355328) (f:st.ids.contains id=false):
  StepA P o st (.bsl id 0 0 (m+n) none) ((id, .xo (.blk 0 e de.size (xs++ys)))::st.heap) (id::st.ids):=by
 have f:id∉st.ids:=by simpa using f
 intro F S0 N0 ψ S a w g;have c:=g.core;have E:=fun id o ho=>(c.obj id o ho).2.1;obtain ⟨A,cap,C,_,_,j,cs,J,K,L⟩:=kg2 (g.eval x) E H;obtain rfl:=j k rfl;obtain ⟨news,l,D⟩:=kkc q (g.eval y) E hy;obtain ⟨gc,cur,p,g1,g2,g3,g4,g5,g6⟩:=kk6 (ty:=o.type) ((q.get G).slice hk) (q.get r) u J K L l D I B;refine kaf (ki2 ho (by rw [C];exact p)) ⟨ψ.set id 0 (.slice (some ⟨w.heap.size,0,none⟩) (m+n) gc),S,?_,?_,Fr.of_grow c.fr grow_grow,kb2 f _ _,fun _ h=>qs _ h,fun _ h=>h,Same.of_grow grow_grow⟩;have M:(m+n)*de.size<=gc*de.size:=qay _ g2;refine c.add grow_grow f (fun b B=>by simp [kav] at B;omega) ⟨kbz _ _,s,w.heap.size,cur,m+n,gc,kar _ _,by simpa using heap_alloc_new w.drew (.cells cur e),g1,g3,by omega,g5,fun i v z hv s=>(g6 i v z hv s).keep (kb2 f _ _) (fun _ h=>qs _ h) (fun _ h=>h) (Same.of_grow grow_grow)⟩
 ·exact .bsl (qv ..) (qar _) rfl fun _=>⟨w.heap.size,gc,by rw [kar];rfl,rfl,g2,g3,rfl,by rw [kar];rfl⟩
theorem ktj {x y:Operand} {e:TypeId} {de:TD} {g off m n k:Nat} {cells ys:List AV} (ho:o.op = .call { callee := .builtin .append,args:=#[x,y],argTypes:=#[t,tx] }) (s:TOk P T) (G:kad T t=some d) (hk:d.kind = .slice e) (u:kad T e=some de)
  (H:st.eval x = .bsl id g off m (some k)) (q:objC st id=some (g,cells)) (hy:srcE T de.size st tx (st.eval y)=some (n,ys)) (hr:m+n<=k) (v:off+m*de.size+ys.length<=cells.length):
  StepA P o st (.bsl id g off (m+n) (some k)) (putC st id (kbj cells (off+m*de.size) ys)) st.ids:=by
 intro F S0 N0 ψ S a w p;have f:=p.core;have D:=fun id o ho=>(f.obj id o ho).2.1;obtain ⟨I,_⟩:=kde D q;have hv:=p.eval x;rw [H] at hv;obtain ⟨hK,b,c,E,A,J,r,j⟩:=kef hv I;simp only [CapR] at j;subst j;obtain ⟨news,l,B⟩:=kkc s (p.eval y) D hy;obtain ⟨b',w1,q1,q2,q3,q4,q5⟩:=km5 (P:=P) f q v B;rw [E] at q1;simp only [qb] at q1;subst q1;obtain ⟨⟨i,z,hi,C,K,L,M⟩,_⟩:=s.get u;rw [<- C] at l q2;refine kaf (ki2 ho (by rw [A];exact kk0 ((s.get G).slice hk) hi l hr q2)) ⟨ψ,S,q3,?_,q4,Ext.refl,fun _ h=>h,fun _ h=>h,q5⟩;exact .bsl hK (by omega) rfl fun _=>⟨b,c,E,rfl,hr,r,rfl⟩
theorem k0e {x y:Operand} {e:TypeId} {de:TD} {g m n:Nat} {cells ys:List AV} (ho:o.op = .call { callee := .builtin .append,args:=#[x,y],argTypes:=#[t,tx] }) (M:TOk P T) (hd:kad T t=some d) (hk:d.kind = .slice e) (N:kad T e=some de) (ab:de.zero.length=de.size)
  (hx:st.eval x = .bsl id g 0 m none) (O:kab st.heap id=some (.xo (.blk g e de.size cells))) (hl:cells.length=m*de.size) (hy:srcE T de.size st tx (st.eval y)=some (n,ys)) (hb:(m+n)*(de.bytes+1)<=140737488355328):
  StepA P o st (.bsl id (g+1) 0 (m+n) none) ((id, .xo (.blk (g+1) e de.size (cells++ys)))::st.heap) st.ids:=by
 intro F S0 N0 ψ S a w I;have l:=I.core;have hO:=fun id o ho=>(l.obj id o ho).2.1;obtain ⟨ac,⟨hg,D,b,cs,n0,cap,h1,h2,h3,h4,h5,h6,h7⟩,ad⟩:=l.obj id _ O;have hv:=I.eval x;rw [hx] at hv;obtain ⟨hK,b',c,J,Q,ae,R,E⟩:=kef hv hg;rw [h1] at J E;simp only [kav,qb] at J;subst J;have af:c=cap:=E.2;rw [af] at Q ae R;obtain ⟨news,q,r⟩:=kkc M (I.eval y) hO hy;have U:CR ψ (·∈st.ids) S w (cs.toList.take cells.length) cells:=⟨by simp;omega,h6,fun i v x hv hx=>by
  rw [qw] at hv;split at hv;exact h7 i v x (by simpa using hv) hx
  ·cases hv⟩
 have fin:∀ (v':Value) (w1:World) (b1 gc:Nat) (new:Array Value),(Builtin.append_ #[t,tx] o.type #[.slice (some ⟨b,0,none⟩) m cap,a.eval y]).run P w = .ok v' w1->v' = .slice (some ⟨b1,0,none⟩) (m+n) gc->w1.heap[b1]?=some (.cells new e (0,0))->new.size=gc*de.size->m+n<=gc->gc<=9223372036854775807 ->
   (cells++ys).length<=new.size->(∀ (i:Nat) (v:Value) (x:AV),new[i]?=some v->(cells++ys)[i]?=some x->RV ψ (·∈st.ids) S w v x)->w.heap.size<=w1.heap.size->(∀ k,k<w.heap.size->k≠b->w1.heap[k]?=w.heap[k]?)->(b1=b\/w.heap.size<=b1)->w1.os=w.os/\w1.tape=w.tape/\w1.output=w.output ->
   kcv P o a w fun v w'=>∃ ψ' S',Core F S0 N0 ((id, .xo (.blk (g+1) e de.size (cells++ys)))::st.heap) st.ids ψ' S' w'/\RV ψ' (·∈st.ids) S' w' v (.bsl id (g+1) 0 (m+n) none)/\Fr F w w'/\Ext (·∈st.ids) ψ ψ'/\(∀ id,id∈st.ids->id∈st.ids)/\(∀ b,S b->S' b)/\Same S w w':=by
  intro v' w1 b1 gc new f K hh ag V X Y hr s Z ah hw;have B:∀ k,k<w.heap.size->¬ Blk (ψ.val id) k->w1.heap[k]?=w.heap[k]?:=fun k hk ai=>Z k hk fun e=>ai (.of (by rw [h1,e];rfl));have L:Same S w w1:=fun k hk hl=>B k hl fun e=>(ad k e).1 hk;have G:Ext (·∈st.ids) ψ (ψ.set id (g+1) v'):=km7 (.inl (by omega));obtain ⟨c1,c2,c3⟩:=l.upd (n:=g+1) (v:=v') (w':=w1) (ob' := .xo (.blk (g+1) e de.size (cells++ys))) O s B (.inl (by omega)) (fun k hk=>by
    rw [K] at hk;have hk:=hk.sl;simp only [kav,qb] at hk;subst hk;rcases ah with rfl | h;exact .inl (.of (by rw [h1];rfl))
    ·exact .inr h)
   ⟨kbz _ _,D,b1,new,m+n,gc,by rw [kar,K],hh,ag,X,Y,fun z D=>(qad.1 D).elim (h6 z) (r.2.1 z),fun i v z hv D=>(hr i v z hv D).keep G (fun _ h=>h) (fun _ h=>h) L⟩
  refine kaf (ki2 ho (by rw [Q];exact f)) ⟨_,S,c1,?_,⟨hw.1,hw.2.1,hw.2.2,s,c3⟩,G,fun _ h=>h,fun _ h=>h,c2⟩;subst K;exact .bsl ac (by rw [kbz];exact qt _) rfl fun _=>⟨b1,gc,by rw [kar];rfl,rfl,V,X,rfl,by rw [kar];rfl⟩
 by_cases p:m+n<=cap
 ·obtain ⟨⟨i,z,hi,H,aj,ak,al⟩,_⟩:=M.get N;have aa:0+m*de.size+news.length<=cs.size:=by rw [q.newsLen,h3,Nat.zero_add,<- qa4];exact qay _ p
  have hst:=run_storeCells_at (P:=P) b (0+m*de.size) e news 0 cs w h2 (by simpa using aa) r.one;simp only [Nat.add_zero] at hst;have f:=kk0 (ty:=o.type) (sCap:=cap) ((M.get hd).slice hk) hi (by rw [H];exact q) p (by rw [H];exact hst);have C:cells.length=0+m*de.size:=by omega
  refine fin _ _ b cap _ f rfl (kfa b h2) ?_ p h4 ?_ (fun j v z hv D=>?_) (by simp [World.setRow]) (fun k _ hk=>kgy b _ k hk) (.inl rfl) ⟨rfl,rfl,rfl⟩;simp;omega;simp [<- r.1];omega
  ·have hc2:=U.append r;rw [C] at hc2;refine hc2.2.2 j v z ?_ D;have hj:j<(List.take (0+m*de.size) cs.toList++news).length:=(by rw [hc2.1];exact (qd.1 D).1);simp only [List.getElem?_toArray] at hv;rw [qy hj] at hv;exact hv
 ·obtain ⟨gc,cur,f,g1,g2,g3,g4,g5,g6⟩:=kk6 (ty:=o.type) (A:=some ⟨b,0,none⟩) (m:=m) (cap:=cap) ((M.get hd).slice hk) (M.get N) ab U hl (fun j u hu=>by
   rw [kbl];rw [qw] at hu;split at hu;exact kke h2 (by simpa using hu)
   ·cases hu) q r (by omega) hb
  have V:(m+n)*de.size<=gc*de.size:=qay _ g2;exact fin _ _ w.heap.size gc cur f rfl (by simpa using heap_alloc_new w.drew (.cells cur e)) g1 g2 g3 (by omega) g6 grow_grow.size (fun k hk _=>grow_grow.block k hk) (.inr (qt _)) ⟨rfl,rfl,rfl⟩
theorem k15 {x y:Operand} {e:TypeId} {de:TD} {m:Nat} {c:Option Nat} {xs ys:List AV} (ho:o.op = .call { callee := .builtin .append,args:=#[x,y],argTypes:=#[t,tx] }) (k:TOk P T) (r:kad T t=some d) (hk:d.kind = .slice e) (l:kad T e=some de)
  (s:rdSl de.size st (st.eval x)=some (m,c,xs)) (hy:srcE T de.size st tx (st.eval y)=some (0,ys)):NStep P o st (st.eval x):=by
 intro ψ S a w ht q;obtain ⟨A,cap,f,n,_⟩:=kg2 (Sim.eval_tmps ht x) q s;obtain ⟨news,b,u⟩:=kkc k (Sim.eval_tmps ht y) q hy;obtain rfl:news=[]:=List.eq_nil_of_length_eq_zero (by rw [b.newsLen,Nat.zero_mul]);obtain ⟨⟨i,z,hi,p,v,B,C⟩,_⟩:=k.get l;rw [<- p] at b;have g:=Sim.eval_tmps ht x;rw [f] at g;have D:=(k.get r).slice hk;have h:(Builtin.append_ #[t,tx] o.type #[.slice A m cap,a.eval y]).run P w = .ok (.slice A m cap) w:=by rcases b.kind with ⟨e',j⟩ | j <;> cases A <;> simp [Builtin.append_,run_underlying D,run_underlying j,sizeOf,typeInfo,hi,b.len,n,b.cells,storeCells]
 exact kaf (ki2 ho (by rw [f];exact h)) ⟨kag _,g.here⟩
end
end Go.Proofs.YtpnnpkmjohkgiaaGreatDoor
