import Derived.Test.YtpnnpkmjohkgiaaGreatDoorHd
import Derived.Laws.StructEq
import Derived.Laws.BytesString
import Derived.Lib.ConvBytes
import Derived.Deep.AppendSrc
import Derived.Lib.Builder
import Derived.Lib.AppendStr
import Derived.Lib.UnsafeStr
set_option linter.all false
namespace Go.Proofs.YtpnnpkmjohkgiaaGreatDoor
open Go Go.RowKit
def toBA (xs:List Int):BA:=xs.foldl (fun r n=>r.push (UInt8.ofNat n.toNat)) ByteArray.empty
section
variable {P:Program} {F S0:Nat->Prop} {N0:Nat} {w w':World} {S S':Nat->Prop} {ψ:Env} {K:Nat->Prop} {T:List (TypeId×TD)} {o:Oper} {a:Act} {st:St} {t:TypeId} {d:TD} {id:Nat}
theorem kzc {sr:TypeId} {x:Operand} {k k':IntKind} {n:Int} {ds:TD} (b:TOk P T) (c:o.op = .convert sr t x) (hs:kab T sr=some ds) (f:kab T t=some d) (hk:d.kind = .int k) (g:st.eval x = .fz (.atom (.int k' n))):NStep P o st (.fz (.atom (.int k (k.wrap n)))):=by obtain ⟨_,e,h1,_⟩:=b.get hs;obtain ⟨_,e',h,a⟩:=b.get f;rw [hk] at a;cases e' <;> simp only [kai] at a;subst a;exact k6w (ds:=ds) c ⟨_,h1⟩ h g
theorem kvq {sr:TypeId} {x:Operand} {s:BA} {ds:TD} (c:TOk P T) (e:o.op = .convert sr t x) (hs:kab T sr=some ds) (b:ds.kind = .str) (f:kab T t=some d) (hk:d.kind = .str) (g:st.eval x = .fz (.atom (.string s))):NStep P o st (.fz (.atom (.string s))):=by intro ψ S a w ht h;have h1:=Sim.eval_tmps ht x;rw [g] at h1;refine kae (w':=w) (v := .string s) ?_ ⟨kag _, .fz (.atom rfl)⟩;simp [execOp,e,h1.atom,convert,run_underlying ((c.get hs).str b),run_underlying ((c.get f).str hk)]
theorem k0n {n:Nat} {parts:Array (Nat×Operand)} {e:TypeId} {de:TD} {xs:List FV} (X:o.op = .buildSlice t n parts) (Y:TdOk P t d) (hk:d.kind = .slice e) (I:TdOk P e de) (g:0<de.size) (hn:xs.length=n) (T:n*de.size<=16777216)
  (hp:kii de.size 0 (kcp st parts)=some xs) (A:st.ids.contains id=false):kaq P o st (.row id n) ((id, .frow e de.size xs)::st.heap) (id::st.ids):=by
 have A:id∉st.ids:=by simpa using A
 subst hn;intro F S0 N0 ψ S a w J;have ht:=J.tmps;obtain ⟨e1,e2⟩:=kij ht parts;obtain ⟨p1,p2⟩:=knl hp;obtain ⟨vs,C⟩:∃ vs:List Value,vs=parts.toList.map (fun p=>a.eval p.2):=⟨_,rfl⟩;have f:parts.toList.length=xs.length:=by
  have:(kcp st parts).length=xs.length:=by rw [p1];simp
  simpa [kcp] using this
 have D:vs.length=xs.length:=by rw [C];simp at f ⊢; exact f
 have k:∀ (i:Nat) (x:FV),xs[i]?=some x->∃ v p,vs[i]?=some v/\parts.toList[i]?=some p/\p.1=i/\RF S w v x:=fun i x B=>by
  have hi:i<parts.toList.length:=by rw [f];exact (qg.1 B).1
  have Z:(kcp st parts)[i]?=some (i, .fz x):=by rw [p1];simp [B]
  have E:parts.toList[i]?=some parts.toList[i]:=qa hi;have L:(parts.map fun (i,x)=>(i,a.eval x)).toList[i]?=some (parts.toList[i].1,a.eval parts.toList[i].2):=by simp [E]
  obtain ⟨r1,r2⟩:=e2 i _ _ L Z;exact ⟨a.eval parts.toList[i].2,parts.toList[i],by rw [C,qv,E];rfl,E,r1,r2.inv⟩
 have M:(parts.map fun (i,x)=>(i,a.eval x)).toList=(vs.zipIdx 0).map (fun x=>(x.2,x.1)):=by
  apply List.ext_getElem?;intro i;by_cases hi:i<xs.length;obtain ⟨v,p,h1,U,h3,_⟩:=k i xs[i] (qa hi);have:v=a.eval p.2:=(by rw [C,qv,U] at h1;simpa using h1.symm);simp only [Array.toList_map,qv,List.getElem?_zipIdx,h1,U,qa1,Nat.zero_add];rw [this,h3]
  ·rw [qax (by simp at f ⊢; omega),qax (by simp [D];omega)]
 have c:∀ v∈vs,v.cells.size=de.size:=fun v hv=>by obtain ⟨i,hi,rfl⟩:=qac.1 hv;obtain ⟨v,p,h1,_,_,N⟩:=k i xs[i] (qa (by omega));rw [qa hi] at h1;injection h1 with h1;rw [h1,(N.cells (p2 _ (qs _)).2).1,(p2 _ (qs _)).1]
 obtain ⟨z,O,aa⟩:=I.zero (P:=P) (w:=w);obtain ⟨cells,hcl⟩:∃ cells:Array Value,cells=(vs.flatMap fun v=>v.cells.toList).toArray:=⟨_,rfl⟩;have K:(Instr.buildSlice t xs.length (parts.map fun (i,x)=>(i,a.eval x))).run P w = .ok (.slice (some ⟨w.heap.size,0,none⟩) xs.length xs.length) (w.alloc (.cells cells e)):=by
  have Q:¬ xs.length*de.size > 2 ^ 24:=by omega
  have m:∀ c0:Array Value,xs.length*de.size=c0.size->Instr.fill (fun i=>some (i*de.size,de.size)) c0 (parts.map fun (i,x)=>(i,a.eval x)).toList=some cells:=fun c0 R=>by rw [M,Great.fill_whole g vs c0 c (by rw [D];exact R),hcl]
  unfold Instr.buildSlice;rw [Sem.run_bind,run_underlying (Y.slice hk),Result.andThen_ok];simp only [Sem.run_bind,I.size,Result.andThen_ok,ql Q];by_cases h0:xs.length*de.size=0
  ·simp only [qq h0,Sem.run_bind,Sem.run_pure,Result.andThen_ok];rw [m];rfl
   ·simp
  ·simp only [ql h0,Sem.run_bind,O,Result.andThen_ok,Sem.run_pure];rw [m];rfl
   ·simp
 have q:cells.toList.length=xs.length*de.size:=by
  rw [hcl];have:∀ l:List Value,(∀ v∈l,v.cells.size=de.size)->(l.flatMap fun v=>v.cells.toList).length=l.length*de.size:=fun l=>by
   induction l with
   | nil=>intro _;simp
   | cons v l ih=>
    intro h;rw [List.flatMap_cons,List.length_append,ih fun u hu=>h u (qu _ hu),qas,h v (q9 ..),List.length_cons,Nat.succ_mul,Nat.add_comm]
  simpa [D] using this vs c
 have r:=J.core;have G:Grow w (w.alloc (.cells cells e)):=kbc _ _;refine kae (w':=w.alloc (.cells cells e)) (v := .slice (some ⟨w.heap.size,0,none⟩) xs.length xs.length) ?_ ⟨ψ.set id xs.length (.slice (some ⟨w.heap.size,0,none⟩) xs.length xs.length),S,?_,?_,kgj _ r.fr,kcw A _ _,fun _ h=>qu _ h,fun _ h=>h,Same.of_grow G⟩;have s:=K;simp only [execOp,X,Sem.run_bind];rw [show (parts.map fun (i,x)=>(i,a.eval x))=parts.map (fun x=>(x.1,a.eval x.2)) from rfl] at s;simp [s]
 ·refine r.add G A (fun b T=>by simp [ka1] at T;omega) ⟨kcs _ _,g,cells.toList,?_,fun x B=>p2 x B,fun i x j v y B hv hy=>?_⟩
  ·rw [kat];refine ⟨q, .inr ⟨w.heap.size,xs.length,cells,rfl,qag _,heap_alloc_new w _,qy _,?_,by simpa using q,?_⟩⟩;have:xs.length*1<=xs.length*de.size:=Nat.mul_le_mul_left _ g;unfold maxLen;omega
   ·rw [<- q,List.take_length]
  ·obtain ⟨u,p,h1,_,_,N⟩:=k i x B;have V:j<de.size:=(by have:=(qg.1 hy).1;rw [(p2 x (qt B)).1] at this;exact this);have H:=Great.flat_get g vs c (i*de.size+j);rw [show (i*de.size+j) / de.size=i by rw [Nat.mul_comm,Nat.mul_add_div g,Nat.div_eq_of_lt V];omega,show (i*de.size+j) % de.size=j by rw [Nat.mul_comm,Nat.mul_add_mod,Nat.mod_eq_of_lt V],h1] at H;simp only [qb] at H;rw [hcl] at hv;simp only [] at hv;rw [H] at hv;have:=(N.cells (p2 x (qt B)).2).2.1 j v y (by simpa using hv) hy;exact this.keep (Same.of_grow G)
 ·exact .row (q9 ..) (by rw [kcs];exact qy _) rfl fun _=>(kat _ _).symm
theorem k22 {α:Type} {enc:α->FV} {n:Nat} {parts:Array (Nat×Operand)} {e:TypeId} {de:TD} {xs:List α} (c:TOk P T) (f:o.op = .buildSlice t n parts) (g:kab T t=some d) (hk:d.kind = .slice e) (a:kab T e=some de) (h:Nat.ble 1 de.size=true) (hn:xs.length=n) (i:Nat.ble (n*de.size) 16777216=true:=by kernel_rfl) (hp:kii de.size 0 (kcp st parts)=some (xs.map enc):=by kernel_rfl) (b:st.ids.contains id=false:=by kernel_rfl):kaq P o st (.row id xs.length) ((id, .frow e de.size (xs.map enc))::st.heap) (id::st.ids):=by have:=k0n (id:=id) f (c.get g) hk (c.get a) (qn h) (by simpa using hn) (qn i) hp b;rw [<- hn] at this;exact this
end
section
variable {P:Program} {F S0:Nat->Prop} {N0:Nat} {w w':World} {S S':Nat->Prop} {ψ:Env} {K:Nat->Prop} {T:List (TypeId×TD)} {o:Oper} {a:Act} {st:St} {t:TypeId} {d:TD} {id:Nat}
theorem krs {x:Operand} {e e2:TypeId} {size n:Nat} {xs:List FV} (k:TOk P T) (l:o.op = .call { callee := .builtin .len,args:=#[x],argTypes:=#[t] }) (m:kab T t=some d) (hk:d.kind = .slice e2) (p:st.eval x = .row id n) (i:kaa st.heap id=some (.frow e size xs)) (c:n=xs.length):
  NStep P o st (.fz (.atom (.int .i64 n))):=by
 intro ψ S a w j q;have h0:=Sim.eval_tmps j x;rw [p] at h0;obtain ⟨k0,r,cs,f,_⟩:=q id _ i;have hv:∃ A cap,a.eval x = .slice A n cap:=by
  generalize a.eval x=u at h0;cases h0 with
  | row hK hn h1 hv=>
   obtain rfl:=hv (by rw [k0,c]);rcases f.2 with ⟨b,h⟩ | ⟨g,cap,cur,b,_⟩;exact ⟨none,0,by rw [b,c,h]⟩
   ·exact ⟨some ⟨g,0,none⟩,cap,by rw [b,c]⟩
 obtain ⟨A,cap,hv⟩:=hv;refine kae (w':=w) (v := .int .i64 n) ?_ ⟨kag _, .fz (.atom rfl)⟩;simp [execOp,l,resolve,invoke,builtin,Builtin.len_,run_underlying ((k.get m).slice hk),hv,goInt]
theorem kk8 {s:Value} {size m:Nat} {zs:List FV} (hs:RF S w s (.lst size m zs)):∃ A cap news,s = .slice A m cap/\m=zs.length/\m<=cap/\cap<=9223372036854775807/\news.length=zs.length*size/\(∀ u∈news,u.oneCell'=true)/\RowR S w size zs news/\ElR size zs /\
  ((A=none/\zs=[])\/(zs=[]/\∃ ad,A=some ad)\/∃ ad,A=some ad/\∀ j u,news[j]?=some u->w.cell? (ad.add j)=some u):=by
 obtain ⟨A,cap,css,rfl,rfl,hc,hm,k,ha,hl,hr⟩:=hs.lst_inv;have a:ElR size zs:=fun x l=>by obtain ⟨i,hi,rfl⟩:=qac.1 l;exact (hl i _ (qa hi)).2
 by_cases e:zs=[]
 ·subst e;refine ⟨A,cap,[],rfl,rfl,hc,hm,by simp,(fun u h=>by cases h),(fun i x j v y h=>by simp at h),a,?_⟩;cases A with
  | none=>exact .inl ⟨rfl,rfl⟩
  | some ad=>exact .inr (.inl ⟨rfl,ad,rfl⟩)
 ·obtain ⟨y0,ys,rfl⟩:∃ y0 ys,zs=y0::ys:=by
   cases zs with
   | nil=>exact absurd rfl e
   | cons y ys=>exact ⟨y,ys,rfl⟩
  obtain ⟨b,off,rfl,_,_⟩:=ha 0 y0 rfl;obtain ⟨news,hn,d,p⟩:=krg (b:=b) (w:=w) (size:=size) (Q:=fun c y=>(∀ j v z,c[j]?=some v->y.cells[j]?=some z->RF S w v z)/\(∀ u∈c,u.oneCell'=true)) (y0::ys) off fun i y hy=>by obtain ⟨b',o',hA,_,d⟩:=ha i y hy;injection hA with hA;injection hA with e1 e2;subst e1 e2;obtain ⟨l1,l2,l3⟩:=hl i y hy;refine ⟨css i,d,l1,fun j v z hv k=>hr i y j v z hy hv k,fun u n=>?_⟩;obtain ⟨j,f,rfl⟩:=qac.1 n;have g:j<y.cells.length:=(by omega);exact (hr i y j _ _ hy (qa f) (qa g)).one (l3 _ (qs g))
  refine ⟨some ⟨b,off,none⟩,cap,news,rfl,rfl,hc,hm,hn,fun u n=>?_,fun i x j v y l hv hy=>?_,a, .inr (.inr ⟨_,rfl,fun j u h=>by rw [kb2];exact d j u h⟩)⟩;obtain ⟨j,f,rfl⟩:=qac.1 n;have o:j / size<(y0::ys).length:=(by rw [Nat.div_lt_iff_lt_mul k];omega);refine (p (j / size) _ (qa o)).2 _ ?_;rw [qaj];refine ⟨j % size,?_⟩;rw [qw,qq (Nat.mod_lt _ k),qad,show j / size*size+j % size=j by rw [Nat.mul_comm];exact Nat.div_add_mod j size];exact qa f
  ·have f:j<size:=(by have:=(qg.1 hy).1;rw [(a x (qt l)).1] at this;exact this);refine (p i x l).1 j v y ?_ hy;rw [qw,qq f,qad];exact hv
theorem kvp {s:Value} {size m:Nat} {zs:List FV} {e:TypeId} (ht:P.underlying t=some (.slice e)) (hs:RF S w s (.lst size m zs)):∃ news,Src P size t s m news w/\news.length=zs.length*size/\RowR S w size zs news/\ElR size zs:=by
 obtain ⟨A,cap,news,rfl,rfl,h1,g,a,b,c,d,f⟩:=kk8 hs;refine ⟨news,?_,a,c,d⟩;rcases f with ⟨rfl,rfl⟩ | ⟨rfl,ad,rfl⟩ | ⟨ad,rfl,h⟩;have:news=[]:=qan (by simpa using a);subst this;exact Src.ofNil w ht cap;have:news=[]:=qan (by simpa using a);subst this;exact Src.ofSlice w ht ad 0 cap [] (by simp) (fun j u h=>by simp at h) (fun u h=>by cases h)
 ·exact Src.ofSlice w ht ad _ cap news a h b
theorem kzo {s:Value} {size m:Nat} {zs:List FV} (hs:RF S w s (.lst size m zs)):∃ A cap olds,s = .slice A m cap/\m=zs.length/\m<=cap/\cap<=9223372036854775807/\(Builtin.firstCells size m (.slice A m cap)).run P w.drew = .ok olds.toArray w.drew/\olds.length=zs.length*size/\RowR S w size zs olds/\ElR size zs:=by
 obtain ⟨A,cap,news,rfl,rfl,h1,b,a,f,c,d,e⟩:=kk8 hs;refine ⟨A,cap,news,rfl,rfl,h1,b,?_,a,c,d⟩;rcases e with ⟨rfl,rfl⟩ | ⟨rfl,ad,rfl⟩ | ⟨ad,rfl,h⟩;have:news=[]:=qan (by simpa using a);subst this;exact run_firstCells_none w.drew size 0 0 cap;have:news=[]:=qan (by simpa using a);subst this;exact run_firstCells_some w.drew size 0 ad 0 cap [] (by simp) (fun j u h=>by simp at h)
 ·exact run_firstCells_some w.drew size _ ad _ cap news a (by simpa using h)
theorem k08 {x y:Operand} {e:TypeId} {de:TD} {n m:Nat} {xs zs:List FV} (ho:o.op = .call { callee := .builtin .append,args:=#[x,y],argTypes:=#[t,t] }) (hd:TdOk P t d) (hk:d.kind = .slice e) (J:TdOk P e de) (hz:0<de.size) (K:de.zero.length=de.size)
  (L:st.eval x = .lim de.size n xs) (hy:st.eval y = .fz (.lst de.size m zs)\/st.eval y = .lim de.size m zs) (M:zs≠[]) (r:(xs.length+zs.length)*(de.bytes+1)<=140737488355328) (f:st.ids.contains id=false):
  kaq P o st (.row id (xs++zs).length) ((id, .frow e de.size (xs++zs))::st.heap) (id::st.ids):=by
 have f:id∉st.ids:=by simpa using f
 intro F S0 N0 ψ S a w j;have c:=j.core;have k:∃ A,a.eval x = .slice A n n/\RF S w (.slice A n n) (.lst de.size n xs):=by
  have hv:=j.eval x;rw [L] at hv;generalize a.eval x=u at hv;cases hv with
  | lim h=>exact ⟨_,rfl,h⟩
 obtain ⟨A,k,N⟩:=k;have s:RF S w (a.eval y) (.lst de.size m zs):=by
  have hv:=j.eval y;rcases hy with hy | hy;rw [hy] at hv;exact hv.inv
  ·rw [hy] at hv;generalize a.eval y=u at hv;cases hv with
   | lim h=>exact h
 have l:=r;rw [Nat.mul_add,Nat.mul_one] at l;have ht:=hd.slice hk;obtain ⟨⟨i,z,hi,B,O,Q,R⟩,_⟩:=J;have T:z.cells.size=de.size:=by rw [<- qas,R,K]
 obtain ⟨A',cap',olds,hA,U,_,_,C,D,V,E⟩:=kzo (P:=P) N;injection hA with X ae Y;subst X Y;obtain ⟨news,G,Z,aa,H⟩:=kvp (P:=P) ht s;have hm:m=zs.length:=by obtain ⟨_,_,_,_,h,_⟩:=kk8 s;exact h
 have ad:0<zs.length:=List.length_pos_iff.2 M;subst hm;subst U;have I:=run_append_grow_src (P:=P) w t t o.type e i z ht hi Q A xs.length xs.length olds (by rw [B];exact C) (a.eval y) zs.length news (by rw [B];exact G) (by omega) (by omega) (by rw [O];exact growslice_fits (by omega) (by omega));have ab:=grownCap_ge w (xs.length+zs.length) xs.length e;have ac:grownCap w (xs.length+zs.length) xs.length e<=maxLen:=grownCap_le_maxLen w (xs.length+zs.length) xs.length e (by unfold maxLen;omega);have g:Grow w (w.drew.alloc (.cells ((olds++news).toArray++Builtin.zeroCells z.cells (grownCap w (xs.length+zs.length) xs.length e - (xs.length+zs.length))) e)):=
  (krx w).trans (kbc w.drew _)
 have p:(xs++zs).length=xs.length+zs.length:=List.length_append;have q:(olds++news).length=(xs.length+zs.length)*de.size:=by rw [List.length_append,D,Z,qa0]
 refine kae (w':=_) (v := .slice (some ⟨w.heap.size,0,none⟩) (xs.length+zs.length) (grownCap w (xs.length+zs.length) xs.length e)) ?_ ⟨ψ.set id (xs.length+zs.length) (.slice (some ⟨w.heap.size,0,none⟩) (xs.length+zs.length) (grownCap w (xs.length+zs.length) xs.length e)),S,c.add g f (fun b hb=>by simp [ka1] at hb;omega) ⟨by rw [kcs,p],hz,olds++news,?_,?_,?_⟩,?_,Fr.of_grow c.fr g,kcw f _ _,fun _ h=>qu _ h,fun _ h=>h,Same.of_grow g⟩;simp only [execOp,ho,resolve,invoke,builtin,Sem.run_bind,Sem.run_pure,Result.andThen_ok,List.map_toArray,qa2,List.map_nil,k,I]
 ·rw [kat,p];refine ⟨q, .inr ⟨w.heap.size,_,_,rfl,qag _,heap_alloc_new w.drew _,ab,ac,?_,?_⟩⟩;simp only [Array.size_append,List.size_toArray,size_zeroCells,T,q,<- qa0];congr 1;omega
  ·simp only [Array.toList_append];rw [<- q];exact List.take_left
 exact fun x L=>(qao.1 L).elim (E x) (H x);exact (RowR.append hz V aa D E).keep (Same.of_grow g)
 ·rw [p];exact .row (q9 ..) (by rw [kcs];exact qy _) rfl fun _=>(kat _ _).symm
def appN {α:Type} (bytes:Nat) (xs ys:List α):Option (List α):=bif ys.isEmpty then none else app bytes xs ys
theorem k1w {α:Type} {enc:α->FV} {bytes:Nat} {xs ys r:List α} {X Y:Operand} {e:TypeId} {de:TD} {n m:Nat} (h:appN bytes xs ys=some r) (k:TOk P T) (l:o.op = .call { callee := .builtin .append,args:=#[X,Y],argTypes:=#[t,t] }) (p:kab T t=some d) (hk:d.kind = .slice e) (c:kab T e=some de)
  (q:Nat.ble 1 de.size=true) (f:de.zero.length=de.size) (g:de.bytes=bytes) (s:st.eval X = .lim de.size n (xs.map enc)) (hy:st.eval Y = .fz (.lst de.size m (ys.map enc))\/st.eval Y = .lim de.size m (ys.map enc)) (i:st.ids.contains id=false:=by kernel_rfl):
  kaq P o st (.row id r.length) ((id, .frow e de.size (r.map enc))::st.heap) (id::st.ids):=by
 unfold appN at h;cases b:ys.isEmpty with
 | true=>rw [b] at h;cases h
 | false=>
  rw [b] at h;obtain ⟨rfl,a⟩:=kum h;subst g;have j:ys.map enc≠[]:=fun h0=>by have:ys=[]:=(by simpa using h0);rw [this] at b;cases b
  have:=k08 (id:=id) (P:=P) l (k.get p) hk (k.get c) (qn q) f s hy j (by simpa using a) i;rw [<- List.map_append,qat] at this;exact this
theorem kyy {α:Type} {enc:α->FV} {xs ys:List α} {X Y:Operand} {e:TypeId} {de:TD} {n m:Nat} (D:ys.isEmpty=true) (B:TOk P T) (E:o.op = .call { callee := .builtin .append,args:=#[X,Y],argTypes:=#[t,t] }) (F:kab T t=some d) (hk:d.kind = .slice e) (q:kab T e=some de)
  (G:st.eval X = .lim de.size n (xs.map enc)) (hy:st.eval Y = .fz (.lst de.size m (ys.map enc))\/st.eval Y = .lim de.size m (ys.map enc)):NStep P o st (.lim de.size n (xs.map enc)):=by
 intro ψ S a w ht _;have r:ys=[]:=List.isEmpty_iff.1 D;subst r;have f:∃ A,a.eval X = .slice A n n/\RF S w (.slice A n n) (.lst de.size n (xs.map enc)):=by
  have hv:=Sim.eval_tmps ht X;rw [G] at hv;generalize a.eval X=u at hv;cases hv with
  | lim h=>exact ⟨_,rfl,h⟩
 obtain ⟨A,f,s⟩:=f;have j:RF S w (a.eval Y) (.lst de.size m []):=by
  have hv:=Sim.eval_tmps ht Y;rcases hy with hy | hy;rw [hy] at hv;exact hv.inv
  ·rw [hy] at hv;generalize a.eval Y=u at hv;cases hv with
   | lim h=>exact h
 have k:=(B.get F).slice hk;obtain ⟨⟨i,z,hi,x,H,I,J⟩,_⟩:=B.get q;obtain ⟨news,c,y,K,C⟩:=kvp (P:=P) k j;have hm:m=0:=by obtain ⟨_,_,_,_,h,_⟩:=kk8 j;exact h
 subst hm;have g:news=[]:=qan (by simpa using y);subst g;rw [<- x] at c;have l:(Builtin.append_ #[t,t] o.type #[.slice A n n,a.eval Y]).run P w = .ok (.slice A n n) w:=by rcases c.kind with ⟨e',p⟩ | p <;> cases A <;> simp [Builtin.append_,run_underlying k,run_underlying p,sizeOf,typeInfo,hi,c.len,c.cells,storeCells]
 refine kae (w':=w) (v := .slice A n n) ?_ ⟨kag _, .lim (s.mono fun b L => .inl L)⟩;simp only [execOp,E,resolve,invoke,builtin,Sem.run_bind,Sem.run_pure,Result.andThen_ok,List.map_toArray,qa2,List.map_nil,f,l]
end
def fI (x:Int):AV := .fz (eI x)
def fB (x:Bool):AV := .fz (eB x)
def fS (x:BA):AV := .fz (eS x)
end Go.Proofs.YtpnnpkmjohkgiaaGreatDoor
