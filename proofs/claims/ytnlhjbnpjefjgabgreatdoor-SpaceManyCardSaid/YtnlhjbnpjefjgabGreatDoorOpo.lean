import Derived.Test.YtnlhjbnpjefjgabGreatDoorHd
import Derived.Laws.StructEq
import Derived.Laws.BytesString
import Derived.Lib.ConvBytes
import Derived.Deep.AppendSrc
import Derived.Lib.Builder
import Derived.Lib.AppendStr
import Derived.Lib.UnsafeStr
import Derived.MapKept
import Derived.Laws.OwnMore
set_option linter.all false
set_option linter.unusedSectionVars false
namespace Go.Proofs.YtnlhjbnpjefjgabGreatDoor
open Go Go.RowKit
variable [Dr]
def toBA (xs:List Int):BA:=xs.foldl (fun r n=>r.push (UInt8.ofNat n.toNat)) ByteArray.empty
variable {P:Program} {F S0:Nat->Prop} {N0:Nat} {w w':World} {S S':Nat->Prop} {ψ:Env} {K:Nat->Prop} {T:List (TypeId×TD)} {o:Oper} {a:Act} {st:St} {t:TypeId} {d:TD} {id:Nat}
theorem k57 {sr:TypeId} {x:Operand} {k k':IntKind} {n:Int} {ds:TD} (b:TOk P T) (ho:o.op = .convert sr t x) (hs:kac T sr=some ds) (c:kac T t=some d) (hk:d.kind = .int k) (f:st.eval x = .fz (.atom (.int k' n))):NStep P o st (.fz (.atom (.int k (k.wrap n)))):=by obtain ⟨_,e,h1,_⟩:=b.get hs;obtain ⟨_,e',g,a⟩:=b.get c;rw [hk] at a;cases e' <;> simp only [kdd] at a;subst a;exact kab7 ds ho ⟨_,h1⟩ g f
theorem k3c {sr:TypeId} {x:Operand} {s:BA} {ds:TD} (c:TOk P T) (ho:o.op = .convert sr t x) (hs:kac T sr=some ds) (b:ds.kind = .str) (e:kac T t=some d) (hk:d.kind = .str) (f:st.eval x = .fz (.atom (.string s))):NStep P o st (.fz (.atom (.string s))):=by intro ψ S a w ht g;have h1:=Sim.eval_tmps ht x;rw [f] at h1;refine kad w (.string s) ?_ ⟨kaf _, .fz (.atom rfl)⟩;simp [execOp,ho,h1.atom,convert,run_underlying ((c.get hs).str b),run_underlying ((c.get e).str hk)]
theorem kaai {v:Value} {n:Int} (h:RF S w v (eU8 n)):v = .int .u8 n:=h.atom_eq
theorem s_b2s (sr e:TypeId) (x:Operand) (xs:List Int) (ds de:TD) (q:TOk P T) (ho:o.op = .convert sr t x) (hs:kac T sr=some ds) (r:ds.kind = .slice e) (D:kac T e=some de) (s:de.kind = .int .u8) (E:kac T t=some d) (hk:d.kind = .str) (F:kld (st.eval x)=some (xs.map eU8):=by kernel_rfl):NStep P o st (.fz (eS (toBA xs))):=by
 intro ψ S a w ht K;obtain ⟨A,cap,size,n,u,hv,G⟩:=ks0 (Sim.eval_tmps ht x) F;obtain ⟨A',cap',css,i,H,hc,hm,I,ha,hl,hr⟩:=G.lst_inv;have hA:A'=A/\cap'=cap:=by rw [hv] at i;injection i with h1 p J;exact ⟨h1.symm,J.symm⟩
 obtain ⟨rfl,rfl⟩:=hA;obtain ⟨_,e',h1,p⟩:=q.get D;rw [s] at p;cases e' <;> simp only [kdd] at p;subst p;refine kad w (.string (toBA xs)) ?_ ⟨kaf _, .fz (.atom rfl)⟩;have k:(Conv.bytesToString (.slice A' n cap')).run P w = .ok (.string (toBA xs)) w:=by
  cases A' with
  | none=>
   have y:xs=[]:=by
    cases xs with
    | nil=>rfl
    | cons x xs=>obtain ⟨b,o,h,_⟩:=ha 0 (eU8 x) rfl;cases h
   subst y;rfl
  | some ad=>
   refine run_bytesToString w ad n cap' xs ?_;have:=run_loadCells_list (P:=P) w ad (xs.map (Value.int .u8)) fun j v C=>(by simp only [qg,qs] at C;obtain ⟨m,z,rfl⟩:=C;have c:(xs.map eU8)[j]?=some (eU8 m):=(by rw [qg,z];rfl);obtain ⟨b,off,hA,_,B⟩:=ha j _ c;injection hA with hA;subst hA;obtain ⟨l1,l2,l3⟩:=hl j _ c;have hs1:size=1:=(by rw [<- l2];rfl);subst hs1;have f:(css j)[0]?=some ((css j)[0]'(by omega)):=qa _;have:=hr j _ 0 _ (eU8 m) c f rfl;rw [kaai this] at f;have g:=B 0 _ f;rw [ka3];simpa using g);have l:(xs.map (Value.int .u8)).length=n:=(by rw [u];simp);rw [l] at this;exact this
 simp only [execOp,ho,hv,Sem.run_bind];rw [run_convert_bytes_string w sr t e A' n cap' ((q.get hs).slice r) h1 ((q.get E).str hk),k];rfl
theorem k65 {n:Nat} {parts:Array (Nat×Operand)} {e:TypeId} {de:TD} {xs:List FV} (ho:o.op = .buildSlice t n parts) (X:TdOk P t d) (hk:d.kind = .slice e) (I:TdOk P e de) (g:0<de.size) (hn:xs.length=n) (T:n*de.size<=16777216)
  (hp:klh de.size 0 (kb3 st parts)=some xs) (A:st.ids.contains id=false):StepA P o st (.row id n) ((id, .frow e de.size xs)::st.heap) (id::st.ids):=by
 have A:id∉st.ids:=by simpa using A
 subst hn;intro F S0 N0 ψ S a w J;have ht:=J.tmps;obtain ⟨e1,e2⟩:=kli ht parts;obtain ⟨p1,p2⟩:=ks4 hp;obtain ⟨vs,C⟩:∃ vs:List Value,vs=parts.toList.map (fun p=>a.eval p.2):=⟨_,rfl⟩;have f:parts.toList.length=xs.length:=by
  have:(kb3 st parts).length=xs.length:=by rw [p1];simp
  simpa [kb3] using this
 have D:vs.length=xs.length:=by rw [C];simp at f ⊢; exact f
 have k:∀ (i:Nat) (x:FV),xs[i]?=some x->∃ v p,vs[i]?=some v/\parts.toList[i]?=some p/\p.1=i/\RF S w v x:=fun i x B=>by
  have hi:i<parts.toList.length:=by rw [f];exact (qd.1 B).1
  have Y:(kb3 st parts)[i]?=some (i, .fz x):=by rw [p1];simp [B]
  have E:parts.toList[i]?=some parts.toList[i]:=qa hi;have L:(parts.map fun (i,x)=>(i,a.eval x)).toList[i]?=some (parts.toList[i].1,a.eval parts.toList[i].2):=by simp [E]
  obtain ⟨r1,r2⟩:=e2 i _ _ L Y;exact ⟨a.eval parts.toList[i].2,parts.toList[i],by rw [C,qg,E];rfl,E,r1,r2.inv⟩
 have M:(parts.map fun (i,x)=>(i,a.eval x)).toList=(vs.zipIdx 0).map (fun x=>(x.2,x.1)):=by
  apply List.ext_getElem?;intro i;by_cases hi:i<xs.length;obtain ⟨v,p,h1,U,Z,_⟩:=k i xs[i] (qa hi);have:v=a.eval p.2:=(by rw [C,qg,U] at h1;simpa using h1.symm);simp only [Array.toList_map,qg,List.getElem?_zipIdx,h1,U,qai,Nat.zero_add];rw [this,Z]
  ·rw [qaz (by simp at f ⊢; omega),qaz (by simp [D];omega)]
 have c:∀ v∈vs,v.cells.size=de.size:=fun v hv=>by obtain ⟨i,hi,rfl⟩:=qap.1 hv;obtain ⟨v,p,h1,_,_,N⟩:=k i xs[i] (qa (by omega));rw [qa hi] at h1;injection h1 with h1;rw [h1,(N.cells (p2 _ (qaq _)).2).1,(p2 _ (qaq _)).1]
 obtain ⟨z,O,aa⟩:=I.zero (P:=P) (w:=w);obtain ⟨cells,hcl⟩:∃ cells:Array Value,cells=(vs.flatMap fun v=>v.cells.toList).toArray:=⟨_,rfl⟩;have K:(Instr.buildSlice t xs.length (parts.map fun (i,x)=>(i,a.eval x))).run P w = .ok (.slice (some ⟨w.heap.size,0,none⟩) xs.length xs.length) (w.alloc (.cells cells e)):=by
  have Q:¬ xs.length*de.size > 2 ^ 24:=by omega
  have m:∀ c0:Array Value,xs.length*de.size=c0.size->Instr.fill (fun i=>some (i*de.size,de.size)) c0 (parts.map fun (i,x)=>(i,a.eval x)).toList=some cells:=fun c0 R=>by rw [M,Great.fill_whole g vs c0 c (by rw [D];exact R),hcl]
  unfold Instr.buildSlice;rw [Sem.run_bind,run_underlying (X.slice hk),Result.andThen_ok];simp only [Sem.run_bind,I.size,Result.andThen_ok,qq Q];by_cases h0:xs.length*de.size=0
  ·simp only [qt h0,Sem.run_bind,Sem.run_pure,Result.andThen_ok];rw [m];rfl
   ·simp
  ·simp only [qq h0,Sem.run_bind,O,Result.andThen_ok,Sem.run_pure];rw [m];rfl
   ·simp
 have q:cells.toList.length=xs.length*de.size:=by
  rw [hcl];have:∀ l:List Value,(∀ v∈l,v.cells.size=de.size)->(l.flatMap fun v=>v.cells.toList).length=l.length*de.size:=fun l=>by
   induction l with
   | nil=>intro _;simp
   | cons v l ih=>
    intro h;rw [qbk,qaf,ih fun u hu=>h u (qe _ hu),qav,h v (qn ..),qbp,Nat.succ_mul,Nat.add_comm]
  simpa [D] using this vs c
 have r:=J.core;have G:Grow w (w.alloc (.cells cells e)):=kap _ _;refine kad (w.alloc (.cells cells e)) (.slice (some ⟨w.heap.size,0,none⟩) xs.length xs.length) ?_ ⟨ψ.set id xs.length (.slice (some ⟨w.heap.size,0,none⟩) xs.length xs.length),S,?_,?_,kes _ r.fr,kay A _ _,fun _ h=>qe _ h,fun _ h=>h,Same.of_grow G⟩;have s:=K;simp only [execOp,ho,Sem.run_bind];rw [show (parts.map fun (i,x)=>(i,a.eval x))=parts.map (fun x=>(x.1,a.eval x.2)) from rfl] at s;simp [s]
 ·refine r.add G A (fun b T=>by simp [kak] at T;omega) ⟨ka2 _ _,g,cells.toList,?_,fun x B=>p2 x B,fun i x j v y B hv hy=>?_⟩
  ·rw [kaj];refine ⟨q, .inr ⟨w.heap.size,xs.length,cells,rfl,qas _,heap_alloc_new w _,qu _,?_,by simpa using q,?_⟩⟩;have:xs.length*1<=xs.length*de.size:=Nat.mul_le_mul_left _ g;unfold maxLen;omega
   ·rw [<- q,List.take_length]
  ·obtain ⟨u,p,h1,_,_,N⟩:=k i x B;have V:j<de.size:=(by have:=(qd.1 hy).1;rw [(p2 x (ql B)).1] at this;exact this);have H:=Great.flat_get g vs c (i*de.size+j);rw [show (i*de.size+j) / de.size=i by rw [Nat.mul_comm,Nat.mul_add_div g,Nat.div_eq_of_lt V];omega,show (i*de.size+j) % de.size=j by rw [Nat.mul_comm,Nat.mul_add_mod,Nat.mod_eq_of_lt V],h1] at H;simp only [qh] at H;rw [hcl] at hv;simp only [] at hv;rw [H] at hv;have:=(N.cells (p2 x (ql B)).2).2.1 j v y (by simpa using hv) hy;exact this.keep (Same.of_grow G)
 ·exact .row (qn ..) (by rw [ka2];exact qu _) rfl fun _=>(kaj _ _).symm
theorem kow (t:TypeId) (d:TD) (id:Nat) {α:Type} (enc:α->FV) (n:Nat) (parts:Array (Nat×Operand)) (e:TypeId) (de:TD) (xs:List α) (c:TOk P T:=by exact kag) (h:Nat.ble (n*de.size) 16777216=true:=by kernel_rfl) (hp:klh de.size 0 (kb3 st parts)=some (xs.map enc):=by kernel_rfl) (b:st.ids.contains id=false:=by kernel_rfl) (ho:o.op = .buildSlice t n parts:=by kernel_rfl) (f:kac T t=some d:=by kernel_rfl) (hk:d.kind = .slice e:=by kernel_rfl) (a:kac T e=some de:=by kernel_rfl) (g:Nat.ble 1 de.size=true:=by kernel_rfl) (hn:xs.length=n:=by rfl):StepA P o st (.row id xs.length) ((id, .frow e de.size (xs.map enc))::st.heap) (id::st.ids):=by have:=k65 (id:=id) ho (c.get f) hk (c.get a) (qi g) (by simpa using hn) (qi h) hp b;rw [<- hn] at this;exact this
end Go.Proofs.YtnlhjbnpjefjgabGreatDoor
set_option linter.all false
namespace Go.Proofs.YtnlhjbnpjefjgabGreatDoor
open Go Go.RowKit
variable [Dr]
variable {P:Program} {F S0:Nat->Prop} {N0:Nat} {w w':World} {S S':Nat->Prop} {ψ:Env} {K:Nat->Prop} {T:List (TypeId×TD)} {o:Oper} {a:Act} {st:St} {t:TypeId} {d:TD} {id:Nat}
theorem kdi (t:TypeId) (d:TD) (id:Nat) (x:Operand) (e e2:TypeId) (size n:Nat) (xs:List FV) (k:TOk P T:=by exact kag) (ho:o.op = .call { callee := .builtin .len,args:=#[x],argTypes:=#[t] }:=by kernel_rfl) (l:kac T t=some d:=by kernel_rfl) (hk:d.kind = .slice e2:=by rfl) (m:st.eval x = .row id n:=by kernel_rfl) (i:kaa st.heap id=some (.frow e size xs):=by kernel_rfl) (c:n=xs.length:=by simp):
  NStep P o st (.fz (.atom (.int .i64 n))):=by
 intro ψ S a w j p;have h0:=Sim.eval_tmps j x;rw [m] at h0;obtain ⟨k0,q,cs,f,_⟩:=p id _ i;have hv:∃ A cap,a.eval x = .slice A n cap:=by
  generalize a.eval x=u at h0;cases h0 with
  | row hK hn h1 hv=>
   obtain rfl:=hv (by rw [k0,c]);rcases f.2 with ⟨b,h⟩ | ⟨g,cap,cur,b,_⟩;exact ⟨none,0,by rw [b,c,h]⟩
   ·exact ⟨some ⟨g,0,none⟩,cap,by rw [b,c]⟩
 obtain ⟨A,cap,hv⟩:=hv;refine kad w (.int .i64 n) ?_ ⟨kaf _, .fz (.atom rfl)⟩;simp [execOp,ho,resolve,invoke,builtin,Builtin.len_,run_underlying ((k.get l).slice hk),hv,goInt]
theorem kpu {s:Value} {size m:Nat} {zs:List FV} (hs:RF S w s (.lst size m zs)):∃ A cap news,s = .slice A m cap/\m=zs.length/\m<=cap/\cap<=9223372036854775807/\news.length=zs.length*size/\(∀ u∈news,u.oneCell'=true)/\RowR S w size zs news/\ElR size zs /\
  ((A=none/\zs=[])\/(zs=[]/\∃ ad,A=some ad)\/∃ ad,A=some ad/\∀ j u,news[j]?=some u->w.cell? (ad.add j)=some u):=by
 obtain ⟨A,cap,css,rfl,rfl,hc,hm,k,ha,hl,hr⟩:=hs.lst_inv;have a:ElR size zs:=fun x l=>by obtain ⟨i,hi,rfl⟩:=qap.1 l;exact (hl i _ (qa hi)).2
 by_cases e:zs=[]
 ·subst e;refine ⟨A,cap,[],rfl,rfl,hc,hm,by simp,(fun u h=>by cases h),(fun i x j v y h=>by simp at h),a,?_⟩;cases A with
  | none=>exact .inl ⟨rfl,rfl⟩
  | some ad=>exact .inr (.inl ⟨rfl,ad,rfl⟩)
 ·obtain ⟨y0,ys,rfl⟩:∃ y0 ys,zs=y0::ys:=by
   cases zs with
   | nil=>exact absurd rfl e
   | cons y ys=>exact ⟨y,ys,rfl⟩
  obtain ⟨b,off,rfl,_,_⟩:=ha 0 y0 rfl;obtain ⟨news,hn,d,o⟩:=kxv (b:=b) (w:=w) (size:=size) (Q:=fun c y=>(∀ j v z,c[j]?=some v->y.cells[j]?=some z->RF S w v z)/\(∀ u∈c,u.oneCell'=true)) (y0::ys) off fun i y hy=>by obtain ⟨b',o',hA,_,d⟩:=ha i y hy;injection hA with hA;injection hA with e1 e2;subst e1 e2;obtain ⟨l1,l2,l3⟩:=hl i y hy;refine ⟨css i,d,l1,fun j v z hv k=>hr i y j v z hy hv k,fun u hu=>?_⟩;obtain ⟨j,f,rfl⟩:=qap.1 hu;have g:j<y.cells.length:=(by omega);exact (hr i y j _ _ hy (qa f) (qa g)).one (l3 _ (qaq g))
  refine ⟨some ⟨b,off,none⟩,cap,news,rfl,rfl,hc,hm,hn,fun u hu=>?_,fun i x j v y l hv hy=>?_,a, .inr (.inr ⟨_,rfl,fun j u h=>by rw [ka3];exact d j u h⟩)⟩;obtain ⟨j,f,rfl⟩:=qap.1 hu;have n:j / size<(y0::ys).length:=(by rw [Nat.div_lt_iff_lt_mul k];omega);refine (o (j / size) _ (qa n)).2 _ ?_;rw [qbs];refine ⟨j % size,?_⟩;rw [qv,qt (Nat.mod_lt _ k),qae,show j / size*size+j % size=j by rw [Nat.mul_comm];exact Nat.div_add_mod j size];exact qa f
  ·have f:j<size:=(by have:=(qd.1 hy).1;rw [(a x (ql l)).1] at this;exact this);refine (o i x l).1 j v y ?_ hy;rw [qv,qt f,qae];exact hv
theorem kaat {s:Value} {size m:Nat} {zs:List FV} {e:TypeId} (ht:P.underlying t=some (.slice e)) (hs:RF S w s (.lst size m zs)):∃ news,Src P size t s m news w/\news.length=zs.length*size/\RowR S w size zs news/\ElR size zs:=by
 obtain ⟨A,cap,news,rfl,rfl,h1,g,a,b,c,d,f⟩:=kpu hs;refine ⟨news,?_,a,c,d⟩;rcases f with ⟨rfl,rfl⟩ | ⟨rfl,ad,rfl⟩ | ⟨ad,rfl,h⟩;have:news=[]:=qa2 (by simpa using a);subst this;exact Src.ofNil w ht cap;have:news=[]:=qa2 (by simpa using a);subst this;exact Src.ofSlice w ht ad 0 cap [] (by simp) (fun j u h=>by simp at h) (fun u h=>by cases h)
 ·exact Src.ofSlice w ht ad _ cap news a h b
theorem k6h {s:Value} {size m:Nat} {zs:List FV} (hs:RF S w s (.lst size m zs)):∃ A cap olds,s = .slice A m cap/\m=zs.length/\m<=cap/\cap<=9223372036854775807/\(Builtin.firstCells size m (.slice A m cap)).run P w.drew = .ok olds.toArray w.drew/\olds.length=zs.length*size/\RowR S w size zs olds/\ElR size zs:=by
 obtain ⟨A,cap,news,rfl,rfl,h1,b,a,f,c,d,e⟩:=kpu hs;refine ⟨A,cap,news,rfl,rfl,h1,b,?_,a,c,d⟩;rcases e with ⟨rfl,rfl⟩ | ⟨rfl,ad,rfl⟩ | ⟨ad,rfl,h⟩;have:news=[]:=qa2 (by simpa using a);subst this;exact run_firstCells_none w.drew size 0 0 cap;have:news=[]:=qa2 (by simpa using a);subst this;exact run_firstCells_some w.drew size 0 ad 0 cap [] (by simp) (fun j u h=>by simp at h)
 ·exact run_firstCells_some w.drew size _ ad _ cap news a (by simpa using h)
theorem k7i {x y:Operand} {e:TypeId} {de:TD} {n m:Nat} {xs zs:List FV} (ho:o.op = .call { callee := .builtin .append,args:=#[x,y],argTypes:=#[t,t] }) (hd:TdOk P t d) (hk:d.kind = .slice e) (J:TdOk P e de) (hz:0<de.size) (K:de.zero.length=de.size)
  (L:st.eval x = .lim de.size n xs) (hy:st.eval y = .fz (.lst de.size m zs)\/st.eval y = .lim de.size m zs) (M:zs≠[]) (r:(xs.length+zs.length)*(de.bytes+1)<=140737488355328) (f:st.ids.contains id=false):
  StepA P o st (.row id (xs++zs).length) ((id, .frow e de.size (xs++zs))::st.heap) (id::st.ids):=by
 have f:id∉st.ids:=by simpa using f
 intro F S0 N0 ψ S a w j;have c:=j.core;have k:∃ A,a.eval x = .slice A n n/\RF S w (.slice A n n) (.lst de.size n xs):=by
  have hv:=j.eval x;rw [L] at hv;generalize a.eval x=u at hv;cases hv with
  | lim h=>exact ⟨_,rfl,h⟩
 obtain ⟨A,k,N⟩:=k;have s:RF S w (a.eval y) (.lst de.size m zs):=by
  have hv:=j.eval y;rcases hy with hy | hy;rw [hy] at hv;exact hv.inv
  ·rw [hy] at hv;generalize a.eval y=u at hv;cases hv with
   | lim h=>exact h
 have l:=r;rw [Nat.mul_add,qa1] at l;have ht:=hd.slice hk;obtain ⟨⟨i,z,hi,B,O,Q,R⟩,_⟩:=J;have T:z.cells.size=de.size:=by rw [<- qav,R,K]
 obtain ⟨A',cap',olds,hA,U,_,_,C,D,V,E⟩:=k6h (P:=P) N;injection hA with X ae Y;subst X Y;obtain ⟨news,G,Z,aa,H⟩:=kaat (P:=P) ht s;have hm:m=zs.length:=by obtain ⟨_,_,_,_,h,_⟩:=kpu s;exact h
 have ad:0<zs.length:=List.length_pos_iff.2 M;subst hm;subst U;have I:=run_append_grow_src (P:=P) w t t o.type e i z ht hi Q A xs.length xs.length olds (by rw [B];exact C) (a.eval y) zs.length news (by rw [B];exact G) (by omega) (by omega) (by rw [O];exact growslice_fits (by omega) (by omega));have ab:=grownCap_ge w (xs.length+zs.length) xs.length e;have ac:grownCap w (xs.length+zs.length) xs.length e<=maxLen:=grownCap_le_maxLen w (xs.length+zs.length) xs.length e (by unfold maxLen;omega);have g:Grow w (w.drew.alloc (.cells ((olds++news).toArray++Builtin.zeroCells z.cells (grownCap w (xs.length+zs.length) xs.length e - (xs.length+zs.length))) e)):=
  (kyd w).trans (kap w.drew _)
 have p:(xs++zs).length=xs.length+zs.length:=qaf;have q:(olds++news).length=(xs.length+zs.length)*de.size:=by rw [qaf,D,Z,qbd]
 refine kad _ (.slice (some ⟨w.heap.size,0,none⟩) (xs.length+zs.length) (grownCap w (xs.length+zs.length) xs.length e)) ?_ ⟨ψ.set id (xs.length+zs.length) (.slice (some ⟨w.heap.size,0,none⟩) (xs.length+zs.length) (grownCap w (xs.length+zs.length) xs.length e)),S,c.add g f (fun b hb=>by simp [kak] at hb;omega) ⟨by rw [ka2,p],hz,olds++news,?_,?_,?_⟩,?_,Fr.of_grow c.fr g,kay f _ _,fun _ h=>qe _ h,fun _ h=>h,Same.of_grow g⟩;simp only [execOp,ho,resolve,invoke,builtin,Sem.run_bind,Sem.run_pure,Result.andThen_ok,List.map_toArray,qao,List.map_nil,k,I]
 ·rw [kaj,p];refine ⟨q, .inr ⟨w.heap.size,_,_,rfl,qas _,heap_alloc_new w.drew _,ab,ac,?_,?_⟩⟩;simp only [Array.size_append,List.size_toArray,size_zeroCells,T,q,<- qbd];congr 1;omega
  ·simp only [Array.toList_append];rw [<- q];exact List.take_left
 exact fun x L=>(qab.1 L).elim (E x) (H x);exact (RowR.append hz V aa D E).keep (Same.of_grow g)
 ·rw [p];exact .row (qn ..) (by rw [ka2];exact qu _) rfl fun _=>(kaj _ _).symm
def appN {α:Type} (bytes:Nat) (xs ys:List α):Option (List α):=bif ys.isEmpty then none else app bytes xs ys
theorem k0s {α:Type} (enc:α->FV) {bytes:Nat} (xs ys:List α) {r:List α} (X Y:Operand) (e:TypeId) (de:TD) (n m:Nat) (h:appN bytes xs ys=some r) (k:TOk P T) (hy:st.eval Y = .fz (.lst de.size m (ys.map enc))\/st.eval Y = .lim de.size m (ys.map enc)) (i:st.ids.contains id=false:=by kernel_rfl) (ho:o.op = .call { callee := .builtin .append,args:=#[X,Y],argTypes:=#[t,t] }:=by kernel_rfl) (l:kac T t=some d:=by kernel_rfl) (hk:d.kind = .slice e:=by kernel_rfl) (c:kac T e=some de:=by kernel_rfl) (p:Nat.ble 1 de.size=true:=by kernel_rfl) (f:de.zero.length=de.size:=by kernel_rfl) (g:de.bytes=bytes:=by kernel_rfl) (q:st.eval X = .lim de.size n (xs.map enc):=by kernel_rfl):
  StepA P o st (.row id r.length) ((id, .frow e de.size (r.map enc))::st.heap) (id::st.ids):=by
 unfold appN at h;cases b:ys.isEmpty with
 | true=>rw [b] at h;cases h
 | false=>
  rw [b] at h;obtain ⟨rfl,a⟩:=k1u h;subst g;have j:ys.map enc≠[]:=fun h0=>by have:ys=[]:=(by simpa using h0);rw [this] at b;cases b
  have:=k7i (id:=id) (P:=P) ho (k.get l) hk (k.get c) (qi p) f q hy j (by simpa using a) i;rw [<- qbc,qj] at this;exact this
def fI (x:Int):AV := .fz (eI x)
def fB (x:Bool):AV := .fz (eB x)
def fS (x:BA):AV := .fz (eS x)
end Go.Proofs.YtnlhjbnpjefjgabGreatDoor
set_option linter.all false
set_option linter.unusedSectionVars false
namespace Go.Proofs.YtnlhjbnpjefjgabGreatDoor
open Go Go.RowKit
variable [Dr]
def kpp (id:Nat):AV->List Nat
 | .row k m=>bif Nat.beq k id then [m] else []
 | _=>[]
def ky7 (id:Nat):AV->List Nat
 | .agg cs=>cs.flatMap (kpp id)
 | .fn _ cs=>cs.flatMap (kpp id)
 | y=>kpp id y
def ktt (id:Nat):AV->List Nat
 | .tup cs=>cs.flatMap (ky7 id)
 | y=>ky7 id y
def kv8 (id:Nat):AObj->List Nat
 | .box _ cs=>cs.flatMap (kpp id)
 | _=>[]
def frz1 (id:Nat) (x:FV):AV->AV
 | .row k m=>bif Nat.beq k id then .fz x else .row k m
 | y=>y
def frzG (id:Nat) (x:FV):AV->AV
 | .agg cs=>aggA (cs.map (frz1 id x))
 | .fn f cs => .fn f (cs.map (frz1 id x))
 | y=>frz1 id x y
def frzT (id:Nat) (x:FV):AV->AV
 | .tup cs=>tupA (cs.map (frzG id x))
 | y=>frzG id x y
def frzO (id:Nat) (x:FV):AObj->AObj
 | .box e cs => .box e (cs.map (frz1 id x))
 | y=>y
def k56 (id:Nat) (st:St):List Nat:=st.tmps.flatMap (fun p=>ktt id p.2)++(kbd id st.heap).flatMap (fun p=>kv8 id p.2)
def frzSt (id:Nat) (x:FV) (st:St):St:={ dfr:=st.dfr,n:=st.n,tmps:=st.tmps.map (fun p=>(p.1,frzT id x p.2)),heap:=(kbd id st.heap).map (fun p=>(p.1,frzO id x p.2)),ids:=st.ids }
variable {F S0:Nat->Prop} {N0:Nat} {w:World} {S:Nat->Prop} {ψ:Env} {K:Nat->Prop} {id n:Nat} {x:FV} {st:St}
theorem kui (a:∀ v,RV ψ K S w v (.row id n)->RF S w v x) {v:Value} {y:AV} (h:RV ψ K S w v y) (hr:∀ m∈kpp id y,m=n):RV ψ K S w v (frz1 id x y):=by
 cases y with
 | row k m=>
  simp only [frz1];cases b:Nat.beq k id with
  | false=>exact h
  | true=>
   have hk:=qf b;subst hk;have hm:m=n:=hr m (by simp [kpp]);subst hm;exact .fz (a v h)
 | _=>exact h
theorem kuq (hs:x.single=true) {y:AV} (h:y.single=true):(frz1 id x y).single=true:=by
 cases y with
 | row k m=>
  simp only [frz1];cases Nat.beq k id with
  | false=>exact h
  | true=>exact hs
 | _=>exact h
theorem ktv {α β γ:Type} (R:α->γ->Prop) {Q:α->γ->Prop} {f:β->γ} {R':α->β->Prop} {cs:Array α} {xs:List β} (hr:∀ (i:Nat) (v:α) (y:β),cs[i]?=some v->xs[i]?=some y->R' v y) (hf:∀ v y,y∈xs->R' v y->Q v (f y)):
  ∀ (i:Nat) (v:α) (y:γ),cs[i]?=some v->(xs.map f)[i]?=some y->Q v y:=by
 intro i v y hv hy;simp only [qg,qs] at hy;obtain ⟨z,a,rfl⟩:=hy;exact hf v z (ql a) (hr i v z hv a)
theorem kt3 (hs:x.single=true) (b:∀ v,RV ψ K S w v (.row id n)->RF S w v x) {v:Value} {y:AV} (h:RV ψ K S w v y) (hr:∀ m∈ky7 id y,m=n):RV ψ K S w v (frzG id x y):=by
 cases y with
 | agg cs=>
  cases h with
  | agg h h1 a=>
   refine RV.aggA (by simpa using h) (fun y hy=>?_) (ktv (fun _ _=>True) a fun v y hy hv=>kui b hv fun m hm=>hr m ?_);simp only [qx] at hy;obtain ⟨z,c,rfl⟩:=hy;exact kuq hs (h1 z c)
   ·exact qat.2 ⟨y,hy,hm⟩
 | fn f cs=>
  cases h with
  | fn h a=>exact .fn (by simpa using h) (ktv (fun _ _=>True) a fun v y hy hv=>kui b hv fun m hm=>hr m (qat.2 ⟨y,hy,hm⟩))
 | row k m=>exact kui b h hr
 | _=>exact h
theorem kaan (hs:x.single=true) (a:∀ v,RV ψ K S w v (.row id n)->RF S w v x) {v:Value} {y:AV} (h:RV ψ K S w v y) (hr:∀ m∈ktt id y,m=n):RV ψ K S w v (frzT id x y):=by
 cases y with
 | tup cs=>
  cases h with
  | tup h b=>exact RV.tupA (by simpa using h) (ktv (fun _ _=>True) b fun v y hy hv=>kt3 hs a hv fun m hm=>hr m (qat.2 ⟨y,hy,hm⟩))
 | agg cs=>exact kt3 hs a h hr
 | fn f cs=>exact kt3 hs a h hr
 | row k m=>exact kt3 hs a h hr
 | _=>exact h
theorem k7f (l:List (Nat×AV)) (t:Nat):look .any (l.map fun p=>(p.1,frzT id x p.2)) t=frzT id x (look .any l t)/\∀ m∈ktt id (look .any l t),m∈l.flatMap (fun p=>ktt id p.2):=by
 induction l with
 | nil=>exact ⟨rfl,fun m hm=>by cases hm⟩
 | cons p l ih=>
  obtain ⟨k,v⟩:=p;simp only [qao,kar,qbk,qab];by_cases h:k=t;simp only [qt h];exact ⟨trivial,fun m hm => .inl hm⟩
  ·simp only [qq h];exact ⟨ih.1,fun m hm => .inr (ih.2 m hm)⟩
theorem kso (id:Nat) (x:FV) (l:List (Nat×AObj)) (t:Nat):kaa (l.map fun p=>(p.1,frzO id x p.2)) t=(kaa l t).map (frzO id x)/\∀ o,kaa l t=some o->∀ m∈kv8 id o,m∈l.flatMap (fun p=>kv8 id p.2):=by
 induction l with
 | nil=>exact ⟨rfl,fun o h=>by cases h⟩
 | cons p l ih=>
  obtain ⟨k,v⟩:=p;simp only [qao,kae,qbk,qab];by_cases h:k=t;simp only [qt h];exact ⟨rfl,fun o ho m hm=>by injection ho with ho;subst ho;exact .inl hm⟩
  ·simp only [qq h];exact ⟨ih.1,fun o ho m hm => .inr (ih.2 o ho m hm)⟩
theorem kqp (id:Nat) (n k:Nat) (e:TypeId) (size:Nat) (xs:List FV) (g:k56 id st=List.replicate k n:=by kernel_rfl) (f:kaa st.heap id=some (.frow e size xs):=by kernel_rfl) (hn:n=xs.length:=by simp):LeSt st (frzSt id (.lst size n xs) st):=by
 subst hn;intro F S0 N0 ψ S a w hs;obtain ⟨c1,c2⟩:=kju hs.core f;have d:∀ m∈k56 id st,m=xs.length:=fun m hm=>by rw [g] at hm;exact (qbn.1 hm).2
 have h0:=(hs.core.obj id _ f).2.1.1;have s:∀ v,RV ψ (·∈st.ids) (fun b=>S b\/kak (ψ.val id)=some b) w v (.row id xs.length)->RF (fun b=>S b\/kak (ψ.val id)=some b) w v (.lst size xs.length xs):=by
  intro v hv;cases hv with
  | row hK A h1 hv=>rw [hv (by rw [h0])];exact c2
 refine ⟨ψ,_,hs.defers,hs.size,fun t=>?_,⟨fun i o ho=>?_,fun i i' o o' b ho c q B=>?_,c1.lt,c1.s0,c1.n0,c1.fr⟩⟩;obtain ⟨l1,l2⟩:=k7f (id:=id) (x := .lst size xs.length xs) st.tmps t;show RV ψ (·∈st.ids) _ w (a.tmps.getD t undef) (look .any (st.tmps.map fun p=>(p.1,frzT id (.lst size xs.length xs) p.2)) t);rw [l1];refine kaan rfl s ((hs.tmps t).mono (fun _ h=>h) fun _ h => .inl h) fun m hm=>d m ?_;exact qab.2 (.inl (l2 m hm))
 ·obtain ⟨l1,l2⟩:=kso id (.lst size xs.length xs) (kbd id st.heap) i;have c:kaa ((kbd id st.heap).map fun p=>(p.1,frzO id (.lst size xs.length xs) p.2)) i=some o:=ho;rw [l1,qs] at c;obtain ⟨o',h1,rfl⟩:=c;obtain ⟨k1,k2,k7⟩:=c1.obj i o' h1;refine ⟨k1,?_,k7⟩;cases o' with
  | box e2 cells=>
   obtain ⟨g0,b,cs,g2,g3,g4,g5,g6⟩:=k2;refine ⟨g0,b,cs,g2,g3,by simpa using g4,fun y hy=>?_,ktv (fun _ _=>True) g6 fun v y hy hv=>kui s hv fun m hm=>d m ?_⟩;simp only [qx] at hy;obtain ⟨z,C,rfl⟩:=hy;exact kuq rfl (g5 z C)
   ·exact qab.2 (.inr (l2 _ h1 m (qat.2 ⟨y,hy,hm⟩)))
  | _=>exact k2
 ·obtain ⟨l1,_⟩:=kso id (.lst size xs.length xs) (kbd id st.heap) i;obtain ⟨l2,_⟩:=kso id (.lst size xs.length xs) (kbd id st.heap) i';have j:kaa ((kbd id st.heap).map fun p=>(p.1,frzO id (.lst size xs.length xs) p.2)) i=some o:=ho;have l:kaa ((kbd id st.heap).map fun p=>(p.1,frzO id (.lst size xs.length xs) p.2)) i'=some o':=c;rw [l1,qs] at j;rw [l2,qs] at l;obtain ⟨u,hu,_⟩:=j;obtain ⟨u',r,_⟩:=l;exact c1.inj i i' u u' b hu r q B
end Go.Proofs.YtnlhjbnpjefjgabGreatDoor
set_option linter.all false
namespace Go.Proofs.YtnlhjbnpjefjgabGreatDoor
open Go Go.RowKit
variable [Dr]
def kc8 {α:Type} (s:BA):List (BA×α)->Nat->Option (Nat×α)
 | [],_=>none
 | (k,v)::l,i=>bif s.toList == k.toList then some (i,v) else kc8 s l (i+1)
def mget {α:Type} (m:List (BA×α)) (s:BA) (z:α):α:=match kc8 s m 0 with
 | some (_,x)=>x
 | none=>z
def mhas {α:Type} (m:List (BA×α)) (s:BA):Bool:=(kc8 s m 0).isSome
def mput {α:Type} (m:List (BA×α)) (s:BA) (y:α):List (BA×α):=match kc8 s m 0 with
 | some (j,_)=>m.set j (s,y)
 | none=>m++[(s,y)]
theorem knm (a b:BA):(a.toList == b.toList)=(a == b):=by
 rw [Bool.eq_iff_iff,beq_iff_eq,MapKept.bytes_beq,ByteArray.toList_eq,ByteArray.toList_eq];constructor;intro h;exact ByteArray.ext (Array.toList_inj.1 h)
 ·intro h;rw [h]
theorem kmq {α β:Type} (f:α->β) (s:BA):∀ (m:List (BA×α)) (i:Nat),kc8 s (m.map fun p=>(p.1,f p.2)) i=(kc8 s m i).map fun p=>(p.1,f p.2)
 | [],_=>rfl
 | (k,v)::l,i=>by
  simp only [qao,kc8];cases s.toList == k.toList with
  | true=>rfl
  | false=>exact kmq f s l (i+1)
theorem krj {α β:Type} (f:α->β) (m:List (BA×α)) (s:BA) (z:α):mget (m.map fun p=>(p.1,f p.2)) s (f z)=f (mget m s z):=by
 unfold mget;rw [kmq];cases kc8 s m 0 with
 | none=>rfl
 | some p=>rfl
theorem k12 {α β:Type} (f:α->β) (m:List (BA×α)) (s:BA):mhas (m.map fun p=>(p.1,f p.2)) s=mhas m s:=by
 unfold mhas;rw [kmq];cases kc8 s m 0 with
 | none=>rfl
 | some p=>rfl
theorem k07 {α:Type} {s:BA}:∀ {m:List (BA×α)} {i j:Nat} {x:α},kc8 s m i=some (j,x)->i<=j/\j - i<m.length/\∃ k,m[j - i]?=some (k,x)/\k=s
 | [],i,j,x,h=>by cases h
 | (k,v)::l,i,j,x,h=>by
  simp only [kc8] at h;cases a:s.toList == k.toList with
  | true=>
   rw [a] at h;simp only [qr,qb,qp] at h;obtain ⟨rfl,rfl⟩:=h;rw [knm,MapKept.bytes_beq] at a;exact ⟨qu _,by simp,k,by simp,a.symm⟩
  | false=>
   rw [a] at h;obtain ⟨h1,d,k',b,c⟩:=k07 h;have e:j - i=(j - (i+1))+1:=(by omega);exact ⟨by omega,by simp;omega,k',by rw [e,qac];exact b,c⟩
variable {P:Program} {F S0:Nat->Prop} {N0:Nat} {w w':World} {S S':Nat->Prop} {ψ:Env} {K:Nat->Prop} {T:List (TypeId×TD)} {o:Oper} {a:Act} {st:St} {t:TypeId} {d:TD} {id:Nat}
theorem kl5 (s:BA) {R:Value->FV->Prop}:∀ (es:List MapEntry) (kv:List (BA×FV)) (i:Nat),es.length=kv.length->(∀ (j:Nat) (e:MapEntry) (p:BA×FV),es[j]?=some e->kv[j]?=some p->e.key = .string p.1/\R e.val p.2) ->
  (Instr.findNow .string (.string s) es i=some none/\kc8 s kv i=none)\/∃ j v x,Instr.findNow .string (.string s) es i=some (some (j,v))/\kc8 s kv i=some (j,x)/\R v x
 | [],[],i,_,_ => .inl ⟨rfl,rfl⟩
 | [],p::kv,i,h,_=>by cases h
 | e::es,[],i,h,_=>by cases h
 | e::es,(k,x)::kv,i,h,hr=>by
  obtain ⟨hk,hv⟩:=hr 0 e (k,x) rfl rfl;simp only [Instr.findNow,hk,Instr.sameNow,kc8,knm];cases b:s == k with
  | true=>exact .inr ⟨i,e.val,x,rfl,rfl,hv⟩
  | false=>exact kl5 s es kv (i+1) (by simpa using h) fun j e p a hp=>hr (j+1) e p (by simpa using a) (by simpa using hp)
theorem TdOk.mp {k e:Nat} (h:TdOk P t d) (hk:d.kind = .map k e):P.underlying t=some (.map k e):=by obtain ⟨_,e',h1,a⟩:=h;rw [hk] at a;cases e' <;> simp [kdd] at a;rw [h1,a.1,a.2]
theorem ksr (id:Nat) (ho:o.op = .makeMap t none:=by kernel_rfl) (d:st.ids.contains id=false:=by kernel_rfl):StepA P o st (.mp id) ((id, .smap [])::st.heap) (id::st.ids):=by
 have d:id∉st.ids:=by simpa using d
 intro F S0 N0 ψ S a w f;have c:=f.core;refine kad (w.alloc (.map #[] 0)) (.map (some w.heap.size)) ?_ ⟨ψ.set id 0 (.map (some w.heap.size)),S,?_,?_,kes _ c.fr,kay d _ _,fun _ h=>qe _ h,fun _ h=>h,Same.of_grow (kap _ _)⟩;simp [execOp,ho,Instr.makeMap];exact c.add (kap _ _) d (fun b g=>by simp [kak] at g;omega) ⟨ka2 _ _,w.heap.size,_,_,kaj _ _,heap_alloc_new w _,rfl,fun i e p j hp=>by simp at j⟩
 ·exact .mp (qn ..) rfl fun _=>by rw [kaj]
theorem k0u {kv:List (BA×FV)} {v:Value} (hs:ObR ψ K S w id (.smap kv)) (hv:RV ψ K S w v (.mp id)):v=ψ.val id:=by
 cases hv with
 | mp hK h1 hv=>exact hv hs.1.symm
theorem k66 {α:Type} (enc:α->FV) (m:List (BA×α)) (s:BA) (z:α) (x y:Operand) (kt et:TypeId) (kd:TD) (zv:Value) (ho:o.op = .lookup t x y false) (F:TOk P T) (r:kac T t=some d) (hk:d.kind = .map kt et) (c:kac T kt=some kd) (i:kd.kind = .str) (inf:TypeInfo) (u:P.info? et=some inf) (hi2:inf.zero=some zv) (A:enc z = .atom zv) (B:zv.oneCell'=true) (H:st.eval x = .mp id:=by kernel_rfl) (C:kaa st.heap id=some (.smap (m.map fun p=>(p.1,enc p.2))):=by kernel_rfl) (hy:st.eval y = .fz (.atom (.string s)):=by kernel_rfl):NStep P o st (.fz (enc (mget m s z))):=by
 intro ψ S a w ht I;have r:=F.get r;have c:=F.get c;have hv:=Sim.eval_tmps ht x;rw [H] at hv;have l:=I id _ C;have n:=k0u l hv;obtain ⟨h0,b,es,clock,g,G,D,hr⟩:=l;have f:=Sim.eval_tmps ht y;rw [hy] at f;have f:=f.atom;have E:(zeroValue et).run P w = .ok zv w:=by simp [zeroValue,typeInfo,u,hi2]
 have q:=MapKept.run_checkKey (w:=w) (c.str i) (k := .string s) trivial es.isEmpty 9999;rcases kl5 s (R:=fun v x=>RF S w v x) es.toList (m.map fun p=>(p.1,enc p.2)) 0 (by simpa using D) (fun j e p J hp=>hr j e p (by simpa using J) hp) with ⟨f1,f2⟩ | ⟨j,v,x',f1,f2,f3⟩
 ·have hf:=MapKept.run_findKey (w:=w) (c.str i) f1;refine kad w zv ?_ ⟨kaf _, .fz ?_⟩;simp [execOp,ho,f,n,g,Instr.lookup,run_underlying (r.mp hk),MapKept.run_getObj_map G,q,hf,E]
  ·rw [<- krj enc];unfold mget;rw [f2];simp only;rw [A];exact .atom B
 ·have hf:=MapKept.run_findKey (w:=w) (c.str i) f1;refine kad w v ?_ ⟨kaf _, .fz ?_⟩;simp [execOp,ho,f,n,g,Instr.lookup,run_underlying (r.mp hk),MapKept.run_getObj_map G,q,hf]
  ·rw [<- krj enc];unfold mget;rw [f2];exact f3.mono fun _ h => .inl h
theorem kqb (d:TD) (id:Nat) {α:Type} (enc:α->FV) (m:List (BA×α)) (s:BA) (z:α) (x y v:Operand) (kt et:TypeId) (kd:TD) (hT:TOk P T) (Z:kac T t=some d) (l:kac T kt=some kd) (I:kd.kind = .str:=by kernel_rfl) (hx:st.eval x = .mp id:=by kernel_rfl) (K:kaa st.heap id=some (.smap (m.map fun p=>(p.1,enc p.2))):=by kernel_rfl) (hy:st.eval y = .fz (.atom (.string s)):=by kernel_rfl) (hv:st.eval v = .fz (enc z):=by kernel_rfl) (ho:o.op = .mapUpdate t x y v:=by kernel_rfl) (hk:d.kind = .map kt et:=by kernel_rfl):StepA P o st .any ((id, .smap ((mput m s z).map fun p=>(p.1,enc p.2)))::st.heap) st.ids:=by
 intro F S0 N0 ψ S a w D;have Z:=hT.get Z;have l:=hT.get l;have r:=D.core;obtain ⟨ag,L,aa⟩:=r.obj id _ K;have M:=D.eval x;rw [hx] at M;have N:=k0u L M;obtain ⟨h0,b,es,clock,g,E,A,hr⟩:=L;have B:=D.eval y;rw [hy] at B;have B:=B.atom;have C:=D.eval v;rw [hv] at C;have C:=C.inv;have O:=MapKept.run_checkKey (w:=w) (l.str I) (k := .string s) trivial false 9999;have G:ψ.set id 0 (ψ.val id)=ψ:=by
  unfold Env.set;congr 1
  ·funext i;split;rename_i h;rw [h,h0]
   ·rfl
  ·funext i;split;rename_i h;rw [h]
   ·rfl
 have main:∀ (es':Array MapEntry) (clock':Nat),es'.size=(mput m s z).length ->
   (∀ (i:Nat) (e:MapEntry) (p:BA×FV),es'[i]?=some e->((mput m s z).map fun p=>(p.1,enc p.2))[i]?=some p->e.key = .string p.1/\RF S w e.val p.2) ->
   (execOp a.eval o).run P w = .ok .skip { w with heap:=w.heap.setIfInBounds b (.map es' clock') } ->
   kbx P o a w fun v w'=>∃ ψ' S',Core F S0 N0 ((id, .smap ((mput m s z).map fun p=>(p.1,enc p.2)))::st.heap) st.ids ψ' S' w'/\RV ψ' (·∈st.ids) S' w' v .any/\Fr F w w'/\Ext (·∈st.ids) ψ ψ'/\(∀ id,id∈st.ids->id∈st.ids)/\(∀ b,S b->S' b)/\Same S w w':=by
  intro es' clock' Q ab U;obtain ⟨g1,g2⟩:=MapKept.heap_set (o' := .map es' clock') E;have af:({ w with heap:=w.heap.setIfInBounds b (.map es' clock') }:World).heap.size=w.heap.size:=by simp
  have H:∀ k,k<w.heap.size->¬ Blk (ψ.val id) k->({ w with heap:=w.heap.setIfInBounds b (.map es' clock') }:World).heap[k]?=w.heap[k]?:=fun k _ hk=>g2 k fun e=>hk (.of (by rw [g,e];rfl));have hk:Same S w { w with heap:=w.heap.setIfInBounds b (.map es' clock') }:=fun k hk hl=>H k hl fun e=>(aa k e).1 hk;obtain ⟨c1,c2,c3⟩:=r.upd (n:=0) (v:=ψ.val id) (w':={ w with heap:=w.heap.setIfInBounds b (.map es' clock') }) (ob' := .smap ((mput m s z).map fun p=>(p.1,enc p.2))) K (by omega) H (.inr ⟨h0,rfl⟩) (fun b E => .inl E) (by rw [G];refine ⟨h0,b,es',clock',g,g1,by simpa using Q,fun i e p c hp=>?_⟩;obtain ⟨q1,q2⟩:=ab i e p c hp;exact ⟨q1,q2.keep hk⟩);rw [G] at c1;exact ke0 _ U ⟨ψ,S,c1, .any,⟨rfl,rfl,rfl,by omega,c3,fun _=>qu _⟩,Ext.refl,fun _ h=>h,fun _ h=>h,c2⟩
 have ac:∀ (j:Nat) (e:MapEntry) (p:BA×FV),es.toList[j]?=some e->(m.map fun p=>(p.1,enc p.2))[j]?=some p->e.key = .string p.1/\RF S w e.val p.2:=fun j e p c hp=>hr j e p (by simpa using c) hp;rcases kl5 s (R:=fun v x=>RF S w v x) es.toList (m.map fun p=>(p.1,enc p.2)) 0 (by simpa using A) ac with ⟨f1,f2⟩ | ⟨j,u,x',f1,f2,f3⟩
 ·have hf:=MapKept.run_findKey (w:=w) (l.str I) f1;have ad:kc8 s m 0=none:=by
   rw [kmq] at f2;cases hq:kc8 s m 0 with
   | none=>rfl
   | some q=>rw [hq] at f2;cases f2
  have f:mput m s z=m++[(s,z)]:=by unfold mput;rw [ad]
  refine main (es.push { key := .string s,val:=a.eval v,born:=clock }) (clock+1) (by rw [f];simpa using A) (fun i e p c hp=>?_) ?_
  ·rw [f,qbc] at hp;rw [Array.getElem?_push] at c;have V:es.size=(m.map fun p=>(p.1,enc p.2)).length:=A;by_cases hi:i=es.size;rw [qt hi] at c;injection c with c;subst c;rw [qam (by omega),hi,V,Nat.sub_self] at hp;simp only [qao,List.map_nil,List.getElem?_cons_zero,qb] at hp;subst hp;exact ⟨rfl,C⟩
   ·rw [qq hi] at c;have ah:i<es.size:=(qar.1 c).1;rw [q9 (by omega)] at hp;exact hr i e p c hp
  ·simp [execOp,ho,B,N,g,Instr.mapUpdate,run_underlying (Z.mp hk),MapKept.run_getObj_map E,O,hf,MapKept.run_setObj_map _ E]
 ·have hf:=MapKept.run_findKey (w:=w) (l.str I) f1;rw [kmq,qs] at f2;obtain ⟨⟨j',x0⟩,f4,f5⟩:=f2;simp only [qp] at f5;obtain ⟨rfl,rfl⟩:=f5;obtain ⟨_,l2,k,l3,rfl⟩:=k07 f4;simp only [Nat.sub_zero] at l2 l3;have f:mput m k z=m.set j' (k,z):=by unfold mput;rw [f4]
  have ae:j'<es.size:=by rw [A,qj];exact l2
  have J:es[j']?=some es[j']:=qa8 ae;have X:es[j'].key = .string k:=(hr j' _ (k,enc x0) J (by rw [qg,l3];rfl)).1;refine main (es.modify j' fun e=>{ e with key := .string k,val:=a.eval v }) clock (by rw [f];simpa using A) (fun i e p c hp=>?_) ?_
  ·rw [f,List.map_set] at hp;rw [qbt] at c;by_cases hi:j'=i;subst hi;rw [qt rfl,J] at c;simp only [qai,qb] at c;subst c;rw [qa5 (by rw [qj];exact l2)] at hp;injection hp with hp;subst hp;exact ⟨rfl,C⟩
   ·rw [qq hi] at c;rw [qbb hi] at hp;exact hr i e p c hp
  ·have Y:(Instr.keyThatStays (((es[j']?).map (·.key)).getD (.string k)) (.string k)).run P w = .ok (.string k) w:=(by rw [J];simp only [qai,qa9,X];exact MapKept.run_keyThatStays (d := .string) trivial);simp [execOp,ho,B,N,g,Instr.mapUpdate,run_underlying (Z.mp hk),MapKept.run_getObj_map E,O,hf,MapKept.run_setObj_map _ E];simp [Y,MapKept.run_setObj_map _ E]
end Go.Proofs.YtnlhjbnpjefjgabGreatDoor
set_option linter.all false
namespace Go.Proofs.YtnlhjbnpjefjgabGreatDoor
open Go Go.RowKit
variable [Dr]
def k5z (st:St) (c:C1) (x:Operand):Option AV:=match co1 c (st.eval x) with
 | .fz y=>some (.fz y)
 | .fn f []=>some (.fn f [])
 | _=>none
def kqo (st:St):List C1->List Operand->Option (List AV)
 | [],[]=>some []
 | c::cs,x::xs=>match k5z st c x,kqo st cs xs with
  | some y,some ys=>some (y::ys)
  | _,_=>none
 | _,_=>none
variable {P:Program} {F S0:Nat->Prop} {N0:Nat} {w w':World} {S S':Nat->Prop} {ψ:Env} {K:Nat->Prop} {T:List (TypeId×TD)} {o:Oper} {a:Act} {st:St} {t:TypeId} {d:TD}
theorem kvw {ids:List Nat} (h:∀ t,RV ψ (·∈ids) S w (a.tmps.getD t undef) (st.get t)):∀ {cs:List C1} {xs:List Operand} {ys:List AV},kqo st cs xs=some ys ->
  ys.length=xs.length/\∀ (i:Nat) (x:Operand) (y:AV),xs[i]?=some x->ys[i]?=some y->∀ ψ0,RV ψ0 (·∈[]) S w (a.eval x) y
 | [],[],ys,h=>by simp only [kqo,qb] at h;subst h;exact ⟨rfl,fun i x y h=>by simp at h⟩
 | c::cs,x::xs,ys,b=>by
  simp only [kqo] at b;split at b
  ·rename_i y ys' h1 g;injection b with b;subst b;obtain ⟨e1,e2⟩:=kvw h g;refine ⟨by simp [e1],fun i x' y' d hy=>?_⟩;cases i with
   | zero=>
    simp at d hy;subst d hy;unfold k5z at h1;have hv:=koa c (Sim.eval_tmps h x);split at h1;rename_i z e;injection h1 with h1;subst h1;rw [e] at hv;exact fun ψ0 => .fz hv.inv
    ·rename_i f e;injection h1 with h1;subst h1;rw [e] at hv;intro ψ0;generalize a.eval x=u at hv;cases hv with
     | fn h hr=>exact .fn h fun i v x hv d=>by simp at d
    ·cases h1
   | succ i=>exact e2 i x' y' (by simpa using d) (by simpa using hy)
  ·cases b
 | [],_::_,ys,h=>by cases h
 | _::_,[],ys,h=>by cases h
theorem k90 (f:FuncId) (args:Array Operand) (ts:Array TypeId) (cs:List C1) {as_:List AV} {res:AV} {post:List (Nat×AObj)} {ids1:List Nat} {r:FV} (ho:o.op = .call { callee := .value (.func f),args:=args,argTypes:=ts }) (hc:kqo st cs args.toList=some as_) (hp:kal P f (as_++[]) [] [] (.ret res) post ids1) (hr:res = .fz r\/∃ (id n:Nat) (e:TypeId) (size:Nat) (xs:List FV),res = .row id n/\kaa post id=some (.frow e size xs)/\n=xs.length/\r = .lst size n xs):NStep P o st (.fz r):=by
 intro ψ S a w ht p;rw [List.append_nil] at hp;obtain ⟨e1,e2⟩:=kvw (fun t=>(ht t).bound) hc;unfold kbx;rw [kpo ho hp.1];refine (hp.2 (fun b=>b<w.heap.size) (fun b=>S b/\b<w.heap.size) w.heap.size ψ (fun b=>S b/\b<w.heap.size) w (args.map a.eval) (by simp [e1]) (fun i v x hv k=>?_) ⟨fun id o h=>(by cases h),fun id id' o o' b h=>(by cases h),fun b h=>h.2,fun b h => .inl h,qu _,fun b h=>h⟩).mono ?_;simp only [Array.getElem?_map,qs] at hv;obtain ⟨y,hy,rfl⟩:=hv;exact e2 i y x (by simpa using hy) k ψ
 ·rintro e w' ⟨ψ',S',⟨v,rfl,hv⟩,c,d,_,_,hS,_⟩;have l:Grow w w':=⟨⟨d.os,d.tape,d.output,d.size,fun b g=>d.block b g⟩,d.drawn⟩;refine ⟨v,rfl,l, .fz ?_⟩;rcases hr with rfl | ⟨id,n,e,size,xs,rfl,j,rfl,rfl⟩;exact hv.inv.mono fun b g=>(c.s0 b g).imp And.left id
  ·obtain ⟨c1,c2⟩:=kju c j;obtain ⟨_,k2,k3⟩:=c.obj id _ j;have h0:=k2.1;cases hv with
   | row hK m h1 hv=>
    rw [hv (by rw [h0])];exact c2.mono fun b g=>g.elim (fun g=>(c.s0 b g).imp And.left _root_.id) fun g=>((k3 b (.of g)).2.2).imp And.left _root_.id
end Go.Proofs.YtnlhjbnpjefjgabGreatDoor
set_option linter.all false
namespace Go.Proofs.YtnlhjbnpjefjgabGreatDoor
open Go Go.RowKit
variable [Dr]
def mkL {α:Type} (bytes:Nat) (z:α) (n:Int):Option (List α):=if 0<=n/\(bytes:Int)*n<=281474976710656/\n<=9223372036854775807 then some (List.replicate n.toNat z) else none
theorem k0l {α:Type} {bytes:Nat} {z:α} {n:Int} {xs:List α} (h:mkL bytes z n=some xs):xs=List.replicate n.toNat z/\0<=n/\(bytes:Int)*n<=281474976710656/\n<=9223372036854775807:=by
 unfold mkL at h;split at h;rename_i hc;injection h with h;exact ⟨h.symm,hc⟩
 ·cases h
variable {P:Program} {F S0:Nat->Prop} {N0:Nat} {w w':World} {S S':Nat->Prop} {ψ:Env} {K:Nat->Prop} {T:List (TypeId×TD)} {o:Oper} {a:Act} {st:St} {t:TypeId} {d:TD} {id:Nat}
theorem kn8 (t:TypeId) (d:TD) (id:Nat) {α:Type} (enc:α->FV) {bytes:Nat} {z:α} {n:Int} {xs:List α} (X Y:Operand) (e:TypeId) (de:TD) (k k':IntKind) (zv:Value) (h:mkL bytes z n=some xs) (O:TOk P T:=by exact kag) (q:st.eval X = .fz (.atom (.int k n)):=by kernel_rfl) (hy:st.eval Y = .fz (.atom (.int k' n)):=by kernel_rfl) (f:st.ids.contains id=false:=by kernel_rfl) (ho:o.op = .makeSlice t X Y:=by kernel_rfl) (E:kac T t=some d:=by kernel_rfl) (hk:d.kind = .slice e:=by kernel_rfl) (m:kac T e=some de:=by kernel_rfl) (G:de.size=1:=by rfl) (H:de.zero=[zv]:=by rfl) (r:enc z = .atom zv:=by rfl) (s:zv.oneCell'=true:=by rfl) (I:de.bytes=bytes:=by rfl):
  StepA P o st (.row id xs.length) ((id, .frow e 1 (xs.map enc))::st.heap) (id::st.ids):=by
 have f:id∉st.ids:=by simpa using f
 obtain ⟨rfl,h0,J,K⟩:=k0l h;have E:=O.get E;have m:=O.get m;subst I;intro F S0 N0 ψ S a w p;have g:=p.eval X;rw [q] at g;have g:=g.atom;have l:=p.eval Y;rw [hy] at l;have l:=l.atom;obtain ⟨⟨i,z',hi,L,M,Q,N⟩,_⟩:=m;have c:=p.core;have hcl:z'.cells=#[zv]:=by apply qbh;rw [N,H]
 have hr:=run_make (P:=P) w t e i z' (E.slice hk) hi Q k k' n n h0 (Int.le_refl _) (by rw [M];exact J) K;rw [L,G,hcl,qa1] at hr;have u:Grow w (w.alloc (.cells (madeCells #[zv] n.toNat) e)):=kap _ _;have A:(List.replicate n.toNat z).length=n.toNat:=List.length_replicate;rw [A];refine kad (w.alloc (.cells (madeCells #[zv] n.toNat) e)) (.slice (some ⟨w.heap.size,0,none⟩) n.toNat n.toNat) ?_ ⟨ψ.set id n.toNat (.slice (some ⟨w.heap.size,0,none⟩) n.toNat n.toNat),S,?_,?_,kes _ c.fr,kay f _ _,fun _ h=>qe _ h,fun _ h=>h,Same.of_grow u⟩;simp [execOp,ho,g,l,hr]
 ·refine c.add u f (fun b J=>by simp [kak] at J;omega) ⟨by rw [ka2];simp,by omega,(madeCells #[zv] n.toNat).toList,?_,fun x q=>?_,fun i x j v y q hv hy=>?_⟩;rw [kaj];have:=World.ownsRow_lit (base:=0) (size:=1) (e:=e) w (madeCells #[zv] n.toNat) n.toNat (qas _) (by unfold maxLen;omega) (by rw [size_madeCells,qa1]);simpa using this;simp only [List.map_replicate,qbn] at q;rw [q.2,r];refine ⟨rfl,fun y hy=>?_⟩;simp [FV.cells] at hy;subst hy;exact s
  ·have B:=ql q;simp only [List.map_replicate,qbn] at B;rw [B.2,r] at hy;rw [toList_madeCells_one] at hv;have C:=ql hv;rw [qbn] at C;rw [C.2];have D:=ql hy;simp [FV.cells] at D;subst D;exact .atom s
 ·exact .row (qn ..) (by rw [ka2];exact qu _) rfl fun _=>by rw [kaj]
theorem kdj {v:Value} {e:TypeId} {n:Nat} {cs:List Value} (h:w.ownsRow 0 e 1 v n cs) (hn:0<n:=by omega):∃ g cap cur,v = .slice (some ⟨g,0,none⟩) n cap/\w.heap[g]?=some (.cells cur e (0,0))/\n<=cap/\cap<=maxLen/\cur.size=cap/\cur.toList.take n=cs:=by
 rcases h.2 with ⟨_,h0⟩ | ⟨g,cap,cur,hv,_,a,h1,b,c,d⟩;omega
 ·exact ⟨g,cap,cur,hv,a,h1,b,by simpa using c,by simpa using d⟩
theorem kbn (t:TypeId) (d:TD) (id:Nat) {α:Type} (enc:α->FV) (xs:List α) {x:α} {i:Int} (X Y:Operand) (e:TypeId) (de:TD) (k:IntKind) (n:Nat) (h:idx xs i=some x) (r:TOk P T:=by exact kag) (hy:st.eval Y = .fz (.atom (.int k i)):=by kernel_rfl) (ho:o.op = .indexAddr t X Y:=by kernel_rfl) (p:kac T t=some d:=by kernel_rfl) (hk:d.kind = .slice e:=by kernel_rfl) (j:kac T e=some de:=by kernel_rfl) (s:de.size=1:=by kernel_rfl) (y:st.eval X = .row id n:=by kernel_rfl) (q:kaa st.heap id=some (.frow e 1 (xs.map enc)):=by kernel_rfl) (hn:n=xs.length:=by rfl):NStep P o st (.ref id n i.toNat):=by
 intro ψ S a w ht z;subst hn;have p:=r.get p;have j:=r.get j;unfold idx at h;split at h
 ·rename_i h0;have A:i.toNat<xs.length:=(qd.1 h).1;have l:=Sim.eval_tmps ht X;rw [y] at l;have b:=Sim.eval_tmps ht Y;rw [hy] at b;have b:=b.atom;obtain ⟨hl,_,cs,c,_,_⟩:=z id _ q;rw [qj] at hl c;obtain ⟨g,cap,cur,f,C,_⟩:=kdj c;have hK:id∈st.ids/\a.eval X=ψ.val id:=by
   generalize a.eval X=u at l;cases l with
   | row hK B h1 hv=>exact ⟨hK,hv hl.symm⟩
  refine kad w (.pointer (some ⟨g,i.toNat,none⟩)) ?_ ⟨kaf _, .ref hK.1 (by omega) rfl fun _=>⟨g,by rw [f];rfl,rfl⟩⟩;have m:i<(xs.length:Int):=by omega
  simp [execOp,ho,hK.2,f,b,Instr.indexAt,asIntOf,run_underlying (p.slice hk),h0,m,j.size,s,ka3]
 ·cases h
theorem kei (t:TypeId) (d:TD) (id:Nat) {α:Type} (enc:α->FV) (xs:List α) (x:α) (i:Int) (X:Operand) (n:Nat) (h:idx xs i=some x) (r:TOk P T:=by exact kag) (ho:o.op = .load t X:=by kernel_rfl) (k:kac T t=some d:=by kernel_rfl) (hk:d.kind.agg=false:=by kernel_rfl) (s:st.eval X = .ref id n i.toNat:=by kernel_rfl) (l:kaa st.heap id=some (.frow t 1 (xs.map enc)):=by kernel_rfl) (hn:n=xs.length:=by rfl) (m:∀ y,(enc y).cells=[enc y]:=by exact fun _=>rfl):NStep P o st (.fz (enc x)):=by
 intro ψ S a w ht z;subst hn;have k:=r.get k;unfold idx at h;split at h
 ·rename_i h0;have A:i.toNat<xs.length:=(qd.1 h).1;have f:=Sim.eval_tmps ht X;rw [s] at f;obtain ⟨hl,_,cs,c,_,hr⟩:=z id _ l;rw [qj] at hl c;obtain ⟨g,cap,cur,e,F,B,hc2,C,D⟩:=kdj c;have hp:a.eval X = .pointer (some ⟨g,i.toNat,none⟩):=by
   generalize a.eval X=u at f;cases f with
   | ref hK E h1 hv=>
    obtain ⟨b,p,rfl⟩:=hv hl.symm;rw [e] at p;simp only [kak,qb] at p;rw [p]
  have q:cs[i.toNat]?=some (cs[i.toNat]'(by rw [c.1];omega)):=qa _;have j:w.cell? ⟨g,i.toNat,none⟩=some (cs[i.toNat]'(by rw [c.1];omega)):=by rw [e] at c;rw [World.ownsRow.cellAt c i.toNat (by omega),q]
  refine kad w (cs[i.toNat]'(by rw [c.1];omega)) ?_ ⟨kaf _, .fz ((hr i.toNat (enc x) 0 _ (enc x) (by rw [qg,h];rfl) (by simp) (by rw [m];rfl)).mono fun _ h => .inl h)⟩;simp [execOp,ho,hp,Instr.loadAt,Instr.sureAddr,loadVar,k.isAgg,hk,j]
 ·cases h
theorem kfs (t:TypeId) (d:TD) (id:Nat) {α:Type} (enc:α->FV) (xs:List α) (x y:α) (i:Int) (X Y:Operand) (n:Nat) (h:idx xs i=some x) (hT:TOk P T:=by exact kag) (ho:o.op = .store t X Y:=by kernel_rfl) (Q:kac T t=some d:=by kernel_rfl) (hz:d.size=1:=by kernel_rfl) (hx:st.eval X = .ref id n i.toNat:=by kernel_rfl) (I:kaa st.heap id=some (.frow t 1 (xs.map enc)):=by kernel_rfl) (hn:n=xs.length:=by rfl) (hy:st.eval Y = .fz (enc y):=by kernel_rfl) (D:∀ y,∃ u,enc y = .atom u/\u.oneCell'=true:=by exact fun _=>⟨_,rfl,rfl⟩):StepA P o st .any ((id, .frow t 1 ((xs.set i.toNat y).map enc))::st.heap) st.ids:=by
 subst hn;intro F S0 N0 ψ S a w E;have Q:=hT.get Q;unfold idx at h;split at h
 ·rename_i h0;have ac:i.toNat<xs.length:=(qd.1 h).1;have f:=E.core;obtain ⟨ad,⟨hl,J,cs,l,ae,hr⟩,R⟩:=f.obj id _ I;rw [qj] at hl l;have hcl:cs.length=xs.length:=by rw [l.1,qa1]
  obtain ⟨g,cap,cur,m,hg,U,hc2,V,Z⟩:=kdj l;have G:=E.eval X;rw [hx] at G;have hp:a.eval X = .pointer (some ⟨g,i.toNat,none⟩):=by
   generalize a.eval X=u at G;cases G with
   | ref hK af h1 hv=>
    obtain ⟨b,K,rfl⟩:=hv hl.symm;rw [m] at K;simp only [kak,qb] at K;rw [K]
  obtain ⟨u,hu,H⟩:=D y;have p:=E.eval Y;rw [hy,hu] at p;have p:=p.atom;have L:u.cells=#[u]:=by cases u <;> first | rfl | cases H
  have hst:=run_storeCells_at (P:=P) g i.toNat t [u] 0 cur w hg (by simp;omega) (fun v hv=>by simp at hv;rw [hv];exact H);obtain ⟨new,s⟩:∃ new:Array Value,new=(cur.toList.take (i.toNat+0)++[u]++cur.toList.drop (i.toNat+0+[u].length)).toArray:=⟨_,rfl⟩;rw [<- s] at hst;have M:new.toList=cur.toList.set i.toNat u:=by rw [s,List.set_eq_take_append_cons_drop,qt (by simp;omega)];simp
  have aa:new.size=cap:=by rw [<- qav,M,List.length_set,qav,V]
  have A:∀ k,k<w.heap.size->¬ Blk (ψ.val id) k->(w.setRow g new).heap[k]?=w.heap[k]?:=fun k _ hk=>kfv g new k fun e=>hk (.of (by rw [m,e];rfl));have ag:(w.setRow g new).heap.size=w.heap.size:=by simp [World.setRow]
  have B:ψ.set id xs.length (ψ.val id)=ψ:=by
   unfold Env.set;congr 1
   ·funext j;split;rename_i N;rw [N,hl]
    ·rfl
   ·funext j;split;rename_i N;rw [N]
    ·rfl
  have hk:Same S w (w.setRow g new):=fun k hk hl=>A k hl fun e=>(R k e).1 hk;obtain ⟨c1,c2,c3⟩:=f.upd (n:=xs.length) (v:=ψ.val id) (w':=w.setRow g new) (ob' := .frow t 1 ((xs.set i.toNat y).map enc)) I (by omega) A (.inr ⟨hl,rfl⟩) (fun b K => .inl K) (by
   rw [B];refine ⟨by simp [hl],J,cs.set i.toNat u,?_,fun z r=>?_,fun k z j v q r hv C=>?_⟩;rw [qj,List.length_set,m];refine ⟨by rw [List.length_set,hcl,qa1], .inr ⟨g,cap,new,rfl,qas _,kf1 g hg,U,hc2,by rw [aa,qa1],?_⟩⟩;rw [qa1,M,List.take_set,Z];obtain ⟨z0,_,rfl⟩:=qx.1 r;obtain ⟨u0,h1,h2⟩:=D z0;rw [h1];exact ⟨rfl,fun q C=>by simp [FV.cells] at C;subst C;exact h2⟩
   ·obtain ⟨z0,c,rfl⟩:∃ z0,(xs.set i.toNat y)[k]?=some z0/\enc z0=z:=(by rw [qg,qs] at r;exact r);obtain ⟨u0,h1,h2⟩:=D z0;have N:j=0:=(by rw [h1] at C;have:=(qd.1 C).1;simp [FV.cells] at this;exact this);subst N;have ab:q=enc z0:=(by rw [h1] at C ⊢; simp [FV.cells] at C;exact C.symm);subst ab;simp only [qa1,Nat.add_zero] at hv;by_cases O:i.toNat=k;subst O;rw [qa5 (by omega)] at hv c;injection hv with hv;injection c with c;subst hv c;rw [hu];exact .atom H
    ·rw [qbb O] at hv c;exact (hr k (enc z0) 0 v (enc z0) (by rw [qg,c];rfl) (by simpa using hv) (by rw [h1];rfl)).keep hk)
  rw [B] at c1;refine ke0 (w.setRow g new) ?_ ⟨ψ,S,c1, .any,⟨rfl,rfl,rfl,by omega,c3,fun _=>qu _⟩,Ext.refl,fun _ h=>h,fun _ h=>h,c2⟩;simp only [execOp,ho,Instr.storeAt,hp,p,Instr.sureAddr,storeVar,Q.size,Sem.run_bind,Sem.run_pure,Result.andThen_ok];rw [qq (by rw [L,hz];simp)];simp [L,hst]
 ·cases h
def rel1 (id n:Nat):AV->AV
 | .row k m=>bif Nat.beq k id then .row k n else .row k m
 | y=>y
def relG (id n:Nat):AV->AV
 | .agg cs => .agg (cs.map (rel1 id n))
 | .fn f cs => .fn f (cs.map (rel1 id n))
 | y=>rel1 id n y
def relT (id n:Nat):AV->AV
 | .tup cs => .tup (cs.map (relG id n))
 | y=>relG id n y
def relO (id n:Nat):AObj->AObj
 | .box e cs => .box e (cs.map (rel1 id n))
 | y=>y
def kxt (id:Nat) (st:St):List Nat:=st.tmps.flatMap (fun p=>ktt id p.2)++st.heap.flatMap (fun p=>kv8 id p.2)
def kzo (id n:Nat) (st:St):St:={ dfr:=st.dfr,n:=st.n,tmps:=st.tmps.map (fun p=>(p.1,relT id n p.2)),heap:=st.heap.map (fun p=>(p.1,relO id n p.2)),ids:=st.ids }
theorem kt1 {id n:Nat} {y:AV} (h:∀ m∈kpp id y,m=n):rel1 id n y=y:=by
 cases y with
 | row k m=>
  simp only [rel1];cases a:Nat.beq k id with
  | false=>rfl
  | true=>rw [h m (by simp [kpp,a])];rfl
 | _=>rfl
theorem klt {α:Type} {f:α->α} {l:List α} (h:∀ x∈l,f x=x):l.map f=l:=by rw [List.map_congr_left h];simp
theorem ktq {id n:Nat} (y:AV) (h:∀ m∈ky7 id y,m=n):relG id n y=y:=by
 cases y with
 | agg cs=>exact qah AV.agg (klt fun x a=>kt1 fun m hm=>h m (qat.2 ⟨x,a,hm⟩))
 | fn f cs=>exact qah (AV.fn f) (klt fun x a=>kt1 fun m hm=>h m (qat.2 ⟨x,a,hm⟩))
 | row k m=>exact kt1 (y := .row k m) h
 | _=>rfl
theorem kabp {id n:Nat} {y:AV} (h:∀ m∈ktt id y,m=n):relT id n y=y:=by
 cases y with
 | tup cs=>exact qah AV.tup (klt fun x a=>ktq _ fun m hm=>h m (qat.2 ⟨x,a,hm⟩))
 | agg cs=>exact ktq (.agg cs) h
 | fn f cs=>exact ktq (.fn f cs) h
 | row k m=>exact ktq (.row k m) h
 | _=>rfl
theorem kabd {id n:Nat} {y:AObj} (h:∀ m∈kv8 id y,m=n):relO id n y=y:=by
 cases y with
 | box e cs=>exact qah (AObj.box e) (klt fun x a=>kt1 fun m hm=>h m (qat.2 ⟨x,a,hm⟩))
 | _=>rfl
theorem k7p {st:St} (id:Nat) {k m n:Nat} (h:kxt id st=List.replicate k m) (hmn:m=n):LeSt st (kzo id n st):=by
 have a:∀ x∈kxt id st,x=n:=fun x b=>by rw [h] at b;rw [(qbn.1 b).2,hmn]
 have:kzo id n st=st:=by
  unfold kzo;have h1:st.tmps.map (fun p=>(p.1,relT id n p.2))=st.tmps:=klt fun p hp=>by rw [kabp fun m hm=>a m (qab.2 (.inl (qat.2 ⟨p,hp,hm⟩)))]
  have c:st.heap.map (fun p=>(p.1,relO id n p.2))=st.heap:=klt fun p hp=>by rw [kabd fun m hm=>a m (qab.2 (.inr (qat.2 ⟨p,hp,hm⟩)))]
  rw [h1,c]
 rw [this];exact LeSt.refl
end Go.Proofs.YtnlhjbnpjefjgabGreatDoor
