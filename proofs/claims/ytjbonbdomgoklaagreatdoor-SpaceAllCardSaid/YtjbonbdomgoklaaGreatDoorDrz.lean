import Derived.Test.YtjbonbdomgoklaaGreatDoorHd
import Derived.Laws.StructEq
import Derived.Laws.BytesString
import Derived.Lib.ConvBytes
import Derived.Deep.AppendSrc
import Derived.Lib.Builder
import Derived.Lib.AppendStr
import Derived.Lib.UnsafeStr
import Derived.MapKept
import Derived.Laws.OwnMore
import Derived.Recover
set_option linter.all false
namespace Go.Proofs.YtjbonbdomgoklaaGreatDoor
open Go Go.RowKit
def toBA (xs:List Int):BA:=xs.foldl (fun r n=>r.push (UInt8.ofNat n.toNat)) ByteArray.empty
section
variable {P:Program} {F S0:Nat->Prop} {N0:Nat} {w w':World} {S S':Nat->Prop} {ψ:Env} {K:Nat->Prop} {T:List (TypeId×TD)} {o:Oper} {a:Act} {st:St} {t:TypeId} {d:TD} {id:Nat}
theorem kacn {sr:TypeId} {x:Operand} {k k':IntKind} {n:Int} {ds:TD} (b:TOk P T) (ho:o.op = .convert sr t x) (hs:kag T sr=some ds) (c:kag T t=some d) (hk:d.kind = .int k) (f:st.eval x = .fz (.atom (.int k' n))):NStep P o st (.fz (.atom (.int k (k.wrap n)))):=by obtain ⟨_,e,h1,_⟩:=b.get hs;obtain ⟨_,e',g,a⟩:=b.get c;rw [hk] at a;cases e' <;> simp only [kic] at a;subst a;exact kakr ds ho ⟨_,h1⟩ g f
theorem k9c {sr:TypeId} {x:Operand} {s:BA} {ds:TD} (c:TOk P T) (ho:o.op = .convert sr t x) (hs:kag T sr=some ds) (b:ds.kind = .str) (e:kag T t=some d) (hk:d.kind = .str) (f:st.eval x = .fz (.atom (.string s))):NStep P o st (.fz (.atom (.string s))):=by intro ψ S a w ht g;have h1:=Sim.eval_tmps ht x;rw [f] at h1;refine kah w (.string s) ?_ ⟨kaj _, .fz (.atom rfl)⟩;simp [execOp,ho,h1.atom,convert,run_underlying ((c.get hs).str b),run_underlying ((c.get e).str hk)]
theorem kaip {v:Value} {n:Int} (h:RF S w v (eU8 n)):v = .int .u8 n:=h.atom_eq
theorem s_b2s (sr e:TypeId) (x:Operand) (xs:List Int) (ds de:TD) (q:TOk P T) (ho:o.op = .convert sr t x) (hs:kag T sr=some ds) (r:ds.kind = .slice e) (D:kag T e=some de) (s:de.kind = .int .u8) (E:kag T t=some d) (hk:d.kind = .str) (F:kpz (st.eval x)=some (xs.map eU8):=by kernel_rfl):NStep P o st (.fz (eS (toBA xs))):=by
 intro ψ S a w ht K;obtain ⟨A,cap,size,n,u,hv,G⟩:=kw5 (Sim.eval_tmps ht x) F;obtain ⟨A',cap',css,i,H,hc,hm,I,ha,hl,hr⟩:=G.lst_inv;have hA:A'=A/\cap'=cap:=by rw [hv] at i;injection i with h1 p J;exact ⟨h1.symm,J.symm⟩
 obtain ⟨rfl,rfl⟩:=hA;obtain ⟨_,e',h1,p⟩:=q.get D;rw [s] at p;cases e' <;> simp only [kic] at p;subst p;refine kah w (.string (toBA xs)) ?_ ⟨kaj _, .fz (.atom rfl)⟩;have k:(Conv.bytesToString (.slice A' n cap')).run P w = .ok (.string (toBA xs)) w:=by
  cases A' with
  | none=>
   have y:xs=[]:=by
    cases xs with
    | nil=>rfl
    | cons x xs=>obtain ⟨b,o,h,_⟩:=ha 0 (eU8 x) rfl;cases h
   subst y;rfl
  | some ad=>
   refine run_bytesToString w ad n cap' xs ?_;have:=run_loadCells_list (P:=P) w ad (xs.map (Value.int .u8)) fun j v C=>(by simp only [qq,qw] at C;obtain ⟨m,z,rfl⟩:=C;have c:(xs.map eU8)[j]?=some (eU8 m):=(by rw [qq,z];rfl);obtain ⟨b,off,hA,_,B⟩:=ha j _ c;injection hA with hA;subst hA;obtain ⟨l1,l2,l3⟩:=hl j _ c;have hs1:size=1:=(by rw [<- l2];rfl);subst hs1;have f:(css j)[0]?=some ((css j)[0]'(by omega)):=qb _;have:=hr j _ 0 _ (eU8 m) c f rfl;rw [kaip this] at f;have g:=B 0 _ f;rw [kcc];simpa using g);have l:(xs.map (Value.int .u8)).length=n:=(by rw [u];simp);rw [l] at this;exact this
 simp only [execOp,ho,hv,Sem.run_bind];rw [run_convert_bytes_string w sr t e A' n cap' ((q.get hs).slice r) h1 ((q.get E).str hk),k];rfl
theorem kaea {n:Nat} {parts:Array (Nat×Operand)} {e:TypeId} {de:TD} {xs:List FV} (ho:o.op = .buildSlice t n parts) (X:TdOk P t d) (hk:d.kind = .slice e) (I:TdOk P e de) (g:0<de.size) (hn:xs.length=n) (T:n*de.size<=16777216)
  (hp:kp4 de.size 0 (ke2 st parts)=some xs) (A:st.ids.contains id=false):StepA P o st (.row id n) ((id, .frow e de.size xs)::st.heap) (id::st.ids):=by
 have A:id∉st.ids:=by simpa using A
 subst hn;intro F S0 N0 ψ S a w J;have ht:=J.tmps;obtain ⟨e1,e2⟩:=kp5 ht parts;obtain ⟨p1,p2⟩:=kw8 hp;obtain ⟨vs,C⟩:∃ vs:List Value,vs=parts.toList.map (fun p=>a.eval p.2):=⟨_,rfl⟩;have f:parts.toList.length=xs.length:=by
  have:(ke2 st parts).length=xs.length:=by rw [p1];simp
  simpa [ke2] using this
 have D:vs.length=xs.length:=by rw [C];simp at f ⊢; exact f
 have k:∀ (i:Nat) (x:FV),xs[i]?=some x->∃ v p,vs[i]?=some v/\parts.toList[i]?=some p/\p.1=i/\RF S w v x:=fun i x B=>by
  have hi:i<parts.toList.length:=by rw [f];exact (qh.1 B).1
  have Y:(ke2 st parts)[i]?=some (i, .fz x):=by rw [p1];simp [B]
  have E:parts.toList[i]?=some parts.toList[i]:=qb hi;have L:(parts.map fun (i,x)=>(i,a.eval x)).toList[i]?=some (parts.toList[i].1,a.eval parts.toList[i].2):=by simp [E]
  obtain ⟨r1,r2⟩:=e2 i _ _ L Y;exact ⟨a.eval parts.toList[i].2,parts.toList[i],by rw [C,qq,E];rfl,E,r1,r2.inv⟩
 have M:(parts.map fun (i,x)=>(i,a.eval x)).toList=(vs.zipIdx 0).map (fun x=>(x.2,x.1)):=by
  apply qbt;intro i;by_cases hi:i<xs.length;obtain ⟨v,p,h1,U,Z,_⟩:=k i xs[i] (qb hi);have:v=a.eval p.2:=(by rw [C,qq,U] at h1;simpa using h1.symm);simp only [Array.toList_map,qq,List.getElem?_zipIdx,h1,U,qba,Nat.zero_add];rw [this,Z]
  ·rw [qaq (by simp at f ⊢; omega),qaq (by simp [D];omega)]
 have c:∀ v∈vs,v.cells.size=de.size:=fun v hv=>by obtain ⟨i,hi,rfl⟩:=qal.1 hv;obtain ⟨v,p,h1,_,_,N⟩:=k i xs[i] (qb (by omega));rw [qb hi] at h1;injection h1 with h1;rw [h1,(N.cells (p2 _ (qn _)).2).1,(p2 _ (qn _)).1]
 obtain ⟨z,O,aa⟩:=I.zero (P:=P) (w:=w);obtain ⟨cells,hcl⟩:∃ cells:Array Value,cells=(vs.flatMap fun v=>v.cells.toList).toArray:=⟨_,rfl⟩;have K:(Instr.buildSlice t xs.length (parts.map fun (i,x)=>(i,a.eval x))).run P w = .ok (.slice (some ⟨w.heap.size,0,none⟩) xs.length xs.length) (w.alloc (.cells cells e)):=by
  have Q:¬ xs.length*de.size > 2 ^ 24:=by omega
  have m:∀ c0:Array Value,xs.length*de.size=c0.size->Instr.fill (fun i=>some (i*de.size,de.size)) c0 (parts.map fun (i,x)=>(i,a.eval x)).toList=some cells:=fun c0 R=>by rw [M,Great.fill_whole g vs c0 c (by rw [D];exact R),hcl]
  unfold Instr.buildSlice;rw [Sem.run_bind,run_underlying (X.slice hk),Result.andThen_ok];simp only [Sem.run_bind,I.size,Result.andThen_ok,qi Q];by_cases h0:xs.length*de.size=0
  ·simp only [ql h0,Sem.run_bind,Sem.run_pure,Result.andThen_ok];rw [m];rfl
   ·simp
  ·simp only [qi h0,Sem.run_bind,O,Result.andThen_ok,Sem.run_pure];rw [m];rfl
   ·simp
 have q:cells.toList.length=xs.length*de.size:=by
  rw [hcl];have:∀ l:List Value,(∀ v∈l,v.cells.size=de.size)->(l.flatMap fun v=>v.cells.toList).length=l.length*de.size:=fun l=>by
   induction l with
   | nil=>intro _;simp
   | cons v l ih=>
    intro h;rw [qb7,qac,ih fun u hu=>h u (qk _ hu),qa9,h v (qo ..),qat,Nat.succ_mul,Nat.add_comm]
  simpa [D] using this vs c
 have r:=J.core;have G:Grow w (w.alloc (.cells cells e)):=kbl _ _;refine kah (w.alloc (.cells cells e)) (.slice (some ⟨w.heap.size,0,none⟩) xs.length xs.length) ?_ ⟨ψ.set id xs.length (.slice (some ⟨w.heap.size,0,none⟩) xs.length xs.length),S,?_,?_,kkg _ r.fr,kb5 A _ _,fun _ h=>qk _ h,fun _ h=>h,Same.of_grow G⟩;have s:=K;simp only [execOp,ho,Sem.run_bind];rw [show (parts.map fun (i,x)=>(i,a.eval x))=parts.map (fun x=>(x.1,a.eval x.2)) from rfl] at s;simp [s]
 ·refine r.add G A (fun b T=>by simp [kau] at T;omega) ⟨kcl _ _,g,cells.toList,?_,fun x B=>p2 x B,fun i x j v y B hv hy=>?_⟩
  ·rw [kap];refine ⟨q, .inr ⟨w.heap.size,xs.length,cells,rfl,qao _,heap_alloc_new w _,qx _,?_,by simpa using q,?_⟩⟩;have:xs.length*1<=xs.length*de.size:=Nat.mul_le_mul_left _ g;unfold maxLen;omega
   ·rw [<- q,qar]
  ·obtain ⟨u,p,h1,_,_,N⟩:=k i x B;have V:j<de.size:=(by have:=(qh.1 hy).1;rw [(p2 x (qp B)).1] at this;exact this);have H:=Great.flat_get g vs c (i*de.size+j);rw [show (i*de.size+j) / de.size=i by rw [Nat.mul_comm,Nat.mul_add_div g,Nat.div_eq_of_lt V];omega,show (i*de.size+j) % de.size=j by rw [Nat.mul_comm,Nat.mul_add_mod,Nat.mod_eq_of_lt V],h1] at H;simp only [qa] at H;rw [hcl] at hv;simp only [] at hv;rw [H] at hv;have:=(N.cells (p2 x (qp B)).2).2.1 j v y (by simpa using hv) hy;exact this.keep (Same.of_grow G)
 ·exact .row (qo ..) (by rw [kcl];exact qx _) rfl fun _=>(kap _ _).symm
theorem kqs (t:TypeId) (d:TD) (id:Nat) {α:Type} (enc:α->FV) (n:Nat) (parts:Array (Nat×Operand)) (e:TypeId) (de:TD) (xs:List α) (c:TOk P T:=by exact kae) (h:Nat.ble (n*de.size) 16777216=true:=by kernel_rfl) (hp:kp4 de.size 0 (ke2 st parts)=some (xs.map enc):=by kernel_rfl) (b:st.ids.contains id=false:=by kernel_rfl) (ho:o.op = .buildSlice t n parts:=by kernel_rfl) (f:kag T t=some d:=by kernel_rfl) (hk:d.kind = .slice e:=by kernel_rfl) (a:kag T e=some de:=by kernel_rfl) (g:Nat.ble 1 de.size=true:=by kernel_rfl) (hn:xs.length=n:=by rfl):StepA P o st (.row id xs.length) ((id, .frow e de.size (xs.map enc))::st.heap) (id::st.ids):=by have:=kaea (id:=id) ho (c.get f) hk (c.get a) (qu g) (by simpa using hn) (qu h) hp b;rw [<- hn] at this;exact this
end
section
variable {P:Program} {F S0:Nat->Prop} {N0:Nat} {w w':World} {S S':Nat->Prop} {ψ:Env} {K:Nat->Prop} {T:List (TypeId×TD)} {o:Oper} {a:Act} {st:St} {t:TypeId} {d:TD} {id:Nat}
theorem keg (t:TypeId) (d:TD) (id:Nat) (x:Operand) (e e2:TypeId) (size n:Nat) (xs:List FV) (k:TOk P T:=by exact kae) (ho:o.op = .call { callee := .builtin .len,args:=#[x],argTypes:=#[t] }:=by kernel_rfl) (l:kag T t=some d:=by kernel_rfl) (hk:d.kind = .slice e2:=by rfl) (m:st.eval x = .row id n:=by kernel_rfl) (i:kad st.heap id=some (.frow e size xs):=by kernel_rfl) (c:n=xs.length:=by simp):
  NStep P o st (.fz (.atom (.int .i64 n))):=by
 intro ψ S a w j p;have h0:=Sim.eval_tmps j x;rw [m] at h0;obtain ⟨k0,q,cs,f,_⟩:=p id _ i;have hv:∃ A cap,a.eval x = .slice A n cap:=by
  generalize a.eval x=u at h0;cases h0 with
  | row hK hn h1 hv=>
   obtain rfl:=hv (by rw [k0,c]);rcases f.2 with ⟨b,h⟩ | ⟨g,cap,cur,b,_⟩;exact ⟨none,0,by rw [b,c,h]⟩
   ·exact ⟨some ⟨g,0,none⟩,cap,by rw [b,c]⟩
 obtain ⟨A,cap,hv⟩:=hv;refine kah w (.int .i64 n) ?_ ⟨kaj _, .fz (.atom rfl)⟩;simp [execOp,ho,resolve,invoke,builtin,Builtin.len_,run_underlying ((k.get l).slice hk),hv,goInt]
theorem krh {s:Value} {size m:Nat} {zs:List FV} (hs:RF S w s (.lst size m zs)):∃ A cap news,s = .slice A m cap/\m=zs.length/\m<=cap/\cap<=9223372036854775807/\news.length=zs.length*size/\(∀ u∈news,u.oneCell'=true)/\RowR S w size zs news/\ElR size zs /\
  ((A=none/\zs=[])\/(zs=[]/\∃ ad,A=some ad)\/∃ ad,A=some ad/\∀ j u,news[j]?=some u->w.cell? (ad.add j)=some u):=by
 obtain ⟨A,cap,css,rfl,rfl,hc,hm,k,ha,hl,hr⟩:=hs.lst_inv;have a:ElR size zs:=fun x l=>by obtain ⟨i,hi,rfl⟩:=qal.1 l;exact (hl i _ (qb hi)).2
 by_cases e:zs=[]
 ·subst e;refine ⟨A,cap,[],rfl,rfl,hc,hm,by simp,(fun u h=>by cases h),(fun i x j v y h=>by simp at h),a,?_⟩;cases A with
  | none=>exact .inl ⟨rfl,rfl⟩
  | some ad=>exact .inr (.inl ⟨rfl,ad,rfl⟩)
 ·obtain ⟨y0,ys,rfl⟩:∃ y0 ys,zs=y0::ys:=by
   cases zs with
   | nil=>exact absurd rfl e
   | cons y ys=>exact ⟨y,ys,rfl⟩
  obtain ⟨b,off,rfl,_,_⟩:=ha 0 y0 rfl;obtain ⟨news,hn,d,o⟩:=k2v (b:=b) (w:=w) (size:=size) (Q:=fun c y=>(∀ j v z,c[j]?=some v->y.cells[j]?=some z->RF S w v z)/\(∀ u∈c,u.oneCell'=true)) (y0::ys) off fun i y hy=>by obtain ⟨b',o',hA,_,d⟩:=ha i y hy;injection hA with hA;injection hA with e1 e2;subst e1 e2;obtain ⟨l1,l2,l3⟩:=hl i y hy;refine ⟨css i,d,l1,fun j v z hv k=>hr i y j v z hy hv k,fun u hu=>?_⟩;obtain ⟨j,f,rfl⟩:=qal.1 hu;have g:j<y.cells.length:=(by omega);exact (hr i y j _ _ hy (qb f) (qb g)).one (l3 _ (qn g))
  refine ⟨some ⟨b,off,none⟩,cap,news,rfl,rfl,hc,hm,hn,fun u hu=>?_,fun i x j v y l hv hy=>?_,a, .inr (.inr ⟨_,rfl,fun j u h=>by rw [kcc];exact d j u h⟩)⟩;obtain ⟨j,f,rfl⟩:=qal.1 hu;have n:j / size<(y0::ys).length:=(by rw [Nat.div_lt_iff_lt_mul k];omega);refine (o (j / size) _ (qb n)).2 _ ?_;rw [qaz];refine ⟨j % size,?_⟩;rw [qad,ql (Nat.mod_lt _ k),qau,show j / size*size+j % size=j by rw [Nat.mul_comm];exact Nat.div_add_mod j size];exact qb f
  ·have f:j<size:=(by have:=(qh.1 hy).1;rw [(a x (qp l)).1] at this;exact this);refine (o i x l).1 j v y ?_ hy;rw [qad,ql f,qau];exact hv
theorem k9b {s:Value} {size m:Nat} {zs:List FV} {e:TypeId} (ht:P.underlying t=some (.slice e)) (hs:RF S w s (.lst size m zs)):∃ news,Src P size t s m news w/\news.length=zs.length*size/\RowR S w size zs news/\ElR size zs:=by
 obtain ⟨A,cap,news,rfl,rfl,h1,g,a,b,c,d,f⟩:=krh hs;refine ⟨news,?_,a,c,d⟩;rcases f with ⟨rfl,rfl⟩ | ⟨rfl,ad,rfl⟩ | ⟨ad,rfl,h⟩;have:news=[]:=qbe (by simpa using a);subst this;exact Src.ofNil w ht cap;have:news=[]:=qbe (by simpa using a);subst this;exact Src.ofSlice w ht ad 0 cap [] (by simp) (fun j u h=>by simp at h) (fun u h=>by cases h)
 ·exact Src.ofSlice w ht ad _ cap news a h b
theorem kac4 {s:Value} {size m:Nat} {zs:List FV} (hs:RF S w s (.lst size m zs)):∃ A cap olds,s = .slice A m cap/\m=zs.length/\m<=cap/\cap<=9223372036854775807/\(Builtin.firstCells size m (.slice A m cap)).run P w.drew = .ok olds.toArray w.drew/\olds.length=zs.length*size/\RowR S w size zs olds/\ElR size zs:=by
 obtain ⟨A,cap,news,rfl,rfl,h1,b,a,f,c,d,e⟩:=krh hs;refine ⟨A,cap,news,rfl,rfl,h1,b,?_,a,c,d⟩;rcases e with ⟨rfl,rfl⟩ | ⟨rfl,ad,rfl⟩ | ⟨ad,rfl,h⟩;have:news=[]:=qbe (by simpa using a);subst this;exact run_firstCells_none w.drew size 0 0 cap;have:news=[]:=qbe (by simpa using a);subst this;exact run_firstCells_some w.drew size 0 ad 0 cap [] (by simp) (fun j u h=>by simp at h)
 ·exact run_firstCells_some w.drew size _ ad _ cap news a (by simpa using h)
theorem kaes {x y:Operand} {e:TypeId} {de:TD} {n m:Nat} {xs zs:List FV} (ho:o.op = .call { callee := .builtin .append,args:=#[x,y],argTypes:=#[t,t] }) (hd:TdOk P t d) (hk:d.kind = .slice e) (J:TdOk P e de) (hz:0<de.size) (K:de.zero.length=de.size)
  (L:st.eval x = .lim de.size n xs) (hy:st.eval y = .fz (.lst de.size m zs)\/st.eval y = .lim de.size m zs) (M:zs≠[]) (r:(xs.length+zs.length)*(de.bytes+1)<=140737488355328) (f:st.ids.contains id=false):
  StepA P o st (.row id (xs++zs).length) ((id, .frow e de.size (xs++zs))::st.heap) (id::st.ids):=by
 have f:id∉st.ids:=by simpa using f
 intro F S0 N0 ψ S a w j;have c:=j.core;have k:∃ A,a.eval x = .slice A n n/\RF S w (.slice A n n) (.lst de.size n xs):=by
  have hv:=j.eval x;rw [L] at hv;generalize a.eval x=u at hv;cases hv with
  | lim h=>exact ⟨_,rfl,h⟩
 obtain ⟨A,k,N⟩:=k;have s:RF S w (a.eval y) (.lst de.size m zs):=by
  have hv:=j.eval y;rcases hy with hy | hy;rw [hy] at hv;exact hv.inv
  ·rw [hy] at hv;generalize a.eval y=u at hv;cases hv with
   | lim h=>exact h
 have l:=r;rw [Nat.mul_add,qbh] at l;have ht:=hd.slice hk;obtain ⟨⟨i,z,hi,B,O,Q,R⟩,_⟩:=J;have T:z.cells.size=de.size:=by rw [<- qa9,R,K]
 obtain ⟨A',cap',olds,hA,U,_,_,C,D,V,E⟩:=kac4 (P:=P) N;injection hA with X ae Y;subst X Y;obtain ⟨news,G,Z,aa,H⟩:=k9b (P:=P) ht s;have hm:m=zs.length:=by obtain ⟨_,_,_,_,h,_⟩:=krh s;exact h
 have ad:0<zs.length:=List.length_pos_iff.2 M;subst hm;subst U;have I:=run_append_grow_src (P:=P) w t t o.type e i z ht hi Q A xs.length xs.length olds (by rw [B];exact C) (a.eval y) zs.length news (by rw [B];exact G) (by omega) (by omega) (by rw [O];exact growslice_fits (by omega) (by omega));have ab:=grownCap_ge w (xs.length+zs.length) xs.length e;have ac:grownCap w (xs.length+zs.length) xs.length e<=maxLen:=grownCap_le_maxLen w (xs.length+zs.length) xs.length e (by unfold maxLen;omega);have g:Grow w (w.drew.alloc (.cells ((olds++news).toArray++Builtin.zeroCells z.cells (grownCap w (xs.length+zs.length) xs.length e - (xs.length+zs.length))) e)):=
  (k3c w).trans (kbl w.drew _)
 have p:(xs++zs).length=xs.length+zs.length:=qac;have q:(olds++news).length=(xs.length+zs.length)*de.size:=by rw [qac,D,Z,qbj]
 refine kah _ (.slice (some ⟨w.heap.size,0,none⟩) (xs.length+zs.length) (grownCap w (xs.length+zs.length) xs.length e)) ?_ ⟨ψ.set id (xs.length+zs.length) (.slice (some ⟨w.heap.size,0,none⟩) (xs.length+zs.length) (grownCap w (xs.length+zs.length) xs.length e)),S,c.add g f (fun b hb=>by simp [kau] at hb;omega) ⟨by rw [kcl,p],hz,olds++news,?_,?_,?_⟩,?_,Fr.of_grow c.fr g,kb5 f _ _,fun _ h=>qk _ h,fun _ h=>h,Same.of_grow g⟩;simp only [execOp,ho,resolve,invoke,builtin,Sem.run_bind,Sem.run_pure,Result.andThen_ok,List.map_toArray,qa2,List.map_nil,k,I]
 ·rw [kap,p];refine ⟨q, .inr ⟨w.heap.size,_,_,rfl,qao _,heap_alloc_new w.drew _,ab,ac,?_,?_⟩⟩;simp only [Array.size_append,List.size_toArray,size_zeroCells,T,q,<- qbj];congr 1;omega
  ·simp only [Array.toList_append];rw [<- q];exact List.take_left
 exact fun x L=>(qak.1 L).elim (E x) (H x);exact (RowR.append hz V aa D E).keep (Same.of_grow g)
 ·rw [p];exact .row (qo ..) (by rw [kcl];exact qx _) rfl fun _=>(kap _ _).symm
def appN {α:Type} (bytes:Nat) (xs ys:List α):Option (List α):=bif ys.isEmpty then none else app bytes xs ys
theorem kql (t:TypeId) (d:TD) (id:Nat) {α:Type} (enc:α->FV) {bytes:Nat} (xs ys:List α) {r:List α} (X Y:Operand) (e:TypeId) (de:TD) (n m:Nat) (h:appN bytes xs ys=some r) (hy:st.eval Y = .fz (.lst de.size m (ys.map enc))\/st.eval Y = .lim de.size m (ys.map enc)) (k:TOk P T:=by exact kae) (i:st.ids.contains id=false:=by kernel_rfl) (ho:o.op = .call { callee := .builtin .append,args:=#[X,Y],argTypes:=#[t,t] }:=by kernel_rfl) (l:kag T t=some d:=by kernel_rfl) (hk:d.kind = .slice e:=by kernel_rfl) (c:kag T e=some de:=by kernel_rfl) (p:Nat.ble 1 de.size=true:=by kernel_rfl) (f:de.zero.length=de.size:=by kernel_rfl) (g:de.bytes=bytes:=by kernel_rfl) (q:st.eval X = .lim de.size n (xs.map enc):=by kernel_rfl):
  StepA P o st (.row id r.length) ((id, .frow e de.size (r.map enc))::st.heap) (id::st.ids):=by
 unfold appN at h;cases b:ys.isEmpty with
 | true=>rw [b] at h;cases h
 | false=>
  rw [b] at h;obtain ⟨rfl,a⟩:=k7h h;subst g;have j:ys.map enc≠[]:=fun h0=>by have:ys=[]:=(by simpa using h0);rw [this] at b;cases b
  have:=kaes (id:=id) (P:=P) ho (k.get l) hk (k.get c) (qu p) f q hy j (by simpa using a) i;rw [<- qax,qs] at this;exact this
theorem kw1 (d:TD) {α:Type} (enc:α->FV) (xs ys:List α) (X Y:Operand) (e:TypeId) (de:TD) (n m:Nat) (D:ys.isEmpty=true) (B:TOk P T) (hy:st.eval Y = .fz (.lst de.size m (ys.map enc))\/st.eval Y = .lim de.size m (ys.map enc)) (ho:o.op = .call { callee := .builtin .append,args:=#[X,Y],argTypes:=#[t,t] }:=by kernel_rfl) (E:kag T t=some d:=by kernel_rfl) (hk:d.kind = .slice e:=by kernel_rfl) (q:kag T e=some de:=by kernel_rfl) (F:st.eval X = .lim de.size n (xs.map enc):=by kernel_rfl):NStep P o st (.lim de.size n (xs.map enc)):=by
 intro ψ S a w ht _;have r:ys=[]:=List.isEmpty_iff.1 D;subst r;have f:∃ A,a.eval X = .slice A n n/\RF S w (.slice A n n) (.lst de.size n (xs.map enc)):=by
  have hv:=Sim.eval_tmps ht X;rw [F] at hv;generalize a.eval X=u at hv;cases hv with
  | lim h=>exact ⟨_,rfl,h⟩
 obtain ⟨A,f,s⟩:=f;have j:RF S w (a.eval Y) (.lst de.size m []):=by
  have hv:=Sim.eval_tmps ht Y;rcases hy with hy | hy;rw [hy] at hv;exact hv.inv
  ·rw [hy] at hv;generalize a.eval Y=u at hv;cases hv with
   | lim h=>exact h
 have k:=(B.get E).slice hk;obtain ⟨⟨i,z,hi,x,G,H,I⟩,_⟩:=B.get q;obtain ⟨news,c,y,J,C⟩:=k9b (P:=P) k j;have hm:m=0:=by obtain ⟨_,_,_,_,h,_⟩:=krh j;exact h
 subst hm;have g:news=[]:=qbe (by simpa using y);subst g;rw [<- x] at c;have l:(Builtin.append_ #[t,t] o.type #[.slice A n n,a.eval Y]).run P w = .ok (.slice A n n) w:=by rcases c.kind with ⟨e',p⟩ | p <;> cases A <;> simp [Builtin.append_,run_underlying k,run_underlying p,sizeOf,typeInfo,hi,c.len,c.cells,storeCells]
 refine kah w (.slice A n n) ?_ ⟨kaj _, .lim (s.mono fun b K => .inl K)⟩;simp only [execOp,ho,resolve,invoke,builtin,Sem.run_bind,Sem.run_pure,Result.andThen_ok,List.map_toArray,qa2,List.map_nil,f,l]
end
def fI (x:Int):AV := .fz (eI x)
def fB (x:Bool):AV := .fz (eB x)
def fS (x:BA):AV := .fz (eS x)
def kto (id:Nat):AV->List Nat
 | .row k m=>bif Nat.beq k id then [m] else []
 | _=>[]
def k4l (id:Nat):AV->List Nat
 | .agg cs=>cs.flatMap (kto id)
 | .fn _ cs=>cs.flatMap (kto id)
 | y=>kto id y
def kxv (id:Nat):AV->List Nat
 | .tup cs=>cs.flatMap (k4l id)
 | y=>k4l id y
def k0o (id:Nat):AObj->List Nat
 | .box _ cs=>cs.flatMap (kto id)
 | _=>[]
def frz1 (id:Nat) (x:FV):AV->AV
 | .row k m=>bif Nat.beq k id then .fz x else .row k m
 | y=>y
def frzG (id:Nat) (x:FV):AV->AV
 | .agg cs=>aggA (cs.map (frz1 id x))
 | .fn f cs => .fn f (cs.map (frz1 id x))
 | y=>frz1 id x y
def frzT (id:Nat) (x:FV):AV->AV
 | .tup cs=>tupA (cs.map (frzG id x))
 | y=>frzG id x y
def frzO (id:Nat) (x:FV):AObj->AObj
 | .box e cs => .box e (cs.map (frz1 id x))
 | y=>y
def kack (id:Nat) (st:St):List Nat:=st.tmps.flatMap (fun p=>kxv id p.2)++(kdb id st.heap).flatMap (fun p=>k0o id p.2)
def frzSt (id:Nat) (x:FV) (st:St):St:={ dfr:=st.dfr,n:=st.n,tmps:=st.tmps.map (fun p=>(p.1,frzT id x p.2)),heap:=(kdb id st.heap).map (fun p=>(p.1,frzO id x p.2)),ids:=st.ids }
section
variable {F S0:Nat->Prop} {N0:Nat} {w:World} {S:Nat->Prop} {ψ:Env} {K:Nat->Prop} {id n:Nat} {x:FV} {st:St}
theorem kyn (a:∀ v,RV ψ K S w v (.row id n)->RF S w v x) {v:Value} {y:AV} (h:RV ψ K S w v y) (hr:∀ m∈kto id y,m=n):RV ψ K S w v (frz1 id x y):=by
 cases y with
 | row k m=>
  simp only [frz1];cases b:Nat.beq k id with
  | false=>exact h
  | true=>
   have hk:=qm b;subst hk;have hm:m=n:=hr m (by simp [kto]);subst hm;exact .fz (a v h)
 | _=>exact h
theorem kyu (hs:x.single=true) {y:AV} (h:y.single=true):(frz1 id x y).single=true:=by
 cases y with
 | row k m=>
  simp only [frz1];cases Nat.beq k id with
  | false=>exact h
  | true=>exact hs
 | _=>exact h
theorem kxx {α β γ:Type} (R:α->γ->Prop) {Q:α->γ->Prop} {f:β->γ} {R':α->β->Prop} {cs:Array α} {xs:List β} (hr:∀ (i:Nat) (v:α) (y:β),cs[i]?=some v->xs[i]?=some y->R' v y) (hf:∀ v y,y∈xs->R' v y->Q v (f y)):
  ∀ (i:Nat) (v:α) (y:γ),cs[i]?=some v->(xs.map f)[i]?=some y->Q v y:=by
 intro i v y hv hy;simp only [qq,qw] at hy;obtain ⟨z,a,rfl⟩:=hy;exact hf v z (qp a) (hr i v z hv a)
theorem kx7 (hs:x.single=true) (b:∀ v,RV ψ K S w v (.row id n)->RF S w v x) {v:Value} {y:AV} (h:RV ψ K S w v y) (hr:∀ m∈k4l id y,m=n):RV ψ K S w v (frzG id x y):=by
 cases y with
 | agg cs=>
  cases h with
  | agg h h1 a=>
   refine RV.aggA (by simpa using h) (fun y hy=>?_) (kxx (fun _ _=>True) a fun v y hy hv=>kyn b hv fun m hm=>hr m ?_);simp only [qaa] at hy;obtain ⟨z,c,rfl⟩:=hy;exact kyu hs (h1 z c)
   ·exact qay.2 ⟨y,hy,hm⟩
 | fn f cs=>
  cases h with
  | fn h a=>exact .fn (by simpa using h) (kxx (fun _ _=>True) a fun v y hy hv=>kyn b hv fun m hm=>hr m (qay.2 ⟨y,hy,hm⟩))
 | row k m=>exact kyn b h hr
 | _=>exact h
theorem kaiu (hs:x.single=true) (a:∀ v,RV ψ K S w v (.row id n)->RF S w v x) {v:Value} {y:AV} (h:RV ψ K S w v y) (hr:∀ m∈kxv id y,m=n):RV ψ K S w v (frzT id x y):=by
 cases y with
 | tup cs=>
  cases h with
  | tup h b=>exact RV.tupA (by simpa using h) (kxx (fun _ _=>True) b fun v y hy hv=>kx7 hs a hv fun m hm=>hr m (qay.2 ⟨y,hy,hm⟩))
 | agg cs=>exact kx7 hs a h hr
 | fn f cs=>exact kx7 hs a h hr
 | row k m=>exact kx7 hs a h hr
 | _=>exact h
theorem kaep (l:List (Nat×AV)) (t:Nat):look .any (l.map fun p=>(p.1,frzT id x p.2)) t=frzT id x (look .any l t)/\∀ m∈kxv id (look .any l t),m∈l.flatMap (fun p=>kxv id p.2):=by
 induction l with
 | nil=>exact ⟨rfl,fun m hm=>by cases hm⟩
 | cons p l ih=>
  obtain ⟨k,v⟩:=p;simp only [qa2,kbf,qb7,qak];by_cases h:k=t;simp only [ql h];exact ⟨trivial,fun m hm => .inl hm⟩
  ·simp only [qi h];exact ⟨ih.1,fun m hm => .inr (ih.2 m hm)⟩
theorem kwt (id:Nat) (x:FV) (l:List (Nat×AObj)) (t:Nat):kad (l.map fun p=>(p.1,frzO id x p.2)) t=(kad l t).map (frzO id x)/\∀ o,kad l t=some o->∀ m∈k0o id o,m∈l.flatMap (fun p=>k0o id p.2):=by
 induction l with
 | nil=>exact ⟨rfl,fun o h=>by cases h⟩
 | cons p l ih=>
  obtain ⟨k,v⟩:=p;simp only [qa2,kai,qb7,qak];by_cases h:k=t;simp only [ql h];exact ⟨rfl,fun o ho m hm=>by injection ho with ho;subst ho;exact .inl hm⟩
  ·simp only [qi h];exact ⟨ih.1,fun o ho m hm => .inr (ih.2 o ho m hm)⟩
theorem knr (id:Nat) (n k:Nat) (e:TypeId) (size:Nat) (xs:List FV) (g:kack id st=List.replicate k n:=by kernel_rfl) (f:kad st.heap id=some (.frow e size xs):=by kernel_rfl) (hn:n=xs.length:=by simp):LeSt st (frzSt id (.lst size n xs) st):=by
 subst hn;intro F S0 N0 ψ S a w hs;obtain ⟨c1,c2⟩:=kq1 hs.core f;have d:∀ m∈kack id st,m=xs.length:=fun m hm=>by rw [g] at hm;exact (qb8.1 hm).2
 have h0:=(hs.core.obj id _ f).2.1.1;have s:∀ v,RV ψ (·∈st.ids) (fun b=>S b\/kau (ψ.val id)=some b) w v (.row id xs.length)->RF (fun b=>S b\/kau (ψ.val id)=some b) w v (.lst size xs.length xs):=by
  intro v hv;cases hv with
  | row hK A h1 hv=>rw [hv (by rw [h0])];exact c2
 refine ⟨ψ,_,hs.defers,hs.size,fun t=>?_,⟨fun i o ho=>?_,fun i i' o o' b ho c q B=>?_,c1.lt,c1.s0,c1.n0,c1.fr⟩⟩;obtain ⟨l1,l2⟩:=kaep (id:=id) (x := .lst size xs.length xs) st.tmps t;show RV ψ (·∈st.ids) _ w (a.tmps.getD t undef) (look .any (st.tmps.map fun p=>(p.1,frzT id (.lst size xs.length xs) p.2)) t);rw [l1];refine kaiu rfl s ((hs.tmps t).mono (fun _ h=>h) fun _ h => .inl h) fun m hm=>d m ?_;exact qak.2 (.inl (l2 m hm))
 ·obtain ⟨l1,l2⟩:=kwt id (.lst size xs.length xs) (kdb id st.heap) i;have c:kad ((kdb id st.heap).map fun p=>(p.1,frzO id (.lst size xs.length xs) p.2)) i=some o:=ho;rw [l1,qw] at c;obtain ⟨o',h1,rfl⟩:=c;obtain ⟨k1,k2,k7⟩:=c1.obj i o' h1;refine ⟨k1,?_,k7⟩;cases o' with
  | box e2 cells=>
   obtain ⟨g0,b,cs,g2,g3,g4,g5,g6⟩:=k2;refine ⟨g0,b,cs,g2,g3,by simpa using g4,fun y hy=>?_,kxx (fun _ _=>True) g6 fun v y hy hv=>kyn s hv fun m hm=>d m ?_⟩;simp only [qaa] at hy;obtain ⟨z,C,rfl⟩:=hy;exact kyu rfl (g5 z C)
   ·exact qak.2 (.inr (l2 _ h1 m (qay.2 ⟨y,hy,hm⟩)))
  | _=>exact k2
 ·obtain ⟨l1,_⟩:=kwt id (.lst size xs.length xs) (kdb id st.heap) i;obtain ⟨l2,_⟩:=kwt id (.lst size xs.length xs) (kdb id st.heap) i';have j:kad ((kdb id st.heap).map fun p=>(p.1,frzO id (.lst size xs.length xs) p.2)) i=some o:=ho;have l:kad ((kdb id st.heap).map fun p=>(p.1,frzO id (.lst size xs.length xs) p.2)) i'=some o':=c;rw [l1,qw] at j;rw [l2,qw] at l;obtain ⟨u,hu,_⟩:=j;obtain ⟨u',r,_⟩:=l;exact c1.inj i i' u u' b hu r q B
end
def kh4 {α:Type} (s:BA):List (BA×α)->Nat->Option (Nat×α)
 | [],_=>none
 | (k,v)::l,i=>bif s.toList == k.toList then some (i,v) else kh4 s l (i+1)
def mget {α:Type} (m:List (BA×α)) (s:BA) (z:α):α:=match kh4 s m 0 with
 | some (_,x)=>x
 | none=>z
def mhas {α:Type} (m:List (BA×α)) (s:BA):Bool:=(kh4 s m 0).isSome
def mput {α:Type} (m:List (BA×α)) (s:BA) (y:α):List (BA×α):=match kh4 s m 0 with
 | some (j,_)=>m.set j (s,y)
 | none=>m++[(s,y)]
theorem kk6 (a b:BA):(a.toList == b.toList)=(a == b):=by
 rw [Bool.eq_iff_iff,beq_iff_eq,MapKept.bytes_beq,ByteArray.toList_eq,ByteArray.toList_eq];constructor;intro h;exact ByteArray.ext (Array.toList_inj.1 h)
 ·intro h;rw [h]
theorem krd {α β:Type} (f:α->β) (s:BA):∀ (m:List (BA×α)) (i:Nat),kh4 s (m.map fun p=>(p.1,f p.2)) i=(kh4 s m i).map fun p=>(p.1,f p.2)
 | [],_=>rfl
 | (k,v)::l,i=>by
  simp only [qa2,kh4];cases s.toList == k.toList with
  | true=>rfl
  | false=>exact krd f s l (i+1)
theorem kvx {α β:Type} (f:α->β) (m:List (BA×α)) (s:BA) (z:α):mget (m.map fun p=>(p.1,f p.2)) s (f z)=f (mget m s z):=by
 unfold mget;rw [krd];cases kh4 s m 0 with
 | none=>rfl
 | some p=>rfl
theorem k7q {α β:Type} (f:α->β) (m:List (BA×α)) (s:BA):mhas (m.map fun p=>(p.1,f p.2)) s=mhas m s:=by
 unfold mhas;rw [krd];cases kh4 s m 0 with
 | none=>rfl
 | some p=>rfl
theorem k6w {α:Type} {s:BA}:∀ {m:List (BA×α)} {i j:Nat} {x:α},kh4 s m i=some (j,x)->i<=j/\j - i<m.length/\∃ k,m[j - i]?=some (k,x)/\k=s
 | [],i,j,x,h=>by cases h
 | (k,v)::l,i,j,x,h=>by
  simp only [kh4] at h;cases a:s.toList == k.toList with
  | true=>
   rw [a] at h;simp only [qd,qe,qt] at h;obtain ⟨rfl,rfl⟩:=h;rw [kk6,MapKept.bytes_beq] at a;exact ⟨qx _,by simp,k,by simp,a.symm⟩
  | false=>
   rw [a] at h;obtain ⟨h1,d,k',b,c⟩:=k6w h;have e:j - i=(j - (i+1))+1:=(by omega);exact ⟨by omega,by simp;omega,k',by rw [e,qa4];exact b,c⟩
section
variable {P:Program} {F S0:Nat->Prop} {N0:Nat} {w w':World} {S S':Nat->Prop} {ψ:Env} {K:Nat->Prop} {T:List (TypeId×TD)} {o:Oper} {a:Act} {st:St} {t:TypeId} {d:TD} {id:Nat}
theorem kqv (s:BA) {R:Value->FV->Prop}:∀ (es:List MapEntry) (kv:List (BA×FV)) (i:Nat),es.length=kv.length->(∀ (j:Nat) (e:MapEntry) (p:BA×FV),es[j]?=some e->kv[j]?=some p->e.key = .string p.1/\R e.val p.2) ->
  (Instr.findNow .string (.string s) es i=some none/\kh4 s kv i=none)\/∃ j v x,Instr.findNow .string (.string s) es i=some (some (j,v))/\kh4 s kv i=some (j,x)/\R v x
 | [],[],i,_,_ => .inl ⟨rfl,rfl⟩
 | [],p::kv,i,h,_=>by cases h
 | e::es,[],i,h,_=>by cases h
 | e::es,(k,x)::kv,i,h,hr=>by
  obtain ⟨hk,hv⟩:=hr 0 e (k,x) rfl rfl;simp only [Instr.findNow,hk,Instr.sameNow,kh4,kk6];cases b:s == k with
  | true=>exact .inr ⟨i,e.val,x,rfl,rfl,hv⟩
  | false=>exact kqv s es kv (i+1) (by simpa using h) fun j e p a hp=>hr (j+1) e p (by simpa using a) (by simpa using hp)
theorem TdOk.mp {k e:Nat} (h:TdOk P t d) (hk:d.kind = .map k e):P.underlying t=some (.map k e):=by obtain ⟨_,e',h1,a⟩:=h;rw [hk] at a;cases e' <;> simp [kic] at a;rw [h1,a.1,a.2]
theorem k3a (ho:o.op = .makeMap t none:=by kernel_rfl) (d:st.ids.contains id=false:=by kernel_rfl):StepA P o st (.mp id) ((id, .smap [])::st.heap) (id::st.ids):=by
 have d:id∉st.ids:=by simpa using d
 intro F S0 N0 ψ S a w f;have c:=f.core;refine kah (w.alloc (.map #[] 0)) (.map (some w.heap.size)) ?_ ⟨ψ.set id 0 (.map (some w.heap.size)),S,?_,?_,kkg _ c.fr,kb5 d _ _,fun _ h=>qk _ h,fun _ h=>h,Same.of_grow (kbl _ _)⟩;simp [execOp,ho,Instr.makeMap];exact c.add (kbl _ _) d (fun b g=>by simp [kau] at g;omega) ⟨kcl _ _,w.heap.size,_,_,kap _ _,heap_alloc_new w _,rfl,fun i e p j hp=>by simp at j⟩
 ·exact .mp (qo ..) rfl fun _=>by rw [kap]
theorem k6h {kv:List (BA×FV)} {v:Value} (hs:ObR ψ K S w id (.smap kv)) (hv:RV ψ K S w v (.mp id)):v=ψ.val id:=by
 cases hv with
 | mp hK h1 hv=>exact hv hs.1.symm
theorem kaeb {α:Type} (enc:α->FV) (m:List (BA×α)) (s:BA) (z:α) (x y:Operand) (kt et:TypeId) (kd:TD) (zv:Value) (ho:o.op = .lookup t x y false) (F:TOk P T) (r:kag T t=some d) (hk:d.kind = .map kt et) (c:kag T kt=some kd) (i:kd.kind = .str) (inf:TypeInfo) (u:P.info? et=some inf) (hi2:inf.zero=some zv) (A:enc z = .atom zv) (B:zv.oneCell'=true) (H:st.eval x = .mp id:=by kernel_rfl) (C:kad st.heap id=some (.smap (m.map fun p=>(p.1,enc p.2))):=by kernel_rfl) (hy:st.eval y = .fz (.atom (.string s)):=by kernel_rfl):NStep P o st (.fz (enc (mget m s z))):=by
 intro ψ S a w ht I;have r:=F.get r;have c:=F.get c;have hv:=Sim.eval_tmps ht x;rw [H] at hv;have l:=I id _ C;have n:=k6h l hv;obtain ⟨h0,b,es,clock,g,G,D,hr⟩:=l;have f:=Sim.eval_tmps ht y;rw [hy] at f;have f:=f.atom;have E:(zeroValue et).run P w = .ok zv w:=by simp [zeroValue,typeInfo,u,hi2]
 have q:=MapKept.run_checkKey (w:=w) (c.str i) (k := .string s) trivial es.isEmpty 9999;rcases kqv s (R:=fun v x=>RF S w v x) es.toList (m.map fun p=>(p.1,enc p.2)) 0 (by simpa using D) (fun j e p J hp=>hr j e p (by simpa using J) hp) with ⟨f1,f2⟩ | ⟨j,v,x',f1,f2,f3⟩
 ·have hf:=MapKept.run_findKey (w:=w) (c.str i) f1;refine kah w zv ?_ ⟨kaj _, .fz ?_⟩;simp [execOp,ho,f,n,g,Instr.lookup,run_underlying (r.mp hk),MapKept.run_getObj_map G,q,hf,E]
  ·rw [<- kvx enc];unfold mget;rw [f2];simp only;rw [A];exact .atom B
 ·have hf:=MapKept.run_findKey (w:=w) (c.str i) f1;refine kah w v ?_ ⟨kaj _, .fz ?_⟩;simp [execOp,ho,f,n,g,Instr.lookup,run_underlying (r.mp hk),MapKept.run_getObj_map G,q,hf]
  ·rw [<- kvx enc];unfold mget;rw [f2];exact f3.mono fun _ h => .inl h
theorem kyv {α:Type} (enc:α->FV) (m:List (BA×α)) (s:BA) (z:α) (x y v:Operand) (kt et:TypeId) (kd:TD) (hT:TOk P T) (Z:kag T t=some d) (l:kag T kt=some kd) (I:kd.kind = .str:=by kernel_rfl) (hx:st.eval x = .mp id:=by kernel_rfl) (K:kad st.heap id=some (.smap (m.map fun p=>(p.1,enc p.2))):=by kernel_rfl) (hy:st.eval y = .fz (.atom (.string s)):=by kernel_rfl) (hv:st.eval v = .fz (enc z):=by kernel_rfl) (ho:o.op = .mapUpdate t x y v:=by kernel_rfl) (hk:d.kind = .map kt et:=by kernel_rfl):StepA P o st .any ((id, .smap ((mput m s z).map fun p=>(p.1,enc p.2)))::st.heap) st.ids:=by
 intro F S0 N0 ψ S a w D;have Z:=hT.get Z;have l:=hT.get l;have r:=D.core;obtain ⟨ag,L,aa⟩:=r.obj id _ K;have M:=D.eval x;rw [hx] at M;have N:=k6h L M;obtain ⟨h0,b,es,clock,g,E,A,hr⟩:=L;have B:=D.eval y;rw [hy] at B;have B:=B.atom;have C:=D.eval v;rw [hv] at C;have C:=C.inv;have O:=MapKept.run_checkKey (w:=w) (l.str I) (k := .string s) trivial false 9999;have G:ψ.set id 0 (ψ.val id)=ψ:=by
  unfold Env.set;congr 1
  ·funext i;split;rename_i h;rw [h,h0]
   ·rfl
  ·funext i;split;rename_i h;rw [h]
   ·rfl
 have main:∀ (es':Array MapEntry) (clock':Nat),es'.size=(mput m s z).length ->
   (∀ (i:Nat) (e:MapEntry) (p:BA×FV),es'[i]?=some e->((mput m s z).map fun p=>(p.1,enc p.2))[i]?=some p->e.key = .string p.1/\RF S w e.val p.2) ->
   (execOp a.eval o).run P w = .ok .skip { w with heap:=w.heap.setIfInBounds b (.map es' clock') } ->
   kf9 P o a w fun v w'=>∃ ψ' S',Core F S0 N0 ((id, .smap ((mput m s z).map fun p=>(p.1,enc p.2)))::st.heap) st.ids ψ' S' w'/\RV ψ' (·∈st.ids) S' w' v .any/\Fr F w w'/\Ext (·∈st.ids) ψ ψ'/\(∀ id,id∈st.ids->id∈st.ids)/\(∀ b,S b->S' b)/\Same S w w':=by
  intro es' clock' Q ab U;obtain ⟨g1,g2⟩:=MapKept.heap_set (o' := .map es' clock') E;have af:({ w with heap:=w.heap.setIfInBounds b (.map es' clock') }:World).heap.size=w.heap.size:=by simp
  have H:∀ k,k<w.heap.size->¬ Blk (ψ.val id) k->({ w with heap:=w.heap.setIfInBounds b (.map es' clock') }:World).heap[k]?=w.heap[k]?:=fun k _ hk=>g2 k fun e=>hk (.of (by rw [g,e];rfl));have hk:Same S w { w with heap:=w.heap.setIfInBounds b (.map es' clock') }:=fun k hk hl=>H k hl fun e=>(aa k e).1 hk;obtain ⟨c1,c2,c3⟩:=r.upd (n:=0) (v:=ψ.val id) (w':={ w with heap:=w.heap.setIfInBounds b (.map es' clock') }) (ob' := .smap ((mput m s z).map fun p=>(p.1,enc p.2))) K (by omega) H (.inr ⟨h0,rfl⟩) (fun b E => .inl E) (by rw [G];refine ⟨h0,b,es',clock',g,g1,by simpa using Q,fun i e p c hp=>?_⟩;obtain ⟨q1,q2⟩:=ab i e p c hp;exact ⟨q1,q2.keep hk⟩);rw [G] at c1;exact kld _ U ⟨ψ,S,c1, .any,⟨rfl,rfl,rfl,by omega,c3⟩,Ext.refl,fun _ h=>h,fun _ h=>h,c2⟩
 have ac:∀ (j:Nat) (e:MapEntry) (p:BA×FV),es.toList[j]?=some e->(m.map fun p=>(p.1,enc p.2))[j]?=some p->e.key = .string p.1/\RF S w e.val p.2:=fun j e p c hp=>hr j e p (by simpa using c) hp;rcases kqv s (R:=fun v x=>RF S w v x) es.toList (m.map fun p=>(p.1,enc p.2)) 0 (by simpa using A) ac with ⟨f1,f2⟩ | ⟨j,u,x',f1,f2,f3⟩
 ·have hf:=MapKept.run_findKey (w:=w) (l.str I) f1;have ad:kh4 s m 0=none:=by
   rw [krd] at f2;cases hq:kh4 s m 0 with
   | none=>rfl
   | some q=>rw [hq] at f2;cases f2
  have f:mput m s z=m++[(s,z)]:=by unfold mput;rw [ad]
  refine main (es.push { key := .string s,val:=a.eval v,born:=clock }) (clock+1) (by rw [f];simpa using A) (fun i e p c hp=>?_) ?_
  ·rw [f,qax] at hp;rw [Array.getElem?_push] at c;have V:es.size=(m.map fun p=>(p.1,enc p.2)).length:=A;by_cases hi:i=es.size;rw [ql hi] at c;injection c with c;subst c;rw [qap (by omega),hi,V,qcc] at hp;simp only [qa2,List.map_nil,List.getElem?_cons_zero,qe] at hp;subst hp;exact ⟨rfl,C⟩
   ·rw [qi hi] at c;have ah:i<es.size:=(qbf.1 c).1;rw [q9 (by omega)] at hp;exact hr i e p c hp
  ·simp [execOp,ho,B,N,g,Instr.mapUpdate,run_underlying (Z.mp hk),MapKept.run_getObj_map E,O,hf,MapKept.run_setObj_map _ E]
 ·have hf:=MapKept.run_findKey (w:=w) (l.str I) f1;rw [krd,qw] at f2;obtain ⟨⟨j',x0⟩,f4,f5⟩:=f2;simp only [qt] at f5;obtain ⟨rfl,rfl⟩:=f5;obtain ⟨_,l2,k,l3,rfl⟩:=k6w f4;simp only [Nat.sub_zero] at l2 l3;have f:mput m k z=m.set j' (k,z):=by unfold mput;rw [f4]
  have ae:j'<es.size:=by rw [A,qs];exact l2
  have J:es[j']?=some es[j']:=qb2 ae;have X:es[j'].key = .string k:=(hr j' _ (k,enc x0) J (by rw [qq,l3];rfl)).1;refine main (es.modify j' fun e=>{ e with key := .string k,val:=a.eval v }) clock (by rw [f];simpa using A) (fun i e p c hp=>?_) ?_
  ·rw [f,List.map_set] at hp;rw [Array.getElem?_modify] at c;by_cases hi:j'=i;subst hi;rw [ql rfl,J] at c;simp only [qba,qe] at c;subst c;rw [qbr (by rw [qs];exact l2)] at hp;injection hp with hp;subst hp;exact ⟨rfl,C⟩
   ·rw [qi hi] at c;rw [qbw hi] at hp;exact hr i e p c hp
  ·have Y:(Instr.keyThatStays (((es[j']?).map (·.key)).getD (.string k)) (.string k)).run P w = .ok (.string k) w:=(by rw [J];simp only [qba,qaf,X];exact MapKept.run_keyThatStays (d := .string) trivial);simp [execOp,ho,B,N,g,Instr.mapUpdate,run_underlying (Z.mp hk),MapKept.run_getObj_map E,O,hf,MapKept.run_setObj_map _ E];simp [Y,MapKept.run_setObj_map _ E]
end
mutual
def depV:Va->Nat
 | .mk _ _ _ l=>kt0 l+1
def kt0:List Va->Nat
 | []=>0
 | x::l=>Nat.max (depV x) (kt0 l)
end
variable {P:Program} {F S0:Nat->Prop} {N0:Nat} {w w':World} {S S':Nat->Prop} {ψ:Env} {K:Nat->Prop} {T:List (TypeId×TD)} {o:Oper} {a:Act} {st:St} {t:TypeId} {d:TD}
def mkL {α:Type} (bytes:Nat) (z:α) (n:Int):Option (List α):=if 0<=n/\(bytes:Int)*n<=281474976710656/\n<=9223372036854775807 then some (List.replicate n.toNat z) else none
theorem k57 {α:Type} {bytes:Nat} {z:α} {n:Int} {xs:List α} (h:mkL bytes z n=some xs):xs=List.replicate n.toNat z/\0<=n/\(bytes:Int)*n<=281474976710656/\n<=9223372036854775807:=by
 unfold mkL at h;split at h;rename_i hc;injection h with h;exact ⟨h.symm,hc⟩
 ·cases h
section
variable {P:Program} {F S0:Nat->Prop} {N0:Nat} {w w':World} {S S':Nat->Prop} {ψ:Env} {K:Nat->Prop} {T:List (TypeId×TD)} {o:Oper} {a:Act} {st:St} {t:TypeId} {d:TD} {id:Nat}
theorem knj (t:TypeId) (d:TD) (id:Nat) {α:Type} (enc:α->FV) {bytes:Nat} {z:α} {n:Int} {xs:List α} (X Y:Operand) (e:TypeId) (de:TD) (k k':IntKind) (zv:Value) (h:mkL bytes z n=some xs) (O:TOk P T:=by exact kae) (q:st.eval X = .fz (.atom (.int k n)):=by kernel_rfl) (hy:st.eval Y = .fz (.atom (.int k' n)):=by kernel_rfl) (f:st.ids.contains id=false:=by kernel_rfl) (ho:o.op = .makeSlice t X Y:=by kernel_rfl) (E:kag T t=some d:=by kernel_rfl) (hk:d.kind = .slice e:=by kernel_rfl) (m:kag T e=some de:=by kernel_rfl) (G:de.size=1:=by rfl) (H:de.zero=[zv]:=by rfl) (r:enc z = .atom zv:=by rfl) (s:zv.oneCell'=true:=by rfl) (I:de.bytes=bytes:=by rfl):
  StepA P o st (.row id xs.length) ((id, .frow e 1 (xs.map enc))::st.heap) (id::st.ids):=by
 have f:id∉st.ids:=by simpa using f
 obtain ⟨rfl,h0,J,K⟩:=k57 h;have E:=O.get E;have m:=O.get m;subst I;intro F S0 N0 ψ S a w p;have g:=p.eval X;rw [q] at g;have g:=g.atom;have l:=p.eval Y;rw [hy] at l;have l:=l.atom;obtain ⟨⟨i,z',hi,L,M,Q,N⟩,_⟩:=m;have c:=p.core;have hcl:z'.cells=#[zv]:=by apply qbv;rw [N,H]
 have hr:=run_make (P:=P) w t e i z' (E.slice hk) hi Q k k' n n h0 (Int.le_refl _) (by rw [M];exact J) K;rw [L,G,hcl,qbh] at hr;have u:Grow w (w.alloc (.cells (madeCells #[zv] n.toNat) e)):=kbl _ _;have A:(List.replicate n.toNat z).length=n.toNat:=qa0;rw [A];refine kah (w.alloc (.cells (madeCells #[zv] n.toNat) e)) (.slice (some ⟨w.heap.size,0,none⟩) n.toNat n.toNat) ?_ ⟨ψ.set id n.toNat (.slice (some ⟨w.heap.size,0,none⟩) n.toNat n.toNat),S,?_,?_,kkg _ c.fr,kb5 f _ _,fun _ h=>qk _ h,fun _ h=>h,Same.of_grow u⟩;simp [execOp,ho,g,l,hr]
 ·refine c.add u f (fun b J=>by simp [kau] at J;omega) ⟨by rw [kcl];simp,by omega,(madeCells #[zv] n.toNat).toList,?_,fun x q=>?_,fun i x j v y q hv hy=>?_⟩;rw [kap];have:=World.ownsRow_lit (base:=0) (size:=1) (e:=e) w (madeCells #[zv] n.toNat) n.toNat (qao _) (by unfold maxLen;omega) (by rw [size_madeCells,qbh]);simpa using this;simp only [List.map_replicate,qb8] at q;rw [q.2,r];refine ⟨rfl,fun y hy=>?_⟩;simp [FV.cells] at hy;subst hy;exact s
  ·have B:=qp q;simp only [List.map_replicate,qb8] at B;rw [B.2,r] at hy;rw [toList_madeCells_one] at hv;have C:=qp hv;rw [qb8] at C;rw [C.2];have D:=qp hy;simp [FV.cells] at D;subst D;exact .atom s
 ·exact .row (qo ..) (by rw [kcl];exact qx _) rfl fun _=>by rw [kap]
theorem kjj {v:Value} {e:TypeId} {n:Nat} {cs:List Value} (h:w.ownsRow 0 e 1 v n cs) (hn:0<n:=by omega):∃ g cap cur,v = .slice (some ⟨g,0,none⟩) n cap/\w.heap[g]?=some (.cells cur e (0,0))/\n<=cap/\cap<=maxLen/\cur.size=cap/\cur.toList.take n=cs:=by
 rcases h.2 with ⟨_,h0⟩ | ⟨g,cap,cur,hv,_,hg,h1,a,b,c⟩;omega
 ·exact ⟨g,cap,cur,hv,hg,h1,a,by simpa using b,by simpa using c⟩
theorem ka9 (t:TypeId) (d:TD) (id:Nat) {α:Type} (enc:α->FV) (xs:List α) {x:α} {i:Int} (X Y:Operand) (e:TypeId) (de:TD) (k:IntKind) (n:Nat) (h:idx xs i=some x) (r:TOk P T:=by exact kae) (hy:st.eval Y = .fz (.atom (.int k i)):=by kernel_rfl) (ho:o.op = .indexAddr t X Y:=by kernel_rfl) (p:kag T t=some d:=by kernel_rfl) (hk:d.kind = .slice e:=by kernel_rfl) (j:kag T e=some de:=by kernel_rfl) (s:de.size=1:=by kernel_rfl) (y:st.eval X = .row id n:=by kernel_rfl) (q:kad st.heap id=some (.frow e 1 (xs.map enc)):=by kernel_rfl) (hn:n=xs.length:=by rfl):NStep P o st (.ref id n i.toNat):=by
 intro ψ S a w ht z;subst hn;have p:=r.get p;have j:=r.get j;unfold idx at h;split at h
 ·rename_i h0;have A:i.toNat<xs.length:=(qh.1 h).1;have l:=Sim.eval_tmps ht X;rw [y] at l;have b:=Sim.eval_tmps ht Y;rw [hy] at b;have b:=b.atom;obtain ⟨hl,_,cs,c,_,_⟩:=z id _ q;rw [qs] at hl c;obtain ⟨g,cap,cur,f,hg,_⟩:=kjj c;have hK:id∈st.ids/\a.eval X=ψ.val id:=by
   generalize a.eval X=u at l;cases l with
   | row hK B h1 hv=>exact ⟨hK,hv hl.symm⟩
  refine kah w (.pointer (some ⟨g,i.toNat,none⟩)) ?_ ⟨kaj _, .ref hK.1 (by omega) rfl fun _=>⟨g,by rw [f];rfl,rfl⟩⟩;have m:i<(xs.length:Int):=by omega
  simp [execOp,ho,hK.2,f,b,Instr.indexAt,asIntOf,run_underlying (p.slice hk),h0,m,j.size,s,kcc]
 ·cases h
theorem kd6 (t:TypeId) (d:TD) (id:Nat) {α:Type} (enc:α->FV) (xs:List α) (x:α) (i:Int) (X:Operand) (n:Nat) (h:idx xs i=some x) (r:TOk P T:=by exact kae) (ho:o.op = .load t X:=by kernel_rfl) (k:kag T t=some d:=by kernel_rfl) (hk:d.kind.agg=false:=by kernel_rfl) (s:st.eval X = .ref id n i.toNat:=by kernel_rfl) (l:kad st.heap id=some (.frow t 1 (xs.map enc)):=by kernel_rfl) (hn:n=xs.length:=by rfl) (m:∀ y,(enc y).cells=[enc y]:=by exact fun _=>rfl):NStep P o st (.fz (enc x)):=by
 intro ψ S a w ht z;subst hn;have k:=r.get k;unfold idx at h;split at h
 ·rename_i h0;have A:i.toNat<xs.length:=(qh.1 h).1;have f:=Sim.eval_tmps ht X;rw [s] at f;obtain ⟨hl,_,cs,c,_,hr⟩:=z id _ l;rw [qs] at hl c;obtain ⟨g,cap,cur,e,hg,B,hc2,C,D⟩:=kjj c;have hp:a.eval X = .pointer (some ⟨g,i.toNat,none⟩):=by
   generalize a.eval X=u at f;cases f with
   | ref hK E h1 hv=>
    obtain ⟨b,p,rfl⟩:=hv hl.symm;rw [e] at p;simp only [kau,qe] at p;rw [p]
  have q:cs[i.toNat]?=some (cs[i.toNat]'(by rw [c.1];omega)):=qb _;have j:w.cell? ⟨g,i.toNat,none⟩=some (cs[i.toNat]'(by rw [c.1];omega)):=by rw [e] at c;rw [World.ownsRow.cellAt c i.toNat (by omega),q]
  refine kah w (cs[i.toNat]'(by rw [c.1];omega)) ?_ ⟨kaj _, .fz ((hr i.toNat (enc x) 0 _ (enc x) (by rw [qq,h];rfl) (by simp) (by rw [m];rfl)).mono fun _ h => .inl h)⟩;simp [execOp,ho,hp,Instr.loadAt,Instr.sureAddr,loadVar,k.isAgg,hk,j]
 ·cases h
theorem kf7 (t:TypeId) (d:TD) (id:Nat) {α:Type} (enc:α->FV) (xs:List α) (x y:α) (i:Int) (X Y:Operand) (n:Nat) (h:idx xs i=some x) (hT:TOk P T:=by exact kae) (ho:o.op = .store t X Y:=by kernel_rfl) (Q:kag T t=some d:=by kernel_rfl) (hz:d.size=1:=by kernel_rfl) (hx:st.eval X = .ref id n i.toNat:=by kernel_rfl) (I:kad st.heap id=some (.frow t 1 (xs.map enc)):=by kernel_rfl) (hn:n=xs.length:=by rfl) (hy:st.eval Y = .fz (enc y):=by kernel_rfl) (D:∀ y,∃ u,enc y = .atom u/\u.oneCell'=true:=by exact fun _=>⟨_,rfl,rfl⟩):StepA P o st .any ((id, .frow t 1 ((xs.set i.toNat y).map enc))::st.heap) st.ids:=by
 subst hn;intro F S0 N0 ψ S a w E;have Q:=hT.get Q;unfold idx at h;split at h
 ·rename_i h0;have ac:i.toNat<xs.length:=(qh.1 h).1;have f:=E.core;obtain ⟨ad,⟨hl,J,cs,l,ae,hr⟩,R⟩:=f.obj id _ I;rw [qs] at hl l;have hcl:cs.length=xs.length:=by rw [l.1,qbh]
  obtain ⟨g,cap,cur,m,hg,U,hc2,V,Z⟩:=kjj l;have G:=E.eval X;rw [hx] at G;have hp:a.eval X = .pointer (some ⟨g,i.toNat,none⟩):=by
   generalize a.eval X=u at G;cases G with
   | ref hK af h1 hv=>
    obtain ⟨b,K,rfl⟩:=hv hl.symm;rw [m] at K;simp only [kau,qe] at K;rw [K]
  obtain ⟨u,hu,H⟩:=D y;have p:=E.eval Y;rw [hy,hu] at p;have p:=p.atom;have L:u.cells=#[u]:=by cases u <;> first | rfl | cases H
  have hst:=run_storeCells_at (P:=P) g i.toNat t [u] 0 cur w hg (by simp;omega) (fun v hv=>by simp at hv;rw [hv];exact H);obtain ⟨new,s⟩:∃ new:Array Value,new=(cur.toList.take (i.toNat+0)++[u]++cur.toList.drop (i.toNat+0+[u].length)).toArray:=⟨_,rfl⟩;rw [<- s] at hst;have M:new.toList=cur.toList.set i.toNat u:=by rw [s,List.set_eq_take_append_cons_drop,ql (by simp;omega)];simp
  have aa:new.size=cap:=by rw [<- qa9,M,qbk,qa9,V]
  have A:∀ k,k<w.heap.size->¬ Blk (ψ.val id) k->(w.setRow g new).heap[k]?=w.heap[k]?:=fun k _ hk=>kmo g new k fun e=>hk (.of (by rw [m,e];rfl));have ag:(w.setRow g new).heap.size=w.heap.size:=by simp [World.setRow]
  have B:ψ.set id xs.length (ψ.val id)=ψ:=by
   unfold Env.set;congr 1
   ·funext j;split;rename_i N;rw [N,hl]
    ·rfl
   ·funext j;split;rename_i N;rw [N]
    ·rfl
  have hk:Same S w (w.setRow g new):=fun k hk hl=>A k hl fun e=>(R k e).1 hk;obtain ⟨c1,c2,c3⟩:=f.upd (n:=xs.length) (v:=ψ.val id) (w':=w.setRow g new) (ob' := .frow t 1 ((xs.set i.toNat y).map enc)) I (by omega) A (.inr ⟨hl,rfl⟩) (fun b K => .inl K) (by
   rw [B];refine ⟨by simp [hl],J,cs.set i.toNat u,?_,fun z r=>?_,fun k z j v q r hv C=>?_⟩;rw [qs,qbk,m];refine ⟨by rw [qbk,hcl,qbh], .inr ⟨g,cap,new,rfl,qao _,klj g hg,U,hc2,by rw [aa,qbh],?_⟩⟩;rw [qbh,M,List.take_set,Z];obtain ⟨z0,_,rfl⟩:=qaa.1 r;obtain ⟨u0,h1,h2⟩:=D z0;rw [h1];exact ⟨rfl,fun q C=>by simp [FV.cells] at C;subst C;exact h2⟩
   ·obtain ⟨z0,c,rfl⟩:∃ z0,(xs.set i.toNat y)[k]?=some z0/\enc z0=z:=(by rw [qq,qw] at r;exact r);obtain ⟨u0,h1,h2⟩:=D z0;have N:j=0:=(by rw [h1] at C;have:=(qh.1 C).1;simp [FV.cells] at this;exact this);subst N;have ab:q=enc z0:=(by rw [h1] at C ⊢; simp [FV.cells] at C;exact C.symm);subst ab;simp only [qbh,Nat.add_zero] at hv;by_cases O:i.toNat=k;subst O;rw [qbr (by omega)] at hv c;injection hv with hv;injection c with c;subst hv c;rw [hu];exact .atom H
    ·rw [qbw O] at hv c;exact (hr k (enc z0) 0 v (enc z0) (by rw [qq,c];rfl) (by simpa using hv) (by rw [h1];rfl)).keep hk)
  rw [B] at c1;refine kld (w.setRow g new) ?_ ⟨ψ,S,c1, .any,⟨rfl,rfl,rfl,by omega,c3⟩,Ext.refl,fun _ h=>h,fun _ h=>h,c2⟩;simp only [execOp,ho,Instr.storeAt,hp,p,Instr.sureAddr,storeVar,Q.size,Sem.run_bind,Sem.run_pure,Result.andThen_ok];rw [qi (by rw [L,hz];simp)];simp [L,hst]
 ·cases h
end
def rel1 (id n:Nat):AV->AV
 | .row k m=>bif Nat.beq k id then .row k n else .row k m
 | y=>y
def relG (id n:Nat):AV->AV
 | .agg cs => .agg (cs.map (rel1 id n))
 | .fn f cs => .fn f (cs.map (rel1 id n))
 | y=>rel1 id n y
def relT (id n:Nat):AV->AV
 | .tup cs => .tup (cs.map (relG id n))
 | y=>relG id n y
def relO (id n:Nat):AObj->AObj
 | .box e cs => .box e (cs.map (rel1 id n))
 | y=>y
def k2s (id:Nat) (st:St):List Nat:=st.tmps.flatMap (fun p=>kxv id p.2)++st.heap.flatMap (fun p=>k0o id p.2)
def k44 (id n:Nat) (st:St):St:={ dfr:=st.dfr,n:=st.n,tmps:=st.tmps.map (fun p=>(p.1,relT id n p.2)),heap:=st.heap.map (fun p=>(p.1,relO id n p.2)),ids:=st.ids }
theorem kx5 {id n:Nat} {y:AV} (h:∀ m∈kto id y,m=n):rel1 id n y=y:=by
 cases y with
 | row k m=>
  simp only [rel1];cases a:Nat.beq k id with
  | false=>rfl
  | true=>rw [h m (by simp [kto,a])];rfl
 | _=>rfl
theorem kqh {α:Type} {f:α->α} {l:List α} (h:∀ x∈l,f x=x):l.map f=l:=by rw [qbl h];simp
theorem kxs {id n:Nat} (y:AV) (h:∀ m∈k4l id y,m=n):relG id n y=y:=by
 cases y with
 | agg cs=>exact congrArg AV.agg (kqh fun x a=>kx5 fun m hm=>h m (qay.2 ⟨x,a,hm⟩))
 | fn f cs=>exact congrArg (AV.fn f) (kqh fun x a=>kx5 fun m hm=>h m (qay.2 ⟨x,a,hm⟩))
 | row k m=>exact kx5 (y := .row k m) h
 | _=>rfl
theorem kaj8 {id n:Nat} {y:AV} (h:∀ m∈kxv id y,m=n):relT id n y=y:=by
 cases y with
 | tup cs=>exact congrArg AV.tup (kqh fun x a=>kxs _ fun m hm=>h m (qay.2 ⟨x,a,hm⟩))
 | agg cs=>exact kxs (.agg cs) h
 | fn f cs=>exact kxs (.fn f cs) h
 | row k m=>exact kxs (.row k m) h
 | _=>rfl
theorem kajq {id n:Nat} {y:AObj} (h:∀ m∈k0o id y,m=n):relO id n y=y:=by
 cases y with
 | box e cs=>exact congrArg (AObj.box e) (kqh fun x a=>kx5 fun m hm=>h m (qay.2 ⟨x,a,hm⟩))
 | _=>rfl
theorem kaew {st:St} (id:Nat) {k m n:Nat} (h:k2s id st=List.replicate k m) (hmn:m=n):LeSt st (k44 id n st):=by
 have a:∀ x∈k2s id st,x=n:=fun x b=>by rw [h] at b;rw [(qb8.1 b).2,hmn]
 have:k44 id n st=st:=by
  unfold k44;have h1:st.tmps.map (fun p=>(p.1,relT id n p.2))=st.tmps:=kqh fun p hp=>by rw [kaj8 fun m hm=>a m (qak.2 (.inl (qay.2 ⟨p,hp,hm⟩)))]
  have c:st.heap.map (fun p=>(p.1,relO id n p.2))=st.heap:=kqh fun p hp=>by rw [kajq fun m hm=>a m (qak.2 (.inr (qay.2 ⟨p,hp,hm⟩)))]
  rw [h1,c]
 rw [this];exact LeSt.refl
def kwx:List FV->Option (List Value)
 | []=>some []
 | .atom v::l=>match kwx l with
  | some r=>some (v::r)
  | none=>none
 | _::_=>none
def toV:AV->Option Value
 | .fz (.atom v)=>bif v.oneCell' then some v else none
 | .fz (.agg xs)=>match kwx xs with
  | some l=>bif l.all (·.oneCell') then some (.agg l.toArray) else none
  | none=>none
 | _=>none
def ofV:Value->Option FV
 | .agg cs=>bif cs.toList.all (·.oneCell') then some (.agg (cs.toList.map .atom)) else none
 | .tuple _=>none
 | v=>some (.atom v)
theorem k29:∀ {xs:List FV} {l:List Value},kwx xs=some l->xs=l.map .atom
 | [],l,h=>by simp only [kwx,qe] at h;subst h;rfl
 | .atom v::xs,l,h=>by
  simp only [kwx] at h;split at h;rename_i r hr;injection h with h;subst h;rw [k29 hr];rfl
  ·cases h
 | .agg _::_,l,h=>by cases h
 | .tup _::_,l,h=>by cases h
 | .lst _ _ _::_,l,h=>by cases h
 | .fp _::_,l,h=>by cases h
 | .bx _::_,l,h=>by cases h
theorem kamq {u v:Value} {x:AV} (h:RV ψ K S w u x) (a:toV x=some v):u=v:=by
 unfold toV at a;split at a
 ·rename_i v';cases c:v'.oneCell' with
  | false=>rw [c] at a;cases a
  | true=>rw [c] at a;injection a with a;subst a;exact h.atom
 ·rename_i xs;split at a
  ·rename_i l hl;cases c:l.all (·.oneCell') with
   | false=>rw [c] at a;cases a
   | true=>
    rw [c] at a;injection a with a;subst a;have h:=h.inv;cases h with
    | @agg cs _ h h1 hr=>
     rw [k29 hl] at hr h;congr 1;apply qbv;apply qbt;intro i;simp only [qbb];rcases qbq i cs.size with hi | hi;have b:i<l.length:=(by simp at h;omega);have:=hr i cs[i] (.atom l[i]) (by simp [hi]) (by simp [b]);rw [qb2 hi,this.atom_eq];simp [b]
     ·have b:l.length<=i:=(by simp at h;omega);simp [hi,b]
  ·cases a
 ·cases a
theorem kal0 {v:Value} {x:FV} (h:ofV v=some x):RF S w v x:=by
 unfold ofV at h;split at h
 ·rename_i cs;cases b:cs.toList.all (·.oneCell') with
  | false=>rw [b] at h;cases h
  | true=>
   rw [b] at h;injection h with h;subst h;refine .agg (by simp) ?_ ?_;intro x a;simp only [qaa] at a;obtain ⟨v,hv,rfl⟩:=a;exact qr.1 b v hv
   ·intro i v x hv a;simp only [qq,qw,qbb] at a;obtain ⟨u,hu,rfl⟩:=a;rw [hv] at hu;injection hu with hu;subst hu;exact .atom (qr.1 b v (by rw [Array.mem_toList_iff];exact Array.mem_of_getElem? hv))
 cases h
 ·rename_i c d;injection h with h;subst h;refine .atom ?_;cases v <;> first | rfl | exact absurd rfl (c _) | exact absurd rfl (d _)
theorem kakq {x:Operand} {v:Value} (ho:o.op = .makeInterface t x) (g:TdOk P t d) (hk:∀ h:d.kind = .ifc,False) (i:toV (st.eval x)=some v):NStep P o st (.fz (.atom (.iface t v))):=by
 intro ψ S a w ht k;have hv:=kamq (Sim.eval_tmps ht x) i;obtain ⟨_,e,h1,f⟩:=g;refine kah w (.iface t v) ?_ ⟨kaj _, .fz (.atom rfl)⟩;have c:∀ ms,e ≠ .interface ms:=fun ms j=>by subst j;cases b:d.kind <;> rw [b] at f <;> first | exact hk b | exact f
 simp only [execOp,ho,hv,Instr.makeInterface,Sem.run_bind,Result.andThen_ok,run_underlying h1];cases e <;> first | exact absurd rfl (c _) | rfl
theorem kacf {x:Operand} {xt:TypeId} {v:Value} {y:FV} (ho:o.op = .typeAssert x xt t true) (j:TdOk P t d) (hk:∀ h:d.kind = .ifc,False) (k:st.eval x = .fz (.atom (.iface t v))) (hy:ofV v=some y):
  NStep P o st (.fz (.tup [y, .atom (.bool true)])):=by
 intro ψ S a w ht m;have hv:=Sim.eval_tmps ht x;rw [k] at hv;have hv:=hv.atom;obtain ⟨_,e,h1,g⟩:=j;have f:∀ ms,e ≠ .interface ms:=fun ms l=>by subst l;cases b:d.kind <;> rw [b] at g <;> first | exact hk b | exact g
 refine kah w (.tuple #[v, .bool true]) ?_ ⟨kaj _, .fz (.tup rfl ?_)⟩
 ·simp only [execOp,ho,hv,Instr.typeAssert,Sem.run_bind,Result.andThen_ok,run_underlying h1];cases e <;> first | exact absurd rfl (f _) | simp
 ·intro i u z hu c
  match i with
  | 0=>simp at hu c;subst hu c;exact kal0 hy
  | 1=>simp at hu c;subst hu c;exact .atom rfl
  | i+2=>simp at c
theorem k73 {op:BinOp} {x y:Operand} {u v:Value} (h:(∃ s z,u = .iface s z)\/∃ c,y = .const c) (hv:v = .nilIface) (hu:(∃ s z,u = .iface s z)\/u = .nilIface):(eqGuard op t x y u v).run P w = .ok () w:=by
 unfold eqGuard;subst hv;rcases hu with ⟨s,z,rfl⟩ | rfl;cases op <;> simp
 ·rcases h with ⟨s,z,h⟩ | ⟨c,rfl⟩;cases h
  ·cases op <;> simp
theorem TdOk.ifc (h:TdOk P t d) (hk:d.kind = .ifc):∃ ms,P.underlying t=some (.interface ms):=by obtain ⟨_,e,h1,a⟩:=h;rw [hk] at a;cases e <;> simp [kic] at a;exact ⟨_,h1⟩
theorem ksj {x:Operand} {yt:TypeId} {u:Value} (neg r:Bool) (ho:o.op = .binOp (if neg then .neq else .eql) t x (.const .nilIface) yt) (e:TdOk P t d) (hk:d.kind = .ifc) (f:st.eval x = .fz (.atom u)) (hu:(r=false/\∃ s z,u = .iface s z)\/(r=true/\u = .nilIface)):
  NStep P o st (.fz (.atom (.bool (bif neg then !r else r)))):=by
 obtain ⟨ms,b⟩:=e.ifc hk;intro ψ S a w ht i;have hv:=Sim.eval_tmps ht x;rw [f] at hv;have hv:=hv.atom;have g:∀ d:Nat,(Op.equalIn (d+1) t u .nilIface).run P w = .ok r w:=fun d=>by rcases hu with ⟨rfl,s,z,rfl⟩ | ⟨rfl,rfl⟩ <;> simp [Op.equalIn,run_underlying b]
 have hg:∀ op,(eqGuard op t x (.const .nilIface) u .nilIface).run P w = .ok () w:=fun op=>k73 (.inr ⟨_,rfl⟩) rfl (hu.elim (fun h => .inl h.2) fun h => .inr h.2);refine kah w (.bool (bif neg then !r else r)) ?_ ⟨kaj _, .fz (.atom rfl)⟩;have hc:a.eval (.const .nilIface) = .nilIface:=rfl;have c:(binOp .eql t u .nilIface).run P w = .ok (.bool r) w/\(binOp .neq t u .nilIface).run P w = .ok (.bool !r) w:=by rcases hu with ⟨hr,s,z,rfl⟩ | ⟨hr,rfl⟩ <;> subst hr <;> constructor <;> (simp only [binOp];simp [Op.equal,Op.maxDepth,g 9999])
 cases neg;simp [execOp,ho,hv,hc,hg,c.1]
 ·simp [execOp,ho,hv,hc,hg,c.2]
def dfn (f:FuncId) (cs:List Value):Deferred:={ target := .fn (.func f) cs.toArray,args:=#[] }
def kpe (fn:Func):Option (Nat×Nat×Code):=match fn.body with
 | some (.seq (.region _ os false) c)=>match os.toList with
  | [o1,o2]=>match o1.op,o1.dst,o1.guard with
   | .call c1,some t1,none=>match o2.op,o2.dst,o2.guard with
    | .assign (.tmp t),some t2,none=>match c1.callee,c1.args.toList with
     | .builtin .recover,[]=>bif Nat.beq t t1 && (Nat.blt t1 fn.ntmps && (Nat.blt t2 fn.ntmps && fn.results.isEmpty)) then some (t1,t2,c) else none
     | _,_=>none
    | _,_,_=>none
   | _,_,_=>none
  | [o1]=>match o1.op,o1.dst,o1.guard with
   | .call c1,some t1,none=>match c1.callee,c1.args.toList with
    | .builtin .recover,[]=>bif Nat.blt t1 fn.ntmps && fn.results.isEmpty then some (t1,t1,c) else none
    | _,_=>none
   | _,_,_=>none
  | _=>none
 | _=>none
def recV:Exit->Option Value
 | .normal=>some .nilIface
 | .ret=>some .nilIface
 | .panic [⟨v,false,false⟩]=>bif v.oneCell' then some v else none
 | _=>none
def dst0 (keep:List Nat) (n t1 t2:Nat) (pv:Value) (vs:List AV) (gi:Nat) (ocs:List Value) (st:St):St:=
 { n:=n,tmps:=(t2, .fz (.atom pv))::(t1, .fz (.atom pv))::argT 0 vs,heap:=(gi, .gho ocs (keep.map st.get))::st.heap,ids:=gi::st.ids }
def dstB (keep:List Nat) (gi:Nat) (vs:List AV) (st st2:St):St:={ n:=st.n,tmps:=zipS (keep.map fun t=>(t, .any)) vs,heap:=kdb gi st2.heap,ids:=st2.ids }
def hdQ (P:Program) (T:List (TypeId×TD)) (rs:List ResultVar) (g:Nat) (ids:List Nat) (E:HEnd) (post:List (Nat×AObj)) (ids':List Nat) (ψ0:Env) (S1:Nat->Prop) (w0:World) (e:Exit) (st:St):Prop:=
 hQ T rs g ids E post ids' ψ0 S1 w0 e st \/ ∃ keep f fn2 t1 t2 c2 gi cvals vs pv gi2, st.dfr = [dfn f cvals] /\ kad st.heap gi = some (.gho cvals vs) /\ cvals.length = vs.length /\ P.funcs[f]? = some fn2 /\ kpe fn2 = some (t1, t2, c2) /\ (fn2.name == "runtime.NumGoroutine") = false /\
  Nat.ble vs.length fn2.ntmps=true/\recV e=some pv/\st.ids.contains gi2=false /\
  ∀ ocs,awp P c2 (dst0 keep fn2.ntmps t1 t2 pv vs gi2 ocs st) fun e2 st2=>(e2 = .normal\/e2 = .ret)/\st2.dfr=[]/\∃ vs',kad st2.heap gi2=some (.gho ocs vs')/\hQ T rs g ids E post ids' ψ0 S1 w0 .ret (dstB keep gi2 vs' st st2)
variable {ψ':Env} {ids:List Nat}
theorem k4a (y:TOk P T) {fn:Func} (pre:List (Nat×AObj)) {post:List (Nat×AObj)} {ids':List Nat} {E:HEnd} {g:Nat} {ψ0:Env} {w0:World} {e:Exit} (hg:g∉ids) (n:g∉ids') (o:(post.all fun p=>okO ids' p.2)=true) (z:E.ok ids'=true) (hk:(post.all fun p=>ids'.contains p.1)=true) (h:kpv T fn.results.toList g ids E post ids' ψ0 S w0 e st) (d:Sim F S0 N0 st ψ' S' a w') (t:Fr F w w'):
  a.defers=[]/\((e = .normal\/e = .ret)/\(∃ v,(results fn a.tmps).run P w' = .ok v w'/\∃ ψ'' S'',E.is (.returned v) ψ'' (·∈ids') S'' w'/\Core F S0 N0 post ids' ψ'' S'' w'/\Fr F w w'/\Ext (·∈ids) ψ0 ψ''/\(∀ i,i∈ids->i∈ids')/\(∀ b,S b->S'' b)/\Same S w0 w') \/
   ∃ v,e = .panic [{ v:=v,recovered:=false }]/\∃ ψ'' S'',E.is (.panicked [{ v:=v,recovered:=false }]) ψ'' (·∈ids') S'' w'/\Core F S0 N0 post ids' ψ'' S'' w'/\Fr F w w'/\Ext (·∈ids) ψ0 ψ''/\(∀ i,i∈ids->i∈ids')/\(∀ b,S b->S'' b)/\Same S w0 w'):=by
 obtain ⟨u,hi,x⟩:=h;have q:kad st.heap g=some (.was ψ0 ids S w0):=by rw [u,kai,ql rfl]
 obtain ⟨_,⟨_,_,_,k1,k2,k3,k4⟩,_⟩:=d.core.obj g _ q;have f:∀ i,i∈ids->i∈ids':=fun i m=>by
  have:=k2 i m;rw [hi] at this;rcases qan.1 this with rfl | h;exact absurd m hg
  ·exact h
 have kpv:∀ i ob,kad post i=some ob->i∈ids'/\okO ids' ob=true:=fun i ob ho=>by
  have hm:∀ {l:List (Nat×AObj)},kad l i=some ob->(i,ob)∈l:=fun {l}=>by
   induction l with
   | nil=>intro h;cases h
   | cons p l ih=>
    intro h;obtain ⟨k,v⟩:=p;rw [kai] at h;split at h;rename_i hk;subst hk;injection h with h;subst h;exact qo ..
    ·exact qk _ (ih h)
  have hm:=hm ho;exact ⟨by simpa using qr.1 hk _ hm,by simpa using qr.1 o _ hm⟩
 have hl:∀ i ob,kad post i=some ob->kad st.heap i=some ob:=fun i ob ho=>by have r:g≠i:=fun e=>n (e ▸ (kpv i ob ho).1);rw [u,kai,qi r];exact ho
 have c:Core F S0 N0 post ids' ψ' S' w':=by refine ⟨fun i ob ho=>?_,fun i i' ob ob' b ho s=>d.core.inj i i' ob ob' b (hl i ob ho) (hl i' ob' s),d.core.lt,d.core.s0,d.core.n0,d.core.fr⟩;obtain ⟨_,m2,m3⟩:=d.core.obj i ob (hl i ob ho);exact ⟨(kpv i ob ho).1,m2.subA (kpv i ob ho).2,m3⟩
 cases E with
 | ret res=>
  obtain ⟨A,j⟩:=x;obtain ⟨v,e1,e2⟩:=k85 y d j;exact ⟨d.defers.trans (kz2 j).1, .inl ⟨A,v,e1,ψ',S',⟨v,rfl,e2.subA z⟩,c,t,k1,f,k3,k4⟩⟩
 | pan v=>
  obtain ⟨B,rfl⟩:=x;exact ⟨d.defers.trans B, .inr ⟨v,rfl,ψ',S',rfl,c,t,k1,f,k3,k4⟩⟩
theorem kv9 {fn:Func} {t1 t2:Nat} {c2:Code} (h:kpe fn=some (t1,t2,c2)):∃ id os o1 c1,fn.body=some (.seq (.region id os false) c2)/\o1.op = .call c1/\c1.callee = .builtin .recover/\c1.args=#[]/\o1.dst=some t1/\o1.guard=none /\
  t1<fn.ntmps/\t2<fn.ntmps/\fn.results=#[]/\((∃ o2,os=#[o1,o2]/\o2.op = .assign (.tmp t1)/\o2.dst=some t2/\o2.guard=none)\/(os=#[o1]/\t2=t1)):=by
 unfold kpe at h;split at h
 ·rename_i id os c g;split at h
  ·rename_i o1 o2 b;split at h
   ·rename_i c1 t1' h1 d e;split at h
    ·rename_i tt t2' i j k;split at h
     ·rename_i f h8;cases hc:(Nat.beq tt t1' && (Nat.blt t1' fn.ntmps && (Nat.blt t2' fn.ntmps && fn.results.isEmpty))) with
      | false=>rw [hc] at h;cases h
      | true=>
       rw [hc] at h;simp only [qd,qe,qt] at h;obtain ⟨rfl,rfl,rfl⟩:=h;simp only [qv] at hc;obtain ⟨b1,b2,b3,b4⟩:=hc;obtain rfl:=qm b1;have a:os=#[o1,o2]:=(by apply qbv;simpa using b);exact ⟨id,os,o1,c1,g,h1,f,by apply qbv;simpa using h8,d,e,by simpa [Nat.blt_eq] using b2,by simpa [Nat.blt_eq] using b3,by simpa using b4, .inl ⟨o2,a,i,j,k⟩⟩
     ·cases h
    ·cases h
   ·cases h
  ·rename_i o1 b;split at h
   ·rename_i c1 t1' h1 d e;split at h
    ·rename_i f h8;cases hc:(Nat.blt t1' fn.ntmps && fn.results.isEmpty) with
     | false=>rw [hc] at h;cases h
     | true=>
      rw [hc] at h;simp only [qd,qe,qt] at h;obtain ⟨rfl,rfl,rfl⟩:=h;simp only [qv] at hc;obtain ⟨b2,b4⟩:=hc;have a:os=#[o1]:=(by apply qbv;simpa using b);exact ⟨id,os,o1,c1,g,h1,f,by apply qbv;simpa using h8,d,e,by simpa [Nat.blt_eq] using b2,by simpa [Nat.blt_eq] using b2,by simpa using b4, .inr ⟨a,rfl⟩⟩
    ·cases h
   ·cases h
  ·cases h
 ·cases h
theorem kahp {e:Exit} {pv:Value} (h:recV e=some pv):pv.oneCell'=true/\(((e = .normal\/e = .ret)/\pv = .nilIface)\/e = .panic [{ v:=pv,recovered:=false }]):=by
 unfold recV at h;split at h;injection h with h;subst h;exact ⟨rfl, .inl ⟨.inl rfl,rfl⟩⟩;injection h with h;subst h;exact ⟨rfl, .inl ⟨.inr rfl,rfl⟩⟩
 ·rename_i v;cases a:v.oneCell' with
  | false=>rw [a] at h;cases h
  | true=>rw [a] at h;injection h with h;subst h;exact ⟨a, .inr rfl⟩
 ·cases h
theorem k09 (hT:TOk P T) {fn:Func} {post:List (Nat×AObj)} {ids':List Nat} {E:HEnd} {g:Nat} {ψ0:Env} {w0:World} (e:Exit) (hg:g∉ids) (O:g∉ids') (U:(post.all fun p=>okO ids' p.2)=true) (hE:E.ok ids'=true) (hk:(post.all fun p=>ids'.contains p.1)=true) (D:Sim F S0 N0 st ψ' S' a w') (h3:Fr F w w') {keep:List Nat} {f:FuncId} {fn2:Func} {t1 t2:Nat} {c2:Code} {gi:Nat} {cvals:List Value} {vs:List AV} {pv:Value} {gi2:Nat} {u:FrameMode} (hd: st.dfr = [dfn f cvals]) (V: kad st.heap gi = some (.gho cvals vs)) (G: cvals.length = vs.length) (hf: P.funcs[f]? = some fn2) (X: kpe fn2 = some (t1, t2, c2)) (hn: (fn2.name == "runtime.NumGoroutine") = false) (H: Nat.ble vs.length fn2.ntmps = true) (hu:(u = .returning/\pv = .nilIface)\/u = .panicking [{ v:=pv,recovered:=false }]) (I:pv.oneCell'=true) (c:st.ids.contains gi2=false) (h:∀ ocs,awp P c2 (dst0 keep fn2.ntmps t1 t2 pv vs gi2 ocs st) fun e2 st2=>(e2 = .normal\/e2 = .ret)/\st2.dfr=[]/\∃ vs',kad st2.heap gi2=some (.gho ocs vs')/\hQ T fn.results.toList g ids E post ids' ψ0 S w0 .ret (dstB keep gi2 vs' st st2)):
  Leaves P fn a.tmps (fun e w'=>∃ ψ'' S'',E.is e ψ'' (·∈ids') S'' w'/\Core F S0 N0 post ids' ψ'' S'' w'/\Fr F w w'/\Ext (·∈ids) ψ0 ψ''/\(∀ i,i∈ids->i∈ids')/\(∀ b,S b->S'' b)/\Same S w0 w') a.defers u w':=by
 obtain ⟨id,os,o1,c1,j,p1,p2,p3,p4,p5,n1,n2,nres,r⟩:=kv9 X;have H:=qu H;have c:gi2∉st.ids:=by simpa using c
 rw [D.defers,hd];have Y:fn2.body≠none:=by rw [j];simp
 simp only [qaw,ne_eq] at hn;refine leaves_cons (f:=f) (args:=cvals.toArray) (fun hh=>by rcases hu with ⟨h,_⟩ | h <;> rw [hh] at h <;> cases h) (by simp [invoke,callFunc,hf,Y,hn]) ?_;refine callsD_of_wpS hf j fun c₀ cs hm=>?_;have s:(cvals.toArray++Array.replicate (fn2.ntmps - cvals.toArray.size) undef).size=fn2.ntmps:=by simp;omega
 -- the values of the frame that leaves
 have z:=D.core.add (n:=0) (v := .nilFunc) (w':=w') (ob := .gho (keep.map fun t=>a.tmps.getD t undef) (keep.map st.get)) (kaj _) c (fun b X=>by cases X)
  ⟨kcl _ _,by rw [kap];rfl,by rw [kap];rfl,fun i v x hv N=>by simp only [qq,qw] at hv N;obtain ⟨p,hp,rfl⟩:=hv;obtain ⟨q,C,rfl⟩:=N;rw [hp] at C;injection C with C;subst C;exact (D.tmps p).keep (kb5 c _ _) (fun _ h=>qk _ h) (fun _ h=>h) (fun _ _ _=>rfl)⟩
 obtain ⟨_,⟨_,_,_,Z⟩,_⟩:=D.core.obj gi _ V
 let a0:Act:={ tmps:=cvals.toArray++Array.replicate (fn2.ntmps - cvals.toArray.size) undef,defers:=[] }
 let a2:Act:=(a0.put (some t1) pv).put (some t2) pv
 have J:Sim F S0 N0 (dst0 keep fn2.ntmps t1 t2 pv vs gi2 (keep.map fun t=>a.tmps.getD t undef) st) (ψ'.set gi2 0 .nilFunc) S' a2 w':=by
  have s0:a0.tmps.size=fn2.ntmps:=s;have s1:(a0.put (some t1) pv).tmps.size=fn2.ntmps:=by rw [kvk];exact s0
  refine ⟨rfl,by show a2.tmps.size=fn2.ntmps;rw [kvk];exact s1,fun t=>?_,z⟩;show RV _ _ _ _ (a2.tmps.getD t undef) (look .any ((t2, .fz (.atom pv))::(t1, .fz (.atom pv))::argT 0 vs) t);rw [kbf,kbf,ko2 (some t2) fn2.ntmps t s1 (by intro t ht;injection ht with ht;omega),ko2 (some t1) fn2.ntmps t s0 (by intro t ht;injection ht with ht;omega)];by_cases e2:t2=t;rw [ql e2,ql (by rw [e2])];exact .fz (.atom I)
  ·rw [qi e2,qi (by simpa using e2)];by_cases e1:t1=t;rw [ql e1,ql (by rw [e1])];exact .fz (.atom I)
   ·rw [qi e1,qi (by simpa using e1)];rcases ko1 vs 0 t with h | ⟨x,_,k1,k2⟩;rw [h];exact .any
    ·rw [k2];have k1:vs[t]?=some x:=(by simpa using k1);have A:t<cvals.length:=(by rw [G];exact (qh.1 k1).1);have:a0.tmps.getD t undef=cvals[t]:=(by show (cvals.toArray++Array.replicate (fn2.ntmps - cvals.toArray.size) undef).getD t undef=_;rw [qa7,qbp (by simpa using A)];simp [A]);rw [this];exact (Z t _ x (by simp [A]) k1).keep (kb5 c _ _) (fun _ h=>qk _ h) (fun _ h=>h) (fun _ _ _=>rfl)
 -- what the closure leaves
 have o:∀ (u':FrameMode) (R:Ending->FrameMode->World->Prop),(∀ v w'',Leaves P fn a.tmps (fun e w'=>∃ ψ'' S'',E.is e ψ'' (·∈ids') S'' w'/\Core F S0 N0 post ids' ψ'' S'' w'/\Fr F w w'/\Ext (·∈ids) ψ0 ψ''/\(∀ i,i∈ids->i∈ids')/\(∀ b,S b->S'' b)/\Same S w0 w') [] .returning w''->R (.returned v) u' w'') ->
   c2.wp P (fun e a' w''=>bodyPostS P fn2 c₀ cs R e a' ({ c₀ with mode:=u' }::cs) w'') a2 w':=by
  intro u' R hR;refine wp_mono (h _ F S0 N0 _ S' a2 w' J) ?_;rintro e2 a'' w'' ⟨st2,ψ2,S2,⟨aa,ab,vs',K,st3,ac,ad⟩,k2,k3⟩;have L:a''.defers=[]/\∃ u'',({ c₀ with mode:=u' }::cs:List Frame)={ c₀ with mode:=u'' }::cs/\∃ v,(results fn2 a''.tmps).run P w'' = .ok v w''/\R (.returned v) u'' w'':=by
   refine ⟨k2.defers.trans ab,u',rfl, .tuple #[],by simp [results,nres],hR _ _ ?_⟩;obtain ⟨_,⟨_,_,_,M⟩,_⟩:=k2.core.obj gi2 _ K;have ae:Core F S0 N0 (kdb gi2 st2.heap) st2.ids ψ2 S2 w'':=
    ⟨fun i ob ho=>k2.core.obj i ob (kds gi2 ho).2,fun i i' ob ob' b ho af=>k2.core.inj i i' ob ob' b (kds gi2 ho).2 (kds gi2 af).2,k2.core.lt,k2.core.s0,k2.core.n0,k2.core.fr⟩
   have B:Sim F S0 N0 (dstB keep gi2 vs' st st2) ψ2 S2 { tmps:=a.tmps,defers:=[] } w'':=(by refine ⟨rfl,D.size,fun t=>?_,ae⟩;exact kzw (v:=fun t=>a.tmps.getD t undef) t fun i k x hk N=>M i _ x (by simp only [qq,qw] at hk;obtain ⟨q,C,rfl⟩:=hk;rw [qq,C];rfl) N);obtain ⟨ψ3,S3,h4⟩:=ac F S0 N0 ψ2 S2 _ w'' B;rcases (k4a hT [] hg O U hE hk ad h4 (h3.trans k3)).2 with ⟨_,v,r1,r2⟩ | ⟨v,r1,_⟩;exact ⟨v,r1,r2⟩
   ·cases r1
  rcases aa with rfl | rfl <;> exact L
 refine wpS_seq (wpS_region ?_);have ag:∀ (a:Act) (w:World),(execOp a.eval o1).run P w = .ok .recover w:=fun a w=>by obtain ⟨cc,as_,ts⟩:=c1;simp only at p2 p3;subst p2 p3;simp [execOp,p1,resolve,invoke,builtin]
 have ah:∀ y,Region.wanted o1 y=true:=fun y=>by simp [Region.wanted,p5]
 have s0:a0.tmps.size=fn2.ntmps:=s;have key:∀ (cs':List Frame) (Q:Exit->Act->List Frame->World->Prop),(Q .normal a2 cs' w'->os[0]?=some o1/\∃ l,List.range os.size=0::l/\wpOpsS P os Q l (a0.put (some t1) pv) cs' w'):=fun cs' Q hQ=>by
  rcases r with ⟨o2,rfl,q1,q2,q3⟩ | ⟨rfl,rfl⟩;refine ⟨rfl,[1],rfl,?_⟩;have ai:∀ y,Region.wanted o2 y=true:=fun y=>(by simp [Region.wanted,q3]);unfold wpOpsS;simp only [qcd,qa4,List.getElem?_cons_zero,ai,if_true];have hv:(execOp (a0.put (some t1) pv).eval o2).run P w' = .ok (.value pv) w':=(by have:(a0.put (some t1) pv).eval (.tmp t1)=pv:=(by show (a0.put (some t1) pv).tmps.getD t1 undef=pv;rw [ko2 (some t1) fn2.ntmps t1 s (by intro t ht;injection ht with ht;omega),ql rfl]);simp [execOp,q1,this]);rw [hv];simp only [Oper.upon,q2];unfold wpOpsS;exact hQ
  ·refine ⟨rfl,[],rfl,?_⟩;unfold wpOpsS;have he:a2=a0.put (some t2) pv:=(by show (a0.put (some t2) pv).put (some t2) pv=a0.put (some t2) pv;simp [Act.put]);rw [<- he];exact hQ
 have go:∀ (cs0 cs':List Frame) (Q:Exit->Act->List Frame->World->Prop),(recoverD cs0=none/\pv = .nilIface/\cs'=cs0\/recoverD cs0=some (pv,cs'))->Q .normal a2 cs' w'->wpOpsS P os Q (List.range os.size) a0 cs0 w':=fun cs0 cs' Q hr hQ=>by
  obtain ⟨k1,l,k2,k3⟩:=key cs' Q hQ;rw [k2];unfold wpOpsS;simp only [k1,ah,if_true];rw [ag];rcases hr with ⟨hr,rfl,rfl⟩ | hr;simp only [hr,p4];exact k3
  ·simp only [hr,p4];exact k3
 rcases hu with ⟨rfl,rfl⟩ | rfl
 ·have m:recoverD (c₀::cs)=none:=by simp [recoverD,hm]
  refine go _ _ _ (.inl ⟨m,rfl,rfl⟩) ?_;show c2.wpS P _ a2 (c₀::cs) w';refine wpS_of_wp ?_;have hc:(c₀::cs)=({ c₀ with mode := .returning }::cs:List Frame):=by rw [<- hm]
  rw [hc];exact o .returning _ fun v w'' hl=>hl
 ·have m:recoverD (c₀::cs)=some (pv,{ c₀ with mode := .panicking [{ v:=pv,recovered:=true }] }::cs):=by simp [recoverD,hm]
  refine go _ _ _ (.inr m) ?_;show c2.wpS P _ a2 _ w';refine wpS_of_wp ?_;exact o (.panicking [{ v:=pv,recovered:=true }]) _ fun v w'' hl=>by have:settle (.panicking [{ v:=pv,recovered:=true }]) = .returning:=rfl;simp only [this];exact hl
theorem k5c (y : TOk P T) {f : FuncId} {fn : Func} {c : Code} {args : List AV} {pre : List (Nat × AObj)} {E : HEnd} {post : List (Nat × AObj)} {ids' : List Nat} {g : Nat} (hf : P.funcs[f]? = some fn) (o : fn.body = some c) (hn : (fn.name == "runtime.NumGoroutine") = false)
  (q:Nat.ble args.length fn.ntmps=true) (hg:ids.contains g=false) (a:ids'.contains g=false) (j:(post.all fun p=>okO ids' p.2)=true) (z:E.ok ids'=true) (hk:(post.all fun p=>ids'.contains p.1)=true)
  (h:∀ ψ0 S1 w0,awp P c { n:=fn.ntmps,tmps:=argT 0 args,heap:=(g, .was ψ0 ids S1 w0)::pre,ids:=g::ids } (hdQ P T fn.results.toList g ids E post ids' ψ0 S1 w0)):ka0 P f args pre ids E post ids':=by
 have q:=qu q;have hg:g∉ids:=by simpa using hg
 have a:g∉ids':=by simpa using a
 refine ⟨⟨fn,hf,by rw [o];rfl,hn⟩,fun F S0 N0 ψ S w vs hs hr hc=>calls_of_wp_defers hf o ?_⟩;have k:=hc.add (n:=0) (v := .nilFunc) (w':=w) (ob := .was ψ ids S w) (kaj _) hg (fun b o=>by cases o)
  ⟨kcl _ _,by rw [kap];rfl,by rw [kap];rfl,kb5 hg _ _,fun i hi=>qk _ hi,fun b o=>o,fun _ _ _=>rfl⟩
 have r:Sim F S0 N0 { n:=fn.ntmps,tmps:=argT 0 args,heap:=(g, .was ψ ids S w)::pre,ids:=g::ids } (ψ.set g 0 .nilFunc) S
   { tmps:=vs++Array.replicate (fn.ntmps - vs.size) undef,defers:=[] } w:=by
  refine ⟨rfl,by simp;omega,fun t=>?_,k⟩;show RV _ _ _ w _ (look .any (argT 0 args) t);rcases ko1 args 0 t with h | ⟨x,_,h1,s⟩;rw [h];exact .any
  ·rw [s];have h1:args[t]?=some x:=(by simpa using h1);have l:t<vs.size:=(by rw [hs];exact (qh.1 h1).1);have:(vs++Array.replicate (fn.ntmps - vs.size) undef).getD t undef=vs[t]:=(by rw [qa7,qbp l];simp [l]);rw [this];exact (hr t _ x (by simp [l]) h1).keep (kb5 hg _ _) (fun _ h=>qk _ h) (fun _ h=>h) (fun _ _ _=>rfl)
 refine wp_mono (h _ _ _ F S0 N0 _ S _ w r) ?_;rintro e a' w' ⟨st',ψ',S',C,s,A⟩;rcases C with ⟨st2,hl,hp⟩ | ⟨keep,f2,fn2,t1,t2,c2,gi,cvals,avs,pv,gi2,d1,d2,d3,d4,d5,d6,d7,d8,d9,d10⟩
 ·obtain ⟨ψ2,S2,D⟩:=hl F S0 N0 ψ' S' a' w' s;obtain ⟨e0,u⟩:=k4a y pre hg a j z hk hp D A;rcases u with ⟨u,v,r1,r2⟩ | ⟨v,rfl,r2⟩;rcases u with rfl | rfl <;> (show Leaves P fn a'.tmps _ a'.defers .returning w'; rw [e0];exact ⟨v,r1,r2⟩)
  ·show Leaves P fn a'.tmps _ a'.defers (.panicking _) w';rw [e0];exact r2
 ·obtain ⟨d,m⟩:=kahp d8;rcases m with ⟨u,B⟩ | rfl;have:=k09 y e hg a j z hk s A d1 d2 d3 d4 d5 d6 d7 (.inl ⟨rfl,B⟩) d d9 d10;rcases u with rfl | rfl <;> exact this
  ·exact k09 y .ret hg a j z hk s A d1 d2 d3 d4 d5 d6 d7 (.inr rfl) d d9 d10
def anc (l:List Oper) (i j:Nat):Bool:=((k1r l).getD i 0).testBit j
def dstT (l:List Oper) (j:Nat):Option Nat:=(l[j]?).bind (·.dst)
def phB (l:List Oper) (es:List Nat) (i:Nat):Bool:=es.all fun e=>bif Nat.blt e i then anc l i e else (bif Nat.blt i e then anc l e i else true)
def k03 (l:List Oper) (n:Nat) (es:List Nat):Bool:=es.all fun e=>Nat.blt e n && phB l es e
def kqz (ch:List Nat):List (Nat×AObj)->List (Nat×AObj)
 | []=>[]
 | (k,v)::l=>bif ch.contains k then kqz ch l else (k,v)::kqz ch l
def klu (l:List Oper) (i:Nat):Nat->List (Nat×AV)
 | 0=>[]
 | j+1=>match dstT l j with
  | some d=>bif Nat.ble j i || anc l j i then klu l i j else (d, .any)::klu l i j
  | none=>klu l i j
def kgi (l:List Oper) (n:Nat) (es ch ai:List Nat) (st:St) (i:Nat) (o:Oper) (fs:List (Nat×Option Nat×AV)) (hp:List (Nat×AObj)) (ids:List Nat):St:=
 { st with tmps:=hadd fs (kjy o) (klu l i n++st.tmps),heap:=bif phB l es i then hp else kqz ch st.heap,ids:=bif phB l es i then ids else ai }
def pnE (v:Value):PanicEntry:={ v:=v,recovered:=false }
def kvd (P:Program) (os:Array Oper) (v:St) (o:Oper) (c:AV):Prop:=(kb9 os v o=some true/\NStep P o v c)\/(kb9 os v o=some false/\c = .fz (.tup []))
def k0x (P:Program) (os:Array Oper) (l:List Oper) (n:Nat) (es ch ai:List Nat) (st v:St) (o:Oper) (c:AV) (hp:List (Nat×AObj)) (ids:List Nat) (a:List (Nat×AObj)) (ids':List Nat):Prop:=
 ((kb9 os v o=some true/\StepA P o v c a ids')\/(kb9 os v o=some false/\c = .fz (.tup [])/\a=hp/\ids'=ids))/\((∀ i,i<n->phB l es i=true)\/((∀ id,id∉ch->∀ ob,kad hp id=some ob->kad a id=some ob)/\(∀ id,id∈ids'->id∈ai)/\∀ id,id∈ids->id∈ids'))
def kagt (_:Program) (_:Array Oper) (_:Exit->St->Prop) (_ _:St) (_:Oper):Prop:=False
def kt3 (P:Program) (os:Array Oper) (n:Nat) (es ch ai:List Nat) (Q:Exit->St->Prop) (st:St):Nat->Nat->List Oper->List (Nat×Option Nat×AV)->List (Nat×AObj)->List Nat->Option Nat->Prop
 | 0,_,l,fs,hp,ids,none=>awpL P os l { st with tmps:=hadd fs (fun _=>true) st.tmps,heap:=hp,ids:=ids } Q
 | 0,_,_,_,_,_,some _=>True
 | k+1,i,o::l,fs,hp,ids,pn=>
  (∃ e,pn=some e/\anc os.toList i e=true/\kt3 P os n es ch ai Q st k (i+1) l ((i,o.dst, .any)::fs) hp ids pn) \/
  (es.contains i=false/\∃ c,kvd P os (kgi os.toList n es ch ai st i o fs hp ids) o c/\(phB os.toList es i || okA st.ids c)=true/\kt3 P os n es ch ai Q st k (i+1) l ((i,o.dst,c)::fs) hp ids pn) \/
  (es.contains i=true/\pn=none/\∃ c a ids',k0x P os os.toList n es ch ai st (kgi os.toList n es ch ai st i o fs hp ids) o c hp ids a ids'/\kt3 P os n es ch ai Q st k (i+1) l ((i,o.dst,c)::fs) a ids' none) \/
  (es.contains i=true/\pn=none/\kagt P os Q st (kgi os.toList n es ch ai st i o fs hp ids) o/\kt3 P os n es ch ai Q st k (i+1) l ((i,o.dst, .any)::fs) hp ids (some i))
 | _+1,_,[],_,_,_,_=>False
variable {Q:Exit->St->Prop} {os:Array Oper} {n:Nat} {es ch ai:List Nat}
def fsOf (l:List Oper) (c:Nat->AV):Nat->List (Nat×Option Nat×AV)
 | 0=>[]
 | k+1=>(k,dstT l k,c k)::fsOf l c k
theorem ki8 {l:List Oper} {c c':Nat->AV}:∀ {k:Nat},(∀ j,j<k->c j=c' j)->fsOf l c k=fsOf l c' k
 | 0,_=>rfl
 | k+1,h=>by simp only [fsOf,h k (by omega),ki8 (k:=k) fun j a=>h j (by omega)]
def FactZ (P:Program) (os:Array Oper) (n:Nat) (es ch ai:List Nat) (Q:Exit->St->Prop) (st:St) (c:Nat->AV) (H:Nat->List (Nat×AObj)×List Nat) (pn:Option Nat) (i:Nat) (o:Oper):Prop:=
 (H (i+1)=H i/\∃ e,pn=some e/\e<i/\anc os.toList i e=true) \/
 (i∉es/\H (i+1)=H i/\kvd P os (kgi os.toList n es ch ai st i o (fsOf os.toList c i) (H i).1 (H i).2) o (c i)/\(phB os.toList es i || okA st.ids (c i))=true) \/
 (i∈es/\(∀ e,pn=some e->i<e)/\k0x P os os.toList n es ch ai st (kgi os.toList n es ch ai st i o (fsOf os.toList c i) (H i).1 (H i).2) o (c i) (H i).1 (H i).2 (H (i+1)).1 (H (i+1)).2) \/
 (i∈es/\pn=some i/\H (i+1)=H i/\kagt P os Q st (kgi os.toList n es ch ai st i o (fsOf os.toList c i) (H i).1 (H i).2) o)
theorem krx:∀ (k i:Nat) (l:List Oper) (c0:Nat->AV) (H0:Nat->List (Nat×AObj)×List Nat) (pn0:Option Nat),os.toList.drop i=l->i+k=n->(∀ e,pn0=some e->e<i) ->
  kt3 P os n es ch ai Q st k i l (fsOf os.toList c0 i) (H0 i).1 (H0 i).2 pn0 ->
  ∃ c H pn,(∀ j,j<i->c j=c0 j)/\(∀ j,j<=i->H j=H0 j)/\(∀ e,pn0=some e->pn=some e)/\(∀ e,pn=some e->pn0=some e\/(i<=e/\e<n/\e∈es))/\(∀ j o,i<=j->j<n->os.toList[j]?=some o->FactZ P os n es ch ai Q st c H pn j o) /\
   (pn=none->awpL P os (os.toList.drop n) { st with tmps:=hadd (fsOf os.toList c n) (fun _=>true) st.tmps,heap:=(H n).1,ids:=(H n).2 } Q)
 | 0,i,l,c0,H0,pn0,hl,hn,hp,h=>by
  obtain rfl:i=n:=by omega
  refine ⟨c0,H0,pn0,fun _ _=>rfl,fun _ _=>rfl,fun _ h=>h,fun e h => .inl h,fun j o h1 m=>by omega,fun b=>?_⟩;subst b hl;exact h
 | k+1,i,l,c0,H0,pn0,hl,hn,hp,h=>by
  cases l with
  | nil=>exact h.elim
  | cons o l=>
   have d:os.toList[i]?=some o:=(by have:=congrArg (·[0]?) hl;simpa using this);have g:os.toList.drop (i+1)=l:=(by rw [<- List.drop_drop,hl];rfl);have t:dstT os.toList i=o.dst:=(by unfold dstT;rw [d];rfl);have cons:∀ c,(i,o.dst,c)::fsOf os.toList c0 i=fsOf os.toList (fun j=>if j=i then c else c0 j) (i+1):=fun c=>(by simp only [fsOf,t,if_true];rw [ki8 (k:=i) (c':=fun j=>if j=i then c else c0 j) fun j p=>by rw [qi (by omega)]]);have u:∀ x:List (Nat×AObj)×List Nat,(fun j=>if j=i+1 then x else H0 j) (i+1)=x:=fun x=>(by simp);rcases h with ⟨e,r,ha,h⟩ | ⟨f,c,hf,s,h⟩ | ⟨f,b,c,q,ids',hf,h⟩ | ⟨f,b,hf,h⟩
   ·rw [cons] at h;obtain ⟨c1,H1,pn1,k1,k2,k3,k3',k4,k5⟩:=krx k (i+1) l _ (fun j=>if j=i+1 then H0 i else H0 j) pn0 g (by omega) (fun e h=>by have:=hp e h;omega) (by simpa using h);refine ⟨c1,H1,pn1,fun j p=>by rw [k1 j (by omega),qi (by omega)],fun j p=>by rw [k2 j (by omega),qi (by omega)],k3,fun e h=>(k3' e h).imp id (fun h=>⟨by omega,h.2⟩),fun j o' h1 m ho=>?_,k5⟩;by_cases a:j=i;subst a;rw [d] at ho;obtain rfl:=qas ho;exact .inl ⟨by rw [k2 (j+1) (qx _),ql rfl,k2 j (by omega),qi (by omega)],e,k3 e r,hp e r,ha⟩
    ·exact k4 j o' (by omega) m ho
   ·rw [cons] at h;obtain ⟨c1,H1,pn1,k1,k2,k3,k3',k4,k5⟩:=krx k (i+1) l _ (fun j=>if j=i+1 then H0 i else H0 j) pn0 g (by omega) (fun e h=>by have:=hp e h;omega) (by simpa using h);have e1:∀ j,j<i->c1 j=c0 j:=fun j p=>(by rw [k1 j (by omega),qi (by omega)]);have e2:c1 i=c:=(by rw [k1 i (by omega),ql rfl]);have e3:H1 i=H0 i:=(by rw [k2 i (by omega),qi (by omega)]);have e4:H1 (i+1)=H0 i:=(by rw [k2 (i+1) (qx _),ql rfl]);refine ⟨c1,H1,pn1,e1,fun j p=>by rw [k2 j (by omega),qi (by omega)],k3,fun e h=>(k3' e h).imp id (fun h=>⟨by omega,h.2⟩),fun j o' h1 m ho=>?_,k5⟩;by_cases a:j=i;subst a;rw [d] at ho;obtain rfl:=qas ho;refine .inr (.inl ⟨by simpa using f,by rw [e3,e4],?_⟩);rw [ki8 e1,e2,e3];exact ⟨hf,s⟩
    ·exact k4 j o' (by omega) m ho
   ·subst b;rw [cons] at h;obtain ⟨c1,H1,pn1,k1,k2,k3,k3',k4,k5⟩:=krx k (i+1) l _ (fun j=>if j=i+1 then (q,ids') else H0 j) none g (by omega) (fun e h=>by cases h) (by simpa using h);have e1:∀ j,j<i->c1 j=c0 j:=fun j p=>(by rw [k1 j (by omega),qi (by omega)]);have e2:c1 i=c:=(by rw [k1 i (by omega),ql rfl]);have e3:H1 i=H0 i:=(by rw [k2 i (by omega),qi (by omega)]);have e4:H1 (i+1)=(q,ids'):=(by rw [k2 (i+1) (qx _),ql rfl]);refine ⟨c1,H1,pn1,e1,fun j p=>by rw [k2 j (by omega),qi (by omega)],k3,fun e h=>(k3' e h).imp id (fun h=>⟨by omega,h.2⟩),fun j o' h1 m ho=>?_,k5⟩;by_cases a:j=i
    ·subst a;rw [d] at ho;obtain rfl:=qas ho;refine .inr (.inr (.inl ⟨by simpa using f,fun e r=>?_,?_⟩))
     ·rcases k3' e r with h | h;cases h
      ·omega
     ·rw [ki8 e1,e2,e3,e4];exact hf
    ·exact k4 j o' (by omega) m ho
   ·exact hf.elim
def kj3 (fs:List (Nat×Option Nat×AV)) (p:Nat->Bool) (base:List (Nat×AV)):List (Nat×AV):=match fs with
 | []=>base
 | (j,some d,c)::l=>bif p j then (d,c)::kj3 l p base else kj3 l p base
 | (_,none,_)::l=>kj3 l p base
theorem kdi {l:List Oper} {c:Nat->AV} {p:Nat->Bool} {base:List (Nat×AV)} {t:Nat}:∀ k,(∃ j,j<k/\p j=true/\dstT l j=some t/\look .any (kj3 (fsOf l c k) p base) t=c j) \/
  ((∀ j,j<k->p j=true->dstT l j≠some t)/\look .any (kj3 (fsOf l c k) p base) t=look .any base t)
 | 0 => .inr ⟨fun j h=>by omega,rfl⟩
 | k+1=>by
  have ih:=kdi (l:=l) (c:=c) (p:=p) (base:=base) (t:=t) k;simp only [fsOf];cases m:dstT l k with
  | none=>
   simp only [kj3];rcases ih with ⟨j,h1,a,g,i⟩ | ⟨h1,a⟩;exact .inl ⟨j,by omega,a,g,i⟩
   ·refine .inr ⟨fun j n hp=>?_,a⟩;by_cases b:j=k
    ·subst b;rw [m];exact fun h=>by cases h
    ·exact h1 j (by omega) hp
  | some d=>
   simp only [kj3];cases hp:p k with
   | false=>
    simp only [qc];rcases ih with ⟨j,h1,a,g,i⟩ | ⟨h1,a⟩;exact .inl ⟨j,by omega,a,g,i⟩
    ·refine .inr ⟨fun j n e=>?_,a⟩;by_cases b:j=k;subst b;rw [hp] at e;cases e
     ·exact h1 j (by omega) e
   | true=>
    simp only [qd,kbf];by_cases f:d=t;subst f;exact .inl ⟨k,by omega,hp,m,by rw [ql rfl]⟩
    ·rw [qi f];rcases ih with ⟨j,h1,a,g,i⟩ | ⟨h1,a⟩;exact .inl ⟨j,by omega,a,g,i⟩
     ·refine .inr ⟨fun j n e=>?_,a⟩;by_cases b:j=k;subst b;rw [m];exact fun h=>f (qas h)
      ·exact h1 j (by omega) e
theorem kpu {l:List Oper} {c:Nat->AV} {p:Nat->Bool} {base:List (Nat×AV)} {t:Nat}:∀ k,(look .any (hadd (fsOf l c k) p base) t = .any)\/(∃ j,j<k/\p j=true/\dstT l j=some t/\look .any (hadd (fsOf l c k) p base) t=c j) \/
  ((∀ j,j<k->dstT l j≠some t)/\look .any (hadd (fsOf l c k) p base) t=look .any base t)
 | 0 => .inr (.inr ⟨fun j h=>by omega,rfl⟩)
 | k+1=>by
  have ih:=kpu (l:=l) (c:=c) (p:=p) (base:=base) (t:=t) k;simp only [fsOf];cases f:dstT l k with
  | none=>
   simp only [hadd];rcases ih with h | ⟨j,h1,a,g,i⟩ | ⟨h1,a⟩;exact .inl h;exact .inr (.inl ⟨j,by omega,a,g,i⟩)
   ·refine .inr (.inr ⟨fun j m=>?_,a⟩);by_cases b:j=k
    ·subst b;rw [f];exact fun h=>by cases h
    ·exact h1 j (by omega)
  | some d=>
   simp only [hadd,kbf];by_cases e:d=t
   ·subst e;rw [ql rfl];cases hp:p k with
    | false=>exact .inl rfl
    | true=>exact .inr (.inl ⟨k,by omega,hp,f,rfl⟩)
   ·rw [qi e];rcases ih with h | ⟨j,h1,a,g,i⟩ | ⟨h1,a⟩;exact .inl h;exact .inr (.inl ⟨j,by omega,a,g,i⟩)
    ·refine .inr (.inr ⟨fun j m=>?_,a⟩);by_cases b:j=k;subst b;rw [f];exact fun h=>e (qas h)
     ·exact h1 j (by omega)
theorem kt7 {l:List Oper} {i:Nat} {base:List (Nat×AV)} {t:Nat}:∀ k,look .any (klu l i k++base) t = .any\/((∀ j,j<k->dstT l j=some t->j<=i\/anc l j i=true)/\look .any (klu l i k++base) t=look .any base t)
 | 0 => .inr ⟨fun j h=>by omega,rfl⟩
 | k+1=>by
  have ih:=kt7 (l:=l) (i:=i) (base:=base) (t:=t) k;simp only [klu];cases g:dstT l k with
  | none=>
   rcases ih with h | ⟨h1,e⟩;exact .inl h
   ·refine .inr ⟨fun j m a=>?_,e⟩;by_cases b:j=k;subst b;rw [g] at a;cases a
    ·exact h1 j (by omega) a
  | some d=>
   cases f:(Nat.ble k i || anc l k i) with
   | true=>
    simp only [f,qd];rcases ih with h | ⟨h1,e⟩;exact .inl h
    ·refine .inr ⟨fun j m a=>?_,e⟩;by_cases b:j=k;subst b;rw [qb9] at f;exact f.imp (fun h=>qu h) id
     ·exact h1 j (by omega) a
   | false=>
    simp only [f,qc,qb0,kbf];by_cases c:d=t;rw [ql c];exact .inl rfl
    ·rw [qi c];rcases ih with h | ⟨h1,e⟩;exact .inl h
     ·refine .inr ⟨fun j m a=>?_,e⟩;by_cases b:j=k;subst b;rw [g] at a;exact absurd (qas a) c
      ·exact h1 j (by omega) a
theorem kw6 {ch:List Nat} {id:Nat} {ob:AObj}:∀ {l:List (Nat×AObj)},kad (kqz ch l) id=some ob->id∉ch/\kad l id=some ob
 | [],h=>by cases h
 | (k,v)::l,h=>by
  simp only [kqz] at h;cases hc:ch.contains k with
  | true=>
   rw [hc] at h;obtain ⟨h1,a⟩:=kw6 (l:=l) h;refine ⟨h1,?_⟩;rw [kai,qi];exact a
   ·rintro rfl;exact h1 (by simpa using hc)
  | false=>
   rw [hc] at h;simp only [qc,kai] at h;rw [kai];by_cases hk:k=id;subst hk;rw [ql rfl] at h ⊢;exact ⟨by simpa using hc,h⟩
   ·rw [qi hk] at h ⊢;exact kw6 h
theorem ku9 {ch:List Nat} {id:Nat} {ob:AObj} (a:id∉ch):∀ {l:List (Nat×AObj)},kad l id=some ob->kad (kqz ch l) id=some ob
 | [],h=>by cases h
 | (k,v)::l,h=>by
  simp only [kqz];rw [kai] at h;cases hc:ch.contains k with
  | true=>
   simp only [qd];rw [qi (by rintro rfl;exact a (by simpa using hc))] at h;exact ku9 a h
  | false=>
   simp only [qc,kai];by_cases hk:k=id;rw [ql hk] at h ⊢; exact h
   ·rw [qi hk] at h ⊢; exact ku9 a h
def kwc (ch:List Nat):List (Nat×AObj)->List Nat
 | []=>[]
 | (k,_)::l=>bif ch.contains k then kwc ch l else k::kwc ch l
theorem k3j {ch:List Nat} {id:Nat} {ob:AObj} (a:id∉ch):∀ {l:List (Nat×AObj)},kad l id=some ob->id∈kwc ch l
 | [],h=>by cases h
 | (k,v)::l,h=>by
  simp only [kwc];rw [kai] at h;by_cases hk:k=id;subst hk;rw [show ch.contains k=false by simpa using a];exact qo ..
  ·rw [qi hk] at h;have:=k3j a (l:=l) h;cases ch.contains k with
   | true=>exact this
   | false=>exact qk _ this
theorem kal5 {ch:List Nat} {hp a:List (Nat×AObj)} (h:(kwc ch hp).map (kad a)=(kwc ch hp).map (kad hp)):∀ id,id∉ch->∀ ob,kad hp id=some ob->kad a id=some ob:=fun id b ob ho=>by rw [List.map_inj_left.1 h id (k3j b ho)];exact ho
def stZ (l:List Oper) (n:Nat) (st:St) (c:Nat->AV) (H:Nat->List (Nat×AObj)×List Nat) (listed:Array Bool) (kD:Nat):St:=
 { st with tmps:=kj3 (fsOf l c n) (fun j=>listed.getD j false) st.tmps,heap:=(H kD).1,ids:=(H kD).2 }
theorem k5w {es:List Nat} {H:Nat->List (Nat×AObj)×List Nat} {n:Nat} (g:∀ i,i<n->i∉es->H (i+1)=H i):∀ {a b:Nat},a<=b->b<=n->(∀ e,e∈es->¬ (a<=e/\e<b))->H a=H b
 | a,b,h1,j,f=>by
  induction b with
  | zero=>
    obtain rfl:a=0:=(by omega);rfl
  | succ b ih=>
   by_cases c:a=b+1;rw [c]
   ·rw [g b (by omega) (fun d=>f b d ⟨by omega,by omega⟩)];exact ih (by omega) (by omega) fun e d h=>f e d ⟨h.1,by omega⟩
def HistI (ids ids':List Nat) (ψ ψ':Env) (S S':Nat->Prop) (w w':World):Prop:=Ext (·∈ids) ψ ψ'/\(∀ i,i∈ids->i∈ids')/\(∀ b,S b->S' b)/\Same S w w'
theorem HistI.refl {ids:List Nat}:HistI ids ids ψ ψ S S w w:=⟨Ext.refl,fun _ h=>h,fun _ h=>h,fun _ _ _=>rfl⟩
theorem HistI.trans {ids ids' ids2:List Nat} {ψ2:Env} {S2:Nat->Prop} {w2:World} (h:HistI ids ids' ψ ψ' S S' w w') (k:HistI ids' ids2 ψ' ψ2 S' S2 w' w2):HistI ids ids2 ψ ψ2 S S2 w w2:=
 ⟨h.1.trans' k.1 h.2.1,fun i hi=>k.2.1 i (h.2.1 i hi),fun b a=>k.2.2.1 b (h.2.2.1 b a),h.2.2.2.trans' k.2.2.2 h.2.2.1⟩
structure DSx (F S0:Nat->Prop) (N0:Nat) (ψ0:Env) (Sa:Nat->Prop) (w0:World) (l:List Oper) (n:Nat) (es:List Nat) (st:St) (c:Nat->AV) (H:Nat->List (Nat×AObj)×List Nat) (listed:Array Bool) (a:Act) (w:World):Prop where
 inv:∃ kD ψ S,kD<=n/\(∀ e,e∈es->(listed.getD e false=true↔e<kD))/\Sim F S0 N0 (stZ l n st c H listed kD) ψ S a w/\HistI st.ids (H kD).2 ψ0 ψ Sa S w0 w
 fr:Fr F w0 w
 lsize:listed.size=l.length
 closed:∀ k o,listed.getD k false=true->l[k]?=some o->∀ e∈o.after,Region.binds .any e=true->listed.getD e.on false=true
def FactX (P:Program) (l:List Oper) (n:Nat) (es:List Nat) (chi chs:Nat->List Nat) (ai:List Nat) (st:St) (c:Nat->AV) (H:Nat->List (Nat×AObj)×List Nat) (i:Nat) (o:Oper):Prop:=
 (i∉es/\H (i+1)=H i/\kvd P l.toArray (kgi l n es (chi i) ai st i o (fsOf l c i) (H i).1 (H i).2) o (c i)/\(phB l es i || okA st.ids (c i))=true) \/
 (i∈es/\k0x P l.toArray l n es (chs i) ai st (kgi l n es (chi i) ai st i o (fsOf l c i) (H i).1 (H i).2) o (c i) (H i).1 (H i).2 (H (i+1)).1 (H (i+1)).2)
theorem k47 (hm:P.follows .mixedOrders=true) {id:Nat} {l:List Oper} (c:Nat->AV) (H:Nat->List (Nat×AObj)×List Nat) (chi chs:Nat->List Nat) (hB:relB l n st.n=true) (bb:k03 l n es=true) (bc:st.ids.all ai.contains=true) (V:H 0=(st.heap,st.ids)) (bd:∀ j i,j∈es->i<n->anc l j i=false->∀ id,id∈chs j->id∈chi i) (J:∀ i o,i<n->l[i]?=some o->FactX P l n es chi chs ai st c H i o) {F S0:Nat->Prop} {N0:Nat} {ψ0:Env} {Sa:Nat->Prop} {a0:Act} {w0:World} (q:Sim F S0 N0 st ψ0 Sa a0 w0) (R:Exit->Act->World->Prop) (a2:∀ ψ S a w,Sim F S0 N0 { st with tmps:=hadd (fsOf l c n) (fun _=>true) st.tmps,heap:=(H n).1,ids:=(H n).2 } ψ S a w->Fr F w0 w->HistI st.ids (H n).2 ψ0 ψ Sa S w0 w->wpList P l.toArray R (l.drop n) a w):(Code.region id l.toArray true).wp P R a0 w0:=by
 have ok:=k2q hB
 -- facts about the chain
 have af:∀ e,e∈es->e<n/\phB l es e=true:=fun e g=>by have:=qr.1 bb e g;rw [qv] at this;exact ⟨by simpa [Nat.blt_eq] using this.1,this.2⟩
 have a3:∀ i,phB l es i=true->∀ e,e∈es->(e<i->anc l i e=true)/\(i<e->anc l e i=true):=fun i hi e g=>by
  have:=qr.1 hi e g;refine ⟨fun r=>?_,fun r=>?_⟩;have u:Nat.blt e i=true:=(by simpa [Nat.blt_eq] using r);simpa [u] using this
  ·have u:Nat.blt i e=true:=(by simpa [Nat.blt_eq] using r);have be:Nat.blt e i=false:=by
    cases hx:Nat.blt e i with
    | false=>rfl
    | true=>
      have:e<i:=(by simpa [Nat.blt_eq] using hx);omega
   simpa [u,be] using this
 have hs1:Sim F S0 N0 st ψ0 Sa a0 w0.drew:=⟨q.defers,q.size,fun t=>(q.tmps t).keep Ext.refl (fun _ h=>h) (fun _ h=>h) (fun _ _ _=>rfl),⟨fun id ob ho=>by obtain ⟨e1,e2,e3⟩:=q.core.obj id ob ho;exact ⟨e1,e2.keep Ext.refl (fun _ h=>h) (fun _ h=>h) (fun _ _ _=>rfl) ⟨rfl,rfl⟩ (fun _ _=>rfl),e3⟩,q.core.inj,q.core.lt,q.core.s0,q.core.n0,q.core.fr⟩⟩;refine wp_region_any hm ?_;have ag:∀ i,i<n->i∉es->H (i+1)=H i:=fun i hi O=>by
  have A:i<l.length:=by have:=ok.len;omega
  rcases J i l[i] hi (qb A) with ⟨_,h1,_⟩ | ⟨h1,_⟩;exact h1
  ·exact absurd h1 O
 have s:¬ (∀ i,i<n->phB l es i=true)->∀ j,j<n->(∀ id,id∉chs j->∀ ob,kad (H j).1 id=some ob->kad (H (j+1)).1 id=some ob)/\((∀ id,id∈(H j).2->id∈ai)->∀ id,id∈(H (j+1)).2->id∈ai)/\∀ id,id∈(H j).2->id∈(H (j+1)).2:=fun Q j L=>by
  have E:j<l.length:=by have:=ok.len;omega
  rcases J j l[j] L (qb E) with ⟨_,h1,_⟩ | ⟨_,_,h1⟩;rw [h1];exact ⟨fun _ _ _ h=>h,fun h=>h,fun _ h=>h⟩
  ·obtain ⟨q1,q2,q3⟩:=h1.resolve_left Q;exact ⟨q1,fun _=>q2,q3⟩
 have T:¬ (∀ i,i<n->phB l es i=true)->∀ i,i<n->∀ k,k<=n->(∀ j,j<k->j∈es->anc l j i=false)->∀ id,id∉chi i->∀ ob,kad st.heap id=some ob->kad (H k).1 id=some ob:=fun Q i bf k=>by
  induction k with
  | zero=>intro _ _ id _ ob h;rw [V];exact h
  | succ k ih=>
   intro B a4 id a5 ob h;have hk:=ih (by omega) (fun j L=>a4 j (by omega)) id a5 ob h;by_cases ao:k∈es;exact (s Q k (by omega)).1 id (fun hc=>a5 (bd k i ao bf (a4 k (Nat.lt_succ_self _) ao) id hc)) ob hk
   ·rw [ag k (by omega) ao];exact hk
 have G:¬ (∀ i,i<n->phB l es i=true)->∀ k,k<=n->(∀ id,id∈(H k).2->id∈ai)/\∀ id,id∈st.ids->id∈(H k).2:=fun Q k=>by
  induction k with
  | zero=>intro _;rw [V];exact ⟨fun id h=>by simpa using qr.1 bc id h,fun _ h=>h⟩
  | succ k ih=>intro B;obtain ⟨q1,q2⟩:=ih (by omega);exact ⟨(s Q k (by omega)).2.1 q1,fun id h=>(s Q k (by omega)).2.2 id (q2 id h)⟩
 suffices key:∀ (fuel:Nat) (listed:Array Bool) (a:Act) (w:World),DSx F S0 N0 ψ0 Sa w0 l n es st c H listed a w->(∀ k,listed.getD k false=true->k<n) ->
   ((List.range l.length).countP fun k=>!listed.getD k true)<=fuel->wpAny P .any l.toArray R fuel listed a w by
  refine key _ _ _ _ ⟨⟨0,ψ0,Sa,qao _,fun e _=>by rw [kpr];simp,?_,⟨Ext.refl,fun i h=>by rw [V];exact h,fun _ h=>h,fun _ _ _=>rfl⟩⟩,Fr.drew,by simp,(fun k o hk=>by rw [kpr] at hk;cases hk)⟩ (fun k hk=>by rw [kpr] at hk;cases hk) ?_
  ·refine ⟨hs1.defers,hs1.size,fun t=>?_,by show Core F S0 N0 (H 0).1 (H 0).2 _ _ _;rw [V];exact hs1.core⟩;show RV _ (·∈(H 0).2) _ _ _ (look .any (kj3 (fsOf l c n) _ st.tmps) t);rw [V];rcases kdi (l:=l) (c:=c) (p:=fun j=>(Array.replicate l.toArray.size false).getD j false) (base:=st.tmps) (t:=t) n with ⟨j,_,L,_⟩ | ⟨_,M⟩;rw [kpr] at L;cases L
   ·rw [M];exact hs1.tmps t
  ·refine qag (List.countP_le_length ..) ?_;simp
 intro fuel
 -- the end of the bw
 have fin:∀ (listed:Array Bool) (a:Act) (w:World),DSx F S0 N0 ψ0 Sa w0 l n es st c H listed a w->(∀ i,i<n->listed.getD i false=true)->wpList P l.toArray R (l.drop n) a w:=by
  intro listed a w d f;obtain ⟨kD,ψ,S,B,hk,hs,X⟩:=d.inv;have aq:H kD=H n:=k5w (es:=es) (n:=n) ag B (qx _) fun e g h=>by have:=(hk e g).1 (f e h.2);omega
  have bg:Sim F S0 N0 { st with tmps:=hadd (fsOf l c n) (fun _=>true) st.tmps,heap:=(H n).1,ids:=(H n).2 } ψ S a w:=by
   refine ⟨hs.defers,hs.size,fun t=>?_,by rw [<- aq];exact hs.core⟩;have ht:=hs.tmps t;rw [<- aq];show RV _ _ _ _ _ (look .any (hadd (fsOf l c n) (fun _=>true) st.tmps) t);have ht:RV ψ (·∈(H kD).2) S w (a.tmps.getD t undef) (look .any (kj3 (fsOf l c n) (fun j=>listed.getD j false) st.tmps) t):=ht;rcases kpu (l:=l) (c:=c) (p:=fun _=>true) (base:=st.tmps) (t:=t) n with h | ⟨j,h1,_,y,Y⟩ | ⟨h1,M⟩;rw [h];exact .any
   ·rw [Y];rcases kdi (l:=l) (c:=c) (p:=fun j=>listed.getD j false) (base:=st.tmps) (t:=t) n with ⟨j',e1,e2,e3,e4⟩ | ⟨e1,e2⟩;rw [e4] at ht;have bh:j'=j:=(by unfold dstT at y e3;simp only [qf] at y e3;obtain ⟨o1,p1,p2⟩:=y;obtain ⟨o2,q1,q2⟩:=e3;exact ok.uniq j' j o2 o1 t e1 h1 q1 p1 q2 p2);rw [bh] at ht;exact ht
    ·exact absurd y (e1 j h1 (f j h1))
   ·rw [M];rcases kdi (l:=l) (c:=c) (p:=fun j=>listed.getD j false) (base:=st.tmps) (t:=t) n with ⟨j',e1,e2,e3,e4⟩ | ⟨e1,e2⟩;exact absurd e3 (h1 j' e1)
    ·rw [e2] at ht;exact ht
  exact a2 ψ S a w bg d.fr (by rw [<- aq];exact X)
 induction fuel with
 | zero=>
  intro listed a w d hh hc;have f:∀ i,i<l.length->listed.getD i false=true:=fun i hi=>by have h0:((List.range l.length).countP fun k=>!listed.getD k true)=0:=(by omega);rw [List.countP_eq_zero] at h0;have:=h0 i (by simpa using hi);simp [d.lsize,hi] at this ⊢;exact this
  have hn:n=l.length:=by
   have:=ok.len;rcases qbq n l.length with h' | h';have:=hh n (f _ h');omega
   ·omega
  have H:=fin listed a w d fun i hi=>f i (by omega);rw [hn] at H;exact kry ok 0 l.length listed a w (by omega) (qx _) d.lsize (fun i hi=>⟨fun _=>hi,fun _=>by have:=f i hi;simp [d.lsize,hi] at this ⊢;exact this⟩) (by omega) H
 | succ fuel ih=>
  intro listed a w d hh hc;by_cases z:∀ i,i<n->listed.getD i false=true
  ·refine kry ok (fuel+1) n listed a w (qx _) ok.len d.lsize (fun i hi=>⟨fun hl=>hh i (by
    simp [d.lsize,hi] at hl ⊢;exact hl),fun C=>by
    have:=z i C;simp [d.lsize,hi] at this ⊢;exact this⟩) ?_ (fin listed a w d z)
   refine qag ?_ hc;rw [show l.length=n+(l.length - n) by have:=ok.len;omega,List.range_add,List.countP_append];have:((List.range (l.length - n)).map (n+·)).countP (fun k=>!listed.getD k true)=l.length - n:=(by rw [List.countP_eq_length.2,qs,List.length_range];intro k hk;simp only [qaa,qa8] at hk;obtain ⟨m,hm,rfl⟩:=hk;have r:n+m<l.length:=(by omega);have:listed.getD (n+m) false≠true:=fun h=>(by have:=hh _ h;omega);simp [d.lsize,r] at this ⊢;exact this);omega
  ·have ar:Region.ready .any l.toArray listed≠[]:=by
    have bi:∃ i,i<n/\listed.getD i false=false/\∀ j,j<i->listed.getD j false=true:=by
     have:∃ i,i<n/\listed.getD i false=false:=(by simp only [Classical.not_forall] at z;obtain ⟨i,hi,u⟩:=z;exact ⟨i,hi,by simpa using u⟩);obtain ⟨i,hi,u⟩:=this
     induction i using Nat.strongRecOn with
     | _ i ihi=>
      by_cases f:∀ j,j<i->listed.getD j false=true;exact ⟨i,hi,u,f⟩
      ·simp only [Classical.not_forall] at f;obtain ⟨j,L,bj⟩:=f;exact ihi j L (by omega) (by simpa using bj)
    obtain ⟨i,hi,u,f⟩:=bi;have A:i<l.length:=(by have:=ok.len;omega);have:i∈Region.ready .any l.toArray listed:=mem_ready.2 ⟨by simp [d.lsize,A] at u ⊢;exact u,l[i],by simp [A],fun e g ah=>f _ (ok.edges i _ (qb A) e g ah)⟩;intro h0;rw [h0] at this;cases this
   refine ⟨fun h0=>absurd h0 ar,fun i hi=>?_⟩;obtain ⟨h0,o,ho,f⟩:=mem_ready.1 hi;have U:l[i]?=some o:=(by simpa using ho);have A:i<l.length:=(qh.1 U).1;have aj:=k8h h0;have N:∀ j,anc l i j=true->listed.getD j false=true:=fun j L=>
    knf (l:=l) (S:=fun j=>listed.getD j false=true) (fun m p hm hp e g u=>d.closed m p hm hp e g u) i o U f j L
   have D:∀ j,listed.getD j false=true->anc l j i=true->False:=fun j L ha=>(by have E:j<l.length:=(by have:=kahi L;rw [d.lsize] at this;exact this);have:=knf (l:=l) (S:=fun j=>listed.getD j false=true) (fun m p hm hp e g u=>d.closed m p hm hp e g u) j l[j] (qb E) (fun e g u=>d.closed j _ L (qb E) e g u) i ha;rw [aj] at this;cases this);have C:i<n:=by
    rcases qbq i n with h' | h';exact h'
    ·exfalso;apply z;intro j L;exact N j (ok.tail i j A h' (by omega))
   obtain ⟨kD,ψ,S,B,hk,hs,X⟩:=d.inv;have au:dstT l i=o.dst:=(by unfold dstT;rw [U];rfl);have Z:∀ k,(listed.setIfInBounds i true).getD k false=true->k=i\/listed.getD k false=true:=fun k hk=>by
    by_cases a6:i=k;exact .inl a6.symm
    ·rw [getD_set_ne false a6] at hk;exact .inr hk
   have aa:(listed.setIfInBounds i true).getD i false=true:=(by simp [d.lsize,A]);have a7:∀ t,o.dst=some t->t<st.n:=fun t ht=>ok.dst i o t C U ht
   -- the bk agree with the text's,for what the view bl
   have ak:(∀ e,e∈es->(e<i↔e<kD))->H i=H kD:=fun a8=>by
    rcases Nat.le_total i kD with av | av
    ·exact k5w (es:=es) (n:=n) ag av B fun e g h=>by have:=a8 e g;omega
    ·exact (k5w (es:=es) (n:=n) ag av (by omega) fun e g h=>by have:=a8 e g;omega).symm
   have x:phB l es i=true->H i=H kD:=fun hp=>ak fun e g=>by
    obtain ⟨h1,M⟩:=a3 i hp e g;have y:=hk e g;constructor;intro r;exact y.1 (N e (h1 r))
    ·intro r;rcases Nat.lt_trichotomy e i with h | h | h;exact h;subst h;rw [y.2 r] at aj;cases aj
     ·exact (D e (y.2 r) (M h)).elim
   -- the slots of the view
   have ab:∀ (K:Nat->Prop),(∀ id,id∈(H kD).2->K id)->∀ t,RV ψ K S w (a.tmps.getD t undef) (look .any (hadd (fsOf l c i) (kjy o) (klu l i n++st.tmps)) t):=fun K hK t=>by
    have ht:RV ψ (·∈(H kD).2) S w (a.tmps.getD t undef) (look .any (kj3 (fsOf l c n) (fun j=>listed.getD j false) st.tmps) t):=hs.tmps t;have uniq:∀ {j j':Nat},j<n->j'<n->dstT l j=some t->dstT l j'=some t->j=j':=fun {j j'} h1 M y Y=>(by unfold dstT at y Y;simp only [qf] at y Y;obtain ⟨o1,p1,p2⟩:=y;obtain ⟨o2,q1,q2⟩:=Y;exact ok.uniq j j' o1 o2 t h1 M p1 q1 p2 q2);rcases kpu (l:=l) (c:=c) (p:=kjy o) (base:=klu l i n++st.tmps) (t:=t) i with h | ⟨j,h1,M,y,Y⟩ | ⟨h1,M⟩;rw [h];exact .any
    ·rw [Y];have E:listed.getD j false=true:=(by obtain ⟨e,g,bm,u⟩:=afterB_iff.1 M;rw [<- bm];exact f e g u);rcases kdi (l:=l) (c:=c) (p:=fun j=>listed.getD j false) (base:=st.tmps) (t:=t) n with ⟨j',e1,e2,e3,e4⟩ | ⟨e1,e2⟩;rw [e4,uniq e1 (by omega) e3 y] at ht;exact ht.mono hK fun _ h=>h
     ·exact absurd y (e1 j (by omega) E)
    ·rw [M];rcases kt7 (l:=l) (i:=i) (base:=st.tmps) (t:=t) n with h | ⟨k1,k2⟩;rw [h];exact .any
     ·rw [k2];rcases kdi (l:=l) (c:=c) (p:=fun j=>listed.getD j false) (base:=st.tmps) (t:=t) n with ⟨j',e1,e2,e3,e4⟩ | ⟨e1,e2⟩
      ·exfalso;rcases k1 j' e1 e3 with h | h
       ·rcases qbq j' i with h' | h';exact h1 j' h' e3
        ·obtain rfl:j'=i:=(by omega);rw [aj] at e2;cases e2
       ·exact D j' e2 h
      ·rw [e2] at ht;exact ht.mono hK fun _ h=>h
   have fact:=J i o C U
   -- what a value in the slot leaves
   have next:∀ (kD':Nat) (ψ':Env) (S':Nat->Prop) (v:Value) (w':World),kD'<=n->(∀ e,e∈es->((listed.setIfInBounds i true).getD e false=true↔e<kD'))->Fr F w w'->HistI (H kD).2 (H kD').2 ψ ψ' S S' w w' ->
     Core F S0 N0 (H kD').1 (H kD').2 ψ' S' w'->RV ψ' (·∈(H kD').2) S' w' v (c i)->(∀ t,RV ψ' (·∈(H kD').2) S' w' (a.tmps.getD t undef) ((stZ l n st c H listed kD).get t)) ->
     wpAny P .any l.toArray R fuel (listed.setIfInBounds i true) (a.put o.dst v) w':=fun kD' ψ' S' v w' q1 q2 q4 q8 q5 q6 q7=>by
    refine ih _ _ _ ⟨⟨kD',ψ',S',q1,q2,?_,X.trans q8⟩,d.fr.trans q4,by simp [d.lsize],?_⟩ (fun k hk=>(Z k hk).elim (fun e=>by omega) (hh k)) ?_
    ·refine ⟨by rw [ky2];exact hs.defers,by rw [kvk];exact hs.size,fun t=>?_,q5⟩;rw [ko2 _ _ _ hs.size a7];have q7:=q7 t;show RV ψ' _ S' w' _ (look .any (kj3 (fsOf l c n) (fun j=>(listed.setIfInBounds i true).getD j false) st.tmps) t);have q7:RV ψ' (·∈(H kD').2) S' w' (a.tmps.getD t undef) (look .any (kj3 (fsOf l c n) (fun j=>listed.getD j false) st.tmps) t):=q7;have uniq:∀ {j j':Nat},j<n->j'<n->dstT l j=some t->dstT l j'=some t->j=j':=fun {j j'} h1 M y Y=>(by unfold dstT at y Y;simp only [qf] at y Y;obtain ⟨o1,p1,p2⟩:=y;obtain ⟨o2,p3,p4⟩:=Y;exact ok.uniq j j' o1 o2 t h1 M p1 p3 p2 p4);rcases kdi (l:=l) (c:=c) (p:=fun j=>(listed.setIfInBounds i true).getD j false) (base:=st.tmps) (t:=t) n with ⟨j,e1,e2,e3,e4⟩ | ⟨e1,e2⟩
     ·rw [e4];by_cases aw:j=i;subst aw;rw [au] at e3;rw [ql e3];exact q6
      ·have E:=(Z j e2).resolve_left aw;rw [qi (fun h=>aw (uniq e1 C e3 (by rw [au];exact h)))];rcases kdi (l:=l) (c:=c) (p:=fun j=>listed.getD j false) (base:=st.tmps) (t:=t) n with ⟨j',f1,f2,f3,f4⟩ | ⟨f1,f2⟩;rw [f4,uniq f1 e1 f3 e3] at q7;exact q7
       ·exact absurd e3 (f1 j e1 E)
     ·rw [e2,qi (fun h=>e1 i C aa (by rw [au];exact h))];rcases kdi (l:=l) (c:=c) (p:=fun j=>listed.getD j false) (base:=st.tmps) (t:=t) n with ⟨j',f1,f2,f3,f4⟩ | ⟨f1,f2⟩;exact absurd f3 (e1 j' f1 (getD_set_true f2))
      ·rw [f2] at q7;exact q7
    ·intro k p hk hp e g ah;rcases Z k hk with rfl | bn;rw [U] at hp;obtain rfl:=qas hp;exact getD_set_true (f e g ah)
     ·exact getD_set_true (d.closed k p bn hp e g ah)
    ·have:=ku7 l.length A h0 (by rw [d.lsize];exact A);omega
   have ac:∀ e,e∈es->i∉es->((listed.setIfInBounds i true).getD e false=true↔e<kD):=fun e g bo=>(by have ar:i≠e:=fun h=>bo (h ▸ g);rw [getD_set_ne false ar];exact hk e g);unfold wpOp;simp only [ho];rcases fact with ⟨O,al,hN,am⟩ | ⟨O,bp,bq⟩
   ·-- one that changes nothing
    have an:∀ id,id∈(H kD).2->id∈(kgi l n es (chi i) ai st i o (fsOf l c i) (H i).1 (H i).2).ids:=fun id=>by
     show _->id∈(bif phB l es i then (H i).2 else ai);cases hp:phB l es i with
     | true=>simp only [qd];rw [x hp];exact fun h=>h
     | false=>simp only [qc];exact (G (fun h=>by rw [h i C] at hp;cases hp) kD B).1 id
    have ax:∀ {v:Value} {S':Nat->Prop} {w':World},RV ψ (·∈(kgi l n es (chi i) ai st i o (fsOf l c i) (H i).1 (H i).2).ids) S' w' v (c i)->RV ψ (·∈(H kD).2) S' w' v (c i):=fun {v S' w'} hv=>by
     cases hp:phB l es i with
     | true=>
      have g:(kgi l n es (chi i) ai st i o (fsOf l c i) (H i).1 (H i).2).ids=(H kD).2:=(by show (bif phB l es i then (H i).2 else ai)=_;rw [hp,qd,x hp]);rw [g] at hv;exact hv
     | false=>
      rw [hp,Bool.false_or] at am;exact (hv.subA am).mono (G (fun h=>by rw [h i C] at hp;cases hp) kD B).2 fun _ h=>h
    have ay:∀ t,RV ψ (·∈(kgi l n es (chi i) ai st i o (fsOf l c i) (H i).1 (H i).2).ids) S w (a.tmps.getD t undef) ((kgi l n es (chi i) ai st i o (fsOf l c i) (H i).1 (H i).2).get t):=ab _ an;have br:∀ id ob,kad (kgi l n es (chi i) ai st i o (fsOf l c i) (H i).1 (H i).2).heap id=some ob->ObR ψ (·∈(kgi l n es (chi i) ai st i o (fsOf l c i) (H i).1 (H i).2).ids) S w id ob:=fun id ob I=>by
     have a9:kad (H kD).1 id=some ob:=by
      have I:kad (bif phB l es i then (H i).1 else kqz (chi i) st.heap) id=some ob:=I;cases hp:phB l es i with
      | true=>rw [hp] at I;simp only [qd] at I;rw [x hp] at I;exact I
      | false=>
       rw [hp] at I;obtain ⟨g1,g2⟩:=kw6 I;exact T (fun h=>by rw [h i C] at hp;cases hp) i C kD B (fun j L bs=>by
        cases ha:anc l j i with
        | false=>rfl
        | true=>exact (D j ((hk j bs).2 L) ha).elim) id g1 ob g2
     obtain ⟨g1,g2,g3⟩:=hs.core.obj id ob a9;exact g2.keep Ext.refl an (fun _ h=>h) (fun _ _ _=>rfl) ⟨rfl,rfl⟩ (fun _ _=>rfl)
    rcases hN with ⟨hg,hN⟩ | ⟨hg,hN⟩
    ·have hw:=kn5 (kgi l n es (chi i) ai st i o (fsOf l c i) (H i).1 (H i).2) ay hg;rw [ql hw];refine .inl (khn ?_ (hN ψ S a w ay br));rintro v w' ⟨g1,g2⟩;refine next kD ψ (fun b=>(S b\/w.heap.size<=b)/\b<w'.heap.size) v w' B (fun e g=>ac e g O) (Fr.of_grow hs.core.fr g1) ⟨Ext.refl,fun _ h=>h,fun b u=>⟨.inl u,qbn (hs.core.lt b u) g1.size⟩,Same.of_grow g1⟩ (hs.core.grow g1) ?_ fun t=>?_;exact (ax g2).bound.mono (fun _ h=>h) fun _ h=>h
     ·exact (hs.tmps t).keep Ext.refl (fun _ h=>h) (fun b u=>⟨.inl u,qbn (hs.core.lt b u) g1.size⟩) (Same.of_grow g1)
    ·have hw:=kn5 (kgi l n es (chi i) ai st i o (fsOf l c i) (H i).1 (H i).2) ay hg;rw [qi (by rw [hw];exact qa6)];exact next kD ψ S undef w B (fun e g=>ac e g O) Fr.refl HistI.refl hs.core (by rw [hN];exact .fz RF.undef) fun t=>hs.tmps t
   ·-- one of the chain
    have hp:=(af i O).2;have ad:=x hp;have az:Sim F S0 N0 (kgi l n es (chi i) ai st i o (fsOf l c i) (H i).1 (H i).2) ψ S a w:=by
     refine ⟨hs.defers,hs.size,fun t=>?_,?_⟩;show RV ψ (·∈(bif phB l es i then (H i).2 else ai)) S w _ _;rw [hp];simp only [qd];rw [ad];have:=ab (·∈(H kD).2) (fun _ h=>h) t;rw [<- ad] at this ⊢;exact this
     ·show Core F S0 N0 (bif phB l es i then (H i).1 else kqz (chi i) st.heap) (bif phB l es i then (H i).2 else ai) ψ S w;rw [hp];simp only [qd];rw [ad];exact hs.core
    have bt:(kgi l n es (chi i) ai st i o (fsOf l c i) (H i).1 (H i).2).ids=(H kD).2:=(by show (bif phB l es i then (H i).2 else ai)=_;rw [hp,qd,ad]);have ae:∀ e,e∈es->((listed.setIfInBounds i true).getD e false=true↔e<i+1):=fun e g=>by
     have y:=hk e g;obtain ⟨h1,M⟩:=a3 i hp e g;by_cases ba:i=e;subst ba;rw [aa];simp
     ·rw [getD_set_ne false ba,y];constructor
      ·intro r;rcases qbq e i with h | h;omega
       ·exact (D e (y.2 r) (M (by omega))).elim
      ·intro r;exact y.1 (N e (h1 (by omega)))
    rcases bp with ⟨hg,a1⟩ | ⟨hg,bu,hh,bv⟩;have hw:=khg az hg;rw [ql hw];refine .inl (khn ?_ (a1 F S0 N0 ψ S a w az));rintro v w' ⟨ψ',S',g1,g2,g3,g4,g5,g6,g7⟩;rw [bt] at g4 g5;exact next (i+1) ψ' S' v w' (by omega) ae g3 ⟨g4,g5,g6,g7⟩ g1 g2 fun t=>(hs.tmps t).keep g4 g5 g6 g7
    ·have hw:=khg az hg;rw [qi (by rw [hw];exact qa6)];have al:H (i+1)=H kD:=(by rw [<- ad];exact Prod.ext hh bv);refine next (i+1) ψ S undef w (by omega) ae Fr.refl ⟨Ext.refl,fun j h=>by rw [al];exact h,fun _ h=>h,fun _ _ _=>rfl⟩ ?_ ?_ fun t=>?_;rw [al];exact hs.core;rw [bu];exact .fz RF.undef
     ·rw [al];exact hs.tmps t
theorem kah8 (hm:P.follows .mixedOrders=true) {id:Nat} {l:List Oper} (t:relB l n st.n=true) (g:k03 l n es=true) (j:st.ids.all ai.contains=true)
  (h:kt3 P l.toArray n es ch ai Q st n 0 l [] st.heap st.ids none):awp P (.region id l.toArray true) st Q:=by
 obtain ⟨c,H,pn,_,m,_,p,b,f⟩:=krx (os:=l.toArray) n 0 l (fun _ => .any) (fun _=>(st.heap,st.ids)) none rfl (by omega) (fun e h=>by cases h) h;simp only [List.toList_toArray] at b f;have u:=(k2q t).len;have q:pn=none:=by
  cases pn with
  | none=>rfl
  | some e=>
   exfalso;rcases p e rfl with h | ⟨_,r,v⟩;cases h
   ·have s:e<l.length:=(by omega);rcases b e l[e] (qao _) r (qb s) with ⟨_,e',d,x,_⟩ | ⟨d,_⟩ | ⟨_,d,_⟩ | ⟨_,_,_,d⟩;injection d with d;omega;exact d v;have:=d e rfl;omega
    ·exact d
 subst q;intro F S0 N0 ψ S a w hs;refine k47 (l:=l) (id:=id) hm c H (fun _=>ch) (fun _=>ch) t g j (m 0 (qx _)) (fun _ _ _ _ _ _ h=>h) (fun i o hi ho=>?_) hs _ fun ψ S a w g1 g2 _=>kdf (fun e a' w' k=>k.pre g2) _ _ _ (f rfl F S0 N0 ψ S a w g1);rcases b i o (qao _) hi ho with ⟨_,e',d,_⟩ | d | ⟨h1,_,r⟩ | ⟨_,_,_,d⟩;cases d;exact .inl d;exact .inr ⟨h1,r⟩
 ·exact d.elim
end Go.Proofs.YtjbonbdomgoklaaGreatDoor
