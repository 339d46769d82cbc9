import Derived.Test.YtjnjipmjkkhdpaaGreatDoorHd
import Derived.Laws.StructEq
import Derived.Laws.BytesString
import Derived.Lib.ConvBytes
import Derived.Deep.AppendSrc
import Derived.Lib.Builder
import Derived.Lib.AppendStr
import Derived.Lib.UnsafeStr
set_option linter.all false
set_option linter.unusedSectionVars false
namespace Go.Proofs.YtjnjipmjkkhdpaaGreatDoor
open Go Go.RowKit
variable [Dr]
def eqF (T:List (TypeId×TD)):List (TypeId×Nat)->List FV->List FV->Option Bool
 | [],_,_=>some true
 | (ft,off)::fs,xs,ys=>match kac T ft,xs[off]?,ys[off]?,eqF T fs xs ys with
  | some d,some (.atom u),some (.atom v),some r=>match d.kind,u,v with
   | .str, .string a, .string b=>some (a.toList == b.toList && r)
   | .int k, .int k1 a, .int k2 b=>if k1=k2 then some ((a == b) && r) else none
   | .bool, .bool a, .bool b=>some ((a == b) && r)
   | _,_,_=>none
  | _,_,_,_=>none
def toBA (xs:List Int):BA:=xs.foldl (fun r n=>r.push (UInt8.ofNat n.toNat)) ByteArray.empty
def ofBA (s:BA):List Int:=s.data.toList.map fun b=>(b.toNat:Int)
def appS (xs:List Int) (s:BA):Option (List Int):=if xs.length+s.size<=140737488355328 then some (xs++ofBA s) else none
variable {P:Program} {F S0:Nat->Prop} {N0:Nat} {w w':World} {S S':Nat->Prop} {ψ:Env} {K:Nat->Prop} {T:List (TypeId×TD)} {o:Oper} {a:Act} {st:St} {t:TypeId} {d:TD} {id:Nat}
theorem k34 {sr:TypeId} {x:Operand} {k k':IntKind} {n:Int} {ds:TD} (b:TOk P T) (c:o.op = .convert sr t x) (hs:kac T sr=some ds) (hd:kac T t=some d) (hk:d.kind = .int k) (hx:st.eval x = .fz (.atom (.int k' n))):NStep P o st (.fz (.atom (.int k (k.wrap n)))):=by obtain ⟨_,e,h1,_⟩:=b.get hs;obtain ⟨_,e',f,a⟩:=b.get hd;rw [hk] at a;cases e' <;> simp only [ker] at a;subst a;exact kaas ds c ⟨_,h1⟩ f hx
theorem k02 {sr:TypeId} {x:Operand} {s:BA} {ds:TD} (c:TOk P T) (e:o.op = .convert sr t x) (hs:kac T sr=some ds) (b:ds.kind = .str) (hd:kac T t=some d) (hk:d.kind = .str) (hx:st.eval x = .fz (.atom (.string s))):NStep P o st (.fz (.atom (.string s))):=by intro ψ S a w ht f;have h1:=Sim.eval_tmps ht x;rw [hx] at h1;refine kad w (.string s) ?_ ⟨kae _, .fz (.atom rfl)⟩;simp [execOp,e,h1.atom,convert,run_underlying ((c.get hs).str b),run_underlying ((c.get hd).str hk)]
theorem k0x {v:Value} {n:Int} (h:RF S w v (eU8 n)):v = .int .u8 n:=h.atom_eq
theorem s_b2s (sr e:TypeId) (x:Operand) (xs:List Int) (ds de:TD) (q:TOk P T) (D:o.op = .convert sr t x) (hs:kac T sr=some ds) (r:ds.kind = .slice e) (E:kac T e=some de) (s:de.kind = .int .u8) (hd:kac T t=some d) (hk:d.kind = .str) (hx:kjf (st.eval x)=some (xs.map eU8):=by kernel_rfl):NStep P o st (.fz (eS (toBA xs))):=by
 intro ψ S a w ht J;obtain ⟨A,cap,size,n,u,hv,F⟩:=kn2 (Sim.eval_tmps ht x) hx;obtain ⟨A',cap',css,i,G,hc,hm,H,ha,hl,hr⟩:=F.lst_inv;have hA:A'=A/\cap'=cap:=by rw [hv] at i;injection i with h1 p I;exact ⟨h1.symm,I.symm⟩
 obtain ⟨rfl,rfl⟩:=hA;obtain ⟨_,e',h1,p⟩:=q.get E;rw [s] at p;cases e' <;> simp only [ker] at p;subst p;refine kad w (.string (toBA xs)) ?_ ⟨kae _, .fz (.atom rfl)⟩;have k:(Conv.bytesToString (.slice A' n cap')).run P w = .ok (.string (toBA xs)) w:=by
  cases A' with
  | none=>
   have y:xs=[]:=by
    cases xs with
    | nil=>rfl
    | cons x xs=>obtain ⟨b,o,h,_⟩:=ha 0 (eU8 x) rfl;cases h
   subst y;rfl
  | some ad=>
   refine run_bytesToString w ad n cap' xs ?_;have:=run_loadCells_list (P:=P) w ad (xs.map (Value.int .u8)) fun j v C=>(by simp only [ql,qn] at C;obtain ⟨m,z,rfl⟩:=C;have c:(xs.map eU8)[j]?=some (eU8 m):=(by rw [ql,z];rfl);obtain ⟨b,off,hA,_,B⟩:=ha j _ c;injection hA with hA;subst hA;obtain ⟨l1,l2,l3⟩:=hl j _ c;have hs1:size=1:=(by rw [<- l2];rfl);subst hs1;have f:(css j)[0]?=some ((css j)[0]'(by omega)):=qa _;have:=hr j _ 0 _ (eU8 m) c f rfl;rw [k0x this] at f;have g:=B 0 _ f;rw [kbg];simpa using g);have l:(xs.map (Value.int .u8)).length=n:=(by rw [u];simp);rw [l] at this;exact this
 simp only [execOp,D,hv,Sem.run_bind];rw [run_convert_bytes_string w sr t e A' n cap' ((q.get hs).slice r) h1 ((q.get hd).str hk),k];rfl
theorem k5l {n:Nat} {parts:Array (Nat×Operand)} {e:TypeId} {de:TD} {xs:List FV} (V:o.op = .buildSlice t n parts) (hd:TdOk P t d) (hk:d.kind = .slice e) (H:TdOk P e de) (g:0<de.size) (hn:xs.length=n) (R:n*de.size<=16777216)
  (hp:kkg de.size 0 (kb4 st parts)=some xs) (A:st.ids.contains id=false):StepA P o st (.row id n) ((id, .frow e de.size xs)::st.heap) (id::st.ids):=by
 have A:id∉st.ids:=by simpa using A
 subst hn;intro F S0 N0 ψ S a w I;have ht:=I.tmps;obtain ⟨e1,e2⟩:=kkh ht parts;obtain ⟨p1,p2⟩:=kqt hp;obtain ⟨vs,B⟩:∃ vs:List Value,vs=parts.toList.map (fun p=>a.eval p.2):=⟨_,rfl⟩;have f:parts.toList.length=xs.length:=by
  have:(kb4 st parts).length=xs.length:=by rw [p1];simp
  simpa [kb4] using this
 have C:vs.length=xs.length:=by rw [B];simp at f ⊢; exact f
 have k:∀ (i:Nat) (x:FV),xs[i]?=some x->∃ v p,vs[i]?=some v/\parts.toList[i]?=some p/\p.1=i/\RF S w v x:=fun i x hx=>by
  have hi:i<parts.toList.length:=by rw [f];exact (qd.1 hx).1
  have X:(kb4 st parts)[i]?=some (i, .fz x):=by rw [p1];simp [hx]
  have D:parts.toList[i]?=some parts.toList[i]:=qa hi;have K:(parts.map fun (i,x)=>(i,a.eval x)).toList[i]?=some (parts.toList[i].1,a.eval parts.toList[i].2):=by simp [D]
  obtain ⟨r1,r2⟩:=e2 i _ _ K X;exact ⟨a.eval parts.toList[i].2,parts.toList[i],by rw [B,ql,D];rfl,D,r1,r2.inv⟩
 have L:(parts.map fun (i,x)=>(i,a.eval x)).toList=(vs.zipIdx 0).map (fun x=>(x.2,x.1)):=by
  apply List.ext_getElem?;intro i;by_cases hi:i<xs.length;obtain ⟨v,p,h1,T,Y,_⟩:=k i xs[i] (qa hi);have:v=a.eval p.2:=(by rw [B,ql,T] at h1;simpa using h1.symm);simp only [Array.toList_map,ql,List.getElem?_zipIdx,h1,T,qa1,Nat.zero_add];rw [this,Y]
  ·rw [qa5 (by simp at f ⊢; omega),qa5 (by simp [C];omega)]
 have c:∀ v∈vs,v.cells.size=de.size:=fun v hv=>by obtain ⟨i,hi,rfl⟩:=qah.1 hv;obtain ⟨v,p,h1,_,_,M⟩:=k i xs[i] (qa (by omega));rw [qa hi] at h1;injection h1 with h1;rw [h1,(M.cells (p2 _ (qx _)).2).1,(p2 _ (qx _)).1]
 obtain ⟨z,N,Z⟩:=H.zero (P:=P) (w:=w);obtain ⟨cells,hcl⟩:∃ cells:Array Value,cells=(vs.flatMap fun v=>v.cells.toList).toArray:=⟨_,rfl⟩;have J:(Instr.buildSlice t xs.length (parts.map fun (i,x)=>(i,a.eval x))).run P w = .ok (.slice (some ⟨w.heap.size,0,none⟩) xs.length xs.length) (w.alloc (.cells cells e)):=by
  have O:¬ xs.length*de.size > 2 ^ 24:=by omega
  have m:∀ c0:Array Value,xs.length*de.size=c0.size->Instr.fill (fun i=>some (i*de.size,de.size)) c0 (parts.map fun (i,x)=>(i,a.eval x)).toList=some cells:=fun c0 Q=>by rw [L,Great.fill_whole g vs c0 c (by rw [C];exact Q),hcl]
  unfold Instr.buildSlice;rw [Sem.run_bind,run_underlying (hd.slice hk),Result.andThen_ok];simp only [Sem.run_bind,H.size,Result.andThen_ok,qj O];by_cases h0:xs.length*de.size=0
  ·simp only [qr h0,Sem.run_bind,Sem.run_pure,Result.andThen_ok];rw [m];rfl
   ·simp
  ·simp only [qj h0,Sem.run_bind,N,Result.andThen_ok,Sem.run_pure];rw [m];rfl
   ·simp
 have q:cells.toList.length=xs.length*de.size:=by
  rw [hcl];have:∀ l:List Value,(∀ v∈l,v.cells.size=de.size)->(l.flatMap fun v=>v.cells.toList).length=l.length*de.size:=fun l=>by
   induction l with
   | nil=>intro _;simp
   | cons v l ih=>
    intro h;rw [List.flatMap_cons,qy,ih fun u hu=>h u (qf _ hu),qac,h v (qt ..),qbl,Nat.succ_mul,Nat.add_comm]
  simpa [C] using this vs c
 have r:=I.core;have E:Grow w (w.alloc (.cells cells e)):=ka7 _ _;refine kad (w.alloc (.cells cells e)) (.slice (some ⟨w.heap.size,0,none⟩) xs.length xs.length) ?_ ⟨ψ.set id xs.length (.slice (some ⟨w.heap.size,0,none⟩) xs.length xs.length),S,?_,?_,kgj _ r.fr,ka3 A _ _,fun _ h=>qf _ h,fun _ h=>h,Same.of_grow E⟩;have s:=J;simp only [execOp,V,Sem.run_bind];rw [show (parts.map fun (i,x)=>(i,a.eval x))=parts.map (fun x=>(x.1,a.eval x.2)) from rfl] at s;simp [s]
 ·refine r.add E A (fun b R=>by simp [kap] at R;omega) ⟨kbf _ _,g,cells.toList,?_,fun x hx=>p2 x hx,fun i x j v y hx hv hy=>?_⟩
  ·rw [kaj];refine ⟨q, .inr ⟨w.heap.size,xs.length,cells,rfl,qaq _,heap_alloc_new w _,qv _,?_,by simpa using q,?_⟩⟩;have:xs.length*1<=xs.length*de.size:=Nat.mul_le_mul_left _ g;unfold maxLen;omega
   ·rw [<- q,qa8]
  ·obtain ⟨u,p,h1,_,_,M⟩:=k i x hx;have U:j<de.size:=(by have:=(qd.1 hy).1;rw [(p2 x (qm hx)).1] at this;exact this);have G:=Great.flat_get g vs c (i*de.size+j);rw [show (i*de.size+j) / de.size=i by rw [Nat.mul_comm,Nat.mul_add_div g,Nat.div_eq_of_lt U];omega,show (i*de.size+j) % de.size=j by rw [Nat.mul_comm,Nat.mul_add_mod,Nat.mod_eq_of_lt U],h1] at G;simp only [qb] at G;rw [hcl] at hv;simp only [] at hv;rw [G] at hv;have:=(M.cells (p2 x (qm hx)).2).2.1 j v y (by simpa using hv) hy;exact this.keep (Same.of_grow E)
 ·exact .row (qt ..) (by rw [kbf];exact qv _) rfl fun _=>(kaj _ _).symm
theorem kk5 (t:TypeId) (d:TD) (id:Nat) {α:Type} (enc:α->FV) (n:Nat) (parts:Array (Nat×Operand)) (e:TypeId) (de:TD) (xs:List α) (c:TOk P T:=by exact kao) (h:Nat.ble (n*de.size) 16777216=true:=by kernel_rfl) (hp:kkg de.size 0 (kb4 st parts)=some (xs.map enc):=by kernel_rfl) (b:st.ids.contains id=false:=by kernel_rfl) (f:o.op = .buildSlice t n parts:=by kernel_rfl) (hd:kac T t=some d:=by kernel_rfl) (hk:d.kind = .slice e:=by kernel_rfl) (a:kac T e=some de:=by kernel_rfl) (g:Nat.ble 1 de.size=true:=by kernel_rfl) (hn:xs.length=n:=by rfl):StepA P o st (.row id xs.length) ((id, .frow e de.size (xs.map enc))::st.heap) (id::st.ids):=by have:=k5l (id:=id) f (c.get hd) hk (c.get a) (qh g) (by simpa using hn) (qh h) hp b;rw [<- hn] at this;exact this
end Go.Proofs.YtjnjipmjkkhdpaaGreatDoor
set_option linter.all false
namespace Go.Proofs.YtjnjipmjkkhdpaaGreatDoor
open Go Go.RowKit
variable [Dr]
def k0z (id:Nat):List AV->Option (List AV)
 | .fz (.atom (.pointer none))::cs=>some (.opt id::cs)
 | .ref i n off::cs=>bif Nat.beq i id && (Nat.beq n 0 && Nat.beq off 0) then some (.opt id::cs) else none
 | _=>none
variable {P:Program} {F S0:Nat->Prop} {N0:Nat} {w w':World} {S S':Nat->Prop} {ψ:Env} {K:Nat->Prop} {T:List (TypeId×TD)} {o:Oper} {a:Act} {st:St} {t:TypeId} {d:TD} {id:Nat}
theorem kyo {e:TypeId} {c c':AV} {cells:List AV} (g:kaa st.heap id=some (.box e (c::cells))) (hs1:c'.single=true) (hs:Sim F S0 N0 st ψ S a w)
  (hv:∀ v b,ψ.len id=0->ψ.val id = .pointer (some ⟨b,0,none⟩)->RV ψ (·∈st.ids) S w v c->RV ψ (·∈st.ids) S w v c'):Sim F S0 N0 { st with heap:=(id, .box e (c'::cells))::st.heap } ψ S a w:=by
 obtain ⟨k1,⟨k0,b,cs,k2,k3,k4,k5,k6⟩,k7⟩:=hs.core.obj id _ g;refine ⟨hs.defers,hs.size,hs.tmps,⟨fun i ob d=>?_,fun i i' ob ob' bb d k l m=>?_,hs.core.lt,hs.core.s0,hs.core.n0,hs.core.fr⟩⟩
 ·rw [kab] at d;by_cases hi:id=i
  ·subst hi;rw [qr rfl] at d;injection d with d;subst d;refine ⟨k1,⟨k0,b,cs,k2,k3,by simpa using k4,fun x hx=>?_,fun i v x j hx=>?_⟩,k7⟩
   ·rcases qaa.1 hx with rfl | hx;exact hs1
    ·exact k5 x (qf _ hx)
   ·cases i with
    | zero=>
     simp at hx;subst hx;exact hv v b k0 k2 (k6 0 v c j rfl)
    | succ i=>exact k6 (i+1) v x j (by simpa using hx)
  ·rw [qj hi] at d;exact hs.core.obj i ob d
 ·have f:∀ {i:Nat} {o:AObj},kaa ((id,AObj.box e (c'::cells))::st.heap) i=some o->∃ o',kaa st.heap i=some o':=fun {i o} h=>by
   rw [kab] at h;by_cases hi:id=i;subst hi;exact ⟨_,g⟩
   ·rw [qj hi] at h;exact ⟨_,h⟩
  obtain ⟨o1,h1⟩:=f d;obtain ⟨o2,n⟩:=f k;exact hs.core.inj i i' o1 o2 bb h1 n l m
theorem kmo (id:Nat) (e2:TypeId) (cells cells':List AV) (c:kaa st.heap id=some (.box e2 cells):=by kernel_rfl) (hc:k0z id cells=some cells':=by kernel_rfl):LeSt st { st with heap:=(id, .box e2 cells')::st.heap }:=by
 intro F S0 N0 ψ S a w hs;have e:=(hs.core.obj id _ c).1;unfold k0z at hc;split at hc;injection hc with hc;subst hc;refine ⟨ψ,S,kyo c rfl hs fun v b h0 h1 hv=>?_⟩;rw [hv.atom];exact .opt e rfl fun _ => .inl rfl
 ·rename_i i n off cs;cases d:(Nat.beq i id && (Nat.beq n 0 && Nat.beq off 0)) with
  | false=>rw [d] at hc;cases hc
  | true=>
   rw [d] at hc;simp only [qg,qc] at hc;subst hc;simp only [qk] at d;obtain ⟨h1,f,g⟩:=d;obtain rfl:=qe h1;obtain rfl:=qe f;obtain rfl:=qe g;refine ⟨ψ,S,kyo c rfl hs fun v b h0 h1 hv=>?_⟩;cases hv with
   | ref hK hn j hv=>exact .opt hK j fun h => .inr (hv h)
 ·cases hc
theorem k91 {e:TypeId} {cells:List AV} (j:kaa st.heap id=some (.box e (.opt id::cells))) (hs:Sim F S0 N0 st ψ S a w):
  Sim F S0 N0 { st with heap:=(id, .box e (.fz (.atom (.pointer none))::cells))::st.heap } ψ S a w\/Sim F S0 N0 { st with heap:=(id, .box e (.ref id 0 0::cells))::st.heap } ψ S a w:=by
 obtain ⟨k1,⟨k0,b,cs,k2,k3,k4,k5,k6⟩,k7⟩:=hs.core.obj id _ j;have g:cs[0]?=some (cs[0]'(by simp at k4;omega)):=qay _;have hv:=k6 0 _ _ g rfl;generalize cs[0]'(by simp at k4;omega)=u at g hv;cases hv with
 | opt hK h1 hv=>
  have key:∀ c',c'.single=true->RV ψ (·∈st.ids) S w u c'->Sim F S0 N0 { st with heap:=(id, .box e (c'::cells))::st.heap } ψ S a w:=fun c' hs1 hr=>by
   refine ⟨hs.defers,hs.size,hs.tmps,⟨fun i ob d=>?_,fun i i' ob ob' bb d k l n=>?_,hs.core.lt,hs.core.s0,hs.core.n0,hs.core.fr⟩⟩
   ·rw [kab] at d;by_cases hi:id=i
    ·subst hi;rw [qr rfl] at d;injection d with d;subst d;refine ⟨k1,⟨k0,b,cs,k2,k3,by simpa using k4,fun x hx=>?_,fun i v x c hx=>?_⟩,k7⟩
     ·rcases qaa.1 hx with rfl | hx;exact hs1
      ·exact k5 x (qf _ hx)
     ·cases i with
      | zero=>
       simp at hx;subst hx;rw [g] at c;injection c with c;exact c ▸ hr
      | succ i=>exact k6 (i+1) v x c (by simpa using hx)
    ·rw [qj hi] at d;exact hs.core.obj i ob d
   ·have f:∀ {i:Nat} {o:AObj},kaa ((id,AObj.box e (c'::cells))::st.heap) i=some o->∃ o',kaa st.heap i=some o':=fun {i o} h=>by
     rw [kab] at h;by_cases hi:id=i;subst hi;exact ⟨_,j⟩
     ·rw [qj hi] at h;exact ⟨_,h⟩
    obtain ⟨o1,h1⟩:=f d;obtain ⟨o2,p⟩:=f k;exact hs.core.inj i i' o1 o2 bb h1 p l n
  rcases hv k0.symm with rfl | ⟨b',m,rfl⟩;exact .inl (key _ rfl (.fz (.atom rfl)))
  ·exact .inr (key _ rfl (.ref hK (qaq _) rfl fun _=>⟨b',m,rfl⟩))
theorem kxs [Rd] {c:Code} {Q:Exit->St->Prop} {e:TypeId} {cells:List AV} (b:kaa st.heap id=some (.box e (.opt id::cells))) (h1:awp P c { st with heap:=(id, .box e (.fz (.atom (.pointer none))::cells))::st.heap } Q)
  (d:awp P c { st with heap:=(id, .box e (.ref id 0 0::cells))::st.heap } Q):awp P c st Q:=fun F S0 N0 ψ S a w hs=>by
 rcases k91 b hs with h | h;exact h1 F S0 N0 ψ S a w h
 ·exact d F S0 N0 ψ S a w h
theorem kr1 {e:TypeId} {cells:List AV} {off:Nat} {v:Value} (c:ObR ψ K S w id (.box e cells)) (hv:RV ψ K S w v (.ref id 0 off)):∃ b cs,v = .pointer (some ⟨b,off,none⟩)/\w.heap[b]?=some (.cells cs e (0,0))/\cs.size=cells.length:=by
 obtain ⟨k0,b,cs,k2,k3,k4,_⟩:=c;cases hv with
 | ref hK hn h1 hv=>
  obtain ⟨b',a,rfl⟩:=hv k0.symm;rw [k2] at a;simp only [kap,qc] at a;subst a;exact ⟨b,cs,rfl,k3,k4⟩
theorem khl {op:BinOp} {x y:Operand} {u v:Option Addr}:(eqGuard op t x y (.pointer u) (.pointer v)).run P w = .ok () w:=by unfold eqGuard;cases op <;> simp
theorem ko6 (w:World) (u v:Option Addr) (r:Bool) (h:∀ d:Nat,(Op.equalIn (d+1) t (.pointer u) (.pointer v)).run P w = .ok r w):(binOp .eql t (.pointer u) (.pointer v)).run P w = .ok (.bool r) w/\(binOp .neq t (.pointer u) (.pointer v)).run P w = .ok (.bool !r) w:=by constructor <;> (simp only [binOp];simp [Op.equal,Op.maxDepth,h 9999])
theorem k6u (x y:Operand) (yt te e:TypeId) (cells:List AV) (off:Nat) (neg:Bool) (h:o.op = .binOp (if neg then .neq else .eql) t x y yt:=by kernel_rfl) (ht:P.underlying t=some (.pointer te):=by kernel_rfl) (hx:st.eval x = .ref id 0 off:=by kernel_rfl) (g:kaa st.heap id=some (.box e cells):=by kernel_rfl) (hy:st.eval y = .fz (.atom (.pointer none)):=by kernel_rfl):
  NStep P o st (.fz (.atom (.bool neg))):=by
 intro ψ S a w c i;have h1:=Sim.eval_tmps c x;rw [hx] at h1;obtain ⟨b,cs,h1,_⟩:=kr1 (i id _ g) h1;have f:=Sim.eval_tmps c y;rw [hy] at f;have f:=f.atom;refine kad w (.bool neg) ?_ ⟨kae _, .fz (.atom rfl)⟩;obtain ⟨q1,q2⟩:=ko6 (t:=t) (P:=P) w (some ⟨b,off,none⟩) none false fun d=>by simp [Op.equalIn,run_underlying ht]
 cases neg;simp [execOp,h,h1,f,khl,q1]
 ·simp [execOp,h,h1,f,khl,q2]
theorem k6f (x y:Operand) (yt te:TypeId) (neg:Bool) (e:o.op = .binOp (if neg then .neq else .eql) t x y yt:=by kernel_rfl) (ht:P.underlying t=some (.pointer te):=by kernel_rfl) (hx:st.eval x = .fz (.atom (.pointer none)):=by kernel_rfl) (hy:st.eval y = .fz (.atom (.pointer none)):=by kernel_rfl):
  NStep P o st (.fz (.atom (.bool !neg))):=by
 intro ψ S a w b f;have h1:=Sim.eval_tmps b x;rw [hx] at h1;have h1:=h1.atom;have c:=Sim.eval_tmps b y;rw [hy] at c;have c:=c.atom;refine kad w (.bool !neg) ?_ ⟨kae _, .fz (.atom rfl)⟩;obtain ⟨q1,q2⟩:=ko6 (t:=t) (P:=P) w none none true fun d=>by simp [Op.equalIn,run_underlying ht]
 cases neg;simp [execOp,e,h1,c,khl,q1]
 ·simp [execOp,e,h1,c,khl,q2]
theorem k31 (x y:Operand) (yt te e:TypeId) (cells:List AV) (off:Nat) (j:TypeInfo) (neg:Bool) (k:o.op = .binOp (if neg then .neq else .eql) t x y yt:=by kernel_rfl) (ht:P.underlying t=some (.pointer te):=by kernel_rfl) (n:P.info? te=some j:=by kernel_rfl) (hx:st.eval x = .ref id 0 off:=by kernel_rfl) (h:kaa st.heap id=some (.box e cells):=by kernel_rfl) (hy:st.eval y = .ref id 0 off:=by kernel_rfl):NStep P o st (.fz (.atom (.bool !neg))):=by
 intro ψ S a w f l;have h1:=Sim.eval_tmps f x;rw [hx] at h1;obtain ⟨b,cs,h1,g1,_⟩:=kr1 (l id _ h) h1;have i:=Sim.eval_tmps f y;rw [hy] at i;obtain ⟨k0,b0,cs0,k2,_⟩:=l id _ h;have m:∀ v,RV ψ (·∈st.ids) S w v (.ref id 0 off)->v = .pointer (some ⟨b0,off,none⟩):=fun v hv=>by
  cases hv with
  | ref hK hn p hv=>
   obtain ⟨b',g,rfl⟩:=hv k0.symm;rw [k2] at g;simp only [kap,qc] at g;rw [g]
 have i:=m _ i;have c:=m _ (by have:=Sim.eval_tmps f x;rw [hx] at this;exact this);rw [h1] at c;injection c with c;injection c with c;injection c with c;subst c;refine kad w (.bool !neg) ?_ ⟨kae _, .fz (.atom rfl)⟩;obtain ⟨q1,q2⟩:=ko6 (t:=t) (P:=P) w (some ⟨b,off,none⟩) (some ⟨b,off,none⟩) true fun d=>by simp [Op.equalIn,run_underlying ht,sizeOf,typeInfo,n,run_sameAddr_same]
 cases neg;simp [execOp,k,h1,i,khl,q1]
 ·simp [execOp,k,h1,i,khl,q2]
theorem ko2 {b:Nat} {cs:Array Value} {e:TypeId} (h:w.heap[b]?=some (.cells cs e (0,0))):w.shape? b=some (e,cs.size):=by simp [World.shape?,h]
theorem k1y (x:Operand) (src te e:TypeId) (cells:List AV) (j:TypeInfo) (g:o.op = .convert src t x:=by kernel_rfl) (hs:P.underlying src=some (.pointer te):=by kernel_rfl) (hd:P.underlying t=some .unsafePointer:=by kernel_rfl) (h:P.info? te=some j:=by kernel_rfl) (c:Nat.beq j.size 0=false:=by kernel_rfl) (hx:st.eval x = .ref id 0 0:=by kernel_rfl) (d:kaa st.heap id=some (.box e cells):=by kernel_rfl) (hc:Nat.ble 1 cells.length=true:=by kernel_rfl):NStep P o st (.ref id 0 0):=by intro ψ S a w f i;have h0:=Sim.eval_tmps f x;rw [hx] at h0;obtain ⟨b,cs,h1,g1,g2⟩:=kr1 (i id _ d) h0;refine kad w (a.eval x) ?_ ⟨kae _,h0.here⟩;simp only [execOp,g,Sem.run_bind,h1];rw [Lib.run_to_unsafe w ⟨b,0,none⟩ hs hd h (fun e=>by rw [e] at c;cases c) (ko2 g1) (by rw [g2];exact qh hc)];rfl
theorem kx5 (x:Operand) (src u e:TypeId) (cells:List AV) (j:TypeInfo) (f:o.op = .convert src t x:=by kernel_rfl) (hs:P.underlying src=some .unsafePointer:=by kernel_rfl) (hd:P.underlying t=some (.pointer u):=by kernel_rfl) (g:P.info? u=some j:=by kernel_rfl) (hx:st.eval x = .ref id 0 0:=by kernel_rfl) (c:kaa st.heap id=some (.box e cells):=by kernel_rfl) (hl:liesAt P P.depth e (cells.length / P.cellsOf e) 0 u 1=true:=by kernel_rfl):NStep P o st (.ref id 0 0):=by intro ψ S a w d h;have h0:=Sim.eval_tmps d x;rw [hx] at h0;obtain ⟨b,cs,h1,g1,g2⟩:=kr1 (h id _ c) h0;refine kad w (a.eval x) ?_ ⟨kae _,h0.here⟩;simp only [execOp,f,Sem.run_bind,h1];rw [Lib.run_from_unsafe w ⟨b,0,none⟩ hs hd g (ko2 g1) (by rw [g2];exact hl)];rfl
theorem k2z (f: FuncId) (fn: Func) (ts: Array TypeId) (X: Operand) (c: o.op = .call { callee := .value (.func f), args := #[X], argTypes := ts }) (d: P.funcs[f]? = some fn) (b: (fn.name == "runtime.NumGoroutine") = false := by kernel_rfl) (e: fn.body.isNone = true := by kernel_rfl) (hn: Extern.findNext fn = none := by kernel_rfl) (g: Extern.find fn = some Extern.AbiNoEscape.same := by kernel_rfl):
  NStep P o st (st.eval X):=by
 intro ψ S a w ht h;refine kad w (a.eval X) ?_ ⟨kae _,(Sim.eval_tmps ht X).here⟩;have h0:a.eval (.func f) = .func (.func f) #[] #[]:=rfl;simp [execOp,c,resolve,h0,Deferred.ofValue,invoke,run_callFunc_extern d b e hn g,Lib.run_noEscape]
theorem kum {e t u:TypeId} (ty:TypeId) {i:TypeInfo} (ht:P.underlying t=some (.slice e)) (p:P.underlying u=some .string) (hi:P.info? e=some i) (q:i.zero=some (.int .u8 0)) (a:i.size=1) (k:i.bytes=1) {v:Value} {n:Nat} {xs:List Value} (c:w.ownsRow 0 e 1 v n xs) (s:BA) (d:n+s.size<=140737488355328):∃ v' w',(Builtin.append_ #[t,u] ty #[v, .string s]).run P w = .ok v' w'/\w'.ownsRow 0 e 1 v' (n+s.size) (xs++Lib.strCells s)/\w.grownBy w' v.ownBlock/\(∀ b,v'.ownBlock=some b->v.ownBlock=some b\/w.heap.size<=b)/\(s.size=0->v'=v):=by
 have hm:n+s.size<=maxLen:=by unfold maxLen;omega
 have o:xs.length=n:=by simpa using c.1
 obtain ⟨v',w',h1,r,x,E⟩:=Lib.run_append_own_string w 0 t u ty e i ht p hi q a k v n xs c s hm d (qaq _);have F:s.size=0->xs++Lib.strCells s=xs:=fun h0=>by have:Lib.strCells s=[]:=qav (by rw [Lib.strCells_length];exact h0);rw [this,List.append_nil]
 rcases c.2 with ⟨rfl,rfl⟩ | ⟨g,cap,cur,rfl,y,B,G,H,z,A⟩
 ·have hx:xs=[]:=qav o;subst hx;obtain ⟨v2,w2,k1,k2,k3,k4⟩:=Lib.run_append_own_string w w.heap.size t u ty e i ht p hi q a k (.slice none 0 0) 0 [] (World.ownsRow_nil w _ e 1) s hm d (qv _);rw [h1] at k1;injection k1 with k5 k6;subst k5 k6;refine ⟨v',w',h1,r,x,fun b f => .inr ?_,fun h0=>E.2 ⟨rfl,h0⟩⟩;rcases k2.2 with ⟨rfl,_⟩ | ⟨g,cap,cur,rfl,y,_⟩;cases f
  ·have:g=b:=(by simpa [Value.ownBlock] using f);omega
 ·have C:cur.size=cap:=by simpa using z
  have h:=Src.ofString (P:=P) w p s;by_cases l:n+s.size<=cap
  ·have hr:=run_append_room_src (P:=P) w t u ty e i ht hi g 0 n cap (.string s) s.size _ (by rw [a];exact h) l (fun j D=>by rw [byteCells_length] at D;rw [a,Lib.cell_of_heap B,qay (by omega)];rfl) (fun j D=>Lib.frozen_of_heap B _);rw [h1] at hr;injection hr with k5 k6;refine ⟨v',w',h1,r,x,fun b f => .inl ?_,fun h0=>?_⟩;rw [k5] at f;exact f
   ·rw [k5,h0];rfl
  ·have m:∀ j u,xs[j]?=some u->w.cell? ((⟨g,0,none⟩:Addr).add j)=some u:=c.cells (g:=g) rfl;have hr:=run_append_grow_src (P:=P) w t u ty e i (.int .u8 0) ht hi q (some ⟨g,0,none⟩) n cap xs (run_firstCells_some w.drew i.size n ⟨g,0,none⟩ n cap xs (by rw [a];simpa using o) (by simpa using m)) (.string s) s.size _ (by rw [a];exact h) (by omega) (by omega) (by rw [k];exact growslice_fits (by omega) (by omega));rw [h1] at hr;injection hr with k5 k6;refine ⟨v',w',h1,r,x,fun b f => .inr ?_,fun h0=>?_⟩;rw [k5] at f;injection f with f;simp at f;omega
   ·omega
theorem k3n {x y:Operand} {e u:TypeId} {n:Nat} (xs:List FV) {s:BA} {i:TypeInfo} (ho:o.op = .call { callee := .builtin .append,args:=#[x,y],argTypes:=#[t,u] }) (hd:TdOk P t d) (hk:d.kind = .slice e) (hu:P.underlying u=some .string) (hi:P.info? e=some i) (Q:i.zero=some (.int .u8 0)) (B:i.size=1) (R:i.bytes=1) (hx:st.eval x = .row id n) (D:kaa st.heap id=some (.frow e 1 xs)) (hn:n=xs.length) (hy:st.eval y = .fz (.atom (.string s))) (E:xs.length+s.size<=140737488355328):
  StepA P o st (.row id (xs.length+s.size)) ((id, .frow e 1 (xs++(ofBA s).map eU8))::st.heap) st.ids:=by
 subst hn;intro F S0 N0 ψ S a w C;have p:=C.core;obtain ⟨T,⟨h0,G,cs,g,H,hr⟩,U⟩:=p.obj id _ D;have hv:=C.eval x;rw [hx] at hv;have V:a.eval x=ψ.val id:=by
  generalize a.eval x=u at hv;cases hv with
  | row hK hn h1 hv=>exact hv h0.symm
 have q:=C.eval y;rw [hy] at q;have q:=q.atom;obtain ⟨v',w',r,l,f,I,J⟩:=kum o.type (hd.slice hk) hu hi Q B R g s E;have hcl:cs.length=xs.length:=by simpa using g.1
 have K:((ofBA s).map eU8).length=s.size:=by simp [ofBA]
 have L:(xs++(ofBA s).map eU8).length=xs.length+s.size:=by rw [qy,K]
 have M:ψ.len id<xs.length+s.size\/(ψ.len id=xs.length+s.size/\v'=ψ.val id):=by
  by_cases X:s.size=0;refine .inr ⟨by omega,J X⟩
  ·exact .inl (by omega)
 have A:∀ k,k<w.heap.size->¬ Blk (ψ.val id) k->w'.heap[k]?=w.heap[k]?:=fun k hk Y=>f.block k hk fun e=>Y (krm g e.symm);have Z:Same S w w':=fun k hk hl=>A k hl fun e=>(U k e).1 hk;obtain ⟨c1,c2,c3⟩:=p.upd (n:=xs.length+s.size) (v:=v') (w':=w') (ob' := .frow e 1 (xs++(ofBA s).map eU8)) D f.size A M (fun b hb=>by
   rcases I b (k0w l hb) with h | h;exact .inl (krm g h)
   ·exact .inr h)
  ⟨by rw [kbf,L],G,cs++Lib.strCells s,by rw [kaj,L];exact l,fun z Q=>(qaz.1 Q).elim (H z) (fun h=>by obtain ⟨m,_,rfl⟩:=qap.1 h;exact ⟨rfl,fun y hy=>by simp [eU8,FV.cells] at hy;subst hy;rfl⟩),(RowR.append G (fun i x j v y h1 O N=>hr i x j v y h1 O N) (fun i x j v y h1 O N=>by simp only [ql,qn] at h1;obtain ⟨m,hm,rfl⟩:=h1;have hj:j=0:=(by have:=(qd.1 N).1;simp [eU8,FV.cells] at this;exact this);subst hj;simp [eU8,FV.cells] at N;subst N;simp only [ofBA,ql,qn] at hm;obtain ⟨c,hc,rfl⟩:=hm;simp only [Lib.strCells,ql,qbg,Nat.add_zero,hc,qa1,qc] at O;subst O;exact .atom rfl) g.1 H).keep Z⟩
 refine kad w' v' ?_ ⟨_,S,c1, .row T (by rw [kbf];exact qv _) (k0q l) (fun _=>(kaj _ _).symm),⟨f.os,f.tape,f.output,f.size,c3,fun _=>kqc r⟩,kos M,fun _ h=>h,fun _ h=>h,c2⟩;simp only [execOp,ho,resolve,invoke,builtin,Sem.run_bind,Sem.run_pure,Result.andThen_ok,List.map_toArray,qba,List.map_nil,V,q,r]
theorem k3a (x y:Operand) (e u:TypeId) (n:Nat) (xs:List Int) {r:List Int} (s:BA) (i:TypeInfo) (h:appS xs s=some r) (f:TOk P T) (g:o.op = .call { callee := .builtin .append,args:=#[x,y],argTypes:=#[t,u] }) (hd:kac T t=some d) (hk:d.kind = .slice e) (j:P.underlying u=some .string) (hi:P.info? e=some i) (k:i.zero=some (.int .u8 0)) (a:i.size=1) (b:i.bytes=1) (hx:st.eval x = .row id n) (c:kaa st.heap id=some (.frow e 1 (xs.map eU8))) (hn:n=xs.length) (hy:st.eval y = .fz (.atom (.string s)):=by kernel_rfl):
  StepA P o st (.row id r.length) ((id, .frow e 1 (r.map eU8))::st.heap) st.ids:=by
 unfold appS at h;split at h
 ·rename_i hl;injection h with h;subst h;have:=k3n (id:=id) (P:=P) (xs.map eU8) g (f.get hd) hk j hi k a b hx c (by rw [hn];simp) hy (by simpa using hl);rw [qs,<- List.map_append] at this;have hl:(xs++ofBA s).length=xs.length+s.size:=by simp [ofBA]
  rw [hl];exact this
 ·cases h
theorem kz3 (x:Operand) (ts:Array TypeId) (e e':TypeId) (size n:Nat) (xs:List FV) (m:o.op = .call { callee := .builtin .unsafeSliceData,args:=#[x],argTypes:=ts }) (i:P.underlying o.type=some (.pointer e')) (hx:st.eval x = .row id n) (j:kaa st.heap id=some (.frow e size xs)) (c:n=xs.length):
  NStep P o st (.sdp id n):=by
 intro ψ S a w k p;have h0:=Sim.eval_tmps k x;rw [hx] at h0;obtain ⟨k0,q,cs,d,_⟩:=p id _ j;have key:∀ v w' u,(Builtin.unsafeSliceData_ ts o.type #[u]).run P w = .ok v w'->a.eval x=u->(execOp a.eval o).run P w = .ok (.value v) w':=fun v w' u h f=>by simp only [execOp,m,resolve,invoke,builtin,Sem.run_bind,Sem.run_pure,Result.andThen_ok,List.map_toArray,qba,List.map_nil,f,h]
 generalize f:a.eval x=u at h0;cases h0 with
 | row hK hn h1 hv=>
  have l:n=ψ.len id:=by rw [k0,c]
  ·obtain rfl:=hv l;rcases d.2 with ⟨b,c⟩ | ⟨g,cap,cur,b,r,s,t,y,z,A⟩;refine kad w (.pointer none) (key _ _ _ (by rw [b];exact Lib.run_unsafeSliceData_nil w _ _ _ _) f) ⟨kae _, .sdp hK hn rfl fun _=>⟨⟨_,rfl⟩,fun h=>by omega⟩⟩
   ·by_cases hc:cap=0;subst hc;have hr:=Lib.run_unsafeSliceData_zero (P:=P) w ts o.type e' i ⟨g,0,none⟩ xs.length _ (ko2 s);refine kad (w.alloc (.view ⟨g,0,none⟩ e')) (.pointer (some ⟨w.heap.size,0,none⟩)) (key _ _ _ (by rw [b];exact hr) f) ⟨ka7 _ _, .sdp hK hn rfl fun _=>⟨⟨_,rfl⟩,fun h=>by omega⟩⟩
    ·refine kad w (.pointer (some ⟨g,0,none⟩)) (key _ _ _ (by rw [b];exact Lib.run_unsafeSliceData_row w _ _ _ _ _ hc) f) ⟨kae _, .sdp hK hn rfl fun _=>⟨⟨_,rfl⟩,fun h=>⟨g,by rw [b];rfl,rfl⟩⟩⟩
theorem kq6:∀ (l:List Int) (a:Addr) (acc:BA),(∀ (j:Nat) (x:Int),l[j]?=some x->w.cell? (a.add j)=some (.int .u8 x))->(loadBytes a acc l.length).run P w = .ok (l.foldl (fun r n=>r.push (UInt8.ofNat n.toNat)) acc) w
 | [],a,acc,_=>by simp [loadBytes]
 | x::l,a,acc,h=>by
  have h0:w.cell? a=some (.int .u8 x):=by have:=h 0 x rfl;simpa [Addr.add] using this
  have ih:=kq6 l (a.add 1) (acc.push x.toNat.toUInt8) (fun j y hy=>by
   have:=h (j+1) y (by simpa using hy);have e:(a.add 1).add j=a.add (j+1):=by
    unfold Addr.add;by_cases b:j=0;subst b;simp
    ·simp [b];omega
   rw [e];exact this)
  simp only [qbl,loadBytes,Sem.run_bind,run_load,h0,Result.andThen];rw [ih];rfl
theorem kop (pt it ty e:TypeId) (hp:P.underlying pt=some (.pointer e)) (hc:P.cellsOf e=1) (g cells:Nat) (k:w.shape? g=some (e,cells)) (l:List Int) (h0:l≠[]) (hn:l.length<=cells) (o:l.length<=9223372036854775807)
  (b:∀ (j:Nat) (x:Int),l[j]?=some x->w.cell? ((⟨g,0,none⟩:Addr).add j)=some (.int .u8 x)):
  (Builtin.unsafeString_ #[pt,it] ty #[.pointer (some ⟨g,0,none⟩), .int .i64 l.length]).run P w = .ok (.string (toBA l)) (w.freeze ⟨g,0,none⟩ l.length):=by
 have hl:l.length≠0:=by simpa using h0
 have m:=kq6 (P:=P) (w:=w) l ⟨g,0,none⟩ .empty b;have c:=Lib.liesAt_bytes (P:=P) hc (cells / P.cellsOf e) l.length (by rw [hc];simpa using hn);have d:¬ (9223372036854775807:Int)<(l.length:Int):=by omega
 have f:Builtin.unsafeString_ #[pt,it] ty #[.pointer (some ⟨g,0,none⟩), .int .i64 l.length] =
   (do
    let n <- asInt (.int .i64 l.length)
    if n < 0 then runtimePanic (.error "unsafe.String: len out of range")
    if n > IntKind.i64.max then unsupported (.unsafePointer "String: a length above the largest int")
    if n=0 then pure (.string .empty)
    else if <- variablesAt ⟨g,0,none⟩ (<- elemOf pt) n.toNat then do
     let s <- loadBytes ⟨g,0,none⟩ .empty n.toNat
     freeze ⟨g,0,none⟩ n.toNat
     pure (.string s)
    else unsupported (.unsafePointer "String: not so many bytes at ptr")) := rfl
 rw [f];have h:IntKind.i64.max=9223372036854775807:=rfl;have i:¬ (l.length:Int)<0:=by omega
 simp [asInt,asIntOf,h,d,i,hl,variablesAt,k,elemOf,run_underlying hp,c,m,toBA]
theorem kvk (x y:Operand) (pt it e:TypeId) {n:Nat} (xs:List Int) (r:o.op = .call { callee := .builtin .unsafeString,args:=#[x,y],argTypes:=#[pt,it] }) (hp:P.underlying pt=some (.pointer e)) (hc:P.cellsOf e=1) (hx:st.eval x = .sdp id n) (C:kaa st.heap id=some (.frow e 1 (xs.map eU8))) (hn:n=xs.length) (hy:st.eval y = .fz (.atom (.int .i64 (xs.length:Int))):=by kernel_rfl):StepA P o st (.fz (eS (toBA xs))) (kdm id st.heap) st.ids:=by
 intro F S0 N0 ψ S a w hs;have h0:=hs.eval x;rw [hx] at h0;have G:=hs.eval y;rw [hy] at G;have G:=G.atom;have c:=hs.core;obtain ⟨aa,⟨k0,ab,cs,s,_,I⟩,D⟩:=c.obj id _ C;have J:ψ.len id=xs.length:=by rw [k0];simp
 have z:∀ w',(∀ k,¬ Blk (ψ.val id) k->w'.heap[k]?=w.heap[k]?)->w'.heap.size=w.heap.size->Same S w w'/\Core F S0 N0 (kdm id st.heap) st.ids ψ S w':=fun w' f d=>by have hk:Same S w w':=fun k hk hl=>f k fun e=>(D k e).1 hk;refine ⟨hk,fun i ob r=>?_,fun i i' ob ob' b r K=>c.inj i i' ob ob' b (kcg id r).2 (kcg id K).2,fun b l=>by rw [d];exact c.lt b l,c.s0,by rw [d];exact c.n0,fun b l=>by rw [d];exact c.fr b l⟩;obtain ⟨A,r⟩:=kcg id r;obtain ⟨m1,m2,m3⟩:=c.obj i ob r;exact ⟨m1,m2.keep Ext.refl (fun _ h=>h) (fun _ h=>h) hk ⟨rfl,rfl⟩ fun b l=>f b fun e=>c.inj i id ob _ b r C A l e,m3⟩
 have fin:∀ w' u,a.eval x=u->(∀ k,¬ Blk (ψ.val id) k->w'.heap[k]?=w.heap[k]?)->w'.heap.size=w.heap.size->w'.os=w.os->w'.tape=w.tape->w'.output=w.output->(Builtin.unsafeString_ #[pt,it] o.type #[u, .int .i64 xs.length]).run P w = .ok (.string (toBA xs)) w' ->
   kce P o a w fun v w'=>∃ ψ' S',Core F S0 N0 (kdm id st.heap) st.ids ψ' S' w'/\RV ψ' (·∈st.ids) S' w' v (.fz (eS (toBA xs)))/\Fr F w w'/\Ext (·∈st.ids) ψ ψ'/\(∀ id,id∈st.ids->id∈st.ids)/\(∀ b,S b->S' b)/\Same S w w':=fun w' u H f d L M N t=>by
  obtain ⟨d1,d2⟩:=z w' f d;refine kad w' (.string (toBA xs)) ?_ ⟨ψ,S,d2, .fz (.atom rfl),⟨L,M,N,by omega,fun b l=>f b fun e=>(D b e).2.1 l,fun _=>kqc t⟩,Ext.refl,fun _ h=>h,fun _ h=>h,d1⟩;simp only [execOp,r,resolve,invoke,builtin,Sem.run_bind,Sem.run_pure,Result.andThen_ok,List.map_toArray,qba,List.map_nil,H,G,t]
 generalize H:a.eval x=u at h0;cases h0 with
 | sdp hK ac h1 hv=>
  obtain ⟨⟨p,rfl⟩,O⟩:=hv (by rw [hn,J]);by_cases Q:xs=[];subst Q;exact fin w _ H (fun _ _=>rfl) rfl rfl rfl rfl (Lib.run_unsafeString_none w pt it o.type p)
  ·have E:0<n:=(by rw [hn];exact List.length_pos_iff.2 Q);obtain ⟨b,l,B⟩:=O E;injection B with B;subst B;rcases s.2 with ⟨q,ad⟩ | ⟨g,cap,cur,q,ae,X,af,R,T,U⟩;rw [q] at l;cases l
   ·rw [q] at l;injection l with l;simp at l;subst l;have ag:(xs.map eU8).length=xs.length:=(by simp);have Y:cur.size=cap:=(by simpa using T);refine fin (w.freeze ⟨g,0,none⟩ xs.length) _ H (fun k hk=>?_) ?_ ?_ ?_ ?_ (kop pt it o.type e hp hc g cur.size (ko2 X) xs Q (by omega) (by unfold maxLen at R;omega) fun j x Z=>?_)
    ·rw [q] at hk;have A:k≠g:=fun e=>hk (.of (by rw [e];rfl));unfold World.freeze;split;rfl
     ·simp only [qbs];rw [qj (fun e=>A e.symm)]
    unfold World.freeze;split <;> simp;unfold World.freeze;split <;> rfl;unfold World.freeze;split <;> rfl;unfold World.freeze;split <;> rfl
    ·have ah:j<xs.length:=(qd.1 Z).1;have hcl:cs.length=xs.length:=(by simpa using s.1);have m:cs[j]?=some (cs[j]'(by omega)):=qa _;have V:=I j (eU8 x) 0 _ (eU8 x) (by rw [ql,Z];rfl) (by rw [qbg,Nat.add_zero];exact m) rfl;rw [k0x V] at m;rw [kbg,Lib.cell_of_heap X];have:cur.toList[j]?=some (.int .u8 x):=by
      rw [<- U] at m;rw [qw] at m;split at m;exact m
      ·cases m
     simpa using this
theorem klg (t:TypeId) (d:TD) (id:Nat) (x:Operand) (e e2:TypeId) (size n:Nat) (xs:List FV) (k:TOk P T:=by exact kao) (l:o.op = .call { callee := .builtin .len,args:=#[x],argTypes:=#[t] }:=by kernel_rfl) (hd:kac T t=some d:=by kernel_rfl) (hk:d.kind = .slice e2:=by rfl) (hx:st.eval x = .row id n:=by kernel_rfl) (i:kaa st.heap id=some (.frow e size xs):=by kernel_rfl) (c:n=xs.length:=by simp):
  NStep P o st (.fz (.atom (.int .i64 n))):=by
 intro ψ S a w j m;have h0:=Sim.eval_tmps j x;rw [hx] at h0;obtain ⟨k0,p,cs,f,_⟩:=m id _ i;have hv:∃ A cap,a.eval x = .slice A n cap:=by
  generalize a.eval x=u at h0;cases h0 with
  | row hK hn h1 hv=>
   obtain rfl:=hv (by rw [k0,c]);rcases f.2 with ⟨b,h⟩ | ⟨g,cap,cur,b,_⟩;exact ⟨none,0,by rw [b,c,h]⟩
   ·exact ⟨some ⟨g,0,none⟩,cap,by rw [b,c]⟩
 obtain ⟨A,cap,hv⟩:=hv;refine kad w (.int .i64 n) ?_ ⟨kae _, .fz (.atom rfl)⟩;simp [execOp,l,resolve,invoke,builtin,Builtin.len_,run_underlying ((k.get hd).slice hk),hv,goInt]
theorem kwb {s:Value} {size m:Nat} {zs:List FV} (hs:RF S w s (.lst size m zs)):∃ A cap news,s = .slice A m cap/\m=zs.length/\m<=cap/\cap<=9223372036854775807/\news.length=zs.length*size/\(∀ u∈news,u.oneCell'=true)/\RowR S w size zs news/\ElR size zs /\
  ((A=none/\zs=[])\/(zs=[]/\∃ ad,A=some ad)\/∃ ad,A=some ad/\∀ j u,news[j]?=some u->w.cell? (ad.add j)=some u):=by
 obtain ⟨A,cap,css,rfl,rfl,hc,hm,k,ha,hl,hr⟩:=hs.lst_inv;have a:ElR size zs:=fun x hx=>by obtain ⟨i,hi,rfl⟩:=qah.1 hx;exact (hl i _ (qa hi)).2
 by_cases e:zs=[]
 ·subst e;refine ⟨A,cap,[],rfl,rfl,hc,hm,by simp,(fun u h=>by cases h),(fun i x j v y h=>by simp at h),a,?_⟩;cases A with
  | none=>exact .inl ⟨rfl,rfl⟩
  | some ad=>exact .inr (.inl ⟨rfl,ad,rfl⟩)
 ·obtain ⟨y0,ys,rfl⟩:∃ y0 ys,zs=y0::ys:=by
   cases zs with
   | nil=>exact absurd rfl e
   | cons y ys=>exact ⟨y,ys,rfl⟩
  obtain ⟨b,off,rfl,_,_⟩:=ha 0 y0 rfl;obtain ⟨news,hn,d,o⟩:=kvi (b:=b) (w:=w) (size:=size) (Q:=fun c y=>(∀ j v z,c[j]?=some v->y.cells[j]?=some z->RF S w v z)/\(∀ u∈c,u.oneCell'=true)) (y0::ys) off fun i y hy=>by obtain ⟨b',o',hA,_,d⟩:=ha i y hy;injection hA with hA;injection hA with e1 e2;subst e1 e2;obtain ⟨l1,l2,l3⟩:=hl i y hy;refine ⟨css i,d,l1,fun j v z hv k=>hr i y j v z hy hv k,fun u l=>?_⟩;obtain ⟨j,f,rfl⟩:=qah.1 l;have g:j<y.cells.length:=(by omega);exact (hr i y j _ _ hy (qa f) (qa g)).one (l3 _ (qx g))
  refine ⟨some ⟨b,off,none⟩,cap,news,rfl,rfl,hc,hm,hn,fun u l=>?_,fun i x j v y hx hv hy=>?_,a, .inr (.inr ⟨_,rfl,fun j u h=>by rw [kbg];exact d j u h⟩)⟩;obtain ⟨j,f,rfl⟩:=qah.1 l;have n:j / size<(y0::ys).length:=(by rw [Nat.div_lt_iff_lt_mul k];omega);refine (o (j / size) _ (qa n)).2 _ ?_;rw [qbm];refine ⟨j % size,?_⟩;rw [qw,qr (Nat.mod_lt _ k),qag,show j / size*size+j % size=j by rw [Nat.mul_comm];exact Nat.div_add_mod j size];exact qa f
  ·have f:j<size:=(by have:=(qd.1 hy).1;rw [(a x (qm hx)).1] at this;exact this);refine (o i x hx).1 j v y ?_ hy;rw [qw,qr f,qag];exact hv
def fI (x:Int):AV := .fz (eI x)
def fB (x:Bool):AV := .fz (eB x)
def fS (x:BA):AV := .fz (eS x)
end Go.Proofs.YtjnjipmjkkhdpaaGreatDoor
