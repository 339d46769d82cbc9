import Derived.Test.YtgebfaidgikieaaGreatDoorHd
import Derived.Laws.StructEq
import Derived.Laws.BytesString
import Derived.Lib.ConvBytes
import Derived.Deep.AppendSrc
import Derived.Lib.Builder
import Derived.Lib.AppendStr
import Derived.Lib.UnsafeStr
import Derived.MapKept
import Derived.Laws.OwnMore
import Derived.Laws.CopyRow
import Derived.Laws.IdiomCopy
set_option linter.all false
set_option linter.unusedSectionVars false
namespace Go.Proofs.YtgebfaidgikieaaGreatDoor
open Go Go.RowKit
variable [Dr]
def eqF (T:List (TypeId×TD)):List (TypeId×Nat)->List FV->List FV->Option Bool
 | [],_,_=>some true
 | (ft,off)::fs,xs,ys=>match kae T ft,xs[off]?,ys[off]?,eqF T fs xs ys with
  | some d,some (.atom u),some (.atom v),some r=>match d.kind,u,v with
   | .str, .string a, .string b=>some (a.toList == b.toList && r)
   | .int k, .int k1 a, .int k2 b=>if k1=k2 then some ((a == b) && r) else none
   | .bool, .bool a, .bool b=>some ((a == b) && r)
   | _,_,_=>none
  | _,_,_,_=>none
def toBA (xs:List Int):BA:=xs.foldl (fun r n=>r.push (UInt8.ofNat n.toNat)) ByteArray.empty
def ofBA (s:BA):List Int:=s.data.toList.map fun b=>(b.toNat:Int)
def appS (xs:List Int) (s:BA):Option (List Int):=if xs.length+s.size<=140737488355328 then some (xs++ofBA s) else none
variable {P:Program} {F S0:Nat->Prop} {N0:Nat} {w w':World} {S S':Nat->Prop} {ψ:Env} {K:Nat->Prop} {T:List (TypeId×TD)} {o:Oper} {a:Act} {st:St} {t:TypeId} {d:TD} {id:Nat}
theorem kaca {sr:TypeId} {x:Operand} {k k':IntKind} {n:Int} {ds:TD} (b:TOk P T) (c:o.op = .convert sr t x) (hs:kae T sr=some ds) (hd:kae T t=some d) (hk:d.kind = .int k) (hx:st.eval x = .fz (.atom (.int k' n))):NStep P o st (.fz (.atom (.int k (k.wrap n)))):=by obtain ⟨_,e,h1,_⟩:=b.get hs;obtain ⟨_,e',f,a⟩:=b.get hd;rw [hk] at a;cases e' <;> simp only [kfv] at a;subst a;exact kajh ds c ⟨_,h1⟩ f hx
theorem k9a {sr:TypeId} {x:Operand} {s:BA} {ds:TD} (c:TOk P T) (e:o.op = .convert sr t x) (hs:kae T sr=some ds) (b:ds.kind = .str) (hd:kae T t=some d) (hk:d.kind = .str) (hx:st.eval x = .fz (.atom (.string s))):NStep P o st (.fz (.atom (.string s))):=by intro ψ S a w ht f;have h1:=Sim.eval_tmps ht x;rw [hx] at h1;refine kad w (.string s) ?_ ⟨kaf _, .fz (.atom rfl)⟩;simp [execOp,e,h1.atom,convert,run_underlying ((c.get hs).str b),run_underlying ((c.get hd).str hk)]
theorem k84 {v:Value} {n:Int} (h:RF S w v (eU8 n)):v = .int .u8 n:=h.atom_eq
theorem kaar (d:TD) (sr e:TypeId) (x:Operand) (xs:List Int) (ds de:TD) (q:TOk P T) (r:ds.kind = .slice e) (s:de.kind = .int .u8) (hk:d.kind = .str) (hx:kok (st.eval x)=some (xs.map eU8):=by kernel_rfl) (D:o.op = .convert sr t x:=by kernel_rfl) (hs:kae T sr=some ds:=by kernel_rfl) (E:kae T e=some de:=by kernel_rfl) (hd:kae T t=some d:=by kernel_rfl):NStep P o st (.fz (eS (toBA xs))):=by
 intro ψ S a w ht J;obtain ⟨A,cap,size,n,u,hv,F⟩:=kw5 (Sim.eval_tmps ht x) hx;obtain ⟨A',cap',css,i,G,hc,hm,H,ha,hl,hr⟩:=F.lst_inv;have hA:A'=A/\cap'=cap:=by rw [hv] at i;injection i with h1 p I;exact ⟨h1.symm,I.symm⟩
 obtain ⟨rfl,rfl⟩:=hA;obtain ⟨_,e',h1,p⟩:=q.get E;rw [s] at p;cases e' <;> simp only [kfv] at p;subst p;refine kad w (.string (toBA xs)) ?_ ⟨kaf _, .fz (.atom rfl)⟩;have k:(Conv.bytesToString (.slice A' n cap')).run P w = .ok (.string (toBA xs)) w:=by
  cases A' with
  | none=>
   have y:xs=[]:=by
    cases xs with
    | nil=>rfl
    | cons x xs=>obtain ⟨b,o,h,_⟩:=ha 0 (eU8 x) rfl;cases h
   subst y;rfl
  | some ad=>
   refine run_bytesToString w ad n cap' xs ?_;have:=run_loadCells_list (P:=P) w ad (xs.map (Value.int .u8)) fun j v C=>(by simp only [qr,qm] at C;obtain ⟨m,z,rfl⟩:=C;have c:(xs.map eU8)[j]?=some (eU8 m):=(by rw [qr,z];rfl);obtain ⟨b,off,hA,_,B⟩:=ha j _ c;injection hA with hA;subst hA;obtain ⟨l1,l2,l3⟩:=hl j _ c;have hs1:size=1:=(by rw [<- l2];rfl);subst hs1;have f:(css j)[0]?=some ((css j)[0]'(by omega)):=qb _;have:=hr j _ 0 _ (eU8 m) c f rfl;rw [k84 this] at f;have g:=B 0 _ f;rw [kck];simpa using g);have l:(xs.map (Value.int .u8)).length=n:=(by rw [u];simp);rw [l] at this;exact this
 simp only [execOp,D,hv,Sem.run_bind];rw [run_convert_bytes_string w sr t e A' n cap' ((q.get hs).slice r) h1 ((q.get hd).str hk),k];rfl
theorem kadx {n:Nat} {parts:Array (Nat×Operand)} {e:TypeId} {de:TD} {xs:List FV} (V:o.op = .buildSlice t n parts) (hd:TdOk P t d) (hk:d.kind = .slice e) (H:TdOk P e de) (g:0<de.size) (hn:xs.length=n) (R:n*de.size<=16777216)
  (hp:koo de.size 0 (kdz st parts)=some xs) (A:st.ids.contains id=false):StepA P o st (.row id n) ((id, .frow e de.size xs)::st.heap) (id::st.ids):=by
 have A:id∉st.ids:=by simpa using A
 subst hn;intro F S0 N0 ψ S a w I;have ht:=I.tmps;obtain ⟨e1,e2⟩:=kop ht parts;obtain ⟨p1,p2⟩:=kxb hp;obtain ⟨vs,B⟩:∃ vs:List Value,vs=parts.toList.map (fun p=>a.eval p.2):=⟨_,rfl⟩;have f:parts.toList.length=xs.length:=by
  have:(kdz st parts).length=xs.length:=by rw [p1];simp
  simpa [kdz] using this
 have C:vs.length=xs.length:=by rw [B];simp at f ⊢; exact f
 have k:∀ (i:Nat) (x:FV),xs[i]?=some x->∃ v p,vs[i]?=some v/\parts.toList[i]?=some p/\p.1=i/\RF S w v x:=fun i x hx=>by
  have hi:i<parts.toList.length:=by rw [f];exact (qj.1 hx).1
  have X:(kdz st parts)[i]?=some (i, .fz x):=by rw [p1];simp [hx]
  have D:parts.toList[i]?=some parts.toList[i]:=qb hi;have K:(parts.map fun (i,x)=>(i,a.eval x)).toList[i]?=some (parts.toList[i].1,a.eval parts.toList[i].2):=by simp [D]
  obtain ⟨r1,r2⟩:=e2 i _ _ K X;exact ⟨a.eval parts.toList[i].2,parts.toList[i],by rw [B,qr,D];rfl,D,r1,r2.inv⟩
 have L:(parts.map fun (i,x)=>(i,a.eval x)).toList=(vs.zipIdx 0).map (fun x=>(x.2,x.1)):=by
  apply List.ext_getElem?;intro i;by_cases hi:i<xs.length;obtain ⟨v,p,h1,T,Y,_⟩:=k i xs[i] (qb hi);have:v=a.eval p.2:=(by rw [B,qr,T] at h1;simpa using h1.symm);simp only [Array.toList_map,qr,List.getElem?_zipIdx,h1,T,qa9,Nat.zero_add];rw [this,Y]
  ·rw [qbp (by simp at f ⊢; omega),qbp (by simp [C];omega)]
 have c:∀ v∈vs,v.cells.size=de.size:=fun v hv=>by obtain ⟨i,hi,rfl⟩:=qaf.1 hv;obtain ⟨v,p,h1,_,_,M⟩:=k i xs[i] (qb (by omega));rw [qb hi] at h1;injection h1 with h1;rw [h1,(M.cells (p2 _ (qv _)).2).1,(p2 _ (qv _)).1]
 obtain ⟨z,N,Z⟩:=H.zero (P:=P) (w:=w);obtain ⟨cells,hcl⟩:∃ cells:Array Value,cells=(vs.flatMap fun v=>v.cells.toList).toArray:=⟨_,rfl⟩;have J:(Instr.buildSlice t xs.length (parts.map fun (i,x)=>(i,a.eval x))).run P w = .ok (.slice (some ⟨w.heap.size,0,none⟩) xs.length xs.length) (w.alloc (.cells cells e)):=by
  have O:¬ xs.length*de.size > 2 ^ 24:=by omega
  have m:∀ c0:Array Value,xs.length*de.size=c0.size->Instr.fill (fun i=>some (i*de.size,de.size)) c0 (parts.map fun (i,x)=>(i,a.eval x)).toList=some cells:=fun c0 Q=>by rw [L,Great.fill_whole g vs c0 c (by rw [C];exact Q),hcl]
  unfold Instr.buildSlice;rw [Sem.run_bind,run_underlying (hd.slice hk),Result.andThen_ok];simp only [Sem.run_bind,H.size,Result.andThen_ok,ql O];by_cases h0:xs.length*de.size=0
  ·simp only [qs h0,Sem.run_bind,Sem.run_pure,Result.andThen_ok];rw [m];rfl
   ·simp
  ·simp only [ql h0,Sem.run_bind,N,Result.andThen_ok,Sem.run_pure];rw [m];rfl
   ·simp
 have q:cells.toList.length=xs.length*de.size:=by
  rw [hcl];have:∀ l:List Value,(∀ v∈l,v.cells.size=de.size)->(l.flatMap fun v=>v.cells.toList).length=l.length*de.size:=fun l=>by
   induction l with
   | nil=>intro _;simp
   | cons v l ih=>
    intro h;rw [qbd,qy,ih fun u hu=>h u (qk _ hu),qak,h v (qx ..),qad,Nat.succ_mul,Nat.add_comm]
  simpa [C] using this vs c
 have r:=I.core;have E:Grow w (w.alloc (.cells cells e)):=kbn _ _;refine kad (w.alloc (.cells cells e)) (.slice (some ⟨w.heap.size,0,none⟩) xs.length xs.length) ?_ ⟨ψ.set id xs.length (.slice (some ⟨w.heap.size,0,none⟩) xs.length xs.length),S,?_,?_,kiv _ r.fr,kbm A _ _,fun _ h=>qk _ h,fun _ h=>h,Same.of_grow E⟩;have s:=J;simp only [execOp,V,Sem.run_bind];rw [show (parts.map fun (i,x)=>(i,a.eval x))=parts.map (fun x=>(x.1,a.eval x.2)) from rfl] at s;simp [s]
 ·refine r.add E A (fun b R=>by simp [kay] at R;omega) ⟨kbv _ _,g,cells.toList,?_,fun x hx=>p2 x hx,fun i x j v y hx hv hy=>?_⟩
  ·rw [kan];refine ⟨q, .inr ⟨w.heap.size,xs.length,cells,rfl,qaj _,heap_alloc_new w _,qw _,?_,by simpa using q,?_⟩⟩;have:xs.length*1<=xs.length*de.size:=Nat.mul_le_mul_left _ g;unfold maxLen;omega
   ·rw [<- q,List.take_length]
  ·obtain ⟨u,p,h1,_,_,M⟩:=k i x hx;have U:j<de.size:=(by have:=(qj.1 hy).1;rw [(p2 x (qu hx)).1] at this;exact this);have G:=Great.flat_get g vs c (i*de.size+j);rw [show (i*de.size+j) / de.size=i by rw [Nat.mul_comm,Nat.mul_add_div g,Nat.div_eq_of_lt U];omega,show (i*de.size+j) % de.size=j by rw [Nat.mul_comm,Nat.mul_add_mod,Nat.mod_eq_of_lt U],h1] at G;simp only [qa] at G;rw [hcl] at hv;simp only [] at hv;rw [G] at hv;have:=(M.cells (p2 x (qu hx)).2).2.1 j v y (by simpa using hv) hy;exact this.keep (Same.of_grow E)
 ·exact .row (qx ..) (by rw [kbv];exact qw _) rfl fun _=>(kan _ _).symm
theorem kso (t:TypeId) (d:TD) (id:Nat) {α:Type} (enc:α->FV) (n:Nat) (parts:Array (Nat×Operand)) (e:TypeId) (de:TD) (xs:List α) (c:TOk P T:=by exact kbc) (h:Nat.ble (n*de.size) 16777216=true:=by kernel_rfl) (hp:koo de.size 0 (kdz st parts)=some (xs.map enc):=by kernel_rfl) (b:st.ids.contains id=false:=by kernel_rfl) (f:o.op = .buildSlice t n parts:=by kernel_rfl) (hd:kae T t=some d:=by kernel_rfl) (hk:d.kind = .slice e:=by kernel_rfl) (a:kae T e=some de:=by kernel_rfl) (g:Nat.ble 1 de.size=true:=by kernel_rfl) (hn:xs.length=n:=by rfl):StepA P o st (.row id xs.length) ((id, .frow e de.size (xs.map enc))::st.heap) (id::st.ids):=by have:=kadx (id:=id) f (c.get hd) hk (c.get a) (qn g) (by simpa using hn) (qn h) hp b;rw [<- hn] at this;exact this
end Go.Proofs.YtgebfaidgikieaaGreatDoor
set_option linter.all false
namespace Go.Proofs.YtgebfaidgikieaaGreatDoor
open Go Go.RowKit
variable [Dr]
def k86 (id:Nat):List AV->Option (List AV)
 | .fz (.atom (.pointer none))::cs=>some (.opt id::cs)
 | .ref i n off::cs=>bif Nat.beq i id && (Nat.beq n 0 && Nat.beq off 0) then some (.opt id::cs) else none
 | _=>none
variable {P:Program} {F S0:Nat->Prop} {N0:Nat} {w w':World} {S S':Nat->Prop} {ψ:Env} {K:Nat->Prop} {T:List (TypeId×TD)} {o:Oper} {a:Act} {st:St} {t:TypeId} {d:TD} {id:Nat}
theorem k6e {e:TypeId} {c c':AV} {cells:List AV} (g:kaa st.heap id=some (.box e (c::cells))) (hs1:c'.single=true) (hs:Sim F S0 N0 st ψ S a w)
  (hv:∀ v b,ψ.len id=0->ψ.val id = .pointer (some ⟨b,0,none⟩)->RV ψ (·∈st.ids) S w v c->RV ψ (·∈st.ids) S w v c'):Sim F S0 N0 { st with heap:=(id, .box e (c'::cells))::st.heap } ψ S a w:=by
 obtain ⟨k1,⟨k0,b,cs,k2,k3,k4,k5,k6⟩,k7⟩:=hs.core.obj id _ g;refine ⟨hs.defers,hs.size,hs.tmps,⟨fun i ob d=>?_,fun i i' ob ob' bb d k l m=>?_,hs.core.lt,hs.core.s0,hs.core.n0,hs.core.fr⟩⟩
 ·rw [kac] at d;by_cases hi:id=i
  ·subst hi;rw [qs rfl] at d;injection d with d;subst d;refine ⟨k1,⟨k0,b,cs,k2,k3,by simpa using k4,fun x hx=>?_,fun i v x j hx=>?_⟩,k7⟩
   ·rcases qab.1 hx with rfl | hx;exact hs1
    ·exact k5 x (qk _ hx)
   ·cases i with
    | zero=>
     simp at hx;subst hx;exact hv v b k0 k2 (k6 0 v c j rfl)
    | succ i=>exact k6 (i+1) v x j (by simpa using hx)
  ·rw [ql hi] at d;exact hs.core.obj i ob d
 ·have f:∀ {i:Nat} {o:AObj},kaa ((id,AObj.box e (c'::cells))::st.heap) i=some o->∃ o',kaa st.heap i=some o':=fun {i o} h=>by
   rw [kac] at h;by_cases hi:id=i;subst hi;exact ⟨_,g⟩
   ·rw [ql hi] at h;exact ⟨_,h⟩
  obtain ⟨o1,h1⟩:=f d;obtain ⟨o2,n⟩:=f k;exact hs.core.inj i i' o1 o2 bb h1 n l m
theorem khd (id:Nat) (e2:TypeId) (cells cells':List AV) (c:kaa st.heap id=some (.box e2 cells):=by kernel_rfl) (hc:k86 id cells=some cells':=by kernel_rfl):LeSt st { st with heap:=(id, .box e2 cells')::st.heap }:=by
 intro F S0 N0 ψ S a w hs;have e:=(hs.core.obj id _ c).1;unfold k86 at hc;split at hc;injection hc with hc;subst hc;refine ⟨ψ,S,k6e c rfl hs fun v b h0 h1 hv=>?_⟩;rw [hv.atom];exact .opt e rfl fun _ => .inl rfl
 ·rename_i i n off cs;cases d:(Nat.beq i id && (Nat.beq n 0 && Nat.beq off 0)) with
  | false=>rw [d] at hc;cases hc
  | true=>
   rw [d] at hc;simp only [qe,qc] at hc;subst hc;simp only [qo] at d;obtain ⟨h1,f,g⟩:=d;obtain rfl:=qi h1;obtain rfl:=qi f;obtain rfl:=qi g;refine ⟨ψ,S,k6e c rfl hs fun v b h0 h1 hv=>?_⟩;cases hv with
   | ref hK hn j hv=>exact .opt hK j fun h => .inr (hv h)
 ·cases hc
theorem kaiq {e:TypeId} {cells:List AV} (j:kaa st.heap id=some (.box e (.opt id::cells))) (hs:Sim F S0 N0 st ψ S a w):
  Sim F S0 N0 { st with heap:=(id, .box e (.fz (.atom (.pointer none))::cells))::st.heap } ψ S a w\/Sim F S0 N0 { st with heap:=(id, .box e (.ref id 0 0::cells))::st.heap } ψ S a w:=by
 obtain ⟨k1,⟨k0,b,cs,k2,k3,k4,k5,k6⟩,k7⟩:=hs.core.obj id _ j;have g:cs[0]?=some (cs[0]'(by simp at k4;omega)):=qbb _;have hv:=k6 0 _ _ g rfl;generalize cs[0]'(by simp at k4;omega)=u at g hv;cases hv with
 | opt hK h1 hv=>
  have key:∀ c',c'.single=true->RV ψ (·∈st.ids) S w u c'->Sim F S0 N0 { st with heap:=(id, .box e (c'::cells))::st.heap } ψ S a w:=fun c' hs1 hr=>by
   refine ⟨hs.defers,hs.size,hs.tmps,⟨fun i ob d=>?_,fun i i' ob ob' bb d k l n=>?_,hs.core.lt,hs.core.s0,hs.core.n0,hs.core.fr⟩⟩
   ·rw [kac] at d;by_cases hi:id=i
    ·subst hi;rw [qs rfl] at d;injection d with d;subst d;refine ⟨k1,⟨k0,b,cs,k2,k3,by simpa using k4,fun x hx=>?_,fun i v x c hx=>?_⟩,k7⟩
     ·rcases qab.1 hx with rfl | hx;exact hs1
      ·exact k5 x (qk _ hx)
     ·cases i with
      | zero=>
       simp at hx;subst hx;rw [g] at c;injection c with c;exact c ▸ hr
      | succ i=>exact k6 (i+1) v x c (by simpa using hx)
    ·rw [ql hi] at d;exact hs.core.obj i ob d
   ·have f:∀ {i:Nat} {o:AObj},kaa ((id,AObj.box e (c'::cells))::st.heap) i=some o->∃ o',kaa st.heap i=some o':=fun {i o} h=>by
     rw [kac] at h;by_cases hi:id=i;subst hi;exact ⟨_,j⟩
     ·rw [ql hi] at h;exact ⟨_,h⟩
    obtain ⟨o1,h1⟩:=f d;obtain ⟨o2,p⟩:=f k;exact hs.core.inj i i' o1 o2 bb h1 p l n
  rcases hv k0.symm with rfl | ⟨b',m,rfl⟩;exact .inl (key _ rfl (.fz (.atom rfl)))
  ·exact .inr (key _ rfl (.ref hK (qaj _) rfl fun _=>⟨b',m,rfl⟩))
theorem k5g [Rd] {c:Code} {Q:Exit->St->Prop} {e:TypeId} {cells:List AV} (b:kaa st.heap id=some (.box e (.opt id::cells))) (h1:awp P c { st with heap:=(id, .box e (.fz (.atom (.pointer none))::cells))::st.heap } Q)
  (d:awp P c { st with heap:=(id, .box e (.ref id 0 0::cells))::st.heap } Q):awp P c st Q:=fun F S0 N0 ψ S a w hs=>by
 rcases kaiq b hs with h | h;exact h1 F S0 N0 ψ S a w h
 ·exact d F S0 N0 ψ S a w h
theorem kyu {e:TypeId} {cells:List AV} {off:Nat} {v:Value} (c:ObR ψ K S w id (.box e cells)) (hv:RV ψ K S w v (.ref id 0 off)):∃ b cs,v = .pointer (some ⟨b,off,none⟩)/\w.heap[b]?=some (.cells cs e (0,0))/\cs.size=cells.length:=by
 obtain ⟨k0,b,cs,k2,k3,k4,_⟩:=c;cases hv with
 | ref hK hn h1 hv=>
  obtain ⟨b',a,rfl⟩:=hv k0.symm;rw [k2] at a;simp only [kay,qc] at a;subst a;exact ⟨b,cs,rfl,k3,k4⟩
theorem kkv {op:BinOp} {x y:Operand} {u v:Option Addr}:(eqGuard op t x y (.pointer u) (.pointer v)).run P w = .ok () w:=by unfold eqGuard;cases op <;> simp
theorem ku2 (w:World) (u v:Option Addr) (r:Bool) (h:∀ d:Nat,(Op.equalIn (d+1) t (.pointer u) (.pointer v)).run P w = .ok r w):(binOp .eql t (.pointer u) (.pointer v)).run P w = .ok (.bool r) w/\(binOp .neq t (.pointer u) (.pointer v)).run P w = .ok (.bool !r) w:=by constructor <;> (simp only [binOp];simp [Op.equal,Op.maxDepth,h 9999])
theorem k7c (x y:Operand) (yt te e:TypeId) (cells:List AV) (off:Nat) (neg:Bool) (h:o.op = .binOp (if neg then .neq else .eql) t x y yt:=by kernel_rfl) (ht:P.underlying t=some (.pointer te):=by kernel_rfl) (hx:st.eval x = .ref id 0 off:=by kernel_rfl) (g:kaa st.heap id=some (.box e cells):=by kernel_rfl) (hy:st.eval y = .fz (.atom (.pointer none)):=by kernel_rfl):
  NStep P o st (.fz (.atom (.bool neg))):=by
 intro ψ S a w c i;have h1:=Sim.eval_tmps c x;rw [hx] at h1;obtain ⟨b,cs,h1,_⟩:=kyu (i id _ g) h1;have f:=Sim.eval_tmps c y;rw [hy] at f;have f:=f.atom;refine kad w (.bool neg) ?_ ⟨kaf _, .fz (.atom rfl)⟩;obtain ⟨q1,q2⟩:=ku2 (t:=t) (P:=P) w (some ⟨b,off,none⟩) none false fun d=>by simp [Op.equalIn,run_underlying ht]
 cases neg;simp [execOp,h,h1,f,kkv,q1]
 ·simp [execOp,h,h1,f,kkv,q2]
theorem k6h (x y:Operand) (yt te:TypeId) (neg:Bool) (e:o.op = .binOp (if neg then .neq else .eql) t x y yt:=by kernel_rfl) (ht:P.underlying t=some (.pointer te):=by kernel_rfl) (hx:st.eval x = .fz (.atom (.pointer none)):=by kernel_rfl) (hy:st.eval y = .fz (.atom (.pointer none)):=by kernel_rfl):
  NStep P o st (.fz (.atom (.bool !neg))):=by
 intro ψ S a w b f;have h1:=Sim.eval_tmps b x;rw [hx] at h1;have h1:=h1.atom;have c:=Sim.eval_tmps b y;rw [hy] at c;have c:=c.atom;refine kad w (.bool !neg) ?_ ⟨kaf _, .fz (.atom rfl)⟩;obtain ⟨q1,q2⟩:=ku2 (t:=t) (P:=P) w none none true fun d=>by simp [Op.equalIn,run_underlying ht]
 cases neg;simp [execOp,e,h1,c,kkv,q1]
 ·simp [execOp,e,h1,c,kkv,q2]
theorem k3w (x y:Operand) (yt te e:TypeId) (cells:List AV) (off:Nat) (j:TypeInfo) (neg:Bool) (k:o.op = .binOp (if neg then .neq else .eql) t x y yt:=by kernel_rfl) (ht:P.underlying t=some (.pointer te):=by kernel_rfl) (n:P.info? te=some j:=by kernel_rfl) (hx:st.eval x = .ref id 0 off:=by kernel_rfl) (h:kaa st.heap id=some (.box e cells):=by kernel_rfl) (hy:st.eval y = .ref id 0 off:=by kernel_rfl):NStep P o st (.fz (.atom (.bool !neg))):=by
 intro ψ S a w f l;have h1:=Sim.eval_tmps f x;rw [hx] at h1;obtain ⟨b,cs,h1,g1,_⟩:=kyu (l id _ h) h1;have i:=Sim.eval_tmps f y;rw [hy] at i;obtain ⟨k0,b0,cs0,k2,_⟩:=l id _ h;have m:∀ v,RV ψ (·∈st.ids) S w v (.ref id 0 off)->v = .pointer (some ⟨b0,off,none⟩):=fun v hv=>by
  cases hv with
  | ref hK hn p hv=>
   obtain ⟨b',g,rfl⟩:=hv k0.symm;rw [k2] at g;simp only [kay,qc] at g;rw [g]
 have i:=m _ i;have c:=m _ (by have:=Sim.eval_tmps f x;rw [hx] at this;exact this);rw [h1] at c;injection c with c;injection c with c;injection c with c;subst c;refine kad w (.bool !neg) ?_ ⟨kaf _, .fz (.atom rfl)⟩;obtain ⟨q1,q2⟩:=ku2 (t:=t) (P:=P) w (some ⟨b,off,none⟩) (some ⟨b,off,none⟩) true fun d=>by simp [Op.equalIn,run_underlying ht,sizeOf,typeInfo,n,run_sameAddr_same]
 cases neg;simp [execOp,k,h1,i,kkv,q1]
 ·simp [execOp,k,h1,i,kkv,q2]
theorem kuy {b:Nat} {cs:Array Value} {e:TypeId} (h:w.heap[b]?=some (.cells cs e (0,0))):w.shape? b=some (e,cs.size):=by simp [World.shape?,h]
theorem k0y (x:Operand) (src te e:TypeId) (cells:List AV) (j:TypeInfo) (g:o.op = .convert src t x:=by kernel_rfl) (hs:P.underlying src=some (.pointer te):=by kernel_rfl) (hd:P.underlying t=some .unsafePointer:=by kernel_rfl) (h:P.info? te=some j:=by kernel_rfl) (c:Nat.beq j.size 0=false:=by kernel_rfl) (hx:st.eval x = .ref id 0 0:=by kernel_rfl) (d:kaa st.heap id=some (.box e cells):=by kernel_rfl) (hc:Nat.ble 1 cells.length=true:=by kernel_rfl):NStep P o st (.ref id 0 0):=by intro ψ S a w f i;have h0:=Sim.eval_tmps f x;rw [hx] at h0;obtain ⟨b,cs,h1,g1,g2⟩:=kyu (i id _ d) h0;refine kad w (a.eval x) ?_ ⟨kaf _,h0.here⟩;simp only [execOp,g,Sem.run_bind,h1];rw [Lib.run_to_unsafe w ⟨b,0,none⟩ hs hd h (fun e=>by rw [e] at c;cases c) (kuy g1) (by rw [g2];exact qn hc)];rfl
theorem kwm (x:Operand) (src u e:TypeId) (cells:List AV) (j:TypeInfo) (f:o.op = .convert src t x:=by kernel_rfl) (hs:P.underlying src=some .unsafePointer:=by kernel_rfl) (hd:P.underlying t=some (.pointer u):=by kernel_rfl) (g:P.info? u=some j:=by kernel_rfl) (hx:st.eval x = .ref id 0 0:=by kernel_rfl) (c:kaa st.heap id=some (.box e cells):=by kernel_rfl) (hl:liesAt P P.depth e (cells.length / P.cellsOf e) 0 u 1=true:=by kernel_rfl):NStep P o st (.ref id 0 0):=by intro ψ S a w d h;have h0:=Sim.eval_tmps d x;rw [hx] at h0;obtain ⟨b,cs,h1,g1,g2⟩:=kyu (h id _ c) h0;refine kad w (a.eval x) ?_ ⟨kaf _,h0.here⟩;simp only [execOp,f,Sem.run_bind,h1];rw [Lib.run_from_unsafe w ⟨b,0,none⟩ hs hd g (kuy g1) (by rw [g2];exact hl)];rfl
theorem k13 (f: FuncId) (fn: Func) (ts: Array TypeId) (X: Operand) (d: P.funcs[f]? = some fn) (b: (fn.name == "runtime.NumGoroutine") = false := by kernel_rfl) (e: fn.body.isNone = true := by kernel_rfl) (hn: Extern.findNext fn = none := by kernel_rfl) (g: Extern.find fn = some Extern.AbiNoEscape.same := by kernel_rfl) (c: o.op = .call { callee := .value (.func f), args := #[X], argTypes := ts }:=by kernel_rfl):
  NStep P o st (st.eval X):=by
 intro ψ S a w ht h;refine kad w (a.eval X) ?_ ⟨kaf _,(Sim.eval_tmps ht X).here⟩;have h0:a.eval (.func f) = .func (.func f) #[] #[]:=rfl;simp [execOp,c,resolve,h0,Deferred.ofValue,invoke,run_callFunc_extern d b e hn g,Lib.run_noEscape]
theorem k1y {e t u:TypeId} (ty:TypeId) {i:TypeInfo} (ht:P.underlying t=some (.slice e)) (p:P.underlying u=some .string) (hi:P.info? e=some i) (q:i.zero=some (.int .u8 0)) (a:i.size=1) (k:i.bytes=1) {v:Value} {n:Nat} {xs:List Value} (c:w.ownsRow 0 e 1 v n xs) (s:BA) (d:n+s.size<=140737488355328):∃ v' w',(Builtin.append_ #[t,u] ty #[v, .string s]).run P w = .ok v' w'/\w'.ownsRow 0 e 1 v' (n+s.size) (xs++Lib.strCells s)/\w.grownBy w' v.ownBlock/\(∀ b,v'.ownBlock=some b->v.ownBlock=some b\/w.heap.size<=b)/\(s.size=0->v'=v):=by
 have hm:n+s.size<=maxLen:=by unfold maxLen;omega
 have o:xs.length=n:=by simpa using c.1
 obtain ⟨v',w',h1,r,x,E⟩:=Lib.run_append_own_string w 0 t u ty e i ht p hi q a k v n xs c s hm d (qaj _);have F:s.size=0->xs++Lib.strCells s=xs:=fun h0=>by have:Lib.strCells s=[]:=qar (by rw [Lib.strCells_length];exact h0);rw [this,List.append_nil]
 rcases c.2 with ⟨rfl,rfl⟩ | ⟨g,cap,cur,rfl,y,B,G,H,z,A⟩
 ·have hx:xs=[]:=qar o;subst hx;obtain ⟨v2,w2,k1,k2,k3,k4⟩:=Lib.run_append_own_string w w.heap.size t u ty e i ht p hi q a k (.slice none 0 0) 0 [] (World.ownsRow_nil w _ e 1) s hm d (qw _);rw [h1] at k1;injection k1 with k5 k6;subst k5 k6;refine ⟨v',w',h1,r,x,fun b f => .inr ?_,fun h0=>E.2 ⟨rfl,h0⟩⟩;rcases k2.2 with ⟨rfl,_⟩ | ⟨g,cap,cur,rfl,y,_⟩;cases f
  ·have:g=b:=(by simpa [Value.ownBlock] using f);omega
 ·have C:cur.size=cap:=by simpa using z
  have h:=Src.ofString (P:=P) w p s;by_cases l:n+s.size<=cap
  ·have hr:=run_append_room_src (P:=P) w t u ty e i ht hi g 0 n cap (.string s) s.size _ (by rw [a];exact h) l (fun j D=>by rw [byteCells_length] at D;rw [a,Lib.cell_of_heap B,qbb (by omega)];rfl) (fun j D=>Lib.frozen_of_heap B _);rw [h1] at hr;injection hr with k5 k6;refine ⟨v',w',h1,r,x,fun b f => .inl ?_,fun h0=>?_⟩;rw [k5] at f;exact f
   ·rw [k5,h0];rfl
  ·have m:∀ j u,xs[j]?=some u->w.cell? ((⟨g,0,none⟩:Addr).add j)=some u:=c.cells (g:=g) rfl;have hr:=run_append_grow_src (P:=P) w t u ty e i (.int .u8 0) ht hi q (some ⟨g,0,none⟩) n cap xs (run_firstCells_some w.drew i.size n ⟨g,0,none⟩ n cap xs (by rw [a];simpa using o) (by simpa using m)) (.string s) s.size _ (by rw [a];exact h) (by omega) (by omega) (by rw [k];exact growslice_fits (by omega) (by omega));rw [h1] at hr;injection hr with k5 k6;refine ⟨v',w',h1,r,x,fun b f => .inr ?_,fun h0=>?_⟩;rw [k5] at f;injection f with f;simp at f;omega
   ·omega
theorem kabu {x y:Operand} {e u:TypeId} {n:Nat} (xs:List FV) {s:BA} {i:TypeInfo} (ho:o.op = .call { callee := .builtin .append,args:=#[x,y],argTypes:=#[t,u] }) (hd:TdOk P t d) (hk:d.kind = .slice e) (hu:P.underlying u=some .string) (hi:P.info? e=some i) (Q:i.zero=some (.int .u8 0)) (B:i.size=1) (R:i.bytes=1) (hx:st.eval x = .row id n) (D:kaa st.heap id=some (.frow e 1 xs)) (hn:n=xs.length) (hy:st.eval y = .fz (.atom (.string s))) (E:xs.length+s.size<=140737488355328):
  StepA P o st (.row id (xs.length+s.size)) ((id, .frow e 1 (xs++(ofBA s).map eU8))::st.heap) st.ids:=by
 subst hn;intro F S0 N0 ψ S a w C;have p:=C.core;obtain ⟨T,⟨h0,G,cs,g,H,hr⟩,U⟩:=p.obj id _ D;have hv:=C.eval x;rw [hx] at hv;have V:a.eval x=ψ.val id:=by
  generalize a.eval x=u at hv;cases hv with
  | row hK hn h1 hv=>exact hv h0.symm
 have q:=C.eval y;rw [hy] at q;have q:=q.atom;obtain ⟨v',w',r,l,f,I,J⟩:=k1y o.type (hd.slice hk) hu hi Q B R g s E;have hcl:cs.length=xs.length:=by simpa using g.1
 have K:((ofBA s).map eU8).length=s.size:=by simp [ofBA]
 have L:(xs++(ofBA s).map eU8).length=xs.length+s.size:=by rw [qy,K]
 have M:ψ.len id<xs.length+s.size\/(ψ.len id=xs.length+s.size/\v'=ψ.val id):=by
  by_cases X:s.size=0;refine .inr ⟨by omega,J X⟩
  ·exact .inl (by omega)
 have A:∀ k,k<w.heap.size->¬ Blk (ψ.val id) k->w'.heap[k]?=w.heap[k]?:=fun k hk Y=>f.block k hk fun e=>Y (kyc g e.symm);have Z:Same S w w':=fun k hk hl=>A k hl fun e=>(U k e).1 hk;obtain ⟨c1,c2,c3⟩:=p.upd (n:=xs.length+s.size) (v:=v') (w':=w') (ob' := .frow e 1 (xs++(ofBA s).map eU8)) D f.size A M (fun b hb=>by
   rcases I b (k83 l hb) with h | h;exact .inl (kyc g h)
   ·exact .inr h)
  ⟨by rw [kbv,L],G,cs++Lib.strCells s,by rw [kan,L];exact l,fun z Q=>(qa7.1 Q).elim (H z) (fun h=>by obtain ⟨m,_,rfl⟩:=qaz.1 h;exact ⟨rfl,fun y hy=>by simp [eU8,FV.cells] at hy;subst hy;rfl⟩),(RowR.append G (fun i x j v y h1 O N=>hr i x j v y h1 O N) (fun i x j v y h1 O N=>by simp only [qr,qm] at h1;obtain ⟨m,hm,rfl⟩:=h1;have hj:j=0:=(by have:=(qj.1 N).1;simp [eU8,FV.cells] at this;exact this);subst hj;simp [eU8,FV.cells] at N;subst N;simp only [ofBA,qr,qm] at hm;obtain ⟨c,hc,rfl⟩:=hm;simp only [Lib.strCells,qr,Nat.mul_one,Nat.add_zero,hc,qa9,qc] at O;subst O;exact .atom rfl) g.1 H).keep Z⟩
 refine kad w' v' ?_ ⟨_,S,c1, .row T (by rw [kbv];exact qw _) (k8u l) (fun _=>(kan _ _).symm),⟨f.os,f.tape,f.output,f.size,c3,fun _=>kwl r⟩,kul M,fun _ h=>h,fun _ h=>h,c2⟩;simp only [execOp,ho,resolve,invoke,builtin,Sem.run_bind,Sem.run_pure,Result.andThen_ok,List.map_toArray,qa8,List.map_nil,V,q,r]
theorem k3d (x y:Operand) (e u:TypeId) (n:Nat) (xs:List Int) {r:List Int} (s:BA) (i:TypeInfo) (h:appS xs s=some r) (f:TOk P T) (hn:n=xs.length) (hy:st.eval y = .fz (.atom (.string s)):=by kernel_rfl) (g:o.op = .call { callee := .builtin .append,args:=#[x,y],argTypes:=#[t,u] }:=by kernel_rfl) (hd:kae T t=some d:=by kernel_rfl) (hk:d.kind = .slice e:=by kernel_rfl) (j:P.underlying u=some .string:=by kernel_rfl) (hi:P.info? e=some i:=by kernel_rfl) (k:i.zero=some (.int .u8 0):=by kernel_rfl) (a:i.size=1:=by kernel_rfl) (b:i.bytes=1:=by kernel_rfl) (hx:st.eval x = .row id n:=by kernel_rfl) (c:kaa st.heap id=some (.frow e 1 (xs.map eU8)):=by kernel_rfl):
  StepA P o st (.row id r.length) ((id, .frow e 1 (r.map eU8))::st.heap) st.ids:=by
 unfold appS at h;split at h
 ·rename_i hl;injection h with h;subst h;have:=kabu (id:=id) (P:=P) (xs.map eU8) g (f.get hd) hk j hi k a b hx c (by rw [hn];simp) hy (by simpa using hl);rw [qaw,<- List.map_append] at this;have hl:(xs++ofBA s).length=xs.length+s.size:=by simp [ofBA]
  rw [hl];exact this
 ·cases h
theorem kza (x:Operand) (ts:Array TypeId) (e e':TypeId) (size n:Nat) (xs:List FV) (c:n=xs.length) (m:o.op = .call { callee := .builtin .unsafeSliceData,args:=#[x],argTypes:=ts }:=by kernel_rfl) (i:P.underlying o.type=some (.pointer e'):=by kernel_rfl) (hx:st.eval x = .row id n:=by kernel_rfl) (j:kaa st.heap id=some (.frow e size xs):=by kernel_rfl):
  NStep P o st (.sdp id n):=by
 intro ψ S a w k p;have h0:=Sim.eval_tmps k x;rw [hx] at h0;obtain ⟨k0,q,cs,d,_⟩:=p id _ j;have key:∀ v w' u,(Builtin.unsafeSliceData_ ts o.type #[u]).run P w = .ok v w'->a.eval x=u->(execOp a.eval o).run P w = .ok (.value v) w':=fun v w' u h f=>by simp only [execOp,m,resolve,invoke,builtin,Sem.run_bind,Sem.run_pure,Result.andThen_ok,List.map_toArray,qa8,List.map_nil,f,h]
 generalize f:a.eval x=u at h0;cases h0 with
 | row hK hn h1 hv=>
  have l:n=ψ.len id:=by rw [k0,c]
  ·obtain rfl:=hv l;rcases d.2 with ⟨b,c⟩ | ⟨g,cap,cur,b,r,s,t,y,z,A⟩;refine kad w (.pointer none) (key _ _ _ (by rw [b];exact Lib.run_unsafeSliceData_nil w _ _ _ _) f) ⟨kaf _, .sdp hK hn rfl fun _=>⟨⟨_,rfl⟩,fun h=>by omega⟩⟩
   ·by_cases hc:cap=0;subst hc;have hr:=Lib.run_unsafeSliceData_zero (P:=P) w ts o.type e' i ⟨g,0,none⟩ xs.length _ (kuy s);refine kad (w.alloc (.view ⟨g,0,none⟩ e')) (.pointer (some ⟨w.heap.size,0,none⟩)) (key _ _ _ (by rw [b];exact hr) f) ⟨kbn _ _, .sdp hK hn rfl fun _=>⟨⟨_,rfl⟩,fun h=>by omega⟩⟩
    ·refine kad w (.pointer (some ⟨g,0,none⟩)) (key _ _ _ (by rw [b];exact Lib.run_unsafeSliceData_row w _ _ _ _ _ hc) f) ⟨kaf _, .sdp hK hn rfl fun _=>⟨⟨_,rfl⟩,fun h=>⟨g,by rw [b];rfl,rfl⟩⟩⟩
theorem kxp:∀ (l:List Int) (a:Addr) (acc:BA),(∀ (j:Nat) (x:Int),l[j]?=some x->w.cell? (a.add j)=some (.int .u8 x))->(loadBytes a acc l.length).run P w = .ok (l.foldl (fun r n=>r.push (UInt8.ofNat n.toNat)) acc) w
 | [],a,acc,_=>by simp [loadBytes]
 | x::l,a,acc,h=>by
  have h0:w.cell? a=some (.int .u8 x):=by have:=h 0 x rfl;simpa [Addr.add] using this
  have ih:=kxp l (a.add 1) (acc.push x.toNat.toUInt8) (fun j y hy=>by
   have:=h (j+1) y (by simpa using hy);have e:(a.add 1).add j=a.add (j+1):=by
    unfold Addr.add;by_cases b:j=0;subst b;simp
    ·simp [b];omega
   rw [e];exact this)
  simp only [qad,loadBytes,Sem.run_bind,run_load,h0,Result.andThen];rw [ih];rfl
theorem kue (pt it ty e:TypeId) (hp:P.underlying pt=some (.pointer e)) (hc:P.cellsOf e=1) (g cells:Nat) (k:w.shape? g=some (e,cells)) (l:List Int) (h0:l≠[]) (hn:l.length<=cells) (o:l.length<=9223372036854775807)
  (b:∀ (j:Nat) (x:Int),l[j]?=some x->w.cell? ((⟨g,0,none⟩:Addr).add j)=some (.int .u8 x)):
  (Builtin.unsafeString_ #[pt,it] ty #[.pointer (some ⟨g,0,none⟩), .int .i64 l.length]).run P w = .ok (.string (toBA l)) (w.freeze ⟨g,0,none⟩ l.length):=by
 have hl:l.length≠0:=by simpa using h0
 have m:=kxp (P:=P) (w:=w) l ⟨g,0,none⟩ .empty b;have c:=Lib.liesAt_bytes (P:=P) hc (cells / P.cellsOf e) l.length (by rw [hc];simpa using hn);have d:¬ (9223372036854775807:Int)<(l.length:Int):=by omega
 have f:Builtin.unsafeString_ #[pt,it] ty #[.pointer (some ⟨g,0,none⟩), .int .i64 l.length] =
   (do
    let n <- asInt (.int .i64 l.length)
    if n < 0 then runtimePanic (.error "unsafe.String: len out of range")
    if n > IntKind.i64.max then unsupported (.unsafePointer "String: a length above the largest int")
    if n=0 then pure (.string .empty)
    else if <- variablesAt ⟨g,0,none⟩ (<- elemOf pt) n.toNat then do
     let s <- loadBytes ⟨g,0,none⟩ .empty n.toNat
     freeze ⟨g,0,none⟩ n.toNat
     pure (.string s)
    else unsupported (.unsafePointer "String: not so many bytes at ptr")) := rfl
 rw [f];have h:IntKind.i64.max=9223372036854775807:=rfl;have i:¬ (l.length:Int)<0:=by omega
 simp [asInt,asIntOf,h,d,i,hl,variablesAt,k,elemOf,run_underlying hp,c,m,toBA]
theorem kuh (x y:Operand) (pt it e:TypeId) {n:Nat} (xs:List Int) (hn:n=xs.length) (hy:st.eval y = .fz (.atom (.int .i64 (xs.length:Int))):=by kernel_rfl) (r:o.op = .call { callee := .builtin .unsafeString,args:=#[x,y],argTypes:=#[pt,it] }:=by kernel_rfl) (hp:P.underlying pt=some (.pointer e):=by kernel_rfl) (hc:P.cellsOf e=1:=by kernel_rfl) (hx:st.eval x = .sdp id n:=by kernel_rfl) (C:kaa st.heap id=some (.frow e 1 (xs.map eU8)):=by kernel_rfl):StepA P o st (.fz (eS (toBA xs))) (ked id st.heap) st.ids:=by
 intro F S0 N0 ψ S a w hs;have h0:=hs.eval x;rw [hx] at h0;have G:=hs.eval y;rw [hy] at G;have G:=G.atom;have c:=hs.core;obtain ⟨aa,⟨k0,ab,cs,s,_,I⟩,D⟩:=c.obj id _ C;have J:ψ.len id=xs.length:=by rw [k0];simp
 have z:∀ w',(∀ k,¬ Blk (ψ.val id) k->w'.heap[k]?=w.heap[k]?)->w'.heap.size=w.heap.size->Same S w w'/\Core F S0 N0 (ked id st.heap) st.ids ψ S w':=fun w' f d=>by have hk:Same S w w':=fun k hk hl=>f k fun e=>(D k e).1 hk;refine ⟨hk,fun i ob r=>?_,fun i i' ob ob' b r K=>c.inj i i' ob ob' b (kfg id r).2 (kfg id K).2,fun b l=>by rw [d];exact c.lt b l,c.s0,by rw [d];exact c.n0,fun b l=>by rw [d];exact c.fr b l⟩;obtain ⟨A,r⟩:=kfg id r;obtain ⟨m1,m2,m3⟩:=c.obj i ob r;exact ⟨m1,m2.keep Ext.refl (fun _ h=>h) (fun _ h=>h) hk ⟨rfl,rfl⟩ fun b l=>f b fun e=>c.inj i id ob _ b r C A l e,m3⟩
 have fin:∀ w' u,a.eval x=u->(∀ k,¬ Blk (ψ.val id) k->w'.heap[k]?=w.heap[k]?)->w'.heap.size=w.heap.size->w'.os=w.os->w'.tape=w.tape->w'.output=w.output->(Builtin.unsafeString_ #[pt,it] o.type #[u, .int .i64 xs.length]).run P w = .ok (.string (toBA xs)) w' ->
   kek P o a w fun v w'=>∃ ψ' S',Core F S0 N0 (ked id st.heap) st.ids ψ' S' w'/\RV ψ' (·∈st.ids) S' w' v (.fz (eS (toBA xs)))/\Fr F w w'/\Ext (·∈st.ids) ψ ψ'/\(∀ id,id∈st.ids->id∈st.ids)/\(∀ b,S b->S' b)/\Same S w w':=fun w' u H f d L M N t=>by
  obtain ⟨d1,d2⟩:=z w' f d;refine kad w' (.string (toBA xs)) ?_ ⟨ψ,S,d2, .fz (.atom rfl),⟨L,M,N,by omega,fun b l=>f b fun e=>(D b e).2.1 l,fun _=>kwl t⟩,Ext.refl,fun _ h=>h,fun _ h=>h,d1⟩;simp only [execOp,r,resolve,invoke,builtin,Sem.run_bind,Sem.run_pure,Result.andThen_ok,List.map_toArray,qa8,List.map_nil,H,G,t]
 generalize H:a.eval x=u at h0;cases h0 with
 | sdp hK ac h1 hv=>
  obtain ⟨⟨p,rfl⟩,O⟩:=hv (by rw [hn,J]);by_cases Q:xs=[];subst Q;exact fin w _ H (fun _ _=>rfl) rfl rfl rfl rfl (Lib.run_unsafeString_none w pt it o.type p)
  ·have E:0<n:=(by rw [hn];exact List.length_pos_iff.2 Q);obtain ⟨b,l,B⟩:=O E;injection B with B;subst B;rcases s.2 with ⟨q,ad⟩ | ⟨g,cap,cur,q,ae,X,af,R,T,U⟩;rw [q] at l;cases l
   ·rw [q] at l;injection l with l;simp at l;subst l;have ag:(xs.map eU8).length=xs.length:=(by simp);have Y:cur.size=cap:=(by simpa using T);refine fin (w.freeze ⟨g,0,none⟩ xs.length) _ H (fun k hk=>?_) ?_ ?_ ?_ ?_ (kue pt it o.type e hp hc g cur.size (kuy X) xs Q (by omega) (by unfold maxLen at R;omega) fun j x Z=>?_)
    ·rw [q] at hk;have A:k≠g:=fun e=>hk (.of (by rw [e];rfl));unfold World.freeze;split;rfl
     ·simp only [Array.getElem?_modify];rw [ql (fun e=>A e.symm)]
    unfold World.freeze;split <;> simp;unfold World.freeze;split <;> rfl;unfold World.freeze;split <;> rfl;unfold World.freeze;split <;> rfl
    ·have ah:j<xs.length:=(qj.1 Z).1;have hcl:cs.length=xs.length:=(by simpa using s.1);have m:cs[j]?=some (cs[j]'(by omega)):=qb _;have V:=I j (eU8 x) 0 _ (eU8 x) (by rw [qr,Z];rfl) (by rw [Nat.mul_one,Nat.add_zero];exact m) rfl;rw [k84 V] at m;rw [kck,Lib.cell_of_heap X];have:cur.toList[j]?=some (.int .u8 x):=by
      rw [<- U] at m;rw [q9] at m;split at m;exact m
      ·cases m
     simpa using this
theorem kwk (d:TD) (id:Nat) (x:Operand) (e e2:TypeId) (size n:Nat) (xs:List FV) (k:TOk P T) (hk:d.kind = .slice e2) (l:o.op = .call { callee := .builtin .len,args:=#[x],argTypes:=#[t] }:=by kernel_rfl) (hd:kae T t=some d:=by kernel_rfl) (hx:st.eval x = .row id n:=by kernel_rfl) (i:kaa st.heap id=some (.frow e size xs):=by kernel_rfl) (c:n=xs.length:=by simp):
  NStep P o st (.fz (.atom (.int .i64 n))):=by
 intro ψ S a w j m;have h0:=Sim.eval_tmps j x;rw [hx] at h0;obtain ⟨k0,p,cs,f,_⟩:=m id _ i;have hv:∃ A cap,a.eval x = .slice A n cap:=by
  generalize a.eval x=u at h0;cases h0 with
  | row hK hn h1 hv=>
   obtain rfl:=hv (by rw [k0,c]);rcases f.2 with ⟨b,h⟩ | ⟨g,cap,cur,b,_⟩;exact ⟨none,0,by rw [b,c,h]⟩
   ·exact ⟨some ⟨g,0,none⟩,cap,by rw [b,c]⟩
 obtain ⟨A,cap,hv⟩:=hv;refine kad w (.int .i64 n) ?_ ⟨kaf _, .fz (.atom rfl)⟩;simp [execOp,l,resolve,invoke,builtin,Builtin.len_,run_underlying ((k.get hd).slice hk),hv,goInt]
theorem kacd {s:Value} {size m:Nat} {zs:List FV} (hs:RF S w s (.lst size m zs)):∃ A cap news,s = .slice A m cap/\m=zs.length/\m<=cap/\cap<=9223372036854775807/\news.length=zs.length*size/\(∀ u∈news,u.oneCell'=true)/\RowR S w size zs news/\ElR size zs /\
  ((A=none/\zs=[])\/(zs=[]/\∃ ad,A=some ad)\/∃ ad,A=some ad/\∀ j u,news[j]?=some u->w.cell? (ad.add j)=some u):=by
 obtain ⟨A,cap,css,rfl,rfl,hc,hm,k,ha,hl,hr⟩:=hs.lst_inv;have a:ElR size zs:=fun x hx=>by obtain ⟨i,hi,rfl⟩:=qaf.1 hx;exact (hl i _ (qb hi)).2
 by_cases e:zs=[]
 ·subst e;refine ⟨A,cap,[],rfl,rfl,hc,hm,by simp,(fun u h=>by cases h),(fun i x j v y h=>by simp at h),a,?_⟩;cases A with
  | none=>exact .inl ⟨rfl,rfl⟩
  | some ad=>exact .inr (.inl ⟨rfl,ad,rfl⟩)
 ·obtain ⟨y0,ys,rfl⟩:∃ y0 ys,zs=y0::ys:=by
   cases zs with
   | nil=>exact absurd rfl e
   | cons y ys=>exact ⟨y,ys,rfl⟩
  obtain ⟨b,off,rfl,_,_⟩:=ha 0 y0 rfl;obtain ⟨news,hn,d,o⟩:=k22 (b:=b) (w:=w) (size:=size) (Q:=fun c y=>(∀ j v z,c[j]?=some v->y.cells[j]?=some z->RF S w v z)/\(∀ u∈c,u.oneCell'=true)) (y0::ys) off fun i y hy=>by obtain ⟨b',o',hA,_,d⟩:=ha i y hy;injection hA with hA;injection hA with e1 e2;subst e1 e2;obtain ⟨l1,l2,l3⟩:=hl i y hy;refine ⟨css i,d,l1,fun j v z hv k=>hr i y j v z hy hv k,fun u l=>?_⟩;obtain ⟨j,f,rfl⟩:=qaf.1 l;have g:j<y.cells.length:=(by omega);exact (hr i y j _ _ hy (qb f) (qb g)).one (l3 _ (qv g))
  refine ⟨some ⟨b,off,none⟩,cap,news,rfl,rfl,hc,hm,hn,fun u l=>?_,fun i x j v y hx hv hy=>?_,a, .inr (.inr ⟨_,rfl,fun j u h=>by rw [kck];exact d j u h⟩)⟩;obtain ⟨j,f,rfl⟩:=qaf.1 l;have n:j / size<(y0::ys).length:=(by rw [Nat.div_lt_iff_lt_mul k];omega);refine (o (j / size) _ (qb n)).2 _ ?_;rw [qbl];refine ⟨j % size,?_⟩;rw [q9,qs (Nat.mod_lt _ k),qag,show j / size*size+j % size=j by rw [Nat.mul_comm];exact Nat.div_add_mod j size];exact qb f
  ·have f:j<size:=(by have:=(qj.1 hy).1;rw [(a x (qu hx)).1] at this;exact this);refine (o i x hx).1 j v y ?_ hy;rw [q9,qs f,qag];exact hv
def fI (x:Int):AV := .fz (eI x)
def fB (x:Bool):AV := .fz (eB x)
def fS (x:BA):AV := .fz (eS x)
end Go.Proofs.YtgebfaidgikieaaGreatDoor
set_option linter.all false
namespace Go.Proofs.YtgebfaidgikieaaGreatDoor
open Go Go.RowKit
def kf6 (a b:BA):Bool:=Op.bytesLess a.toList b.toList
mutual
def cmpV:Va->Va->Int
 | .mk t n s l, .mk t' n' s' l'=>
  if t<t' then -1 else if t'<t then 1 else if n<n' then -1 else if n'<n then 1 else if kf6 s s'=true then -1 else if kf6 s' s=true then 1 else khc l l'
def khc:List Va->List Va->Int
 | [],[]=>0
 | [],_::_ => -1
 | _::_,[]=>1
 | x::l,y::m=>if cmpV x y≠0 then cmpV x y else khc l m
end
def eqV (a b:Va):Bool:=decide (cmpV a b=0)
theorem kof:∀ l:List UInt8,Op.bytesLess l l=false
 | []=>rfl
 | x::l=>by simp [Op.bytesLess,kof l]
theorem ku1:∀ l m:List UInt8,Op.bytesLess l m=false->Op.bytesLess m l=false->l=m
 | [],[],_,_=>rfl
 | [],y::m,h,_=>by simp [Op.bytesLess] at h
 | x::l,[],_,h=>by simp [Op.bytesLess] at h
 | x::l,y::m,h,a=>by
  simp only [Op.bytesLess,Bool.or_eq_false_iff,Bool.and_eq_false_iff,decide_eq_false_iff_not,qam] at h a;have b:x=y:=by have h1:=h.1;have c:=a.1;exact UInt8.le_antisymm (UInt8.not_lt.1 c) (UInt8.not_lt.1 h1)
  subst b;rw [ku1 l m (h.2.resolve_left fun h=>h rfl) (a.2.resolve_left fun h=>h rfl)]
theorem kne {a b:BA} (h:a.toList=b.toList):a=b:=by rw [ByteArray.toList_eq,ByteArray.toList_eq] at h;obtain ⟨⟨a⟩⟩:=a;obtain ⟨⟨b⟩⟩:=b;simp at h;rw [h]
theorem k1r (a:BA):kf6 a a=false:=kof _
theorem k7o {a b:BA} (h:kf6 a b=false) (c:kf6 b a=false):a=b:=kne (ku1 _ _ h c)
theorem k94 (l:List Va) (h:∀ x∈l,cmpV x x=0):khc l l=0:=by
 induction l with
 | nil=>rfl
 | cons x l ih=>
  rw [khc,ql (by simp [h x (by simp)])];exact ih fun y hy=>h y (by simp [hy])
theorem kacj (v:Va):cmpV v v=0:=by
 induction v using Va.ind with
 | h t n s l ih=>
  rw [cmpV,ql (by omega),ql (by omega),ql (by omega),ql (by omega),k1r];simp only [Bool.false_eq_true,if_false];exact k94 l ih
theorem k7p:∀ (l m:List Va),(∀ x∈l,∀ y,cmpV x y=0->x=y)->khc l m=0->l=m
 | [],[],_,_=>rfl
 | [],_::_,_,h=>by simp [khc] at h
 | _::_,[],_,h=>by simp [khc] at h
 | x::l,y::m,ih,h=>by
  rw [khc] at h;split at h;rename_i h1;exact absurd h h1
  ·rename_i h1;have h1:cmpV x y=0:=(by omega);rw [ih x (by simp) y h1,k7p l m (fun z a=>ih z (by simp [a])) h]
theorem kaho (v:Va):∀ u,cmpV v u=0->v=u:=by
 induction v using Va.ind with
 | h t n s l ih=>
  rintro ⟨t',n',s',l'⟩ h;rw [cmpV] at h
  repeat' split at h
  all_goals try (exfalso;omega)
  rename_i h1 c d e a b;obtain rfl:t=t':=by omega
  obtain rfl:n=n':=by omega
  obtain rfl:s=s':=k7o (by simpa using a) (by simpa using b);rw [k7p l l' ih h]
theorem kad7 (v:Va):eqV v v=true:=by unfold eqV;rw [kacj];rfl
theorem knx:fuel=18446744073709551615+1:=rfl
theorem ka9 {n:Nat} (h:n<18446744073709551616):n<fuel:=h
theorem kje {n:Int} (h: -9223372036854775808<=n:=by omega) (a:n<=9223372036854775807:=by omega):w64 n=n:=by
 unfold w64 IntKind.wrap IntKind.signed IntKind.bits;simp only;rw [show (2:Int) ^ 64=18446744073709551616 from rfl];by_cases h0:0<=n;have:n % 18446744073709551616=n:=Int.emod_eq_of_lt h0 (by omega);simp [this];omega
 ·have:n % 18446744073709551616=n+18446744073709551616:=by rw [<- Int.add_emod_right,Int.emod_eq_of_lt (by omega) (by omega)]
  simp [this];omega
theorem ka1 (n:Nat) (h:n<=9223372036854775806:=by omega):w64 ((n:Int)+1)=((n+1:Nat):Int):=by rw [kje];omega
theorem kag {α:Type} (xs:List α) (n:Nat):idx xs (n:Int)=xs[n]?:=by unfold idx;rw [qs (by omega)];simp
theorem kagy (s:BA) (n:Nat):byt s (n:Int)=(s[n]?).map fun c=>(c.toNat:Int):=by unfold byt;rw [qs (by omega)];simp
theorem k51 {α:Type} {b:Nat} {xs ys:List α} (h:(xs.length+ys.length)*(b+1)<=140737488355328):app b xs ys=some (xs++ys):=by unfold app;rw [qs h]
theorem kakc {s u:BA} (h:s.size+u.size<=9223372036854775807):cat s u=some (s++u):=by unfold cat;rw [qs h]
variable {σ β:Type} {step:σ->Option (σ ⊕ β)}
theorem k7r (n:Nat) (S:Nat->σ) (out:Nat->β) (hs:∀ i,i<n->(step (S i)=some (.inl (S (i+1)))/\out i=out (i+1))\/step (S i)=some (.inr (out i))) (a:step (S n)=some (.inr (out n))):
  ∀ (k i:Nat),i<=n->n - i<k->kab step k (S i)=some (out i)
 | 0,i,_,h=>by omega
 | k+1,i,hi,hk=>by
  rw [kab];by_cases h:i=n;subst h;rw [a]
  ·rcases hs i (by omega) with ⟨h1,b⟩ | h1;rw [h1,b];exact k7r n S out hs a k (i+1) (by omega) (by omega)
   ·rw [h1]
theorem ki5 (step:σ->Option (σ ⊕ β)) (n:Nat) (S:Nat->σ) (out:Nat->β) (hs:∀ i,i<n->(step (S i)=some (.inl (S (i+1)))/\out i=out (i+1))\/step (S i)=some (.inr (out i))) (a:step (S n)=some (.inr (out n))) (hn:n<18446744073709551616:=by omega):
  kab step fuel (S 0)=some (out 0):=k7r n S out hs a fuel 0 (qaj _) (ka9 (by omega))
theorem kuv (step:σ->Option (σ ⊕ β)) (n:Nat) (hn:n<18446744073709551616) (S:Nat->σ) (b:β) (hs:∀ i,i<n->step (S i)=some (.inl (S (i+1)))) (a:step (S n)=some (.inr b)):kab step fuel (S 0)=some b:=
 ki5 _ n S (fun _=>b) (fun i hi => .inl ⟨hs i hi,rfl⟩) a (hn:=hn)
theorem knv (step:σ->Option (σ ⊕ β)) (step':σ->Option (σ ⊕ β)) (n:Nat) (S:Nat->σ) (hs:∀ i,i<n->(step (S i)=some (.inl (S (i+1)))/\step' (S i)=some (.inl (S (i+1))))\/∃ b,step (S i)=some (.inr b)/\step' (S i)=some (.inr b)) (b:β) (e:step (S n)=some (.inr b)) (a:step' (S n)=some (.inr b)) (hn:n<18446744073709551616:=by omega):∃ r,kab step fuel (S 0)=some r/\kab step' fuel (S 0)=some r:=by
 have key:∀ (k i:Nat),i<=n->n - i<k->∃ r,kab step k (S i)=some r/\kab step' k (S i)=some r:=by
  intro k
  induction k with
  | zero=>intro i _ h;omega
  | succ k ih=>
   intro i hi hk;rw [kab,kab];by_cases h:i=n;subst h;rw [e,a];exact ⟨b,rfl,rfl⟩
   ·rcases hs i (by omega) with ⟨h1,d⟩ | ⟨c,h1,d⟩;rw [h1,d];exact ih (i+1) (by omega) (by omega)
    ·rw [h1,d];exact ⟨c,rfl,rfl⟩
 exact key fuel 0 (qaj _) (ka9 (by omega))
theorem kiq {σ β σ' β':Type} {step:σ->Option (σ ⊕ β)} {step':σ'->Option (σ' ⊕ β')} (n:Nat) (hn:n<18446744073709551616) (S:Nat->σ) (S':Nat->σ') (Q:β->β'->Prop)
  (hs:∀ i,i<n->(step (S i)=some (.inl (S (i+1)))/\step' (S' i)=some (.inl (S' (i+1))))\/∃ b b',step (S i)=some (.inr b)/\step' (S' i)=some (.inr b')/\Q b b')
  (d:∃ b b',step (S n)=some (.inr b)/\step' (S' n)=some (.inr b')/\Q b b'):∃ r r',kab step fuel (S 0)=some r/\kab step' fuel (S' 0)=some r'/\Q r r':=by
 have key:∀ (k i:Nat),i<=n->n - i<k->∃ r r',kab step k (S i)=some r/\kab step' k (S' i)=some r'/\Q r r':=by
  intro k
  induction k with
  | zero=>intro i _ h;omega
  | succ k ih=>
   intro i hi hk;rw [kab,kab];by_cases h:i=n;subst h;obtain ⟨b,b',h1,a,c⟩:=d;rw [h1,a];exact ⟨b,b',rfl,rfl,c⟩
   ·rcases hs i (by omega) with ⟨h1,a⟩ | ⟨b,b',h1,a,c⟩;rw [h1,a];exact ih (i+1) (by omega) (by omega)
    ·rw [h1,a];exact ⟨b,b',rfl,rfl,c⟩
 exact key fuel 0 (qaj _) (ka9 (by omega))
variable [Dr]
def ks7 (id:Nat):AV->List Nat
 | .row k m=>bif Nat.beq k id then [m] else []
 | _=>[]
def k4q (id:Nat):AV->List Nat
 | .agg cs=>cs.flatMap (ks7 id)
 | .fn _ cs=>cs.flatMap (ks7 id)
 | y=>ks7 id y
def kx5 (id:Nat):AV->List Nat
 | .tup cs=>cs.flatMap (k4q id)
 | y=>k4q id y
def k1a (id:Nat):AObj->List Nat
 | .box _ cs=>cs.flatMap (ks7 id)
 | _=>[]
def frz1 (id:Nat) (x:FV):AV->AV
 | .row k m=>bif Nat.beq k id then .fz x else .row k m
 | y=>y
def frzG (id:Nat) (x:FV):AV->AV
 | .agg cs=>aggA (cs.map (frz1 id x))
 | .fn f cs => .fn f (cs.map (frz1 id x))
 | y=>frz1 id x y
def frzT (id:Nat) (x:FV):AV->AV
 | .tup cs=>tupA (cs.map (frzG id x))
 | y=>frzG id x y
def frzO (id:Nat) (x:FV):AObj->AObj
 | .box e cs => .box e (cs.map (frz1 id x))
 | y=>y
def kab9 (id:Nat) (st:St):List Nat:=st.tmps.flatMap (fun p=>kx5 id p.2)++(ked id st.heap).flatMap (fun p=>k1a id p.2)
def frzSt (id:Nat) (x:FV) (st:St):St:={ dfr:=st.dfr,n:=st.n,tmps:=st.tmps.map (fun p=>(p.1,frzT id x p.2)),heap:=(ked id st.heap).map (fun p=>(p.1,frzO id x p.2)),ids:=st.ids }
variable {F S0:Nat->Prop} {N0:Nat} {w:World} {S:Nat->Prop} {ψ:Env} {K:Nat->Prop} {id n:Nat} {x:FV} {st:St}
theorem kyw (hx:∀ v,RV ψ K S w v (.row id n)->RF S w v x) {v:Value} {y:AV} (h:RV ψ K S w v y) (hr:∀ m∈ks7 id y,m=n):RV ψ K S w v (frz1 id x y):=by
 cases y with
 | row k m=>
  simp only [frz1];cases a:Nat.beq k id with
  | false=>exact h
  | true=>
   have hk:=qi a;subst hk;have hm:m=n:=hr m (by simp [ks7]);subst hm;exact .fz (hx v h)
 | _=>exact h
theorem ky8 (hs:x.single=true) {y:AV} (h:y.single=true):(frz1 id x y).single=true:=by
 cases y with
 | row k m=>
  simp only [frz1];cases Nat.beq k id with
  | false=>exact h
  | true=>exact hs
 | _=>exact h
theorem kx7 {α β γ:Type} (R:α->γ->Prop) {Q:α->γ->Prop} {f:β->γ} {R':α->β->Prop} {cs:Array α} {xs:List β} (hr:∀ (i:Nat) (v:α) (y:β),cs[i]?=some v->xs[i]?=some y->R' v y) (b:∀ v y,y∈xs->R' v y->Q v (f y)):
  ∀ (i:Nat) (v:α) (y:γ),cs[i]?=some v->(xs.map f)[i]?=some y->Q v y:=by
 intro i v y hv hy;simp only [qr,qm] at hy;obtain ⟨z,a,rfl⟩:=hy;exact b v z (qu a) (hr i v z hv a)
theorem kyj (hs:x.single=true) (hx:∀ v,RV ψ K S w v (.row id n)->RF S w v x) {v:Value} {y:AV} (h:RV ψ K S w v y) (hr:∀ m∈k4q id y,m=n):RV ψ K S w v (frzG id x y):=by
 cases y with
 | agg cs=>
  cases h with
  | agg h h1 a=>
   refine RV.aggA (by simpa using h) (fun y hy=>?_) (kx7 (fun _ _=>True) a fun v y hy hv=>kyw hx hv fun m hm=>hr m ?_);simp only [qaz] at hy;obtain ⟨z,b,rfl⟩:=hy;exact ky8 hs (h1 z b)
   ·exact qa6.2 ⟨y,hy,hm⟩
 | fn f cs=>
  cases h with
  | fn h a=>exact .fn (by simpa using h) (kx7 (fun _ _=>True) a fun v y hy hv=>kyw hx hv fun m hm=>hr m (qa6.2 ⟨y,hy,hm⟩))
 | row k m=>exact kyw hx h hr
 | _=>exact h
theorem kahx (hs:x.single=true) (hx:∀ v,RV ψ K S w v (.row id n)->RF S w v x) {v:Value} {y:AV} (h:RV ψ K S w v y) (hr:∀ m∈kx5 id y,m=n):RV ψ K S w v (frzT id x y):=by
 cases y with
 | tup cs=>
  cases h with
  | tup h a=>exact RV.tupA (by simpa using h) (kx7 (fun _ _=>True) a fun v y hy hv=>kyj hs hx hv fun m hm=>hr m (qa6.2 ⟨y,hy,hm⟩))
 | agg cs=>exact kyj hs hx h hr
 | fn f cs=>exact kyj hs hx h hr
 | row k m=>exact kyj hs hx h hr
 | _=>exact h
theorem kaea (l:List (Nat×AV)) (t:Nat):look .any (l.map fun p=>(p.1,frzT id x p.2)) t=frzT id x (look .any l t)/\∀ m∈kx5 id (look .any l t),m∈l.flatMap (fun p=>kx5 id p.2):=by
 induction l with
 | nil=>exact ⟨rfl,fun m hm=>by cases hm⟩
 | cons p l ih=>
  obtain ⟨k,v⟩:=p;simp only [qa8,kbd,qbd,qa7];by_cases h:k=t;simp only [qs h];exact ⟨trivial,fun m hm => .inl hm⟩
  ·simp only [ql h];exact ⟨ih.1,fun m hm => .inr (ih.2 m hm)⟩
theorem kwo (id:Nat) (x:FV) (l:List (Nat×AObj)) (t:Nat):kaa (l.map fun p=>(p.1,frzO id x p.2)) t=(kaa l t).map (frzO id x)/\∀ o,kaa l t=some o->∀ m∈k1a id o,m∈l.flatMap (fun p=>k1a id p.2):=by
 induction l with
 | nil=>exact ⟨rfl,fun o h=>by cases h⟩
 | cons p l ih=>
  obtain ⟨k,v⟩:=p;simp only [qa8,kac,qbd,qa7];by_cases h:k=t;simp only [qs h];exact ⟨rfl,fun o a m hm=>by injection a with a;subst a;exact .inl hm⟩
  ·simp only [ql h];exact ⟨ih.1,fun o a m hm => .inr (ih.2 o a m hm)⟩
theorem kaj8 (id:Nat) (n k:Nat) (e:TypeId) (size:Nat) (xs:List FV) (f:kaa st.heap id=some (.frow e size xs)) (hn:n=xs.length) (g:kab9 id st=List.replicate k n:=by kernel_rfl):LeSt st (frzSt id (.lst size n xs) st):=by
 subst hn;intro F S0 N0 ψ S a w hs;obtain ⟨c1,c2⟩:=kkx hs.core f;have d:∀ m∈kab9 id st,m=xs.length:=fun m hm=>by rw [g] at hm;exact (List.mem_replicate.1 hm).2
 have h0:=(hs.core.obj id _ f).2.1.1;have hx:∀ v,RV ψ (·∈st.ids) (fun b=>S b\/kay (ψ.val id)=some b) w v (.row id xs.length)->RF (fun b=>S b\/kay (ψ.val id)=some b) w v (.lst size xs.length xs):=by
  intro v hv;cases hv with
  | row hK A h1 hv=>rw [hv (by rw [h0])];exact c2
 refine ⟨ψ,_,hs.defers,hs.size,fun t=>?_,⟨fun i o q=>?_,fun i i' o o' b q c r B=>?_,c1.lt,c1.s0,c1.n0,c1.fr⟩⟩;obtain ⟨l1,l2⟩:=kaea (id:=id) (x := .lst size xs.length xs) st.tmps t;show RV ψ (·∈st.ids) _ w (a.tmps.getD t undef) (look .any (st.tmps.map fun p=>(p.1,frzT id (.lst size xs.length xs) p.2)) t);rw [l1];refine kahx rfl hx ((hs.tmps t).mono (fun _ h=>h) fun _ h => .inl h) fun m hm=>d m ?_;exact qa7.2 (.inl (l2 m hm))
 ·obtain ⟨l1,l2⟩:=kwo id (.lst size xs.length xs) (ked id st.heap) i;have c:kaa ((ked id st.heap).map fun p=>(p.1,frzO id (.lst size xs.length xs) p.2)) i=some o:=q;rw [l1,qm] at c;obtain ⟨o',h1,rfl⟩:=c;obtain ⟨k1,k2,k7⟩:=c1.obj i o' h1;refine ⟨k1,?_,k7⟩;cases o' with
  | box e2 cells=>
   obtain ⟨g0,b,cs,g2,g3,g4,g5,g6⟩:=k2;refine ⟨g0,b,cs,g2,g3,by simpa using g4,fun y hy=>?_,kx7 (fun _ _=>True) g6 fun v y hy hv=>kyw hx hv fun m hm=>d m ?_⟩;simp only [qaz] at hy;obtain ⟨z,C,rfl⟩:=hy;exact ky8 rfl (g5 z C)
   ·exact qa7.2 (.inr (l2 _ h1 m (qa6.2 ⟨y,hy,hm⟩)))
  | _=>exact k2
 ·obtain ⟨l1,_⟩:=kwo id (.lst size xs.length xs) (ked id st.heap) i;obtain ⟨l2,_⟩:=kwo id (.lst size xs.length xs) (ked id st.heap) i';have j:kaa ((ked id st.heap).map fun p=>(p.1,frzO id (.lst size xs.length xs) p.2)) i=some o:=q;have l:kaa ((ked id st.heap).map fun p=>(p.1,frzO id (.lst size xs.length xs) p.2)) i'=some o':=c;rw [l1,qm] at j;rw [l2,qm] at l;obtain ⟨u,D,_⟩:=j;obtain ⟨u',s,_⟩:=l;exact c1.inj i i' u u' b D s r B
end Go.Proofs.YtgebfaidgikieaaGreatDoor
set_option linter.all false
namespace Go.Proofs.YtgebfaidgikieaaGreatDoor
open Go Go.RowKit
variable [Dr]
def kgl {α:Type} (s:BA):List (BA×α)->Nat->Option (Nat×α)
 | [],_=>none
 | (k,v)::l,i=>bif s.toList == k.toList then some (i,v) else kgl s l (i+1)
def mget {α:Type} (m:List (BA×α)) (s:BA) (z:α):α:=match kgl s m 0 with
 | some (_,x)=>x
 | none=>z
def mhas {α:Type} (m:List (BA×α)) (s:BA):Bool:=(kgl s m 0).isSome
def mput {α:Type} (m:List (BA×α)) (s:BA) (y:α):List (BA×α):=match kgl s m 0 with
 | some (j,_)=>m.set j (s,y)
 | none=>m++[(s,y)]
theorem kkh (a b:BA):(a.toList == b.toList)=(a == b):=by
 rw [Bool.eq_iff_iff,beq_iff_eq,MapKept.bytes_beq,ByteArray.toList_eq,ByteArray.toList_eq];constructor;intro h;exact ByteArray.ext (Array.toList_inj.1 h)
 ·intro h;rw [h]
theorem kqa {α β:Type} (f:α->β) (s:BA):∀ (m:List (BA×α)) (i:Nat),kgl s (m.map fun p=>(p.1,f p.2)) i=(kgl s m i).map fun p=>(p.1,f p.2)
 | [],_=>rfl
 | (k,v)::l,i=>by
  simp only [qa8,kgl];cases s.toList == k.toList with
  | true=>rfl
  | false=>exact kqa f s l (i+1)
theorem kvi {α β:Type} (f:α->β) (m:List (BA×α)) (s:BA) (z:α):mget (m.map fun p=>(p.1,f p.2)) s (f z)=f (mget m s z):=by
 unfold mget;rw [kqa];cases kgl s m 0 with
 | none=>rfl
 | some p=>rfl
theorem k7t {α β:Type} (f:α->β) (m:List (BA×α)) (s:BA):mhas (m.map fun p=>(p.1,f p.2)) s=mhas m s:=by
 unfold mhas;rw [kqa];cases kgl s m 0 with
 | none=>rfl
 | some p=>rfl
theorem k61 {α:Type} {s:BA}:∀ {m:List (BA×α)} {i j:Nat} {x:α},kgl s m i=some (j,x)->i<=j/\j - i<m.length/\∃ k,m[j - i]?=some (k,x)/\k=s
 | [],i,j,x,h=>by cases h
 | (k,v)::l,i,j,x,h=>by
  simp only [kgl] at h;cases a:s.toList == k.toList with
  | true=>
   rw [a] at h;simp only [qe,qc,qq] at h;obtain ⟨rfl,rfl⟩:=h;rw [kkh,MapKept.bytes_beq] at a;exact ⟨qw _,by simp,k,by simp,a.symm⟩
  | false=>
   rw [a] at h;obtain ⟨h1,d,k',b,c⟩:=k61 h;have e:j - i=(j - (i+1))+1:=(by omega);exact ⟨by omega,by simp;omega,k',by rw [e,qbn];exact b,c⟩
variable {P:Program} {F S0:Nat->Prop} {N0:Nat} {w w':World} {S S':Nat->Prop} {ψ:Env} {K:Nat->Prop} {T:List (TypeId×TD)} {o:Oper} {a:Act} {st:St} {t:TypeId} {d:TD} {id:Nat}
theorem kpr (s:BA) {R:Value->FV->Prop}:∀ (es:List MapEntry) (kv:List (BA×FV)) (i:Nat),es.length=kv.length->(∀ (j:Nat) (e:MapEntry) (p:BA×FV),es[j]?=some e->kv[j]?=some p->e.key = .string p.1/\R e.val p.2) ->
  (Instr.findNow .string (.string s) es i=some none/\kgl s kv i=none)\/∃ j v x,Instr.findNow .string (.string s) es i=some (some (j,v))/\kgl s kv i=some (j,x)/\R v x
 | [],[],i,_,_ => .inl ⟨rfl,rfl⟩
 | [],p::kv,i,h,_=>by cases h
 | e::es,[],i,h,_=>by cases h
 | e::es,(k,x)::kv,i,h,hr=>by
  obtain ⟨hk,hv⟩:=hr 0 e (k,x) rfl rfl;simp only [Instr.findNow,hk,Instr.sameNow,kgl,kkh];cases b:s == k with
  | true=>exact .inr ⟨i,e.val,x,rfl,rfl,hv⟩
  | false=>exact kpr s es kv (i+1) (by simpa using h) fun j e p a hp=>hr (j+1) e p (by simpa using a) (by simpa using hp)
theorem TdOk.mp {k e:Nat} (h:TdOk P t d) (hk:d.kind = .map k e):P.underlying t=some (.map k e):=by obtain ⟨_,e',h1,a⟩:=h;rw [hk] at a;cases e' <;> simp [kfv] at a;rw [h1,a.1,a.2]
theorem k3h (g:o.op = .makeMap t none:=by kernel_rfl) (d:st.ids.contains id=false:=by kernel_rfl):StepA P o st (.mp id) ((id, .smap [])::st.heap) (id::st.ids):=by
 have d:id∉st.ids:=by simpa using d
 intro F S0 N0 ψ S a w f;have c:=f.core;refine kad (w.alloc (.map #[] 0)) (.map (some w.heap.size)) ?_ ⟨ψ.set id 0 (.map (some w.heap.size)),S,?_,?_,kiv _ c.fr,kbm d _ _,fun _ h=>qk _ h,fun _ h=>h,Same.of_grow (kbn _ _)⟩;simp [execOp,g,Instr.makeMap];exact c.add (kbn _ _) d (fun b j=>by simp [kay] at j;omega) ⟨kbv _ _,w.heap.size,_,_,kan _ _,heap_alloc_new w _,rfl,fun i e p k hp=>by simp at k⟩
 ·exact .mp (qx ..) rfl fun _=>by rw [kan]
theorem k6q {kv:List (BA×FV)} {v:Value} (hs:ObR ψ K S w id (.smap kv)) (hv:RV ψ K S w v (.mp id)):v=ψ.val id:=by
 cases hv with
 | mp hK h1 hv=>exact hv hs.1.symm
theorem kadz {α:Type} (enc:α->FV) (m:List (BA×α)) (s:BA) (z:α) (x y:Operand) (kt et:TypeId) (kd:TD) (zv:Value) (G:o.op = .lookup t x y false) (H:TOk P T) (hd:kae T t=some d) (hk:d.kind = .map kt et) (c:kae T kt=some kd) (i:kd.kind = .str) (inf:TypeInfo) (r:P.info? et=some inf) (u:inf.zero=some zv) (A:enc z = .atom zv) (B:zv.oneCell'=true) (hx:st.eval x = .mp id:=by kernel_rfl) (C:kaa st.heap id=some (.smap (m.map fun p=>(p.1,enc p.2))):=by kernel_rfl) (hy:st.eval y = .fz (.atom (.string s)):=by kernel_rfl):NStep P o st (.fz (enc (mget m s z))):=by
 intro ψ S a w ht J;have hd:=H.get hd;have c:=H.get c;have hv:=Sim.eval_tmps ht x;rw [hx] at hv;have l:=J id _ C;have n:=k6q l hv;obtain ⟨h0,b,es,clock,g,I,D,hr⟩:=l;have f:=Sim.eval_tmps ht y;rw [hy] at f;have f:=f.atom;have E:(zeroValue et).run P w = .ok zv w:=by simp [zeroValue,typeInfo,r,u]
 have q:=MapKept.run_checkKey (w:=w) (c.str i) (k := .string s) trivial es.isEmpty 9999;rcases kpr s (R:=fun v x=>RF S w v x) es.toList (m.map fun p=>(p.1,enc p.2)) 0 (by simpa using D) (fun j e p K hp=>hr j e p (by simpa using K) hp) with ⟨f1,f2⟩ | ⟨j,v,x',f1,f2,f3⟩
 ·have F:=MapKept.run_findKey (w:=w) (c.str i) f1;refine kad w zv ?_ ⟨kaf _, .fz ?_⟩;simp [execOp,G,f,n,g,Instr.lookup,run_underlying (hd.mp hk),MapKept.run_getObj_map I,q,F,E]
  ·rw [<- kvi enc];unfold mget;rw [f2];simp only;rw [A];exact .atom B
 ·have F:=MapKept.run_findKey (w:=w) (c.str i) f1;refine kad w v ?_ ⟨kaf _, .fz ?_⟩;simp [execOp,G,f,n,g,Instr.lookup,run_underlying (hd.mp hk),MapKept.run_getObj_map I,q,F]
  ·rw [<- kvi enc];unfold mget;rw [f2];exact f3.mono fun _ h => .inl h
theorem ky9 {α:Type} (enc:α->FV) (m:List (BA×α)) (s:BA) (z:α) (x y v:Operand) (kt et:TypeId) (kd:TD) (hT:TOk P T) (hd:kae T t=some d) (l:kae T kt=some kd) (I:kd.kind = .str:=by kernel_rfl) (hx:st.eval x = .mp id:=by kernel_rfl) (K:kaa st.heap id=some (.smap (m.map fun p=>(p.1,enc p.2))):=by kernel_rfl) (hy:st.eval y = .fz (.atom (.string s)):=by kernel_rfl) (hv:st.eval v = .fz (enc z):=by kernel_rfl) (ho:o.op = .mapUpdate t x y v:=by kernel_rfl) (hk:d.kind = .map kt et:=by kernel_rfl):StepA P o st .any ((id, .smap ((mput m s z).map fun p=>(p.1,enc p.2)))::st.heap) st.ids:=by
 intro F S0 N0 ψ S a w D;have hd:=hT.get hd;have l:=hT.get l;have r:=D.core;obtain ⟨af,L,Z⟩:=r.obj id _ K;have M:=D.eval x;rw [hx] at M;have N:=k6q L M;obtain ⟨h0,b,es,clock,g,E,A,hr⟩:=L;have B:=D.eval y;rw [hy] at B;have B:=B.atom;have C:=D.eval v;rw [hv] at C;have C:=C.inv;have O:=MapKept.run_checkKey (w:=w) (l.str I) (k := .string s) trivial false 9999;have G:ψ.set id 0 (ψ.val id)=ψ:=by
  unfold Env.set;congr 1
  ·funext i;split;rename_i h;rw [h,h0]
   ·rfl
  ·funext i;split;rename_i h;rw [h]
   ·rfl
 have main:∀ (es':Array MapEntry) (clock':Nat),es'.size=(mput m s z).length ->
   (∀ (i:Nat) (e:MapEntry) (p:BA×FV),es'[i]?=some e->((mput m s z).map fun p=>(p.1,enc p.2))[i]?=some p->e.key = .string p.1/\RF S w e.val p.2) ->
   (execOp a.eval o).run P w = .ok .skip { w with heap:=w.heap.setIfInBounds b (.map es' clock') } ->
   kek P o a w fun v w'=>∃ ψ' S',Core F S0 N0 ((id, .smap ((mput m s z).map fun p=>(p.1,enc p.2)))::st.heap) st.ids ψ' S' w'/\RV ψ' (·∈st.ids) S' w' v .any/\Fr F w w'/\Ext (·∈st.ids) ψ ψ'/\(∀ id,id∈st.ids->id∈st.ids)/\(∀ b,S b->S' b)/\Same S w w':=by
  intro es' clock' Q aa U;obtain ⟨g1,g2⟩:=MapKept.heap_set (o' := .map es' clock') E;have ae:({ w with heap:=w.heap.setIfInBounds b (.map es' clock') }:World).heap.size=w.heap.size:=by simp
  have H:∀ k,k<w.heap.size->¬ Blk (ψ.val id) k->({ w with heap:=w.heap.setIfInBounds b (.map es' clock') }:World).heap[k]?=w.heap[k]?:=fun k _ hk=>g2 k fun e=>hk (.of (by rw [g,e];rfl));have hk:Same S w { w with heap:=w.heap.setIfInBounds b (.map es' clock') }:=fun k hk hl=>H k hl fun e=>(Z k e).1 hk;obtain ⟨c1,c2,c3⟩:=r.upd (n:=0) (v:=ψ.val id) (w':={ w with heap:=w.heap.setIfInBounds b (.map es' clock') }) (ob' := .smap ((mput m s z).map fun p=>(p.1,enc p.2))) K (by omega) H (.inr ⟨h0,rfl⟩) (fun b E => .inl E) (by rw [G];refine ⟨h0,b,es',clock',g,g1,by simpa using Q,fun i e p c hp=>?_⟩;obtain ⟨q1,q2⟩:=aa i e p c hp;exact ⟨q1,q2.keep hk⟩);rw [G] at c1;exact kl2 _ U ⟨ψ,S,c1, .any,⟨rfl,rfl,rfl,by omega,c3,fun _=>qw _⟩,Ext.refl,fun _ h=>h,fun _ h=>h,c2⟩
 have ab:∀ (j:Nat) (e:MapEntry) (p:BA×FV),es.toList[j]?=some e->(m.map fun p=>(p.1,enc p.2))[j]?=some p->e.key = .string p.1/\RF S w e.val p.2:=fun j e p c hp=>hr j e p (by simpa using c) hp;rcases kpr s (R:=fun v x=>RF S w v x) es.toList (m.map fun p=>(p.1,enc p.2)) 0 (by simpa using A) ab with ⟨f1,f2⟩ | ⟨j,u,x',f1,f2,f3⟩
 ·have hf:=MapKept.run_findKey (w:=w) (l.str I) f1;have ac:kgl s m 0=none:=by
   rw [kqa] at f2;cases hq:kgl s m 0 with
   | none=>rfl
   | some q=>rw [hq] at f2;cases f2
  have f:mput m s z=m++[(s,z)]:=by unfold mput;rw [ac]
  refine main (es.push { key := .string s,val:=a.eval v,born:=clock }) (clock+1) (by rw [f];simpa using A) (fun i e p c hp=>?_) ?_
  ·rw [f,List.map_append] at hp;rw [Array.getElem?_push] at c;have V:es.size=(m.map fun p=>(p.1,enc p.2)).length:=A;by_cases hi:i=es.size;rw [qs hi] at c;injection c with c;subst c;rw [qao (by omega),hi,V,Nat.sub_self] at hp;simp only [qa8,List.map_nil,List.getElem?_cons_zero,qc] at hp;subst hp;exact ⟨rfl,C⟩
   ·rw [ql hi] at c;have ag:i<es.size:=(qai.1 c).1;rw [qah (by omega)] at hp;exact hr i e p c hp
  ·simp [execOp,ho,B,N,g,Instr.mapUpdate,run_underlying (hd.mp hk),MapKept.run_getObj_map E,O,hf,MapKept.run_setObj_map _ E]
 ·have hf:=MapKept.run_findKey (w:=w) (l.str I) f1;rw [kqa,qm] at f2;obtain ⟨⟨j',x0⟩,f4,f5⟩:=f2;simp only [qq] at f5;obtain ⟨rfl,rfl⟩:=f5;obtain ⟨_,l2,k,l3,rfl⟩:=k61 f4;simp only [Nat.sub_zero] at l2 l3;have f:mput m k z=m.set j' (k,z):=by unfold mput;rw [f4]
  have ad:j'<es.size:=by rw [A,qaw];exact l2
  have J:es[j']?=some es[j']:=qbb ad;have X:es[j'].key = .string k:=(hr j' _ (k,enc x0) J (by rw [qr,l3];rfl)).1;refine main (es.modify j' fun e=>{ e with key := .string k,val:=a.eval v }) clock (by rw [f];simpa using A) (fun i e p c hp=>?_) ?_
  ·rw [f,List.map_set] at hp;rw [Array.getElem?_modify] at c;by_cases hi:j'=i;subst hi;rw [qs rfl,J] at c;simp only [qa9,qc] at c;subst c;rw [List.getElem?_set_self (by rw [qaw];exact l2)] at hp;injection hp with hp;subst hp;exact ⟨rfl,C⟩
   ·rw [ql hi] at c;rw [List.getElem?_set_ne hi] at hp;exact hr i e p c hp
  ·have Y:(Instr.keyThatStays (((es[j']?).map (·.key)).getD (.string k)) (.string k)).run P w = .ok (.string k) w:=(by rw [J];simp only [qa9,qbk,X];exact MapKept.run_keyThatStays (d := .string) trivial);simp [execOp,ho,B,N,g,Instr.mapUpdate,run_underlying (hd.mp hk),MapKept.run_getObj_map E,O,hf,MapKept.run_setObj_map _ E];simp [Y,MapKept.run_setObj_map _ E]
end Go.Proofs.YtgebfaidgikieaaGreatDoor
set_option linter.all false
namespace Go.Proofs.YtgebfaidgikieaaGreatDoor
open Go Go.RowKit
variable [Dr]
mutual
def depV:Va->Nat
 | .mk _ _ _ l=>kth l+1
def kth:List Va->Nat
 | []=>0
 | x::l=>Nat.max (depV x) (kth l)
end
def kab0 (st:St) (c:C1) (x:Operand):Option AV:=match co1 c (st.eval x) with
 | .fz y=>some (.fz y)
 | .fn f []=>some (.fn f [])
 | _=>none
def krn (st:St):List C1->List Operand->Option (List AV)
 | [],[]=>some []
 | c::cs,x::xs=>match kab0 st c x,krn st cs xs with
  | some y,some ys=>some (y::ys)
  | _,_=>none
 | _,_=>none
variable {P:Program} {F S0:Nat->Prop} {N0:Nat} {w w':World} {S S':Nat->Prop} {ψ:Env} {K:Nat->Prop} {T:List (TypeId×TD)} {o:Oper} {a:Act} {st:St} {t:TypeId} {d:TD}
theorem kuu {ids:List Nat} (h:∀ t,RV ψ (·∈ids) S w (a.tmps.getD t undef) (st.get t)):∀ {cs:List C1} {xs:List Operand} {ys:List AV},krn st cs xs=some ys ->
  ys.length=xs.length/\∀ (i:Nat) (x:Operand) (y:AV),xs[i]?=some x->ys[i]?=some y->∀ ψ0,RV ψ0 (·∈[]) S w (a.eval x) y
 | [],[],ys,h=>by simp only [krn,qc] at h;subst h;exact ⟨rfl,fun i x y h=>by simp at h⟩
 | c::cs,x::xs,ys,b=>by
  simp only [krn] at b;split at b
  ·rename_i y ys' h1 e;injection b with b;subst b;obtain ⟨e1,e2⟩:=kuu h e;refine ⟨by simp [e1],fun i x' y' hx hy=>?_⟩;cases i with
   | zero=>
    simp at hx hy;subst hx hy;unfold kab0 at h1;have hv:=kp9 c (Sim.eval_tmps h x);split at h1;rename_i z d;injection h1 with h1;subst h1;rw [d] at hv;exact fun ψ0 => .fz hv.inv
    ·rename_i f d;injection h1 with h1;subst h1;rw [d] at hv;intro ψ0;generalize a.eval x=u at hv;cases hv with
     | fn h hr=>exact .fn h fun i v x hv hx=>by simp at hx
    ·cases h1
   | succ i=>exact e2 i x' y' (by simpa using hx) (by simpa using hy)
  ·cases b
 | [],_::_,ys,h=>by cases h
 | _::_,[],ys,h=>by cases h
theorem kag8 (f:FuncId) (args:Array Operand) (ts:Array TypeId) (cs:List C1) {as_:List AV} {res:AV} {post:List (Nat×AObj)} {ids1:List Nat} {r:FV} (k:o.op = .call { callee := .value (.func f),args:=args,argTypes:=ts }) (hc:krn st cs args.toList=some as_) (hp:HCall P f (as_++[]) [] [] (.ret res) post ids1) (hr:res = .fz r\/∃ (id n:Nat) (e:TypeId) (size:Nat) (xs:List FV),res = .row id n/\kaa post id=some (.frow e size xs)/\n=xs.length/\r = .lst size n xs):NStep P o st (.fz r):=by
 intro ψ S a w ht p;rw [List.append_nil] at hp;obtain ⟨e1,e2⟩:=kuu (fun t=>(ht t).bound) hc;unfold kek;rw [ks6 k hp.1];refine (hp.2 (fun b=>b<w.heap.size) (fun b=>S b/\b<w.heap.size) w.heap.size ψ (fun b=>S b/\b<w.heap.size) w (args.map a.eval) (by simp [e1]) (fun i v x hv hx=>?_) ⟨fun id o h=>(by cases h),fun id id' o o' b h=>(by cases h),fun b h=>h.2,fun b h => .inl h,qw _,fun b h=>h⟩).mono ?_;simp only [Array.getElem?_map,qm] at hv;obtain ⟨y,hy,rfl⟩:=hv;exact e2 i y x (by simpa using hy) hx ψ
 ·rintro e w' ⟨ψ',S',⟨v,rfl,hv⟩,c,d,_,_,hS,_⟩;have l:Grow w w':=⟨⟨d.os,d.tape,d.output,d.size,fun b g=>d.block b g⟩,d.drawn⟩;refine ⟨v,rfl,l, .fz ?_⟩;rcases hr with rfl | ⟨id,n,e,size,xs,rfl,j,rfl,rfl⟩;exact hv.inv.mono fun b g=>(c.s0 b g).imp And.left id
  ·obtain ⟨c1,c2⟩:=kkx c j;obtain ⟨_,k2,k3⟩:=c.obj id _ j;have h0:=k2.1;cases hv with
   | row hK m h1 hv=>
    rw [hv (by rw [h0])];exact c2.mono fun b g=>g.elim (fun g=>(c.s0 b g).imp And.left _root_.id) fun g=>((k3 b (.of g)).2.2).imp And.left _root_.id
end Go.Proofs.YtgebfaidgikieaaGreatDoor
set_option linter.all false
namespace Go.Proofs.YtgebfaidgikieaaGreatDoor
open Go Go.RowKit
variable [Dr]
def mkL {α:Type} (bytes:Nat) (z:α) (n:Int):Option (List α):=if 0<=n/\(bytes:Int)*n<=281474976710656/\n<=9223372036854775807 then some (List.replicate n.toNat z) else none
theorem kz9 {α:Type} {bytes:Nat} {z:α} {n:Int} {xs:List α} (h:mkL bytes z n=some xs):xs=List.replicate n.toNat z/\0<=n/\(bytes:Int)*n<=281474976710656/\n<=9223372036854775807:=by
 unfold mkL at h;split at h;rename_i hc;injection h with h;exact ⟨h.symm,hc⟩
 ·cases h
variable {P:Program} {F S0:Nat->Prop} {N0:Nat} {w w':World} {S S':Nat->Prop} {ψ:Env} {K:Nat->Prop} {T:List (TypeId×TD)} {o:Oper} {a:Act} {st:St} {t:TypeId} {d:TD} {id:Nat}
theorem kaju {α:Type} (enc:α->FV) {bytes:Nat} {z:α} {n:Int} {xs:List α} (X Y:Operand) (e:TypeId) (de:TD) (k k':IntKind) (zv:Value) (h:mkL bytes z n=some xs) (N:o.op = .makeSlice t X Y) (M:TOk P T) (hd:kae T t=some d) (hk:d.kind = .slice e) (m:kae T e=some de) (D:de.size=1) (E:de.zero=[zv]) (q:enc z = .atom zv) (r:zv.oneCell'=true) (G:de.bytes=bytes) (hx:st.eval X = .fz (.atom (.int k n)):=by kernel_rfl) (hy:st.eval Y = .fz (.atom (.int k' n)):=by kernel_rfl) (f:st.ids.contains id=false:=by kernel_rfl):
  StepA P o st (.row id xs.length) ((id, .frow e 1 (xs.map enc))::st.heap) (id::st.ids):=by
 have f:id∉st.ids:=by simpa using f
 obtain ⟨rfl,h0,H,I⟩:=kz9 h;have hd:=M.get hd;have m:=M.get m;subst G;intro F S0 N0 ψ S a w p;have g:=p.eval X;rw [hx] at g;have g:=g.atom;have l:=p.eval Y;rw [hy] at l;have l:=l.atom;obtain ⟨⟨i,z',hi,J,K,O,L⟩,_⟩:=m;have c:=p.core;have hcl:z'.cells=#[zv]:=by apply qbj;rw [L,E]
 have hr:=run_make (P:=P) w t e i z' (hd.slice hk) hi O k k' n n h0 (Int.le_refl _) (by rw [K];exact H) I;rw [J,D,hcl,Nat.mul_one] at hr;have s:Grow w (w.alloc (.cells (madeCells #[zv] n.toNat) e)):=kbn _ _;have u:(List.replicate n.toNat z).length=n.toNat:=List.length_replicate;rw [u];refine kad (w.alloc (.cells (madeCells #[zv] n.toNat) e)) (.slice (some ⟨w.heap.size,0,none⟩) n.toNat n.toNat) ?_ ⟨ψ.set id n.toNat (.slice (some ⟨w.heap.size,0,none⟩) n.toNat n.toNat),S,?_,?_,kiv _ c.fr,kbm f _ _,fun _ h=>qk _ h,fun _ h=>h,Same.of_grow s⟩;simp [execOp,N,g,l,hr]
 ·refine c.add s f (fun b H=>by simp [kay] at H;omega) ⟨by rw [kbv];simp,by omega,(madeCells #[zv] n.toNat).toList,?_,fun x hx=>?_,fun i x j v y hx hv hy=>?_⟩;rw [kan];have:=World.ownsRow_lit (base:=0) (size:=1) (e:=e) w (madeCells #[zv] n.toNat) n.toNat (qaj _) (by unfold maxLen;omega) (by rw [size_madeCells,Nat.mul_one]);simpa using this;simp only [List.map_replicate,List.mem_replicate] at hx;rw [hx.2,q];refine ⟨rfl,fun y hy=>?_⟩;simp [FV.cells] at hy;subst hy;exact r
  ·have A:=qu hx;simp only [List.map_replicate,List.mem_replicate] at A;rw [A.2,q] at hy;rw [toList_madeCells_one] at hv;have B:=qu hv;rw [List.mem_replicate] at B;rw [B.2];have C:=qu hy;simp [FV.cells] at C;subst C;exact .atom r
 ·exact .row (qx ..) (by rw [kbv];exact qw _) rfl fun _=>by rw [kan]
theorem kxt {v:Value} {e:TypeId} {n:Nat} {cs:List Value} (h:w.ownsRow 0 e 1 v n cs) (hn:0<n:=by omega):∃ g cap cur,v = .slice (some ⟨g,0,none⟩) n cap/\w.heap[g]?=some (.cells cur e (0,0))/\n<=cap/\cap<=maxLen/\cur.size=cap/\cur.toList.take n=cs:=by
 rcases h.2 with ⟨_,h0⟩ | ⟨g,cap,cur,hv,_,a,h1,b,c,d⟩;omega
 ·exact ⟨g,cap,cur,hv,a,h1,b,by simpa using c,by simpa using d⟩
theorem kxl (d:TD) (id:Nat) {α:Type} (enc:α->FV) (xs:List α) {x:α} {i:Int} (X Y:Operand) (e:TypeId) (de:TD) (k:IntKind) (n:Nat) (h:idx xs i=some x) (q:TOk P T) (hn:n=xs.length) (hy:st.eval Y = .fz (.atom (.int k i)):=by kernel_rfl) (r:o.op = .indexAddr t X Y:=by kernel_rfl) (hd:kae T t=some d:=by kernel_rfl) (hk:d.kind = .slice e:=by kernel_rfl) (j:kae T e=some de:=by kernel_rfl) (s:de.size=1:=by kernel_rfl) (hx:st.eval X = .row id n:=by kernel_rfl) (p:kaa st.heap id=some (.frow e 1 (xs.map enc)):=by kernel_rfl):NStep P o st (.ref id n i.toNat):=by
 intro ψ S a w ht y;subst hn;have hd:=q.get hd;have j:=q.get j;unfold idx at h;split at h
 ·rename_i h0;have z:i.toNat<xs.length:=(qj.1 h).1;have l:=Sim.eval_tmps ht X;rw [hx] at l;have b:=Sim.eval_tmps ht Y;rw [hy] at b;have b:=b.atom;obtain ⟨hl,_,cs,c,_,_⟩:=y id _ p;rw [qaw] at hl c;obtain ⟨g,cap,cur,f,B,_⟩:=kxt c;have hK:id∈st.ids/\a.eval X=ψ.val id:=by
   generalize a.eval X=u at l;cases l with
   | row hK A h1 hv=>exact ⟨hK,hv hl.symm⟩
  refine kad w (.pointer (some ⟨g,i.toNat,none⟩)) ?_ ⟨kaf _, .ref hK.1 (by omega) rfl fun _=>⟨g,by rw [f];rfl,rfl⟩⟩;have m:i<(xs.length:Int):=by omega
  simp [execOp,r,hK.2,f,b,Instr.indexAt,asIntOf,run_underlying (hd.slice hk),h0,m,j.size,s,kck]
 ·cases h
theorem kadl {α:Type} (enc:α->FV) (xs:List α) (x:α) (i:Int) (X:Operand) (n:Nat) (h:idx xs i=some x) (q:TOk P T) (r:o.op = .load t X) (hd:kae T t=some d) (hk:d.kind.agg=false) (hx:st.eval X = .ref id n i.toNat) (k:kaa st.heap id=some (.frow t 1 (xs.map enc))) (hn:n=xs.length) (l:∀ y,(enc y).cells=[enc y]):NStep P o st (.fz (enc x)):=by
 intro ψ S a w ht s;subst hn;have hd:=q.get hd;unfold idx at h;split at h
 ·rename_i h0;have z:i.toNat<xs.length:=(qj.1 h).1;have f:=Sim.eval_tmps ht X;rw [hx] at f;obtain ⟨hl,_,cs,c,_,hr⟩:=s id _ k;rw [qaw] at hl c;obtain ⟨g,cap,cur,e,E,A,hc2,B,C⟩:=kxt c;have hp:a.eval X = .pointer (some ⟨g,i.toNat,none⟩):=by
   generalize a.eval X=u at f;cases f with
   | ref hK D h1 hv=>
    obtain ⟨b,m,rfl⟩:=hv hl.symm;rw [e] at m;simp only [kay,qc] at m;rw [m]
  have p:cs[i.toNat]?=some (cs[i.toNat]'(by rw [c.1];omega)):=qb _;have j:w.cell? ⟨g,i.toNat,none⟩=some (cs[i.toNat]'(by rw [c.1];omega)):=by rw [e] at c;rw [World.ownsRow.cellAt c i.toNat (by omega),p]
  refine kad w (cs[i.toNat]'(by rw [c.1];omega)) ?_ ⟨kaf _, .fz ((hr i.toNat (enc x) 0 _ (enc x) (by rw [qr,h];rfl) (by simp) (by rw [l];rfl)).mono fun _ h => .inl h)⟩;simp [execOp,r,hp,Instr.loadAt,Instr.sureAddr,loadVar,hd.isAgg,hk,j]
 ·cases h
theorem k1c {α:Type} (enc:α->FV) (xs:List α) (x y:α) (i:Int) (X Y:Operand) (n:Nat) (h:idx xs i=some x) (hT:TOk P T) (hn:n=xs.length) (ho:o.op = .store t X Y:=by kernel_rfl) (hd:kae T t=some d:=by kernel_rfl) (hz:d.size=1:=by kernel_rfl) (hx:st.eval X = .ref id n i.toNat:=by kernel_rfl) (I:kaa st.heap id=some (.frow t 1 (xs.map enc)):=by kernel_rfl) (hy:st.eval Y = .fz (enc y):=by kernel_rfl) (D:∀ y,∃ u,enc y = .atom u/\u.oneCell'=true:=by exact fun _=>⟨_,rfl,rfl⟩):StepA P o st .any ((id, .frow t 1 ((xs.set i.toNat y).map enc))::st.heap) st.ids:=by
 subst hn;intro F S0 N0 ψ S a w E;have hd:=hT.get hd;unfold idx at h;split at h
 ·rename_i h0;have ab:i.toNat<xs.length:=(qj.1 h).1;have f:=E.core;obtain ⟨ac,⟨hl,J,cs,l,ad,hr⟩,Q⟩:=f.obj id _ I;rw [qaw] at hl l;have hcl:cs.length=xs.length:=by rw [l.1,Nat.mul_one]
  obtain ⟨g,cap,cur,m,hg,R,hc2,U,V⟩:=kxt l;have G:=E.eval X;rw [hx] at G;have hp:a.eval X = .pointer (some ⟨g,i.toNat,none⟩):=by
   generalize a.eval X=u at G;cases G with
   | ref hK ae h1 hv=>
    obtain ⟨b,K,rfl⟩:=hv hl.symm;rw [m] at K;simp only [kay,qc] at K;rw [K]
  obtain ⟨u,hu,H⟩:=D y;have p:=E.eval Y;rw [hy,hu] at p;have p:=p.atom;have L:u.cells=#[u]:=by cases u <;> first | rfl | cases H
  have hst:=run_storeCells_at (P:=P) g i.toNat t [u] 0 cur w hg (by simp;omega) (fun v hv=>by simp at hv;rw [hv];exact H);obtain ⟨new,s⟩:∃ new:Array Value,new=(cur.toList.take (i.toNat+0)++[u]++cur.toList.drop (i.toNat+0+[u].length)).toArray:=⟨_,rfl⟩;rw [<- s] at hst;have M:new.toList=cur.toList.set i.toNat u:=by rw [s,List.set_eq_take_append_cons_drop,qs (by simp;omega)];simp
  have Z:new.size=cap:=by rw [<- qak,M,List.length_set,qak,U]
  have A:∀ k,k<w.heap.size->¬ Blk (ψ.val id) k->(w.setRow g new).heap[k]?=w.heap[k]?:=fun k _ hk=>kl0 g new k fun e=>hk (.of (by rw [m,e];rfl));have af:(w.setRow g new).heap.size=w.heap.size:=by simp [World.setRow]
  have B:ψ.set id xs.length (ψ.val id)=ψ:=by
   unfold Env.set;congr 1
   ·funext j;split;rename_i N;rw [N,hl]
    ·rfl
   ·funext j;split;rename_i N;rw [N]
    ·rfl
  have hk:Same S w (w.setRow g new):=fun k hk hl=>A k hl fun e=>(Q k e).1 hk;obtain ⟨c1,c2,c3⟩:=f.upd (n:=xs.length) (v:=ψ.val id) (w':=w.setRow g new) (ob' := .frow t 1 ((xs.set i.toNat y).map enc)) I (by omega) A (.inr ⟨hl,rfl⟩) (fun b K => .inl K) (by
   rw [B];refine ⟨by simp [hl],J,cs.set i.toNat u,?_,fun z r=>?_,fun k z j v q r hv C=>?_⟩;rw [qaw,List.length_set,m];refine ⟨by rw [List.length_set,hcl,Nat.mul_one], .inr ⟨g,cap,new,rfl,qaj _,kjj g hg,R,hc2,by rw [Z,Nat.mul_one],?_⟩⟩;rw [Nat.mul_one,M,List.take_set,V];obtain ⟨z0,_,rfl⟩:=qaz.1 r;obtain ⟨u0,h1,h2⟩:=D z0;rw [h1];exact ⟨rfl,fun q C=>by simp [FV.cells] at C;subst C;exact h2⟩
   ·obtain ⟨z0,c,rfl⟩:∃ z0,(xs.set i.toNat y)[k]?=some z0/\enc z0=z:=(by rw [qr,qm] at r;exact r);obtain ⟨u0,h1,h2⟩:=D z0;have N:j=0:=(by rw [h1] at C;have:=(qj.1 C).1;simp [FV.cells] at this;exact this);subst N;have aa:q=enc z0:=(by rw [h1] at C ⊢; simp [FV.cells] at C;exact C.symm);subst aa;simp only [Nat.mul_one,Nat.add_zero] at hv;by_cases O:i.toNat=k;subst O;rw [List.getElem?_set_self (by omega)] at hv c;injection hv with hv;injection c with c;subst hv c;rw [hu];exact .atom H
    ·rw [List.getElem?_set_ne O] at hv c;exact (hr k (enc z0) 0 v (enc z0) (by rw [qr,c];rfl) (by simpa using hv) (by rw [h1];rfl)).keep hk)
  rw [B] at c1;refine kl2 (w.setRow g new) ?_ ⟨ψ,S,c1, .any,⟨rfl,rfl,rfl,by omega,c3,fun _=>qw _⟩,Ext.refl,fun _ h=>h,fun _ h=>h,c2⟩;simp only [execOp,ho,Instr.storeAt,hp,p,Instr.sureAddr,storeVar,hd.size,Sem.run_bind,Sem.run_pure,Result.andThen_ok];rw [ql (by rw [L,hz];simp)];simp [L,hst]
 ·cases h
def rel1 (id n:Nat):AV->AV
 | .row k m=>bif Nat.beq k id then .row k n else .row k m
 | y=>y
def relG (id n:Nat):AV->AV
 | .agg cs => .agg (cs.map (rel1 id n))
 | .fn f cs => .fn f (cs.map (rel1 id n))
 | y=>rel1 id n y
def relT (id n:Nat):AV->AV
 | .tup cs => .tup (cs.map (relG id n))
 | y=>relG id n y
def relO (id n:Nat):AObj->AObj
 | .box e cs => .box e (cs.map (rel1 id n))
 | y=>y
def k20 (id:Nat) (st:St):List Nat:=st.tmps.flatMap (fun p=>kx5 id p.2)++st.heap.flatMap (fun p=>k1a id p.2)
def k47 (id n:Nat) (st:St):St:={ dfr:=st.dfr,n:=st.n,tmps:=st.tmps.map (fun p=>(p.1,relT id n p.2)),heap:=st.heap.map (fun p=>(p.1,relO id n p.2)),ids:=st.ids }
theorem kyh {id n:Nat} {y:AV} (h:∀ m∈ks7 id y,m=n):rel1 id n y=y:=by
 cases y with
 | row k m=>
  simp only [rel1];cases a:Nat.beq k id with
  | false=>rfl
  | true=>rw [h m (by simp [ks7,a])];rfl
 | _=>rfl
theorem ko8 {α:Type} {f:α->α} {l:List α} (h:∀ x∈l,f x=x):l.map f=l:=by rw [List.map_congr_left h];simp
theorem kx1 {id n:Nat} (y:AV) (h:∀ m∈k4q id y,m=n):relG id n y=y:=by
 cases y with
 | agg cs=>exact qbg AV.agg (ko8 fun x hx=>kyh fun m hm=>h m (qa6.2 ⟨x,hx,hm⟩))
 | fn f cs=>exact qbg (AV.fn f) (ko8 fun x hx=>kyh fun m hm=>h m (qa6.2 ⟨x,hx,hm⟩))
 | row k m=>exact kyh (y := .row k m) h
 | _=>rfl
theorem kaiz {id n:Nat} {y:AV} (h:∀ m∈kx5 id y,m=n):relT id n y=y:=by
 cases y with
 | tup cs=>exact qbg AV.tup (ko8 fun x hx=>kx1 _ fun m hm=>h m (qa6.2 ⟨x,hx,hm⟩))
 | agg cs=>exact kx1 (.agg cs) h
 | fn f cs=>exact kx1 (.fn f cs) h
 | row k m=>exact kx1 (.row k m) h
 | _=>rfl
theorem kail {id n:Nat} {y:AObj} (h:∀ m∈k1a id y,m=n):relO id n y=y:=by
 cases y with
 | box e cs=>exact qbg (AObj.box e) (ko8 fun x hx=>kyh fun m hm=>h m (qa6.2 ⟨x,hx,hm⟩))
 | _=>rfl
theorem kaeg {st:St} (id:Nat) {k m n:Nat} (h:k20 id st=List.replicate k m) (b:m=n):LeSt st (k47 id n st):=by
 have a:∀ x∈k20 id st,x=n:=fun x hx=>by rw [h] at hx;rw [(List.mem_replicate.1 hx).2,b]
 have:k47 id n st=st:=by
  unfold k47;have h1:st.tmps.map (fun p=>(p.1,relT id n p.2))=st.tmps:=ko8 fun p hp=>by rw [kaiz fun m hm=>a m (qa7.2 (.inl (qa6.2 ⟨p,hp,hm⟩)))]
  have c:st.heap.map (fun p=>(p.1,relO id n p.2))=st.heap:=ko8 fun p hp=>by rw [kail fun m hm=>a m (qa7.2 (.inr (qa6.2 ⟨p,hp,hm⟩)))]
  rw [h1,c]
 rw [this];exact LeSt.refl
end Go.Proofs.YtgebfaidgikieaaGreatDoor
set_option linter.all false
set_option linter.unusedSectionVars false
namespace Go.Proofs.YtgebfaidgikieaaGreatDoor
open Go Go.RowKit
variable [Dr]
variable {P:Program} {F S0:Nat->Prop} {N0:Nat} {w w':World} {S S':Nat->Prop} {ψ:Env} {K:Nat->Prop} {T:List (TypeId×TD)} {o:Oper} {a:Act} {st:St} {t:TypeId} {d:TD} {id:Nat}
end Go.Proofs.YtgebfaidgikieaaGreatDoor
set_option linter.all false
namespace Go.Proofs.YtgebfaidgikieaaGreatDoor
open Go Go.RowKit
variable [Dr]
def tabF (rows:List (List Value)):FV := .lst 1 rows.length (rows.map fun r => .lst 1 r.length (r.map .atom))
def kafz:FV->Bool
 | .atom _=>true
 | .tup vs=>vs.all fun x=>match x with
  | .atom _=>true
  | _=>false
 | _=>false
variable {P:Program} {F S0:Nat->Prop} {N0:Nat} {w w':World} {S S':Nat->Prop} {ψ ψ':Env} {K:Nat->Prop} {T:List (TypeId×TD)} {o:Oper} {a:Act} {st:St} {t:TypeId} {d:TD} {id:Nat} {ids:List Nat} {heap:List (Nat×AObj)}
end Go.Proofs.YtgebfaidgikieaaGreatDoor
set_option linter.all false
namespace Go.Proofs.YtgebfaidgikieaaGreatDoor
open Go Go.RowKit
variable [Dr]
variable {P:Program} {F S0:Nat->Prop} {N0:Nat} {w w':World} {S S':Nat->Prop} {ψ ψ':Env} {K:Nat->Prop} {T:List (TypeId×TD)} {o:Oper} {a:Act} {st:St} {t:TypeId} {d:TD} {id:Nat} {ids:List Nat} {heap:List (Nat×AObj)}
end Go.Proofs.YtgebfaidgikieaaGreatDoor
set_option linter.all false
namespace Go.Proofs.YtgebfaidgikieaaGreatDoor
open Go Go.RowKit
variable [Dr]
variable {P:Program} {F S0:Nat->Prop} {N0:Nat} {w w':World} {S S':Nat->Prop} {ψ ψ':Env} {K:Nat->Prop} {T:List (TypeId×TD)} {o:Oper} {a:Act} {st:St} {t:TypeId} {d:TD} {id:Nat} {ids:List Nat} {heap:List (Nat×AObj)}
theorem k5x (r:List Value) (h:∀ u∈r,u.oneCell'=true):ElR 1 (r.map .atom):=fun x hx=>by obtain ⟨u,a,rfl⟩:=qaz.1 hx;exact ⟨rfl,fun y hy=>by simp [FV.cells] at hy;subst hy;exact h u a⟩
theorem k3n (r:List Value) (h:∀ u∈r,u.oneCell'=true):RowR S w 1 (r.map .atom) r:=fun i x j v y hx hv hy=>by
 rw [qr,qm] at hx;obtain ⟨u,a,rfl⟩:=hx;have b:j=0:=by have:=(qj.1 hy).1;simp [FV.cells] at this;exact this
 subst b;simp [FV.cells] at hy;subst hy;rw [Nat.mul_one,Nat.add_zero,a] at hv;cases hv;exact .atom (h _ (qu a))
theorem kafx {g:Nat} {ov:Value} {eo ei:TypeId} {rows:List (List Value)} (h:ObR ψ K S w id (.tab g ov eo ei rows)):RF (fun b=>S b\/Blk (ψ.val id) b) w ov (tabF rows):=by
 obtain ⟨s,vs,d,o,e,k,m⟩:=h;have n:∀ u b,u∈ov::vs->kay u=some b->Blk (ψ.val id) b:=fun u b p f=>by rw [d];exact .inr ⟨u,by simpa [kkf] using p,f⟩
 have c:rows.length=(rows.map fun r:List Value=>FV.lst 1 r.length (r.map .atom)).length:=by simp
 have a:∀ (j:Nat) (v:Value) (r:List Value),vs[j]?=some v->rows[j]?=some r->RF (fun b=>S b\/Blk (ψ.val id) b) w v (.lst 1 r.length (r.map .atom)):=fun j v r hv hr=>by obtain ⟨k1,k2⟩:=k j v r hv hr;have:=kym (S:=S) (r.map .atom) (by simpa using k1) (k5x r k2) (k3n r k2);rw [qaw] at this;exact this.mono fun b f=>f.imp _root_.id fun h=>n v b (qk _ (qu hv)) h
 have l:ElR 1 (rows.map fun r:List Value=>FV.lst 1 r.length (r.map .atom)):=fun x hx=>by obtain ⟨r,hr,rfl⟩:=qaz.1 hx;exact ⟨rfl,fun y hy=>by simp [FV.cells] at hy;subst hy;rfl⟩
 have:=kym (S:=fun b=>S b\/Blk (ψ.val id) b) (rows.map fun r:List Value=>FV.lst 1 r.length (r.map .atom)) (by rw [<- c];exact e) l (fun i x j v y hx hv hy=>by
  rw [qr,qm] at hx;obtain ⟨r,hr,rfl⟩:=hx;have q:j=0:=by have:=(qj.1 hy).1;simp [FV.cells] at this;exact this
  subst q;simp [FV.cells] at hy;subst hy;rw [Nat.mul_one,Nat.add_zero] at hv;exact a i v r hv hr)
 rw [<- c] at this;exact this.mono fun b f=>f.elim _root_.id fun h => .inr (n ov b (qx ..) h)
inductive LendI where
 | row (t id n:Nat) (e:TypeId) (size:Nat) (xs:List FV)
 | tab (t id g:Nat) (ov:Value) (eo ei:TypeId) (rows:List (List Value)) (x:FV)
 | inn (t id g:Nat) (ov:Value) (eo ei:TypeId) (rows:List (List Value)) (i:Nat) (x:FV)
def LendI.ok (st:St):LendI->Prop
 | .row t id n e size xs=>st.get t = .row id n/\kaa st.heap id=some (.frow e size xs)/\n=xs.length
 | .tab t id g ov eo ei rows x=>st.get t = .fz (.atom ov)/\kaa st.heap id=some (.tab g ov eo ei rows)/\x=tabF rows
 | .inn t id g ov eo ei rows i x=>st.get t = .irow id g (i+1)/\kaa st.heap id=some (.tab g ov eo ei rows)/\∃ r,rows[i]?=some r/\x = .lst 1 r.length (r.map .atom)
def LendI.slot:LendI->Nat×AV
 | .row t _ n _ size xs=>(t, .fz (.lst size n xs))
 | .tab t _ _ _ _ _ _ x=>(t, .fz x)
 | .inn t _ _ _ _ _ _ _ x=>(t, .fz x)
def kagn (ls:List LendI) (st:St):St:={ st with tmps:=ls.map LendI.slot++st.tmps }
theorem kafi {e:TypeId} {size:Nat} {xs:List FV} (h:ObR ψ K S w id (.frow e size xs)):RF (fun b=>S b\/Blk (ψ.val id) b) w (ψ.val id) (.lst size xs.length xs):=by obtain ⟨h0,c,cs,a,d,hr⟩:=h;exact (kym _ a d hr (f:=c)).mono fun b f=>f.imp _root_.id .of
theorem k5i {SB:Nat->Prop}:∀ (ls:List LendI),(∀ l∈ls,l.ok st)->(∀ t,RV ψ (·∈st.ids) S w (a.tmps.getD t undef) (st.get t))->(∀ id ob,kaa st.heap id=some ob->ObR ψ (·∈st.ids) S w id ob)->(∀ id ob,kaa st.heap id=some ob->∀ b,(S b\/Blk (ψ.val id) b)->SB b)->(∀ b,S b->SB b) ->
  ∀ t,RV ψ (·∈st.ids) SB w (a.tmps.getD t undef) (look .any (ls.map LendI.slot++st.tmps) t)
 | [],_,ht,_,_,hS,t=>(ht t).mono (fun _ h=>h) hS
 | l::ls,hl,ht,q,c,hS,t=>by
  have f:=hl l (qx ..);have j:=k5i ls (fun k hk=>hl k (qk _ hk)) ht q c hS t;cases l with
  | row t' id n e size xs=>
   obtain ⟨q1,q2,rfl⟩:=f;show RV ψ (·∈st.ids) SB w _ (look .any ((t',AV.fz (.lst size xs.length xs))::(ls.map LendI.slot++st.tmps)) t);rw [kbd];split
   ·rename_i o;subst o;have hv:=ht t';rw [q1] at hv;have p:=q id _ q2;refine .fz ?_;generalize a.tmps.getD t' undef=u at hv;cases hv with
    | row hK s h1 hv=>
     rw [hv p.1.symm];exact (kafi p).mono (c id _ q2)
   ·exact j
  | tab t' id g ov eo ei rows x=>
   obtain ⟨q1,q2,rfl⟩:=f;show RV ψ (·∈st.ids) SB w _ (look .any ((t',AV.fz (tabF rows))::(ls.map LendI.slot++st.tmps)) t);rw [kbd];split;rename_i o;subst o;have hv:=ht t';rw [q1] at hv;rw [hv.atom];exact .fz ((kafx (q id _ q2)).mono (c id _ q2))
   ·exact j
  | inn t' id g ov eo ei rows i x=>
   obtain ⟨q1,q2,r,q3,rfl⟩:=f;show RV ψ (·∈st.ids) SB w _ (look .any ((t',AV.fz (.lst 1 r.length (r.map .atom)))::(ls.map LendI.slot++st.tmps)) t);rw [kbd];split
   ·rename_i o;subst o;have hv:=ht t';rw [q1] at hv;obtain ⟨C,vs,d,v,A,y,B⟩:=q id _ q2;have m:i<vs.length:=(by rw [v];exact (qj.1 q3).1);obtain ⟨k1,k2⟩:=y i vs[i] r (qb m) q3;refine .fz ?_;have hd:=kym (S:=S) (r.map .atom) (by simpa using k1) (k5x r k2) (k3n r k2);rw [qaw] at hd;have hd:=hd.mono fun b z=>c id _ q2 b (z.imp _root_.id fun z=>by rw [d];exact .inr ⟨vs[i],by simp only [kkf];exact qk _ (qv m),z⟩);generalize a.tmps.getD t' undef=u at hv;cases hv with
    | irow hK s h1 hv=>
     have:=hv C.symm;rw [d] at this;simp only [kkf,qbn] at this;rw [qb m] at this;cases this;exact hd
   ·exact j
theorem kajp (ls:List LendI) {c:FV} (hl:∀ l∈ls,l.ok st) (hn:NStep P o (kagn ls st) (.fz c)) (hc:kafz c=true):NStep P o st (.fz c):=by
 intro ψ S a w ht g
 let SB:Nat->Prop:=fun b=>S b\/∃ id ob,kaa st.heap id=some ob/\Blk (ψ.val id) b
 have d:∀ id ob,kaa st.heap id=some ob->∀ b,(S b\/Blk (ψ.val id) b)->SB b:=fun id ob h b e=>e.imp _root_.id fun e=>⟨id,ob,h,e⟩;refine kn3 ?_ (hn ψ SB a w (fun t=>?_) fun id ob j=>?_)
 ·rintro v w' ⟨k,hv⟩;refine ⟨k, .fz ?_⟩;have hv:=hv.inv;cases c with
  | atom u=>cases hv with | atom h=>exact .atom h
  | tup vs=>
   cases hv with
   | tup h hr=>
    refine .tup h fun i v x hv hx=>?_;have f:=qp.1 hc x (qu hx);have:=hr i v x hv hx;cases x with
    | atom u=>cases this with | atom h=>exact .atom h
    | _=>cases f
  | _=>cases hc
 exact k5i ls hl (fun t=>ht t) g d (fun b h => .inl h) t
 ·exact (g id ob j).keep Ext.refl (fun _ h=>h) (fun b e => .inl e) (fun _ _ _=>rfl) ⟨rfl,rfl⟩ fun _ _=>rfl
theorem kac8 {α:Type} (enc:α->FV) (m:List (BA×α)) (s:BA) (z:α) (x y:Operand) (kt et:TypeId) (kd:TD) (zv:Value) (K:o.op = .lookup t x y true) (L:TOk P T) (hd:kae T t=some d) (hk:d.kind = .map kt et) (c:kae T kt=some kd) (l:kd.kind = .str) (inf:TypeInfo) (B:P.info? et=some inf) (C:inf.zero=some zv) (D:enc z = .atom zv) (E:zv.oneCell'=true) (hx:st.eval x = .mp id:=by kernel_rfl) (F:kaa st.heap id=some (.smap (m.map fun p=>(p.1,enc p.2))):=by kernel_rfl) (hy:st.eval y = .fz (.atom (.string s)):=by kernel_rfl):NStep P o st (.fz (.tup [enc (mget m s z), .atom (.bool (mhas m s))])):=by
 intro ψ S a w ht N;have hd:=L.get hd;have c:=L.get c;have hv:=Sim.eval_tmps ht x;rw [hx] at hv;have n:=N id _ F;have q:=k6q n hv;obtain ⟨h0,b,es,clock,g,M,G,hr⟩:=n;have f:=Sim.eval_tmps ht y;rw [hy] at f;have f:=f.atom;have H:(zeroValue et).run P w = .ok zv w:=by simp [zeroValue,typeInfo,B,C]
 have r:=MapKept.run_checkKey (w:=w) (c.str l) (k := .string s) trivial es.isEmpty 9999;have two:∀ {v:Value} {x:FV} {ok:Bool},RF (fun b=>S b\/w.heap.size<=b) w v x->RF (fun b=>S b\/w.heap.size<=b) w (.tuple #[v, .bool ok]) (.tup [x, .atom (.bool ok)]):=fun {v x ok} h => .tup rfl fun i u y A hy=>by
  match i with
  | 0=>simp at A hy;subst A hy;exact h
  | 1=>simp at A hy;subst A hy;exact .atom rfl
  | i+2=>simp at A
 rcases kpr s (R:=fun v x=>RF S w v x) es.toList (m.map fun p=>(p.1,enc p.2)) 0 (by simpa using G) (fun j e p O hp=>hr j e p (by simpa using O) hp) with ⟨f1,f2⟩ | ⟨j,v,x',f1,f2,f3⟩
 ·have I:=MapKept.run_findKey (w:=w) (c.str l) f1;have J:mhas m s=false:=by rw [<- k7t enc];unfold mhas;rw [f2];rfl
  refine kad w (.tuple #[zv, .bool false]) ?_ ⟨kaf _, .fz ?_⟩;simp [execOp,K,f,q,g,Instr.lookup,run_underlying (hd.mp hk),MapKept.run_getObj_map M,r,I,H]
  ·rw [J];refine two ?_;rw [<- kvi enc];unfold mget;rw [f2];simp only;rw [D];exact .atom E
 ·have I:=MapKept.run_findKey (w:=w) (c.str l) f1;have J:mhas m s=true:=by rw [<- k7t enc];unfold mhas;rw [f2];rfl
  refine kad w (.tuple #[v, .bool true]) ?_ ⟨kaf _, .fz ?_⟩;simp [execOp,K,f,q,g,Instr.lookup,run_underlying (hd.mp hk),MapKept.run_getObj_map M,r,I]
  ·rw [J];refine two ?_;rw [<- kvi enc];unfold mget;rw [f2];exact f3.mono fun _ h => .inl h
theorem kaec {t id n:Nat} {e:TypeId} {size:Nat} {xs:List FV} (h1:st.get t = .row id n) (a:kaa st.heap id=some (.frow e size xs)) (b:n=xs.length):LendI.ok st (.row t id n e size xs):=⟨h1,a,b⟩
theorem kafp:∀ l∈([]:List LendI),l.ok st:=fun l h=>by cases h
theorem kado {l:LendI} {ls:List LendI} (h:l.ok st) (hs:∀ k∈ls,k.ok st):∀ k∈l::ls,k.ok st:=fun k hk=>by
 rcases qab.1 hk with rfl | hk;exact h
 ·exact hs k hk
def cut3 {α:Type} (xs:List α) (l h m:Int):Option (List α):=if 0<=l/\l<=h/\h<=m/\m<=xs.length then some ((xs.take h.toNat).drop l.toNat) else none
theorem RF.take3 {A:Option Addr} {cap n size:Nat} {xs:List FV} (h:RF S w (.slice A n cap) (.lst size n xs)) (lo hi m:Nat) (h1:lo<=hi) (e:hi<=n) (f:hi<=m) (g:m<=cap):RF S w (.slice (if m=lo then A else A.map (·.add (lo*size))) (hi - lo) (m - lo)) (.lst size (hi - lo) ((xs.take hi).drop lo)):=by
 obtain ⟨A0,cap0,css,hv,hn,hc,hm,hs,ha,hl,hr⟩:=h.lst_inv;injection hv with e1 _ e3;subst e1 e3;have a:(xs.take hi).length=hi:=by rw [qap];omega
 have get:∀ (i:Nat) (x:FV),((xs.take hi).drop lo)[i]?=some x->xs[lo+i]?=some x:=fun i x hx=>by
  rw [qag,q9] at hx;split at hx;exact hx
  ·cases hx
 refine .lst (fun i=>css (lo+i)) (by rw [qa2,a]) (by omega) (by omega) hs (fun i x hx=>?_) (fun i x hx=>hl _ x (get i x hx)) fun i x j v y hx hv hy=>hr _ x j v y (get i x hx) hv hy;obtain ⟨b,o,hA,hS,c⟩:=ha _ x (get i x hx);have d:=(qj.1 hx).1;rw [qa2,a] at d;refine ⟨b,o+lo*size,?_,hS,by rw [Nat.add_assoc,<- qa3];exact c⟩;rw [ql (by omega),hA];simp only [qa9,kck]
theorem kajz {α:Type} (enc:α->FV) (x y m:Operand) (lo:Option Operand) (l:Option Int) (h k:Int) (xs:List α) {r:List α} (size:Nat) (e:TypeId) (de:TD) (k1 k2:IntKind) (hc:cut3 xs (l.getD 0) h k=some r) (p:TOk P T) (s:o.op = .slice t x lo (some y) (some m)) (hd:kae T t=some d) (hk:d.kind = .slice e) (f:kae T e=some de) (g:de.size=size) (hx:st.eval x = .fz (eL size enc xs)) (hl:kr8 st lo=some l) (u:st.eval y = .fz (.atom (.int k1 h))) (hm:st.eval m = .fz (.atom (.int k2 k))):NStep P o st (.fz (eL size enc r)):=by
 intro ψ S a w ht E;have h1:=Sim.eval_tmps ht x;rw [hx] at h1;have bl:=kqn ht hl;have b:=Sim.eval_tmps ht y;rw [u] at b;have b:=b.atom;have c:=Sim.eval_tmps ht m;rw [hm] at c;have c:=c.atom;unfold cut3 at hc;split at hc
 ·rename_i q;injection hc with hc;subst hc;have h1:=h1.inv;obtain ⟨A,cap,css,hv,hn,z,B,hs,ha,C,hr⟩:=h1.lst_inv;rw [hv] at h1;have i:=h1.take3 (l.getD 0).toNat h.toNat k.toNat (by omega) (by omega) (by omega) (by omega);refine kad w (.slice (if k.toNat=(l.getD 0).toNat then A else A.map (·.add ((l.getD 0).toNat*size))) (h.toNat - (l.getD 0).toNat) (k.toNat - (l.getD 0).toNat)) ?_ ⟨kaf _,(RV.fz ?_).here⟩
  ·have D:=(p.get hd).slice hk;have e1:(Instr.sliceBounds true xs.length cap (lo.map a.eval) ((some y).map a.eval) ((some m).map a.eval)).run P w = .ok ((l.getD 0).toNat,h.toNat,k.toNat) w:=by
    unfold Instr.sliceBounds;have q1:0<=k:=(by omega);have q2:k<=(cap:Int):=(by omega);have q3:0<=h:=(by omega);have q4:h<=(k.toNat:Int):=(by omega);rcases bl with ⟨rfl,rfl⟩ | ⟨y',k',n',rfl,rfl,j⟩;simp [Instr.sliceBound,b,c,asIntOf,q1,q2,q3,q4];intro hc;exfalso;omega
    ·simp only [qbk] at q ⊢;have q5:n'<=(h.toNat:Int):=(by omega);simp [Instr.sliceBound,b,c,j,asIntOf,q1,q2,q3,q4,q5,q.1];rw [qs (by omega),qs (by omega)]
   have n:(sizeOf e).run P w = .ok size w:=(by rw [(p.get f).size,g]);simp only [qa9] at e1;simp [execOp,s,Instr.sliceAt,Instr.slice,run_underlying D,hv,e1,n]
  ·have:((xs.take h.toNat).drop (l.getD 0).toNat).length=h.toNat - (l.getD 0).toNat:=(by rw [qa2,qap];omega);unfold eL;rw [this,List.map_drop,List.map_take];exact i
 ·cases hc
end Go.Proofs.YtgebfaidgikieaaGreatDoor
