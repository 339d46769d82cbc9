import Derived.Test.YtjpkdegjcilndaaGreatDoorHd
import Derived.Laws.StructEq
import Derived.Laws.BytesString
import Derived.Lib.ConvBytes
import Derived.Deep.AppendSrc
import Derived.Lib.Builder
import Derived.Lib.AppendStr
import Derived.Lib.UnsafeStr
import Derived.MapKept
import Derived.Laws.OwnMore
import Derived.Recover
import Derived.Laws.CopyRow
import Derived.Laws.IdiomCopy
set_option linter.all false
set_option linter.unusedSectionVars false
namespace Go.Proofs.YtjpkdegjcilndaaGreatDoor
open Go Go.RowKit
variable [Dr]
def eqF (T:List (TypeId×TD)):List (TypeId×Nat)->List FV->List FV->Option Bool
 | [],_,_=>some true
 | (ft,off)::fs,xs,ys=>match kad T ft,xs[off]?,ys[off]?,eqF T fs xs ys with
  | some d,some (.atom u),some (.atom v),some r=>match d.kind,u,v with
   | .str, .string a, .string b=>some (a.toList == b.toList && r)
   | .int k, .int k1 a, .int k2 b=>if k1=k2 then some ((a == b) && r) else none
   | .bool, .bool a, .bool b=>some ((a == b) && r)
   | _,_,_=>none
  | _,_,_,_=>none
def toBA (xs:List Int):BA:=xs.foldl (fun r n=>r.push (UInt8.ofNat n.toNat)) ByteArray.empty
def ofBA (s:BA):List Int:=s.data.toList.map fun b=>(b.toNat:Int)
def appS (xs:List Int) (s:BA):Option (List Int):=if xs.length+s.size<=140737488355328 then some (xs++ofBA s) else none
variable {P:Program} {F S0:Nat->Prop} {N0:Nat} {w w':World} {S S':Nat->Prop} {ψ:Env} {K:Nat->Prop} {T:List (TypeId×TD)} {o:Oper} {a:Act} {st:St} {t:TypeId} {d:TD} {id:Nat}
theorem kad3 {sr:TypeId} {x:Operand} {k k':IntKind} {n:Int} {ds:TD} (b:TOk P T) (c:o.op = .convert sr t x) (hs:kad T sr=some ds) (hd:kad T t=some d) (hk:d.kind = .int k) (hx:st.eval x = .fz (.atom (.int k' n))):NStep P o st (.fz (.atom (.int k (k.wrap n)))):=by obtain ⟨_,e,h1,_⟩:=b.get hs;obtain ⟨_,e',f,a⟩:=b.get hd;rw [hk] at a;cases e' <;> simp only [kg3] at a;subst a;exact kal0 ds c ⟨_,h1⟩ f hx
theorem kaae {sr:TypeId} {x:Operand} {s:BA} {ds:TD} (c:TOk P T) (e:o.op = .convert sr t x) (hs:kad T sr=some ds) (b:ds.kind = .str) (hd:kad T t=some d) (hk:d.kind = .str) (hx:st.eval x = .fz (.atom (.string s))):NStep P o st (.fz (.atom (.string s))):=by intro ψ S a w ht f;have h1:=Sim.eval_tmps ht x;rw [hx] at h1;refine kae w (.string s) ?_ ⟨kaf _, .fz (.atom rfl)⟩;simp [execOp,e,h1.atom,convert,run_underlying ((c.get hs).str b),run_underlying ((c.get hd).str hk)]
theorem k97 {v:Value} {n:Int} (h:RF S w v (eU8 n)):v = .int .u8 n:=h.atom_eq
theorem s_b2s (sr e:TypeId) (x:Operand) (xs:List Int) (ds de:TD) (q:TOk P T) (D:o.op = .convert sr t x) (hs:kad T sr=some ds) (r:ds.kind = .slice e) (E:kad T e=some de) (s:de.kind = .int .u8) (hd:kad T t=some d) (hk:d.kind = .str) (hx:kn6 (st.eval x)=some (xs.map eU8):=by kernel_rfl):NStep P o st (.fz (eS (toBA xs))):=by
 intro ψ S a w ht J;obtain ⟨A,cap,size,n,u,hv,F⟩:=kw5 (Sim.eval_tmps ht x) hx;obtain ⟨A',cap',css,i,G,hc,hm,H,ha,hl,hr⟩:=F.lst_inv;have hA:A'=A/\cap'=cap:=by rw [hv] at i;injection i with h1 p I;exact ⟨h1.symm,I.symm⟩
 obtain ⟨rfl,rfl⟩:=hA;obtain ⟨_,e',h1,p⟩:=q.get E;rw [s] at p;cases e' <;> simp only [kg3] at p;subst p;refine kae w (.string (toBA xs)) ?_ ⟨kaf _, .fz (.atom rfl)⟩;have k:(Conv.bytesToString (.slice A' n cap')).run P w = .ok (.string (toBA xs)) w:=by
  cases A' with
  | none=>
   have y:xs=[]:=by
    cases xs with
    | nil=>rfl
    | cons x xs=>obtain ⟨b,o,h,_⟩:=ha 0 (eU8 x) rfl;cases h
   subst y;rfl
  | some ad=>
   refine run_bytesToString w ad n cap' xs ?_;have:=run_loadCells_list (P:=P) w ad (xs.map (Value.int .u8)) fun j v C=>(by simp only [qq,qt] at C;obtain ⟨m,z,rfl⟩:=C;have c:(xs.map eU8)[j]?=some (eU8 m):=(by rw [qq,z];rfl);obtain ⟨b,off,hA,_,B⟩:=ha j _ c;injection hA with hA;subst hA;obtain ⟨l1,l2,l3⟩:=hl j _ c;have hs1:size=1:=(by rw [<- l2];rfl);subst hs1;have f:(css j)[0]?=some ((css j)[0]'(by omega)):=qb _;have:=hr j _ 0 _ (eU8 m) c f rfl;rw [k97 this] at f;have g:=B 0 _ f;rw [kb6];simpa using g);have l:(xs.map (Value.int .u8)).length=n:=(by rw [u];simp);rw [l] at this;exact this
 simp only [execOp,D,hv,Sem.run_bind];rw [run_convert_bytes_string w sr t e A' n cap' ((q.get hs).slice r) h1 ((q.get hd).str hk),k];rfl
theorem kafu {n:Nat} {parts:Array (Nat×Operand)} {e:TypeId} {de:TD} {xs:List FV} (V:o.op = .buildSlice t n parts) (hd:TdOk P t d) (hk:d.kind = .slice e) (H:TdOk P e de) (g:0<de.size) (hn:xs.length=n) (R:n*de.size<=16777216)
  (hp:koa de.size 0 (kdf st parts)=some xs) (A:st.ids.contains id=false):StepA P o st (.row id n) ((id, .frow e de.size xs)::st.heap) (id::st.ids):=by
 have A:id∉st.ids:=by simpa using A
 subst hn;intro F S0 N0 ψ S a w I;have ht:=I.tmps;obtain ⟨e1,e2⟩:=kob ht parts;obtain ⟨p1,p2⟩:=kw8 hp;obtain ⟨vs,B⟩:∃ vs:List Value,vs=parts.toList.map (fun p=>a.eval p.2):=⟨_,rfl⟩;have f:parts.toList.length=xs.length:=by
  have:(kdf st parts).length=xs.length:=by rw [p1];simp
  simpa [kdf] using this
 have C:vs.length=xs.length:=by rw [B];simp at f ⊢; exact f
 have k:∀ (i:Nat) (x:FV),xs[i]?=some x->∃ v p,vs[i]?=some v/\parts.toList[i]?=some p/\p.1=i/\RF S w v x:=fun i x hx=>by
  have hi:i<parts.toList.length:=by rw [f];exact (qg.1 hx).1
  have X:(kdf st parts)[i]?=some (i, .fz x):=by rw [p1];simp [hx]
  have D:parts.toList[i]?=some parts.toList[i]:=qb hi;have K:(parts.map fun (i,x)=>(i,a.eval x)).toList[i]?=some (parts.toList[i].1,a.eval parts.toList[i].2):=by simp [D]
  obtain ⟨r1,r2⟩:=e2 i _ _ K X;exact ⟨a.eval parts.toList[i].2,parts.toList[i],by rw [B,qq,D];rfl,D,r1,r2.inv⟩
 have L:(parts.map fun (i,x)=>(i,a.eval x)).toList=(vs.zipIdx 0).map (fun x=>(x.2,x.1)):=by
  apply qbg;intro i;by_cases hi:i<xs.length;obtain ⟨v,p,h1,T,Y,_⟩:=k i xs[i] (qb hi);have:v=a.eval p.2:=(by rw [B,qq,T] at h1;simpa using h1.symm);simp only [Array.toList_map,qq,List.getElem?_zipIdx,h1,T,qa6,Nat.zero_add];rw [this,Y]
  ·rw [qaq (by simp at f ⊢; omega),qaq (by simp [C];omega)]
 have c:∀ v∈vs,v.cells.size=de.size:=fun v hv=>by obtain ⟨i,hi,rfl⟩:=qai.1 hv;obtain ⟨v,p,h1,_,_,M⟩:=k i xs[i] (qb (by omega));rw [qb hi] at h1;injection h1 with h1;rw [h1,(M.cells (p2 _ (q9 _)).2).1,(p2 _ (q9 _)).1]
 obtain ⟨z,N,Z⟩:=H.zero (P:=P) (w:=w);obtain ⟨cells,hcl⟩:∃ cells:Array Value,cells=(vs.flatMap fun v=>v.cells.toList).toArray:=⟨_,rfl⟩;have J:(Instr.buildSlice t xs.length (parts.map fun (i,x)=>(i,a.eval x))).run P w = .ok (.slice (some ⟨w.heap.size,0,none⟩) xs.length xs.length) (w.alloc (.cells cells e)):=by
  have O:¬ xs.length*de.size > 2 ^ 24:=by omega
  have m:∀ c0:Array Value,xs.length*de.size=c0.size->Instr.fill (fun i=>some (i*de.size,de.size)) c0 (parts.map fun (i,x)=>(i,a.eval x)).toList=some cells:=fun c0 Q=>by rw [L,Great.fill_whole g vs c0 c (by rw [C];exact Q),hcl]
  unfold Instr.buildSlice;rw [Sem.run_bind,run_underlying (hd.slice hk),Result.andThen_ok];simp only [Sem.run_bind,H.size,Result.andThen_ok,qi O];by_cases h0:xs.length*de.size=0
  ·simp only [qo h0,Sem.run_bind,Sem.run_pure,Result.andThen_ok];rw [m];rfl
   ·simp
  ·simp only [qi h0,Sem.run_bind,N,Result.andThen_ok,Sem.run_pure];rw [m];rfl
   ·simp
 have q:cells.toList.length=xs.length*de.size:=by
  rw [hcl];have:∀ l:List Value,(∀ v∈l,v.cells.size=de.size)->(l.flatMap fun v=>v.cells.toList).length=l.length*de.size:=fun l=>by
   induction l with
   | nil=>intro _;simp
   | cons v l ih=>
    intro h;rw [List.flatMap_cons,qah,ih fun u hu=>h u (qh _ hu),qal,h v (qu ..),qy,Nat.succ_mul,Nat.add_comm]
  simpa [C] using this vs c
 have r:=I.core;have E:Grow w (w.alloc (.cells cells e)):=kbj _ _;refine kae (w.alloc (.cells cells e)) (.slice (some ⟨w.heap.size,0,none⟩) xs.length xs.length) ?_ ⟨ψ.set id xs.length (.slice (some ⟨w.heap.size,0,none⟩) xs.length xs.length),S,?_,?_,kjo _ r.fr,ka8 A _ _,fun _ h=>qh _ h,fun _ h=>h,Same.of_grow E⟩;have s:=J;simp only [execOp,V,Sem.run_bind];rw [show (parts.map fun (i,x)=>(i,a.eval x))=parts.map (fun x=>(x.1,a.eval x.2)) from rfl] at s;simp [s]
 ·refine r.add E A (fun b R=>by simp [kak] at R;omega) ⟨kbf _ _,g,cells.toList,?_,fun x hx=>p2 x hx,fun i x j v y hx hv hy=>?_⟩
  ·rw [kai];refine ⟨q, .inr ⟨w.heap.size,xs.length,cells,rfl,qaj _,heap_alloc_new w _,qx _,?_,by simpa using q,?_⟩⟩;have:xs.length*1<=xs.length*de.size:=Nat.mul_le_mul_left _ g;unfold maxLen;omega
   ·rw [<- q,List.take_length]
  ·obtain ⟨u,p,h1,_,_,M⟩:=k i x hx;have U:j<de.size:=(by have:=(qg.1 hy).1;rw [(p2 x (qn hx)).1] at this;exact this);have G:=Great.flat_get g vs c (i*de.size+j);rw [show (i*de.size+j) / de.size=i by rw [Nat.mul_comm,Nat.mul_add_div g,Nat.div_eq_of_lt U];omega,show (i*de.size+j) % de.size=j by rw [Nat.mul_comm,Nat.mul_add_mod,Nat.mod_eq_of_lt U],h1] at G;simp only [qa] at G;rw [hcl] at hv;simp only [] at hv;rw [G] at hv;have:=(M.cells (p2 x (qn hx)).2).2.1 j v y (by simpa using hv) hy;exact this.keep (Same.of_grow E)
 ·exact .row (qu ..) (by rw [kbf];exact qx _) rfl fun _=>(kai _ _).symm
theorem ko5 (t:TypeId) (d:TD) (id:Nat) {α:Type} (enc:α->FV) (n:Nat) (parts:Array (Nat×Operand)) (e:TypeId) (de:TD) (xs:List α) (c:TOk P T:=by exact tt_ok) (h:Nat.ble (n*de.size) 16777216=true:=by kernel_rfl) (hp:koa de.size 0 (kdf st parts)=some (xs.map enc):=by kernel_rfl) (b:st.ids.contains id=false:=by kernel_rfl) (f:o.op = .buildSlice t n parts:=by kernel_rfl) (hd:kad T t=some d:=by kernel_rfl) (hk:d.kind = .slice e:=by kernel_rfl) (a:kad T e=some de:=by kernel_rfl) (g:Nat.ble 1 de.size=true:=by kernel_rfl) (hn:xs.length=n:=by rfl):StepA P o st (.row id xs.length) ((id, .frow e de.size (xs.map enc))::st.heap) (id::st.ids):=by have:=kafu (id:=id) f (c.get hd) hk (c.get a) (qs g) (by simpa using hn) (qs h) hp b;rw [<- hn] at this;exact this
end Go.Proofs.YtjpkdegjcilndaaGreatDoor
set_option linter.all false
namespace Go.Proofs.YtjpkdegjcilndaaGreatDoor
open Go Go.RowKit
variable [Dr]
def kaab (id:Nat):List AV->Option (List AV)
 | .fz (.atom (.pointer none))::cs=>some (.opt id::cs)
 | .ref i n off::cs=>bif Nat.beq i id && (Nat.beq n 0 && Nat.beq off 0) then some (.opt id::cs) else none
 | _=>none
variable {P:Program} {F S0:Nat->Prop} {N0:Nat} {w w':World} {S S':Nat->Prop} {ψ:Env} {K:Nat->Prop} {T:List (TypeId×TD)} {o:Oper} {a:Act} {st:St} {t:TypeId} {d:TD} {id:Nat}
theorem k7b {e:TypeId} {c c':AV} {cells:List AV} (g:kaa st.heap id=some (.box e (c::cells))) (hs1:c'.single=true) (hs:Sim F S0 N0 st ψ S a w)
  (hv:∀ v b,ψ.len id=0->ψ.val id = .pointer (some ⟨b,0,none⟩)->RV ψ (·∈st.ids) S w v c->RV ψ (·∈st.ids) S w v c'):Sim F S0 N0 { st with heap:=(id, .box e (c'::cells))::st.heap } ψ S a w:=by
 obtain ⟨k1,⟨k0,b,cs,k2,k3,k4,k5,k6⟩,k7⟩:=hs.core.obj id _ g;refine ⟨hs.defers,hs.size,hs.tmps,⟨fun i ob d=>?_,fun i i' ob ob' bb d k l m=>?_,hs.core.lt,hs.core.s0,hs.core.n0,hs.core.fr⟩⟩
 ·rw [kac] at d;by_cases hi:id=i
  ·subst hi;rw [qo rfl] at d;injection d with d;subst d;refine ⟨k1,⟨k0,b,cs,k2,k3,by simpa using k4,fun x hx=>?_,fun i v x j hx=>?_⟩,k7⟩
   ·rcases qac.1 hx with rfl | hx;exact hs1
    ·exact k5 x (qh _ hx)
   ·cases i with
    | zero=>
     simp at hx;subst hx;exact hv v b k0 k2 (k6 0 v c j rfl)
    | succ i=>exact k6 (i+1) v x j (by simpa using hx)
  ·rw [qi hi] at d;exact hs.core.obj i ob d
 ·have f:∀ {i:Nat} {o:AObj},kaa ((id,AObj.box e (c'::cells))::st.heap) i=some o->∃ o',kaa st.heap i=some o':=fun {i o} h=>by
   rw [kac] at h;by_cases hi:id=i;subst hi;exact ⟨_,g⟩
   ·rw [qi hi] at h;exact ⟨_,h⟩
  obtain ⟨o1,h1⟩:=f d;obtain ⟨o2,n⟩:=f k;exact hs.core.inj i i' o1 o2 bb h1 n l m
theorem kq2 (id:Nat) (e2:TypeId) (cells cells':List AV) (c:kaa st.heap id=some (.box e2 cells):=by kernel_rfl) (hc:kaab id cells=some cells':=by kernel_rfl):LeSt st { st with heap:=(id, .box e2 cells')::st.heap }:=by
 intro F S0 N0 ψ S a w hs;have e:=(hs.core.obj id _ c).1;unfold kaab at hc;split at hc;injection hc with hc;subst hc;refine ⟨ψ,S,k7b c rfl hs fun v b h0 h1 hv=>?_⟩;rw [hv.atom];exact .opt e rfl fun _ => .inl rfl
 ·rename_i i n off cs;cases d:(Nat.beq i id && (Nat.beq n 0 && Nat.beq off 0)) with
  | false=>rw [d] at hc;cases hc
  | true=>
   rw [d] at hc;simp only [qe,qc] at hc;subst hc;simp only [qp] at d;obtain ⟨h1,f,g⟩:=d;obtain rfl:=qk h1;obtain rfl:=qk f;obtain rfl:=qk g;refine ⟨ψ,S,k7b c rfl hs fun v b h0 h1 hv=>?_⟩;cases hv with
   | ref hK hn j hv=>exact .opt hK j fun h => .inr (hv h)
 ·cases hc
theorem kak6 {e:TypeId} {cells:List AV} (j:kaa st.heap id=some (.box e (.opt id::cells))) (hs:Sim F S0 N0 st ψ S a w):
  Sim F S0 N0 { st with heap:=(id, .box e (.fz (.atom (.pointer none))::cells))::st.heap } ψ S a w\/Sim F S0 N0 { st with heap:=(id, .box e (.ref id 0 0::cells))::st.heap } ψ S a w:=by
 obtain ⟨k1,⟨k0,b,cs,k2,k3,k4,k5,k6⟩,k7⟩:=hs.core.obj id _ j;have g:cs[0]?=some (cs[0]'(by simp at k4;omega)):=qbf _;have hv:=k6 0 _ _ g rfl;generalize cs[0]'(by simp at k4;omega)=u at g hv;cases hv with
 | opt hK h1 hv=>
  have key:∀ c',c'.single=true->RV ψ (·∈st.ids) S w u c'->Sim F S0 N0 { st with heap:=(id, .box e (c'::cells))::st.heap } ψ S a w:=fun c' hs1 hr=>by
   refine ⟨hs.defers,hs.size,hs.tmps,⟨fun i ob d=>?_,fun i i' ob ob' bb d k l n=>?_,hs.core.lt,hs.core.s0,hs.core.n0,hs.core.fr⟩⟩
   ·rw [kac] at d;by_cases hi:id=i
    ·subst hi;rw [qo rfl] at d;injection d with d;subst d;refine ⟨k1,⟨k0,b,cs,k2,k3,by simpa using k4,fun x hx=>?_,fun i v x c hx=>?_⟩,k7⟩
     ·rcases qac.1 hx with rfl | hx;exact hs1
      ·exact k5 x (qh _ hx)
     ·cases i with
      | zero=>
       simp at hx;subst hx;rw [g] at c;injection c with c;exact c ▸ hr
      | succ i=>exact k6 (i+1) v x c (by simpa using hx)
    ·rw [qi hi] at d;exact hs.core.obj i ob d
   ·have f:∀ {i:Nat} {o:AObj},kaa ((id,AObj.box e (c'::cells))::st.heap) i=some o->∃ o',kaa st.heap i=some o':=fun {i o} h=>by
     rw [kac] at h;by_cases hi:id=i;subst hi;exact ⟨_,j⟩
     ·rw [qi hi] at h;exact ⟨_,h⟩
    obtain ⟨o1,h1⟩:=f d;obtain ⟨o2,p⟩:=f k;exact hs.core.inj i i' o1 o2 bb h1 p l n
  rcases hv k0.symm with rfl | ⟨b',m,rfl⟩;exact .inl (key _ rfl (.fz (.atom rfl)))
  ·exact .inr (key _ rfl (.ref hK (qaj _) rfl fun _=>⟨b',m,rfl⟩))
theorem k6b [Rd] {c:Code} {Q:Exit->St->Prop} {e:TypeId} {cells:List AV} (b:kaa st.heap id=some (.box e (.opt id::cells))) (h1:awp P c { st with heap:=(id, .box e (.fz (.atom (.pointer none))::cells))::st.heap } Q)
  (d:awp P c { st with heap:=(id, .box e (.ref id 0 0::cells))::st.heap } Q):awp P c st Q:=fun F S0 N0 ψ S a w hs=>by
 rcases kak6 b hs with h | h;exact h1 F S0 N0 ψ S a w h
 ·exact d F S0 N0 ψ S a w h
theorem kyy {e:TypeId} {cells:List AV} {off:Nat} {v:Value} (c:ObR ψ K S w id (.box e cells)) (hv:RV ψ K S w v (.ref id 0 off)):∃ b cs,v = .pointer (some ⟨b,off,none⟩)/\w.heap[b]?=some (.cells cs e (0,0))/\cs.size=cells.length:=by
 obtain ⟨k0,b,cs,k2,k3,k4,_⟩:=c;cases hv with
 | ref hK hn h1 hv=>
  obtain ⟨b',a,rfl⟩:=hv k0.symm;rw [k2] at a;simp only [kak,qc] at a;subst a;exact ⟨b,cs,rfl,k3,k4⟩
theorem kk1 {op:BinOp} {x y:Operand} {u v:Option Addr}:(eqGuard op t x y (.pointer u) (.pointer v)).run P w = .ok () w:=by unfold eqGuard;cases op <;> simp
theorem ku2 (w:World) (u v:Option Addr) (r:Bool) (h:∀ d:Nat,(Op.equalIn (d+1) t (.pointer u) (.pointer v)).run P w = .ok r w):(binOp .eql t (.pointer u) (.pointer v)).run P w = .ok (.bool r) w/\(binOp .neq t (.pointer u) (.pointer v)).run P w = .ok (.bool !r) w:=by constructor <;> (simp only [binOp];simp [Op.equal,Op.maxDepth,h 9999])
theorem kahl (x y:Operand) (yt te e:TypeId) (cells:List AV) (off:Nat) (neg:Bool) (h:o.op = .binOp (if neg then .neq else .eql) t x y yt:=by kernel_rfl) (ht:P.underlying t=some (.pointer te):=by kernel_rfl) (hx:st.eval x = .ref id 0 off:=by kernel_rfl) (g:kaa st.heap id=some (.box e cells):=by kernel_rfl) (hy:st.eval y = .fz (.atom (.pointer none)):=by kernel_rfl):
  NStep P o st (.fz (.atom (.bool neg))):=by
 intro ψ S a w c i;have h1:=Sim.eval_tmps c x;rw [hx] at h1;obtain ⟨b,cs,h1,_⟩:=kyy (i id _ g) h1;have f:=Sim.eval_tmps c y;rw [hy] at f;have f:=f.atom;refine kae w (.bool neg) ?_ ⟨kaf _, .fz (.atom rfl)⟩;obtain ⟨q1,q2⟩:=ku2 (t:=t) (P:=P) w (some ⟨b,off,none⟩) none false fun d=>by simp [Op.equalIn,run_underlying ht]
 cases neg;simp [execOp,h,h1,f,kk1,q1]
 ·simp [execOp,h,h1,f,kk1,q2]
theorem kagv (x y:Operand) (yt te:TypeId) (neg:Bool) (e:o.op = .binOp (if neg then .neq else .eql) t x y yt:=by kernel_rfl) (ht:P.underlying t=some (.pointer te):=by kernel_rfl) (hx:st.eval x = .fz (.atom (.pointer none)):=by kernel_rfl) (hy:st.eval y = .fz (.atom (.pointer none)):=by kernel_rfl):
  NStep P o st (.fz (.atom (.bool !neg))):=by
 intro ψ S a w b f;have h1:=Sim.eval_tmps b x;rw [hx] at h1;have h1:=h1.atom;have c:=Sim.eval_tmps b y;rw [hy] at c;have c:=c.atom;refine kae w (.bool !neg) ?_ ⟨kaf _, .fz (.atom rfl)⟩;obtain ⟨q1,q2⟩:=ku2 (t:=t) (P:=P) w none none true fun d=>by simp [Op.equalIn,run_underlying ht]
 cases neg;simp [execOp,e,h1,c,kk1,q1]
 ·simp [execOp,e,h1,c,kk1,q2]
theorem kadz (x y:Operand) (yt te e:TypeId) (cells:List AV) (off:Nat) (j:TypeInfo) (neg:Bool) (k:o.op = .binOp (if neg then .neq else .eql) t x y yt:=by kernel_rfl) (ht:P.underlying t=some (.pointer te):=by kernel_rfl) (n:P.info? te=some j:=by kernel_rfl) (hx:st.eval x = .ref id 0 off:=by kernel_rfl) (h:kaa st.heap id=some (.box e cells):=by kernel_rfl) (hy:st.eval y = .ref id 0 off:=by kernel_rfl):NStep P o st (.fz (.atom (.bool !neg))):=by
 intro ψ S a w f l;have h1:=Sim.eval_tmps f x;rw [hx] at h1;obtain ⟨b,cs,h1,g1,_⟩:=kyy (l id _ h) h1;have i:=Sim.eval_tmps f y;rw [hy] at i;obtain ⟨k0,b0,cs0,k2,_⟩:=l id _ h;have m:∀ v,RV ψ (·∈st.ids) S w v (.ref id 0 off)->v = .pointer (some ⟨b0,off,none⟩):=fun v hv=>by
  cases hv with
  | ref hK hn p hv=>
   obtain ⟨b',g,rfl⟩:=hv k0.symm;rw [k2] at g;simp only [kak,qc] at g;rw [g]
 have i:=m _ i;have c:=m _ (by have:=Sim.eval_tmps f x;rw [hx] at this;exact this);rw [h1] at c;injection c with c;injection c with c;injection c with c;subst c;refine kae w (.bool !neg) ?_ ⟨kaf _, .fz (.atom rfl)⟩;obtain ⟨q1,q2⟩:=ku2 (t:=t) (P:=P) w (some ⟨b,off,none⟩) (some ⟨b,off,none⟩) true fun d=>by simp [Op.equalIn,run_underlying ht,sizeOf,typeInfo,n,run_sameAddr_same]
 cases neg;simp [execOp,k,h1,i,kk1,q1]
 ·simp [execOp,k,h1,i,kk1,q2]
theorem kuz {b:Nat} {cs:Array Value} {e:TypeId} (h:w.heap[b]?=some (.cells cs e (0,0))):w.shape? b=some (e,cs.size):=by simp [World.shape?,h]
theorem kabk (x:Operand) (src te e:TypeId) (cells:List AV) (j:TypeInfo) (g:o.op = .convert src t x:=by kernel_rfl) (hs:P.underlying src=some (.pointer te):=by kernel_rfl) (hd:P.underlying t=some .unsafePointer:=by kernel_rfl) (h:P.info? te=some j:=by kernel_rfl) (c:Nat.beq j.size 0=false:=by kernel_rfl) (hx:st.eval x = .ref id 0 0:=by kernel_rfl) (d:kaa st.heap id=some (.box e cells):=by kernel_rfl) (hc:Nat.ble 1 cells.length=true:=by kernel_rfl):NStep P o st (.ref id 0 0):=by intro ψ S a w f i;have h0:=Sim.eval_tmps f x;rw [hx] at h0;obtain ⟨b,cs,h1,g1,g2⟩:=kyy (i id _ d) h0;refine kae w (a.eval x) ?_ ⟨kaf _,h0.here⟩;simp only [execOp,g,Sem.run_bind,h1];rw [Lib.run_to_unsafe w ⟨b,0,none⟩ hs hd h (fun e=>by rw [e] at c;cases c) (kuz g1) (by rw [g2];exact qs hc)];rfl
theorem k6o (x:Operand) (src u e:TypeId) (cells:List AV) (j:TypeInfo) (f:o.op = .convert src t x:=by kernel_rfl) (hs:P.underlying src=some .unsafePointer:=by kernel_rfl) (hd:P.underlying t=some (.pointer u):=by kernel_rfl) (g:P.info? u=some j:=by kernel_rfl) (hx:st.eval x = .ref id 0 0:=by kernel_rfl) (c:kaa st.heap id=some (.box e cells):=by kernel_rfl) (hl:liesAt P P.depth e (cells.length / P.cellsOf e) 0 u 1=true:=by kernel_rfl):NStep P o st (.ref id 0 0):=by intro ψ S a w d h;have h0:=Sim.eval_tmps d x;rw [hx] at h0;obtain ⟨b,cs,h1,g1,g2⟩:=kyy (h id _ c) h0;refine kae w (a.eval x) ?_ ⟨kaf _,h0.here⟩;simp only [execOp,f,Sem.run_bind,h1];rw [Lib.run_from_unsafe w ⟨b,0,none⟩ hs hd g (kuz g1) (by rw [g2];exact hl)];rfl
theorem kaco (f: FuncId) (fn: Func) (ts: Array TypeId) (X: Operand) (c: o.op = .call { callee := .value (.func f), args := #[X], argTypes := ts }) (d: P.funcs[f]? = some fn) (b: (fn.name == "runtime.NumGoroutine") = false := by kernel_rfl) (e: fn.body.isNone = true := by kernel_rfl) (hn: Extern.findNext fn = none := by kernel_rfl) (g: Extern.find fn = some Extern.AbiNoEscape.same := by kernel_rfl):
  NStep P o st (st.eval X):=by
 intro ψ S a w ht h;refine kae w (a.eval X) ?_ ⟨kaf _,(Sim.eval_tmps ht X).here⟩;have h0:a.eval (.func f) = .func (.func f) #[] #[]:=rfl;simp [execOp,c,resolve,h0,Deferred.ofValue,invoke,run_callFunc_extern d b e hn g,Lib.run_noEscape]
theorem k2l {e t u:TypeId} (ty:TypeId) {i:TypeInfo} (ht:P.underlying t=some (.slice e)) (p:P.underlying u=some .string) (hi:P.info? e=some i) (q:i.zero=some (.int .u8 0)) (a:i.size=1) (k:i.bytes=1) {v:Value} {n:Nat} {xs:List Value} (c:w.ownsRow 0 e 1 v n xs) (s:BA) (d:n+s.size<=140737488355328):∃ v' w',(Builtin.append_ #[t,u] ty #[v, .string s]).run P w = .ok v' w'/\w'.ownsRow 0 e 1 v' (n+s.size) (xs++Lib.strCells s)/\w.grownBy w' v.ownBlock/\(∀ b,v'.ownBlock=some b->v.ownBlock=some b\/w.heap.size<=b)/\(s.size=0->v'=v):=by
 have hm:n+s.size<=maxLen:=by unfold maxLen;omega
 have o:xs.length=n:=by simpa using c.1
 obtain ⟨v',w',h1,r,x,E⟩:=Lib.run_append_own_string w 0 t u ty e i ht p hi q a k v n xs c s hm d (qaj _);have F:s.size=0->xs++Lib.strCells s=xs:=fun h0=>by have:Lib.strCells s=[]:=qa5 (by rw [Lib.strCells_length];exact h0);rw [this,List.append_nil]
 rcases c.2 with ⟨rfl,rfl⟩ | ⟨g,cap,cur,rfl,y,B,G,H,z,A⟩
 ·have hx:xs=[]:=qa5 o;subst hx;obtain ⟨v2,w2,k1,k2,k3,k4⟩:=Lib.run_append_own_string w w.heap.size t u ty e i ht p hi q a k (.slice none 0 0) 0 [] (World.ownsRow_nil w _ e 1) s hm d (qx _);rw [h1] at k1;injection k1 with k5 k6;subst k5 k6;refine ⟨v',w',h1,r,x,fun b f => .inr ?_,fun h0=>E.2 ⟨rfl,h0⟩⟩;rcases k2.2 with ⟨rfl,_⟩ | ⟨g,cap,cur,rfl,y,_⟩;cases f
  ·have:g=b:=(by simpa [Value.ownBlock] using f);omega
 ·have C:cur.size=cap:=by simpa using z
  have h:=Src.ofString (P:=P) w p s;by_cases l:n+s.size<=cap
  ·have hr:=run_append_room_src (P:=P) w t u ty e i ht hi g 0 n cap (.string s) s.size _ (by rw [a];exact h) l (fun j D=>by rw [byteCells_length] at D;rw [a,Lib.cell_of_heap B,qbf (by omega)];rfl) (fun j D=>Lib.frozen_of_heap B _);rw [h1] at hr;injection hr with k5 k6;refine ⟨v',w',h1,r,x,fun b f => .inl ?_,fun h0=>?_⟩;rw [k5] at f;exact f
   ·rw [k5,h0];rfl
  ·have m:∀ j u,xs[j]?=some u->w.cell? ((⟨g,0,none⟩:Addr).add j)=some u:=c.cells (g:=g) rfl;have hr:=run_append_grow_src (P:=P) w t u ty e i (.int .u8 0) ht hi q (some ⟨g,0,none⟩) n cap xs (run_firstCells_some w.drew i.size n ⟨g,0,none⟩ n cap xs (by rw [a];simpa using o) (by simpa using m)) (.string s) s.size _ (by rw [a];exact h) (by omega) (by omega) (by rw [k];exact growslice_fits (by omega) (by omega));rw [h1] at hr;injection hr with k5 k6;refine ⟨v',w',h1,r,x,fun b f => .inr ?_,fun h0=>?_⟩;rw [k5] at f;injection f with f;simp at f;omega
   ·omega
theorem kadh {x y:Operand} {e u:TypeId} {n:Nat} (xs:List FV) {s:BA} {i:TypeInfo} (ho:o.op = .call { callee := .builtin .append,args:=#[x,y],argTypes:=#[t,u] }) (hd:TdOk P t d) (hk:d.kind = .slice e) (hu:P.underlying u=some .string) (hi:P.info? e=some i) (Q:i.zero=some (.int .u8 0)) (B:i.size=1) (R:i.bytes=1) (hx:st.eval x = .row id n) (D:kaa st.heap id=some (.frow e 1 xs)) (hn:n=xs.length) (hy:st.eval y = .fz (.atom (.string s))) (E:xs.length+s.size<=140737488355328):
  StepA P o st (.row id (xs.length+s.size)) ((id, .frow e 1 (xs++(ofBA s).map eU8))::st.heap) st.ids:=by
 subst hn;intro F S0 N0 ψ S a w C;have p:=C.core;obtain ⟨T,⟨h0,G,cs,g,H,hr⟩,U⟩:=p.obj id _ D;have hv:=C.eval x;rw [hx] at hv;have V:a.eval x=ψ.val id:=by
  generalize a.eval x=u at hv;cases hv with
  | row hK hn h1 hv=>exact hv h0.symm
 have q:=C.eval y;rw [hy] at q;have q:=q.atom;obtain ⟨v',w',r,l,f,I,J⟩:=k2l o.type (hd.slice hk) hu hi Q B R g s E;have hcl:cs.length=xs.length:=by simpa using g.1
 have K:((ofBA s).map eU8).length=s.size:=by simp [ofBA]
 have L:(xs++(ofBA s).map eU8).length=xs.length+s.size:=by rw [qah,K]
 have M:ψ.len id<xs.length+s.size\/(ψ.len id=xs.length+s.size/\v'=ψ.val id):=by
  by_cases X:s.size=0;refine .inr ⟨by omega,J X⟩
  ·exact .inl (by omega)
 have A:∀ k,k<w.heap.size->¬ Blk (ψ.val id) k->w'.heap[k]?=w.heap[k]?:=fun k hk Y=>f.block k hk fun e=>Y (kyb g e.symm);have Z:Same S w w':=fun k hk hl=>A k hl fun e=>(U k e).1 hk;obtain ⟨c1,c2,c3⟩:=p.upd (n:=xs.length+s.size) (v:=v') (w':=w') (ob' := .frow e 1 (xs++(ofBA s).map eU8)) D f.size A M (fun b hb=>by
   rcases I b (k96 l hb) with h | h;exact .inl (kyb g h)
   ·exact .inr h)
  ⟨by rw [kbf,L],G,cs++Lib.strCells s,by rw [kai,L];exact l,fun z Q=>(qau.1 Q).elim (H z) (fun h=>by obtain ⟨m,_,rfl⟩:=qas.1 h;exact ⟨rfl,fun y hy=>by simp [eU8,FV.cells] at hy;subst hy;rfl⟩),(RowR.append G (fun i x j v y h1 O N=>hr i x j v y h1 O N) (fun i x j v y h1 O N=>by simp only [qq,qt] at h1;obtain ⟨m,hm,rfl⟩:=h1;have hj:j=0:=(by have:=(qg.1 N).1;simp [eU8,FV.cells] at this;exact this);subst hj;simp [eU8,FV.cells] at N;subst N;simp only [ofBA,qq,qt] at hm;obtain ⟨c,hc,rfl⟩:=hm;simp only [Lib.strCells,qq,qbi,Nat.add_zero,hc,qa6,qc] at O;subst O;exact .atom rfl) g.1 H).keep Z⟩
 refine kae w' v' ?_ ⟨_,S,c1, .row T (by rw [kbf];exact qx _) (krc l) (fun _=>(kai _ _).symm),⟨f.os,f.tape,f.output,f.size,c3,fun _=>ksi r⟩,kl2 M,fun _ h=>h,fun _ h=>h,c2⟩;simp only [execOp,ho,resolve,invoke,builtin,Sem.run_bind,Sem.run_pure,Result.andThen_ok,List.map_toArray,qa0,List.map_nil,V,q,r]
theorem kac1 (x y:Operand) (e u:TypeId) (n:Nat) (xs:List Int) {r:List Int} (s:BA) (i:TypeInfo) (h:appS xs s=some r) (f:TOk P T) (g:o.op = .call { callee := .builtin .append,args:=#[x,y],argTypes:=#[t,u] }) (hd:kad T t=some d) (hk:d.kind = .slice e) (j:P.underlying u=some .string) (hi:P.info? e=some i) (k:i.zero=some (.int .u8 0)) (a:i.size=1) (b:i.bytes=1) (hx:st.eval x = .row id n) (c:kaa st.heap id=some (.frow e 1 (xs.map eU8))) (hn:n=xs.length) (hy:st.eval y = .fz (.atom (.string s)):=by kernel_rfl):
  StepA P o st (.row id r.length) ((id, .frow e 1 (r.map eU8))::st.heap) st.ids:=by
 unfold appS at h;split at h
 ·rename_i hl;injection h with h;subst h;have:=kadh (id:=id) (P:=P) (xs.map eU8) g (f.get hd) hk j hi k a b hx c (by rw [hn];simp) hy (by simpa using hl);rw [qaa,<- qb0] at this;have hl:(xs++ofBA s).length=xs.length+s.size:=by simp [ofBA]
  rw [hl];exact this
 ·cases h
theorem k8y (x:Operand) (ts:Array TypeId) (e e':TypeId) (size n:Nat) (xs:List FV) (m:o.op = .call { callee := .builtin .unsafeSliceData,args:=#[x],argTypes:=ts }) (i:P.underlying o.type=some (.pointer e')) (hx:st.eval x = .row id n) (j:kaa st.heap id=some (.frow e size xs)) (c:n=xs.length):
  NStep P o st (.sdp id n):=by
 intro ψ S a w k p;have h0:=Sim.eval_tmps k x;rw [hx] at h0;obtain ⟨k0,q,cs,d,_⟩:=p id _ j;have key:∀ v w' u,(Builtin.unsafeSliceData_ ts o.type #[u]).run P w = .ok v w'->a.eval x=u->(execOp a.eval o).run P w = .ok (.value v) w':=fun v w' u h f=>by simp only [execOp,m,resolve,invoke,builtin,Sem.run_bind,Sem.run_pure,Result.andThen_ok,List.map_toArray,qa0,List.map_nil,f,h]
 generalize f:a.eval x=u at h0;cases h0 with
 | row hK hn h1 hv=>
  have l:n=ψ.len id:=by rw [k0,c]
  ·obtain rfl:=hv l;rcases d.2 with ⟨b,c⟩ | ⟨g,cap,cur,b,r,s,t,y,z,A⟩;refine kae w (.pointer none) (key _ _ _ (by rw [b];exact Lib.run_unsafeSliceData_nil w _ _ _ _) f) ⟨kaf _, .sdp hK hn rfl fun _=>⟨⟨_,rfl⟩,fun h=>by omega⟩⟩
   ·by_cases hc:cap=0;subst hc;have hr:=Lib.run_unsafeSliceData_zero (P:=P) w ts o.type e' i ⟨g,0,none⟩ xs.length _ (kuz s);refine kae (w.alloc (.view ⟨g,0,none⟩ e')) (.pointer (some ⟨w.heap.size,0,none⟩)) (key _ _ _ (by rw [b];exact hr) f) ⟨kbj _ _, .sdp hK hn rfl fun _=>⟨⟨_,rfl⟩,fun h=>by omega⟩⟩
    ·refine kae w (.pointer (some ⟨g,0,none⟩)) (key _ _ _ (by rw [b];exact Lib.run_unsafeSliceData_row w _ _ _ _ _ hc) f) ⟨kaf _, .sdp hK hn rfl fun _=>⟨⟨_,rfl⟩,fun h=>⟨g,by rw [b];rfl,rfl⟩⟩⟩
theorem kxo:∀ (l:List Int) (a:Addr) (acc:BA),(∀ (j:Nat) (x:Int),l[j]?=some x->w.cell? (a.add j)=some (.int .u8 x))->(loadBytes a acc l.length).run P w = .ok (l.foldl (fun r n=>r.push (UInt8.ofNat n.toNat)) acc) w
 | [],a,acc,_=>by simp [loadBytes]
 | x::l,a,acc,h=>by
  have h0:w.cell? a=some (.int .u8 x):=by have:=h 0 x rfl;simpa [Addr.add] using this
  have ih:=kxo l (a.add 1) (acc.push x.toNat.toUInt8) (fun j y hy=>by
   have:=h (j+1) y (by simpa using hy);have e:(a.add 1).add j=a.add (j+1):=by
    unfold Addr.add;by_cases b:j=0;subst b;simp
    ·simp [b];omega
   rw [e];exact this)
  simp only [qy,loadBytes,Sem.run_bind,run_load,h0,Result.andThen];rw [ih];rfl
theorem kue (pt it ty e:TypeId) (hp:P.underlying pt=some (.pointer e)) (hc:P.cellsOf e=1) (g cells:Nat) (k:w.shape? g=some (e,cells)) (l:List Int) (h0:l≠[]) (hn:l.length<=cells) (o:l.length<=9223372036854775807)
  (b:∀ (j:Nat) (x:Int),l[j]?=some x->w.cell? ((⟨g,0,none⟩:Addr).add j)=some (.int .u8 x)):
  (Builtin.unsafeString_ #[pt,it] ty #[.pointer (some ⟨g,0,none⟩), .int .i64 l.length]).run P w = .ok (.string (toBA l)) (w.freeze ⟨g,0,none⟩ l.length):=by
 have hl:l.length≠0:=by simpa using h0
 have m:=kxo (P:=P) (w:=w) l ⟨g,0,none⟩ .empty b;have c:=Lib.liesAt_bytes (P:=P) hc (cells / P.cellsOf e) l.length (by rw [hc];simpa using hn);have d:¬ (9223372036854775807:Int)<(l.length:Int):=by omega
 have f:Builtin.unsafeString_ #[pt,it] ty #[.pointer (some ⟨g,0,none⟩), .int .i64 l.length] =
   (do
    let n <- asInt (.int .i64 l.length)
    if n < 0 then runtimePanic (.error "unsafe.String: len out of range")
    if n > IntKind.i64.max then unsupported (.unsafePointer "String: a length above the largest int")
    if n=0 then pure (.string .empty)
    else if <- variablesAt ⟨g,0,none⟩ (<- elemOf pt) n.toNat then do
     let s <- loadBytes ⟨g,0,none⟩ .empty n.toNat
     freeze ⟨g,0,none⟩ n.toNat
     pure (.string s)
    else unsupported (.unsafePointer "String: not so many bytes at ptr")) := rfl
 rw [f];have h:IntKind.i64.max=9223372036854775807:=rfl;have i:¬ (l.length:Int)<0:=by omega
 simp [asInt,asIntOf,h,d,i,hl,variablesAt,k,elemOf,run_underlying hp,c,m,toBA]
theorem k3r (x y:Operand) (pt it e:TypeId) {n:Nat} (xs:List Int) (r:o.op = .call { callee := .builtin .unsafeString,args:=#[x,y],argTypes:=#[pt,it] }) (hp:P.underlying pt=some (.pointer e)) (hc:P.cellsOf e=1) (hx:st.eval x = .sdp id n) (C:kaa st.heap id=some (.frow e 1 (xs.map eU8))) (hn:n=xs.length) (hy:st.eval y = .fz (.atom (.int .i64 (xs.length:Int))):=by kernel_rfl):StepA P o st (.fz (eS (toBA xs))) (ka9 id st.heap) st.ids:=by
 intro F S0 N0 ψ S a w hs;have h0:=hs.eval x;rw [hx] at h0;have G:=hs.eval y;rw [hy] at G;have G:=G.atom;have c:=hs.core;obtain ⟨aa,⟨k0,ab,cs,s,_,I⟩,D⟩:=c.obj id _ C;have J:ψ.len id=xs.length:=by rw [k0];simp
 have z:∀ w',(∀ k,¬ Blk (ψ.val id) k->w'.heap[k]?=w.heap[k]?)->w'.heap.size=w.heap.size->Same S w w'/\Core F S0 N0 (ka9 id st.heap) st.ids ψ S w':=fun w' f d=>by have hk:Same S w w':=fun k hk hl=>f k fun e=>(D k e).1 hk;refine ⟨hk,fun i ob r=>?_,fun i i' ob ob' b r K=>c.inj i i' ob ob' b (kbe id r).2 (kbe id K).2,fun b l=>by rw [d];exact c.lt b l,c.s0,by rw [d];exact c.n0,fun b l=>by rw [d];exact c.fr b l⟩;obtain ⟨A,r⟩:=kbe id r;obtain ⟨m1,m2,m3⟩:=c.obj i ob r;exact ⟨m1,m2.keep Ext.refl (fun _ h=>h) (fun _ h=>h) hk ⟨rfl,rfl⟩ fun b l=>f b fun e=>c.inj i id ob _ b r C A l e,m3⟩
 have fin:∀ w' u,a.eval x=u->(∀ k,¬ Blk (ψ.val id) k->w'.heap[k]?=w.heap[k]?)->w'.heap.size=w.heap.size->w'.os=w.os->w'.tape=w.tape->w'.output=w.output->(Builtin.unsafeString_ #[pt,it] o.type #[u, .int .i64 xs.length]).run P w = .ok (.string (toBA xs)) w' ->
   ket P o a w fun v w'=>∃ ψ' S',Core F S0 N0 (ka9 id st.heap) st.ids ψ' S' w'/\RV ψ' (·∈st.ids) S' w' v (.fz (eS (toBA xs)))/\Fr F w w'/\Ext (·∈st.ids) ψ ψ'/\(∀ id,id∈st.ids->id∈st.ids)/\(∀ b,S b->S' b)/\Same S w w':=fun w' u H f d L M N t=>by
  obtain ⟨d1,d2⟩:=z w' f d;refine kae w' (.string (toBA xs)) ?_ ⟨ψ,S,d2, .fz (.atom rfl),⟨L,M,N,by omega,fun b l=>f b fun e=>(D b e).2.1 l,fun _=>ksi t⟩,Ext.refl,fun _ h=>h,fun _ h=>h,d1⟩;simp only [execOp,r,resolve,invoke,builtin,Sem.run_bind,Sem.run_pure,Result.andThen_ok,List.map_toArray,qa0,List.map_nil,H,G,t]
 generalize H:a.eval x=u at h0;cases h0 with
 | sdp hK ac h1 hv=>
  obtain ⟨⟨p,rfl⟩,O⟩:=hv (by rw [hn,J]);by_cases Q:xs=[];subst Q;exact fin w _ H (fun _ _=>rfl) rfl rfl rfl rfl (Lib.run_unsafeString_none w pt it o.type p)
  ·have E:0<n:=(by rw [hn];exact List.length_pos_iff.2 Q);obtain ⟨b,l,B⟩:=O E;injection B with B;subst B;rcases s.2 with ⟨q,ad⟩ | ⟨g,cap,cur,q,ae,X,af,R,T,U⟩;rw [q] at l;cases l
   ·rw [q] at l;injection l with l;simp at l;subst l;have ag:(xs.map eU8).length=xs.length:=(by simp);have Y:cur.size=cap:=(by simpa using T);refine fin (w.freeze ⟨g,0,none⟩ xs.length) _ H (fun k hk=>?_) ?_ ?_ ?_ ?_ (kue pt it o.type e hp hc g cur.size (kuz X) xs Q (by omega) (by unfold maxLen at R;omega) fun j x Z=>?_)
    ·rw [q] at hk;have A:k≠g:=fun e=>hk (.of (by rw [e];rfl));unfold World.freeze;split;rfl
     ·simp only [Array.getElem?_modify];rw [qi (fun e=>A e.symm)]
    unfold World.freeze;split <;> simp;unfold World.freeze;split <;> rfl;unfold World.freeze;split <;> rfl;unfold World.freeze;split <;> rfl
    ·have ah:j<xs.length:=(qg.1 Z).1;have hcl:cs.length=xs.length:=(by simpa using s.1);have m:cs[j]?=some (cs[j]'(by omega)):=qb _;have V:=I j (eU8 x) 0 _ (eU8 x) (by rw [qq,Z];rfl) (by rw [qbi,Nat.add_zero];exact m) rfl;rw [k97 V] at m;rw [kb6,Lib.cell_of_heap X];have:cur.toList[j]?=some (.int .u8 x):=by
      rw [<- U] at m;rw [qab] at m;split at m;exact m
      ·cases m
     simpa using this
theorem k39 (x:Operand) (e e2:TypeId) (size n:Nat) (xs:List FV) (k:TOk P T) (hk:d.kind = .slice e2) (c:n=xs.length) (l:o.op = .call { callee := .builtin .len,args:=#[x],argTypes:=#[t] }:=by kernel_rfl) (hd:kad T t=some d:=by kernel_rfl) (hx:st.eval x = .row id n:=by kernel_rfl) (i:kaa st.heap id=some (.frow e size xs):=by kernel_rfl):
  NStep P o st (.fz (.atom (.int .i64 n))):=by
 intro ψ S a w j m;have h0:=Sim.eval_tmps j x;rw [hx] at h0;obtain ⟨k0,p,cs,f,_⟩:=m id _ i;have hv:∃ A cap,a.eval x = .slice A n cap:=by
  generalize a.eval x=u at h0;cases h0 with
  | row hK hn h1 hv=>
   obtain rfl:=hv (by rw [k0,c]);rcases f.2 with ⟨b,h⟩ | ⟨g,cap,cur,b,_⟩;exact ⟨none,0,by rw [b,c,h]⟩
   ·exact ⟨some ⟨g,0,none⟩,cap,by rw [b,c]⟩
 obtain ⟨A,cap,hv⟩:=hv;refine kae w (.int .i64 n) ?_ ⟨kaf _, .fz (.atom rfl)⟩;simp [execOp,l,resolve,invoke,builtin,Builtin.len_,run_underlying ((k.get hd).slice hk),hv,goInt]
theorem kad7 {s:Value} {size m:Nat} {zs:List FV} (hs:RF S w s (.lst size m zs)):∃ A cap news,s = .slice A m cap/\m=zs.length/\m<=cap/\cap<=9223372036854775807/\news.length=zs.length*size/\(∀ u∈news,u.oneCell'=true)/\RowR S w size zs news/\ElR size zs /\
  ((A=none/\zs=[])\/(zs=[]/\∃ ad,A=some ad)\/∃ ad,A=some ad/\∀ j u,news[j]?=some u->w.cell? (ad.add j)=some u):=by
 obtain ⟨A,cap,css,rfl,rfl,hc,hm,k,ha,hl,hr⟩:=hs.lst_inv;have a:ElR size zs:=fun x hx=>by obtain ⟨i,hi,rfl⟩:=qai.1 hx;exact (hl i _ (qb hi)).2
 by_cases e:zs=[]
 ·subst e;refine ⟨A,cap,[],rfl,rfl,hc,hm,by simp,(fun u h=>by cases h),(fun i x j v y h=>by simp at h),a,?_⟩;cases A with
  | none=>exact .inl ⟨rfl,rfl⟩
  | some ad=>exact .inr (.inl ⟨rfl,ad,rfl⟩)
 ·obtain ⟨y0,ys,rfl⟩:∃ y0 ys,zs=y0::ys:=by
   cases zs with
   | nil=>exact absurd rfl e
   | cons y ys=>exact ⟨y,ys,rfl⟩
  obtain ⟨b,off,rfl,_,_⟩:=ha 0 y0 rfl;obtain ⟨news,hn,d,o⟩:=k3o (b:=b) (w:=w) (size:=size) (Q:=fun c y=>(∀ j v z,c[j]?=some v->y.cells[j]?=some z->RF S w v z)/\(∀ u∈c,u.oneCell'=true)) (y0::ys) off fun i y hy=>by obtain ⟨b',o',hA,_,d⟩:=ha i y hy;injection hA with hA;injection hA with e1 e2;subst e1 e2;obtain ⟨l1,l2,l3⟩:=hl i y hy;refine ⟨css i,d,l1,fun j v z hv k=>hr i y j v z hy hv k,fun u l=>?_⟩;obtain ⟨j,f,rfl⟩:=qai.1 l;have g:j<y.cells.length:=(by omega);exact (hr i y j _ _ hy (qb f) (qb g)).one (l3 _ (q9 g))
  refine ⟨some ⟨b,off,none⟩,cap,news,rfl,rfl,hc,hm,hn,fun u l=>?_,fun i x j v y hx hv hy=>?_,a, .inr (.inr ⟨_,rfl,fun j u h=>by rw [kb6];exact d j u h⟩)⟩;obtain ⟨j,f,rfl⟩:=qai.1 l;have n:j / size<(y0::ys).length:=(by rw [Nat.div_lt_iff_lt_mul k];omega);refine (o (j / size) _ (qb n)).2 _ ?_;rw [qbz];refine ⟨j % size,?_⟩;rw [qab,qo (Nat.mod_lt _ k),qao,show j / size*size+j % size=j by rw [Nat.mul_comm];exact Nat.div_add_mod j size];exact qb f
  ·have f:j<size:=(by have:=(qg.1 hy).1;rw [(a x (qn hx)).1] at this;exact this);refine (o i x hx).1 j v y ?_ hy;rw [qab,qo f,qao];exact hv
def fI (x:Int):AV := .fz (eI x)
def fB (x:Bool):AV := .fz (eB x)
def fS (x:BA):AV := .fz (eS x)
end Go.Proofs.YtjpkdegjcilndaaGreatDoor
set_option linter.all false
set_option linter.unusedSectionVars false
namespace Go.Proofs.YtjpkdegjcilndaaGreatDoor
open Go Go.RowKit
variable [Dr]
def kst (id:Nat):AV->List Nat
 | .row k m=>bif Nat.beq k id then [m] else []
 | _=>[]
def k5o (id:Nat):AV->List Nat
 | .agg cs=>cs.flatMap (kst id)
 | .fn _ cs=>cs.flatMap (kst id)
 | y=>kst id y
def kx5 (id:Nat):AV->List Nat
 | .tup cs=>cs.flatMap (k5o id)
 | y=>k5o id y
def k1n (id:Nat):AObj->List Nat
 | .box _ cs=>cs.flatMap (kst id)
 | _=>[]
def frz1 (id:Nat) (x:FV):AV->AV
 | .row k m=>bif Nat.beq k id then .fz x else .row k m
 | y=>y
def frzG (id:Nat) (x:FV):AV->AV
 | .agg cs=>aggA (cs.map (frz1 id x))
 | .fn f cs => .fn f (cs.map (frz1 id x))
 | y=>frz1 id x y
def frzT (id:Nat) (x:FV):AV->AV
 | .tup cs=>tupA (cs.map (frzG id x))
 | y=>frzG id x y
def frzO (id:Nat) (x:FV):AObj->AObj
 | .box e cs => .box e (cs.map (frz1 id x))
 | y=>y
def kad2 (id:Nat) (st:St):List Nat:=st.tmps.flatMap (fun p=>kx5 id p.2)++(ka9 id st.heap).flatMap (fun p=>k1n id p.2)
def frzSt (id:Nat) (x:FV) (st:St):St:={ dfr:=st.dfr,n:=st.n,tmps:=st.tmps.map (fun p=>(p.1,frzT id x p.2)),heap:=(ka9 id st.heap).map (fun p=>(p.1,frzO id x p.2)),ids:=st.ids }
variable {F S0:Nat->Prop} {N0:Nat} {w:World} {S:Nat->Prop} {ψ:Env} {K:Nat->Prop} {id n:Nat} {x:FV} {st:St}
theorem ky0 (hx:∀ v,RV ψ K S w v (.row id n)->RF S w v x) {v:Value} {y:AV} (h:RV ψ K S w v y) (hr:∀ m∈kst id y,m=n):RV ψ K S w v (frz1 id x y):=by
 cases y with
 | row k m=>
  simp only [frz1];cases a:Nat.beq k id with
  | false=>exact h
  | true=>
   have hk:=qk a;subst hk;have hm:m=n:=hr m (by simp [kst]);subst hm;exact .fz (hx v h)
 | _=>exact h
theorem kzd (hs:x.single=true) {y:AV} (h:y.single=true):(frz1 id x y).single=true:=by
 cases y with
 | row k m=>
  simp only [frz1];cases Nat.beq k id with
  | false=>exact h
  | true=>exact hs
 | _=>exact h
theorem kx7 {α β γ:Type} (R:α->γ->Prop) {Q:α->γ->Prop} {f:β->γ} {R':α->β->Prop} {cs:Array α} {xs:List β} (hr:∀ (i:Nat) (v:α) (y:β),cs[i]?=some v->xs[i]?=some y->R' v y) (b:∀ v y,y∈xs->R' v y->Q v (f y)):
  ∀ (i:Nat) (v:α) (y:γ),cs[i]?=some v->(xs.map f)[i]?=some y->Q v y:=by
 intro i v y hv hy;simp only [qq,qt] at hy;obtain ⟨z,a,rfl⟩:=hy;exact b v z (qn a) (hr i v z hv a)
theorem kyj (hs:x.single=true) (hx:∀ v,RV ψ K S w v (.row id n)->RF S w v x) {v:Value} {y:AV} (h:RV ψ K S w v y) (hr:∀ m∈k5o id y,m=n):RV ψ K S w v (frzG id x y):=by
 cases y with
 | agg cs=>
  cases h with
  | agg h h1 a=>
   refine RV.aggA (by simpa using h) (fun y hy=>?_) (kx7 (fun _ _=>True) a fun v y hy hv=>ky0 hx hv fun m hm=>hr m ?_);simp only [qas] at hy;obtain ⟨z,b,rfl⟩:=hy;exact kzd hs (h1 z b)
   ·exact qa1.2 ⟨y,hy,hm⟩
 | fn f cs=>
  cases h with
  | fn h a=>exact .fn (by simpa using h) (kx7 (fun _ _=>True) a fun v y hy hv=>ky0 hx hv fun m hm=>hr m (qa1.2 ⟨y,hy,hm⟩))
 | row k m=>exact ky0 hx h hr
 | _=>exact h
theorem kaj8 (hs:x.single=true) (hx:∀ v,RV ψ K S w v (.row id n)->RF S w v x) {v:Value} {y:AV} (h:RV ψ K S w v y) (hr:∀ m∈kx5 id y,m=n):RV ψ K S w v (frzT id x y):=by
 cases y with
 | tup cs=>
  cases h with
  | tup h a=>exact RV.tupA (by simpa using h) (kx7 (fun _ _=>True) a fun v y hy hv=>kyj hs hx hv fun m hm=>hr m (qa1.2 ⟨y,hy,hm⟩))
 | agg cs=>exact kyj hs hx h hr
 | fn f cs=>exact kyj hs hx h hr
 | row k m=>exact kyj hs hx h hr
 | _=>exact h
theorem kaf5 (l:List (Nat×AV)) (t:Nat):look .any (l.map fun p=>(p.1,frzT id x p.2)) t=frzT id x (look .any l t)/\∀ m∈kx5 id (look .any l t),m∈l.flatMap (fun p=>kx5 id p.2):=by
 induction l with
 | nil=>exact ⟨rfl,fun m hm=>by cases hm⟩
 | cons p l ih=>
  obtain ⟨k,v⟩:=p;simp only [qa0,kat,List.flatMap_cons,qau];by_cases h:k=t;simp only [qo h];exact ⟨trivial,fun m hm => .inl hm⟩
  ·simp only [qi h];exact ⟨ih.1,fun m hm => .inr (ih.2 m hm)⟩
theorem kws (id:Nat) (x:FV) (l:List (Nat×AObj)) (t:Nat):kaa (l.map fun p=>(p.1,frzO id x p.2)) t=(kaa l t).map (frzO id x)/\∀ o,kaa l t=some o->∀ m∈k1n id o,m∈l.flatMap (fun p=>k1n id p.2):=by
 induction l with
 | nil=>exact ⟨rfl,fun o h=>by cases h⟩
 | cons p l ih=>
  obtain ⟨k,v⟩:=p;simp only [qa0,kac,List.flatMap_cons,qau];by_cases h:k=t;simp only [qo h];exact ⟨rfl,fun o a m hm=>by injection a with a;subst a;exact .inl hm⟩
  ·simp only [qi h];exact ⟨ih.1,fun o a m hm => .inr (ih.2 o a m hm)⟩
theorem kamq (id:Nat) (n k:Nat) (e:TypeId) (size:Nat) (xs:List FV) (f:kaa st.heap id=some (.frow e size xs)) (hn:n=xs.length) (g:kad2 id st=List.replicate k n:=by kernel_rfl):LeSt st (frzSt id (.lst size n xs) st):=by
 subst hn;intro F S0 N0 ψ S a w hs;obtain ⟨c1,c2⟩:=km2 hs.core f;have d:∀ m∈kad2 id st,m=xs.length:=fun m hm=>by rw [g] at hm;exact (qbu.1 hm).2
 have h0:=(hs.core.obj id _ f).2.1.1;have hx:∀ v,RV ψ (·∈st.ids) (fun b=>S b\/kak (ψ.val id)=some b) w v (.row id xs.length)->RF (fun b=>S b\/kak (ψ.val id)=some b) w v (.lst size xs.length xs):=by
  intro v hv;cases hv with
  | row hK A h1 hv=>rw [hv (by rw [h0])];exact c2
 refine ⟨ψ,_,hs.defers,hs.size,fun t=>?_,⟨fun i o q=>?_,fun i i' o o' b q c r B=>?_,c1.lt,c1.s0,c1.n0,c1.fr⟩⟩;obtain ⟨l1,l2⟩:=kaf5 (id:=id) (x := .lst size xs.length xs) st.tmps t;show RV ψ (·∈st.ids) _ w (a.tmps.getD t undef) (look .any (st.tmps.map fun p=>(p.1,frzT id (.lst size xs.length xs) p.2)) t);rw [l1];refine kaj8 rfl hx ((hs.tmps t).mono (fun _ h=>h) fun _ h => .inl h) fun m hm=>d m ?_;exact qau.2 (.inl (l2 m hm))
 ·obtain ⟨l1,l2⟩:=kws id (.lst size xs.length xs) (ka9 id st.heap) i;have c:kaa ((ka9 id st.heap).map fun p=>(p.1,frzO id (.lst size xs.length xs) p.2)) i=some o:=q;rw [l1,qt] at c;obtain ⟨o',h1,rfl⟩:=c;obtain ⟨k1,k2,k7⟩:=c1.obj i o' h1;refine ⟨k1,?_,k7⟩;cases o' with
  | box e2 cells=>
   obtain ⟨g0,b,cs,g2,g3,g4,g5,g6⟩:=k2;refine ⟨g0,b,cs,g2,g3,by simpa using g4,fun y hy=>?_,kx7 (fun _ _=>True) g6 fun v y hy hv=>ky0 hx hv fun m hm=>d m ?_⟩;simp only [qas] at hy;obtain ⟨z,C,rfl⟩:=hy;exact kzd rfl (g5 z C)
   ·exact qau.2 (.inr (l2 _ h1 m (qa1.2 ⟨y,hy,hm⟩)))
  | _=>exact k2
 ·obtain ⟨l1,_⟩:=kws id (.lst size xs.length xs) (ka9 id st.heap) i;obtain ⟨l2,_⟩:=kws id (.lst size xs.length xs) (ka9 id st.heap) i';have j:kaa ((ka9 id st.heap).map fun p=>(p.1,frzO id (.lst size xs.length xs) p.2)) i=some o:=q;have l:kaa ((ka9 id st.heap).map fun p=>(p.1,frzO id (.lst size xs.length xs) p.2)) i'=some o':=c;rw [l1,qt] at j;rw [l2,qt] at l;obtain ⟨u,D,_⟩:=j;obtain ⟨u',s,_⟩:=l;exact c1.inj i i' u u' b D s r B
end Go.Proofs.YtjpkdegjcilndaaGreatDoor
set_option linter.all false
namespace Go.Proofs.YtjpkdegjcilndaaGreatDoor
open Go Go.RowKit
variable [Dr]
def kf8 {α:Type} (s:BA):List (BA×α)->Nat->Option (Nat×α)
 | [],_=>none
 | (k,v)::l,i=>bif s.toList == k.toList then some (i,v) else kf8 s l (i+1)
def mget {α:Type} (m:List (BA×α)) (s:BA) (z:α):α:=match kf8 s m 0 with
 | some (_,x)=>x
 | none=>z
def mhas {α:Type} (m:List (BA×α)) (s:BA):Bool:=(kf8 s m 0).isSome
def mput {α:Type} (m:List (BA×α)) (s:BA) (y:α):List (BA×α):=match kf8 s m 0 with
 | some (j,_)=>m.set j (s,y)
 | none=>m++[(s,y)]
theorem kja (a b:BA):(a.toList == b.toList)=(a == b):=by
 rw [Bool.eq_iff_iff,beq_iff_eq,MapKept.bytes_beq,ByteArray.toList_eq,ByteArray.toList_eq];constructor;intro h;exact ByteArray.ext (Array.toList_inj.1 h)
 ·intro h;rw [h]
theorem kpz {α β:Type} (f:α->β) (s:BA):∀ (m:List (BA×α)) (i:Nat),kf8 s (m.map fun p=>(p.1,f p.2)) i=(kf8 s m i).map fun p=>(p.1,f p.2)
 | [],_=>rfl
 | (k,v)::l,i=>by
  simp only [qa0,kf8];cases s.toList == k.toList with
  | true=>rfl
  | false=>exact kpz f s l (i+1)
theorem kvl {α β:Type} (f:α->β) (m:List (BA×α)) (s:BA) (z:α):mget (m.map fun p=>(p.1,f p.2)) s (f z)=f (mget m s z):=by
 unfold mget;rw [kpz];cases kf8 s m 0 with
 | none=>rfl
 | some p=>rfl
theorem k8m {α β:Type} (f:α->β) (m:List (BA×α)) (s:BA):mhas (m.map fun p=>(p.1,f p.2)) s=mhas m s:=by
 unfold mhas;rw [kpz];cases kf8 s m 0 with
 | none=>rfl
 | some p=>rfl
theorem k7z {α:Type} {s:BA}:∀ {m:List (BA×α)} {i j:Nat} {x:α},kf8 s m i=some (j,x)->i<=j/\j - i<m.length/\∃ k,m[j - i]?=some (k,x)/\k=s
 | [],i,j,x,h=>by cases h
 | (k,v)::l,i,j,x,h=>by
  simp only [kf8] at h;cases a:s.toList == k.toList with
  | true=>
   rw [a] at h;simp only [qe,qc,qv] at h;obtain ⟨rfl,rfl⟩:=h;rw [kja,MapKept.bytes_beq] at a;exact ⟨qx _,by simp,k,by simp,a.symm⟩
  | false=>
   rw [a] at h;obtain ⟨h1,d,k',b,c⟩:=k7z h;have e:j - i=(j - (i+1))+1:=(by omega);exact ⟨by omega,by simp;omega,k',by rw [e,qag];exact b,c⟩
variable {P:Program} {F S0:Nat->Prop} {N0:Nat} {w w':World} {S S':Nat->Prop} {ψ:Env} {K:Nat->Prop} {T:List (TypeId×TD)} {o:Oper} {a:Act} {st:St} {t:TypeId} {d:TD} {id:Nat}
theorem kpa (s:BA) {R:Value->FV->Prop}:∀ (es:List MapEntry) (kv:List (BA×FV)) (i:Nat),es.length=kv.length->(∀ (j:Nat) (e:MapEntry) (p:BA×FV),es[j]?=some e->kv[j]?=some p->e.key = .string p.1/\R e.val p.2) ->
  (Instr.findNow .string (.string s) es i=some none/\kf8 s kv i=none)\/∃ j v x,Instr.findNow .string (.string s) es i=some (some (j,v))/\kf8 s kv i=some (j,x)/\R v x
 | [],[],i,_,_ => .inl ⟨rfl,rfl⟩
 | [],p::kv,i,h,_=>by cases h
 | e::es,[],i,h,_=>by cases h
 | e::es,(k,x)::kv,i,h,hr=>by
  obtain ⟨hk,hv⟩:=hr 0 e (k,x) rfl rfl;simp only [Instr.findNow,hk,Instr.sameNow,kf8,kja];cases b:s == k with
  | true=>exact .inr ⟨i,e.val,x,rfl,rfl,hv⟩
  | false=>exact kpa s es kv (i+1) (by simpa using h) fun j e p a hp=>hr (j+1) e p (by simpa using a) (by simpa using hp)
theorem TdOk.mp {k e:Nat} (h:TdOk P t d) (hk:d.kind = .map k e):P.underlying t=some (.map k e):=by obtain ⟨_,e',h1,a⟩:=h;rw [hk] at a;cases e' <;> simp [kg3] at a;rw [h1,a.1,a.2]
theorem k4d (g:o.op = .makeMap t none:=by kernel_rfl) (d:st.ids.contains id=false:=by kernel_rfl):StepA P o st (.mp id) ((id, .smap [])::st.heap) (id::st.ids):=by
 have d:id∉st.ids:=by simpa using d
 intro F S0 N0 ψ S a w f;have c:=f.core;refine kae (w.alloc (.map #[] 0)) (.map (some w.heap.size)) ?_ ⟨ψ.set id 0 (.map (some w.heap.size)),S,?_,?_,kjo _ c.fr,ka8 d _ _,fun _ h=>qh _ h,fun _ h=>h,Same.of_grow (kbj _ _)⟩;simp [execOp,g,Instr.makeMap];exact c.add (kbj _ _) d (fun b j=>by simp [kak] at j;omega) ⟨kbf _ _,w.heap.size,_,_,kai _ _,heap_alloc_new w _,rfl,fun i e p k hp=>by simp at k⟩
 ·exact .mp (qu ..) rfl fun _=>by rw [kai]
theorem k7m {kv:List (BA×FV)} {v:Value} (hs:ObR ψ K S w id (.smap kv)) (hv:RV ψ K S w v (.mp id)):v=ψ.val id:=by
 cases hv with
 | mp hK h1 hv=>exact hv hs.1.symm
theorem kafv {α:Type} (enc:α->FV) (m:List (BA×α)) (s:BA) (z:α) (x y:Operand) (kt et:TypeId) (kd:TD) (zv:Value) (G:o.op = .lookup t x y false) (H:TOk P T) (hd:kad T t=some d) (hk:d.kind = .map kt et) (c:kad T kt=some kd) (i:kd.kind = .str) (inf:TypeInfo) (r:P.info? et=some inf) (u:inf.zero=some zv) (A:enc z = .atom zv) (B:zv.oneCell'=true) (hx:st.eval x = .mp id:=by kernel_rfl) (C:kaa st.heap id=some (.smap (m.map fun p=>(p.1,enc p.2))):=by kernel_rfl) (hy:st.eval y = .fz (.atom (.string s)):=by kernel_rfl):NStep P o st (.fz (enc (mget m s z))):=by
 intro ψ S a w ht J;have hd:=H.get hd;have c:=H.get c;have hv:=Sim.eval_tmps ht x;rw [hx] at hv;have l:=J id _ C;have n:=k7m l hv;obtain ⟨h0,b,es,clock,g,I,D,hr⟩:=l;have f:=Sim.eval_tmps ht y;rw [hy] at f;have f:=f.atom;have E:(zeroValue et).run P w = .ok zv w:=by simp [zeroValue,typeInfo,r,u]
 have q:=MapKept.run_checkKey (w:=w) (c.str i) (k := .string s) trivial es.isEmpty 9999;rcases kpa s (R:=fun v x=>RF S w v x) es.toList (m.map fun p=>(p.1,enc p.2)) 0 (by simpa using D) (fun j e p K hp=>hr j e p (by simpa using K) hp) with ⟨f1,f2⟩ | ⟨j,v,x',f1,f2,f3⟩
 ·have F:=MapKept.run_findKey (w:=w) (c.str i) f1;refine kae w zv ?_ ⟨kaf _, .fz ?_⟩;simp [execOp,G,f,n,g,Instr.lookup,run_underlying (hd.mp hk),MapKept.run_getObj_map I,q,F,E]
  ·rw [<- kvl enc];unfold mget;rw [f2];simp only;rw [A];exact .atom B
 ·have F:=MapKept.run_findKey (w:=w) (c.str i) f1;refine kae w v ?_ ⟨kaf _, .fz ?_⟩;simp [execOp,G,f,n,g,Instr.lookup,run_underlying (hd.mp hk),MapKept.run_getObj_map I,q,F]
  ·rw [<- kvl enc];unfold mget;rw [f2];exact f3.mono fun _ h => .inl h
theorem kze {α:Type} (enc:α->FV) (m:List (BA×α)) (s:BA) (z:α) (x y v:Operand) (kt et:TypeId) (kd:TD) (hT:TOk P T) (hd:kad T t=some d) (l:kad T kt=some kd) (I:kd.kind = .str:=by kernel_rfl) (hx:st.eval x = .mp id:=by kernel_rfl) (K:kaa st.heap id=some (.smap (m.map fun p=>(p.1,enc p.2))):=by kernel_rfl) (hy:st.eval y = .fz (.atom (.string s)):=by kernel_rfl) (hv:st.eval v = .fz (enc z):=by kernel_rfl) (ho:o.op = .mapUpdate t x y v:=by kernel_rfl) (hk:d.kind = .map kt et:=by kernel_rfl):StepA P o st .any ((id, .smap ((mput m s z).map fun p=>(p.1,enc p.2)))::st.heap) st.ids:=by
 intro F S0 N0 ψ S a w D;have hd:=hT.get hd;have l:=hT.get l;have r:=D.core;obtain ⟨af,L,Z⟩:=r.obj id _ K;have M:=D.eval x;rw [hx] at M;have N:=k7m L M;obtain ⟨h0,b,es,clock,g,E,A,hr⟩:=L;have B:=D.eval y;rw [hy] at B;have B:=B.atom;have C:=D.eval v;rw [hv] at C;have C:=C.inv;have O:=MapKept.run_checkKey (w:=w) (l.str I) (k := .string s) trivial false 9999;have G:ψ.set id 0 (ψ.val id)=ψ:=by
  unfold Env.set;congr 1
  ·funext i;split;rename_i h;rw [h,h0]
   ·rfl
  ·funext i;split;rename_i h;rw [h]
   ·rfl
 have main:∀ (es':Array MapEntry) (clock':Nat),es'.size=(mput m s z).length ->
   (∀ (i:Nat) (e:MapEntry) (p:BA×FV),es'[i]?=some e->((mput m s z).map fun p=>(p.1,enc p.2))[i]?=some p->e.key = .string p.1/\RF S w e.val p.2) ->
   (execOp a.eval o).run P w = .ok .skip { w with heap:=w.heap.setIfInBounds b (.map es' clock') } ->
   ket P o a w fun v w'=>∃ ψ' S',Core F S0 N0 ((id, .smap ((mput m s z).map fun p=>(p.1,enc p.2)))::st.heap) st.ids ψ' S' w'/\RV ψ' (·∈st.ids) S' w' v .any/\Fr F w w'/\Ext (·∈st.ids) ψ ψ'/\(∀ id,id∈st.ids->id∈st.ids)/\(∀ b,S b->S' b)/\Same S w w':=by
  intro es' clock' Q aa U;obtain ⟨g1,g2⟩:=MapKept.heap_set (o' := .map es' clock') E;have ae:({ w with heap:=w.heap.setIfInBounds b (.map es' clock') }:World).heap.size=w.heap.size:=by simp
  have H:∀ k,k<w.heap.size->¬ Blk (ψ.val id) k->({ w with heap:=w.heap.setIfInBounds b (.map es' clock') }:World).heap[k]?=w.heap[k]?:=fun k _ hk=>g2 k fun e=>hk (.of (by rw [g,e];rfl));have hk:Same S w { w with heap:=w.heap.setIfInBounds b (.map es' clock') }:=fun k hk hl=>H k hl fun e=>(Z k e).1 hk;obtain ⟨c1,c2,c3⟩:=r.upd (n:=0) (v:=ψ.val id) (w':={ w with heap:=w.heap.setIfInBounds b (.map es' clock') }) (ob' := .smap ((mput m s z).map fun p=>(p.1,enc p.2))) K (by omega) H (.inr ⟨h0,rfl⟩) (fun b E => .inl E) (by rw [G];refine ⟨h0,b,es',clock',g,g1,by simpa using Q,fun i e p c hp=>?_⟩;obtain ⟨q1,q2⟩:=aa i e p c hp;exact ⟨q1,q2.keep hk⟩);rw [G] at c1;exact kjh _ U ⟨ψ,S,c1, .any,⟨rfl,rfl,rfl,by omega,c3,fun _=>qx _⟩,Ext.refl,fun _ h=>h,fun _ h=>h,c2⟩
 have ab:∀ (j:Nat) (e:MapEntry) (p:BA×FV),es.toList[j]?=some e->(m.map fun p=>(p.1,enc p.2))[j]?=some p->e.key = .string p.1/\RF S w e.val p.2:=fun j e p c hp=>hr j e p (by simpa using c) hp;rcases kpa s (R:=fun v x=>RF S w v x) es.toList (m.map fun p=>(p.1,enc p.2)) 0 (by simpa using A) ab with ⟨f1,f2⟩ | ⟨j,u,x',f1,f2,f3⟩
 ·have hf:=MapKept.run_findKey (w:=w) (l.str I) f1;have ac:kf8 s m 0=none:=by
   rw [kpz] at f2;cases hq:kf8 s m 0 with
   | none=>rfl
   | some q=>rw [hq] at f2;cases f2
  have f:mput m s z=m++[(s,z)]:=by unfold mput;rw [ac]
  refine main (es.push { key := .string s,val:=a.eval v,born:=clock }) (clock+1) (by rw [f];simpa using A) (fun i e p c hp=>?_) ?_
  ·rw [f,qb0] at hp;rw [Array.getElem?_push] at c;have V:es.size=(m.map fun p=>(p.1,enc p.2)).length:=A;by_cases hi:i=es.size;rw [qo hi] at c;injection c with c;subst c;rw [qae (by omega),hi,V,qbs] at hp;simp only [qa0,List.map_nil,List.getElem?_cons_zero,qc] at hp;subst hp;exact ⟨rfl,C⟩
   ·rw [qi hi] at c;have ag:i<es.size:=(qak.1 c).1;rw [qad (by omega)] at hp;exact hr i e p c hp
  ·simp [execOp,ho,B,N,g,Instr.mapUpdate,run_underlying (hd.mp hk),MapKept.run_getObj_map E,O,hf,MapKept.run_setObj_map _ E]
 ·have hf:=MapKept.run_findKey (w:=w) (l.str I) f1;rw [kpz,qt] at f2;obtain ⟨⟨j',x0⟩,f4,f5⟩:=f2;simp only [qv] at f5;obtain ⟨rfl,rfl⟩:=f5;obtain ⟨_,l2,k,l3,rfl⟩:=k7z f4;simp only [Nat.sub_zero] at l2 l3;have f:mput m k z=m.set j' (k,z):=by unfold mput;rw [f4]
  have ad:j'<es.size:=by rw [A,qaa];exact l2
  have J:es[j']?=some es[j']:=qbf ad;have X:es[j'].key = .string k:=(hr j' _ (k,enc x0) J (by rw [qq,l3];rfl)).1;refine main (es.modify j' fun e=>{ e with key := .string k,val:=a.eval v }) clock (by rw [f];simpa using A) (fun i e p c hp=>?_) ?_
  ·rw [f,List.map_set] at hp;rw [Array.getElem?_modify] at c;by_cases hi:j'=i;subst hi;rw [qo rfl,J] at c;simp only [qa6,qc] at c;subst c;rw [qbv (by rw [qaa];exact l2)] at hp;injection hp with hp;subst hp;exact ⟨rfl,C⟩
   ·rw [qi hi] at c;rw [List.getElem?_set_ne hi] at hp;exact hr i e p c hp
  ·have Y:(Instr.keyThatStays (((es[j']?).map (·.key)).getD (.string k)) (.string k)).run P w = .ok (.string k) w:=(by rw [J];simp only [qa6,qbj,X];exact MapKept.run_keyThatStays (d := .string) trivial);simp [execOp,ho,B,N,g,Instr.mapUpdate,run_underlying (hd.mp hk),MapKept.run_getObj_map E,O,hf,MapKept.run_setObj_map _ E];simp [Y,MapKept.run_setObj_map _ E]
end Go.Proofs.YtjpkdegjcilndaaGreatDoor
set_option linter.all false
namespace Go.Proofs.YtjpkdegjcilndaaGreatDoor
open Go Go.RowKit
variable [Dr]
mutual
def depV:Va->Nat
 | .mk _ _ _ l=>ks4 l+1
def ks4:List Va->Nat
 | []=>0
 | x::l=>Nat.max (depV x) (ks4 l)
end
def kado (st:St) (c:C1) (x:Operand):Option AV:=match co1 c (st.eval x) with
 | .fz y=>some (.fz y)
 | .fn f []=>some (.fn f [])
 | _=>none
def kt9 (st:St):List C1->List Operand->Option (List AV)
 | [],[]=>some []
 | c::cs,x::xs=>match kado st c x,kt9 st cs xs with
  | some y,some ys=>some (y::ys)
  | _,_=>none
 | _,_=>none
variable {P:Program} {F S0:Nat->Prop} {N0:Nat} {w w':World} {S S':Nat->Prop} {ψ:Env} {K:Nat->Prop} {T:List (TypeId×TD)} {o:Oper} {a:Act} {st:St} {t:TypeId} {d:TD}
theorem k02 {ids:List Nat} (h:∀ t,RV ψ (·∈ids) S w (a.tmps.getD t undef) (st.get t)):∀ {cs:List C1} {xs:List Operand} {ys:List AV},kt9 st cs xs=some ys ->
  ys.length=xs.length/\∀ (i:Nat) (x:Operand) (y:AV),xs[i]?=some x->ys[i]?=some y->∀ ψ0,RV ψ0 (·∈[]) S w (a.eval x) y
 | [],[],ys,h=>by simp only [kt9,qc] at h;subst h;exact ⟨rfl,fun i x y h=>by simp at h⟩
 | c::cs,x::xs,ys,b=>by
  simp only [kt9] at b;split at b
  ·rename_i y ys' h1 e;injection b with b;subst b;obtain ⟨e1,e2⟩:=k02 h e;refine ⟨by simp [e1],fun i x' y' hx hy=>?_⟩;cases i with
   | zero=>
    simp at hx hy;subst hx hy;unfold kado at h1;have hv:=kpx c (Sim.eval_tmps h x);split at h1;rename_i z d;injection h1 with h1;subst h1;rw [d] at hv;exact fun ψ0 => .fz hv.inv
    ·rename_i f d;injection h1 with h1;subst h1;rw [d] at hv;intro ψ0;generalize a.eval x=u at hv;cases hv with
     | fn h hr=>exact .fn h fun i v x hv hx=>by simp at hx
    ·cases h1
   | succ i=>exact e2 i x' y' (by simpa using hx) (by simpa using hy)
  ·cases b
 | [],_::_,ys,h=>by cases h
 | _::_,[],ys,h=>by cases h
theorem kaji (f:FuncId) (args:Array Operand) (ts:Array TypeId) (cs:List C1) {as_:List AV} {res:AV} {post:List (Nat×AObj)} {ids1:List Nat} {r:FV} (k:o.op = .call { callee := .value (.func f),args:=args,argTypes:=ts }) (hc:kt9 st cs args.toList=some as_) (hp:HCall P f (as_++[]) [] [] (.ret res) post ids1) (hr:res = .fz r\/∃ (id n:Nat) (e:TypeId) (size:Nat) (xs:List FV),res = .row id n/\kaa post id=some (.frow e size xs)/\n=xs.length/\r = .lst size n xs):NStep P o st (.fz r):=by
 intro ψ S a w ht p;rw [List.append_nil] at hp;obtain ⟨e1,e2⟩:=k02 (fun t=>(ht t).bound) hc;unfold ket;rw [k4t k hp.1];refine (hp.2 (fun b=>b<w.heap.size) (fun b=>S b/\b<w.heap.size) w.heap.size ψ (fun b=>S b/\b<w.heap.size) w (args.map a.eval) (by simp [e1]) (fun i v x hv hx=>?_) ⟨fun id o h=>(by cases h),fun id id' o o' b h=>(by cases h),fun b h=>h.2,fun b h => .inl h,qx _,fun b h=>h⟩).mono ?_;simp only [Array.getElem?_map,qt] at hv;obtain ⟨y,hy,rfl⟩:=hv;exact e2 i y x (by simpa using hy) hx ψ
 ·rintro e w' ⟨ψ',S',⟨v,rfl,hv⟩,c,d,_,_,hS,_⟩;have l:Grow w w':=⟨⟨d.os,d.tape,d.output,d.size,fun b g=>d.block b g⟩,d.drawn⟩;refine ⟨v,rfl,l, .fz ?_⟩;rcases hr with rfl | ⟨id,n,e,size,xs,rfl,j,rfl,rfl⟩;exact hv.inv.mono fun b g=>(c.s0 b g).imp And.left id
  ·obtain ⟨c1,c2⟩:=km2 c j;obtain ⟨_,k2,k3⟩:=c.obj id _ j;have h0:=k2.1;cases hv with
   | row hK m h1 hv=>
    rw [hv (by rw [h0])];exact c2.mono fun b g=>g.elim (fun g=>(c.s0 b g).imp And.left _root_.id) fun g=>((k3 b (.of g)).2.2).imp And.left _root_.id
end Go.Proofs.YtjpkdegjcilndaaGreatDoor
set_option linter.all false
namespace Go.Proofs.YtjpkdegjcilndaaGreatDoor
open Go Go.RowKit
variable [Dr]
def mkL {α:Type} (bytes:Nat) (z:α) (n:Int):Option (List α):=if 0<=n/\(bytes:Int)*n<=281474976710656/\n<=9223372036854775807 then some (List.replicate n.toNat z) else none
theorem kvc {α:Type} {bytes:Nat} {z:α} {n:Int} {xs:List α} (h:mkL bytes z n=some xs):xs=List.replicate n.toNat z/\0<=n/\(bytes:Int)*n<=281474976710656/\n<=9223372036854775807:=by
 unfold mkL at h;split at h;rename_i hc;injection h with h;exact ⟨h.symm,hc⟩
 ·cases h
variable {P:Program} {F S0:Nat->Prop} {N0:Nat} {w w':World} {S S':Nat->Prop} {ψ:Env} {K:Nat->Prop} {T:List (TypeId×TD)} {o:Oper} {a:Act} {st:St} {t:TypeId} {d:TD} {id:Nat}
theorem kw0 (t:TypeId) (d:TD) (id:Nat) {α:Type} (enc:α->FV) {bytes:Nat} {z:α} {n:Int} {xs:List α} (X Y:Operand) (e:TypeId) (de:TD) (k k':IntKind) (zv:Value) (h:mkL bytes z n=some xs) (D:de.size=1) (E:de.zero=[zv]) (q:enc z = .atom zv) (r:zv.oneCell'=true) (G:de.bytes=bytes) (M:TOk P T:=by exact tt_ok) (hx:st.eval X = .fz (.atom (.int k n)):=by kernel_rfl) (hy:st.eval Y = .fz (.atom (.int k' n)):=by kernel_rfl) (f:st.ids.contains id=false:=by kernel_rfl) (N:o.op = .makeSlice t X Y:=by kernel_rfl) (hd:kad T t=some d:=by kernel_rfl) (hk:d.kind = .slice e:=by kernel_rfl) (m:kad T e=some de:=by kernel_rfl):
  StepA P o st (.row id xs.length) ((id, .frow e 1 (xs.map enc))::st.heap) (id::st.ids):=by
 have f:id∉st.ids:=by simpa using f
 obtain ⟨rfl,h0,H,I⟩:=kvc h;have hd:=M.get hd;have m:=M.get m;subst G;intro F S0 N0 ψ S a w p;have g:=p.eval X;rw [hx] at g;have g:=g.atom;have l:=p.eval Y;rw [hy] at l;have l:=l.atom;obtain ⟨⟨i,z',hi,J,K,O,L⟩,_⟩:=m;have c:=p.core;have hcl:z'.cells=#[zv]:=by apply qbm;rw [L,E]
 have hr:=run_make (P:=P) w t e i z' (hd.slice hk) hi O k k' n n h0 (Int.le_refl _) (by rw [K];exact H) I;rw [J,D,hcl,qbi] at hr;have s:Grow w (w.alloc (.cells (madeCells #[zv] n.toNat) e)):=kbj _ _;have u:(List.replicate n.toNat z).length=n.toNat:=qby;rw [u];refine kae (w.alloc (.cells (madeCells #[zv] n.toNat) e)) (.slice (some ⟨w.heap.size,0,none⟩) n.toNat n.toNat) ?_ ⟨ψ.set id n.toNat (.slice (some ⟨w.heap.size,0,none⟩) n.toNat n.toNat),S,?_,?_,kjo _ c.fr,ka8 f _ _,fun _ h=>qh _ h,fun _ h=>h,Same.of_grow s⟩;simp [execOp,N,g,l,hr]
 ·refine c.add s f (fun b H=>by simp [kak] at H;omega) ⟨by rw [kbf];simp,by omega,(madeCells #[zv] n.toNat).toList,?_,fun x hx=>?_,fun i x j v y hx hv hy=>?_⟩;rw [kai];have:=World.ownsRow_lit (base:=0) (size:=1) (e:=e) w (madeCells #[zv] n.toNat) n.toNat (qaj _) (by unfold maxLen;omega) (by rw [size_madeCells,qbi]);simpa using this;simp only [List.map_replicate,qbu] at hx;rw [hx.2,q];refine ⟨rfl,fun y hy=>?_⟩;simp [FV.cells] at hy;subst hy;exact r
  ·have A:=qn hx;simp only [List.map_replicate,qbu] at A;rw [A.2,q] at hy;rw [toList_madeCells_one] at hv;have B:=qn hv;rw [qbu] at B;rw [B.2];have C:=qn hy;simp [FV.cells] at C;subst C;exact .atom r
 ·exact .row (qu ..) (by rw [kbf];exact qx _) rfl fun _=>by rw [kai]
theorem kjj {v:Value} {e:TypeId} {n:Nat} {cs:List Value} (h:w.ownsRow 0 e 1 v n cs) (hn:0<n:=by omega):∃ g cap cur,v = .slice (some ⟨g,0,none⟩) n cap/\w.heap[g]?=some (.cells cur e (0,0))/\n<=cap/\cap<=maxLen/\cur.size=cap/\cur.toList.take n=cs:=by
 rcases h.2 with ⟨_,h0⟩ | ⟨g,cap,cur,hv,_,a,h1,b,c,d⟩;omega
 ·exact ⟨g,cap,cur,hv,a,h1,b,by simpa using c,by simpa using d⟩
theorem kkh (t:TypeId) (d:TD) (id:Nat) {α:Type} (enc:α->FV) (xs:List α) {x:α} {i:Int} (X Y:Operand) (e:TypeId) (de:TD) (k:IntKind) (n:Nat) (h:idx xs i=some x) (q:TOk P T:=by exact tt_ok) (hy:st.eval Y = .fz (.atom (.int k i)):=by kernel_rfl) (r:o.op = .indexAddr t X Y:=by kernel_rfl) (hd:kad T t=some d:=by kernel_rfl) (hk:d.kind = .slice e:=by kernel_rfl) (j:kad T e=some de:=by kernel_rfl) (s:de.size=1:=by kernel_rfl) (hx:st.eval X = .row id n:=by kernel_rfl) (p:kaa st.heap id=some (.frow e 1 (xs.map enc)):=by kernel_rfl) (hn:n=xs.length:=by rfl):NStep P o st (.ref id n i.toNat):=by
 intro ψ S a w ht y;subst hn;have hd:=q.get hd;have j:=q.get j;unfold idx at h;split at h
 ·rename_i h0;have z:i.toNat<xs.length:=(qg.1 h).1;have l:=Sim.eval_tmps ht X;rw [hx] at l;have b:=Sim.eval_tmps ht Y;rw [hy] at b;have b:=b.atom;obtain ⟨hl,_,cs,c,_,_⟩:=y id _ p;rw [qaa] at hl c;obtain ⟨g,cap,cur,f,B,_⟩:=kjj c;have hK:id∈st.ids/\a.eval X=ψ.val id:=by
   generalize a.eval X=u at l;cases l with
   | row hK A h1 hv=>exact ⟨hK,hv hl.symm⟩
  refine kae w (.pointer (some ⟨g,i.toNat,none⟩)) ?_ ⟨kaf _, .ref hK.1 (by omega) rfl fun _=>⟨g,by rw [f];rfl,rfl⟩⟩;have m:i<(xs.length:Int):=by omega
  simp [execOp,r,hK.2,f,b,Instr.indexAt,asIntOf,run_underlying (hd.slice hk),h0,m,j.size,s,kb6]
 ·cases h
theorem ks7 (t:TypeId) (d:TD) (id:Nat) {α:Type} (enc:α->FV) (xs:List α) (x:α) (i:Int) (X:Operand) (n:Nat) (h:idx xs i=some x) (q:TOk P T:=by exact tt_ok) (r:o.op = .load t X:=by kernel_rfl) (hd:kad T t=some d:=by kernel_rfl) (hk:d.kind.agg=false:=by kernel_rfl) (hx:st.eval X = .ref id n i.toNat:=by kernel_rfl) (k:kaa st.heap id=some (.frow t 1 (xs.map enc)):=by kernel_rfl) (hn:n=xs.length:=by rfl) (l:∀ y,(enc y).cells=[enc y]:=by exact fun _=>rfl):NStep P o st (.fz (enc x)):=by
 intro ψ S a w ht s;subst hn;have hd:=q.get hd;unfold idx at h;split at h
 ·rename_i h0;have z:i.toNat<xs.length:=(qg.1 h).1;have f:=Sim.eval_tmps ht X;rw [hx] at f;obtain ⟨hl,_,cs,c,_,hr⟩:=s id _ k;rw [qaa] at hl c;obtain ⟨g,cap,cur,e,E,A,hc2,B,C⟩:=kjj c;have hp:a.eval X = .pointer (some ⟨g,i.toNat,none⟩):=by
   generalize a.eval X=u at f;cases f with
   | ref hK D h1 hv=>
    obtain ⟨b,m,rfl⟩:=hv hl.symm;rw [e] at m;simp only [kak,qc] at m;rw [m]
  have p:cs[i.toNat]?=some (cs[i.toNat]'(by rw [c.1];omega)):=qb _;have j:w.cell? ⟨g,i.toNat,none⟩=some (cs[i.toNat]'(by rw [c.1];omega)):=by rw [e] at c;rw [World.ownsRow.cellAt c i.toNat (by omega),p]
  refine kae w (cs[i.toNat]'(by rw [c.1];omega)) ?_ ⟨kaf _, .fz ((hr i.toNat (enc x) 0 _ (enc x) (by rw [qq,h];rfl) (by simp) (by rw [l];rfl)).mono fun _ h => .inl h)⟩;simp [execOp,r,hp,Instr.loadAt,Instr.sureAddr,loadVar,hd.isAgg,hk,j]
 ·cases h
theorem kqu (t:TypeId) (d:TD) (id:Nat) {α:Type} (enc:α->FV) (xs:List α) (x y:α) (i:Int) (X Y:Operand) (n:Nat) (h:idx xs i=some x) (hT:TOk P T:=by exact tt_ok) (ho:o.op = .store t X Y:=by kernel_rfl) (hd:kad T t=some d:=by kernel_rfl) (hz:d.size=1:=by kernel_rfl) (hx:st.eval X = .ref id n i.toNat:=by kernel_rfl) (I:kaa st.heap id=some (.frow t 1 (xs.map enc)):=by kernel_rfl) (hn:n=xs.length:=by rfl) (hy:st.eval Y = .fz (enc y):=by kernel_rfl) (D:∀ y,∃ u,enc y = .atom u/\u.oneCell'=true:=by exact fun _=>⟨_,rfl,rfl⟩):StepA P o st .any ((id, .frow t 1 ((xs.set i.toNat y).map enc))::st.heap) st.ids:=by
 subst hn;intro F S0 N0 ψ S a w E;have hd:=hT.get hd;unfold idx at h;split at h
 ·rename_i h0;have ab:i.toNat<xs.length:=(qg.1 h).1;have f:=E.core;obtain ⟨ac,⟨hl,J,cs,l,ad,hr⟩,Q⟩:=f.obj id _ I;rw [qaa] at hl l;have hcl:cs.length=xs.length:=by rw [l.1,qbi]
  obtain ⟨g,cap,cur,m,hg,R,hc2,U,V⟩:=kjj l;have G:=E.eval X;rw [hx] at G;have hp:a.eval X = .pointer (some ⟨g,i.toNat,none⟩):=by
   generalize a.eval X=u at G;cases G with
   | ref hK ae h1 hv=>
    obtain ⟨b,K,rfl⟩:=hv hl.symm;rw [m] at K;simp only [kak,qc] at K;rw [K]
  obtain ⟨u,hu,H⟩:=D y;have p:=E.eval Y;rw [hy,hu] at p;have p:=p.atom;have L:u.cells=#[u]:=by cases u <;> first | rfl | cases H
  have hst:=run_storeCells_at (P:=P) g i.toNat t [u] 0 cur w hg (by simp;omega) (fun v hv=>by simp at hv;rw [hv];exact H);obtain ⟨new,s⟩:∃ new:Array Value,new=(cur.toList.take (i.toNat+0)++[u]++cur.toList.drop (i.toNat+0+[u].length)).toArray:=⟨_,rfl⟩;rw [<- s] at hst;have M:new.toList=cur.toList.set i.toNat u:=by rw [s,List.set_eq_take_append_cons_drop,qo (by simp;omega)];simp
  have Z:new.size=cap:=by rw [<- qal,M,List.length_set,qal,U]
  have A:∀ k,k<w.heap.size->¬ Blk (ψ.val id) k->(w.setRow g new).heap[k]?=w.heap[k]?:=fun k _ hk=>kjd g new k fun e=>hk (.of (by rw [m,e];rfl));have af:(w.setRow g new).heap.size=w.heap.size:=by simp [World.setRow]
  have B:ψ.set id xs.length (ψ.val id)=ψ:=by
   unfold Env.set;congr 1
   ·funext j;split;rename_i N;rw [N,hl]
    ·rfl
   ·funext j;split;rename_i N;rw [N]
    ·rfl
  have hk:Same S w (w.setRow g new):=fun k hk hl=>A k hl fun e=>(Q k e).1 hk;obtain ⟨c1,c2,c3⟩:=f.upd (n:=xs.length) (v:=ψ.val id) (w':=w.setRow g new) (ob' := .frow t 1 ((xs.set i.toNat y).map enc)) I (by omega) A (.inr ⟨hl,rfl⟩) (fun b K => .inl K) (by
   rw [B];refine ⟨by simp [hl],J,cs.set i.toNat u,?_,fun z r=>?_,fun k z j v q r hv C=>?_⟩;rw [qaa,List.length_set,m];refine ⟨by rw [List.length_set,hcl,qbi], .inr ⟨g,cap,new,rfl,qaj _,kic g hg,R,hc2,by rw [Z,qbi],?_⟩⟩;rw [qbi,M,List.take_set,V];obtain ⟨z0,_,rfl⟩:=qas.1 r;obtain ⟨u0,h1,h2⟩:=D z0;rw [h1];exact ⟨rfl,fun q C=>by simp [FV.cells] at C;subst C;exact h2⟩
   ·obtain ⟨z0,c,rfl⟩:∃ z0,(xs.set i.toNat y)[k]?=some z0/\enc z0=z:=(by rw [qq,qt] at r;exact r);obtain ⟨u0,h1,h2⟩:=D z0;have N:j=0:=(by rw [h1] at C;have:=(qg.1 C).1;simp [FV.cells] at this;exact this);subst N;have aa:q=enc z0:=(by rw [h1] at C ⊢; simp [FV.cells] at C;exact C.symm);subst aa;simp only [qbi,Nat.add_zero] at hv;by_cases O:i.toNat=k;subst O;rw [qbv (by omega)] at hv c;injection hv with hv;injection c with c;subst hv c;rw [hu];exact .atom H
    ·rw [List.getElem?_set_ne O] at hv c;exact (hr k (enc z0) 0 v (enc z0) (by rw [qq,c];rfl) (by simpa using hv) (by rw [h1];rfl)).keep hk)
  rw [B] at c1;refine kjh (w.setRow g new) ?_ ⟨ψ,S,c1, .any,⟨rfl,rfl,rfl,by omega,c3,fun _=>qx _⟩,Ext.refl,fun _ h=>h,fun _ h=>h,c2⟩;simp only [execOp,ho,Instr.storeAt,hp,p,Instr.sureAddr,storeVar,hd.size,Sem.run_bind,Sem.run_pure,Result.andThen_ok];rw [qi (by rw [L,hz];simp)];simp [L,hst]
 ·cases h
def rel1 (id n:Nat):AV->AV
 | .row k m=>bif Nat.beq k id then .row k n else .row k m
 | y=>y
def relG (id n:Nat):AV->AV
 | .agg cs => .agg (cs.map (rel1 id n))
 | .fn f cs => .fn f (cs.map (rel1 id n))
 | y=>rel1 id n y
def relT (id n:Nat):AV->AV
 | .tup cs => .tup (cs.map (relG id n))
 | y=>relG id n y
def relO (id n:Nat):AObj->AObj
 | .box e cs => .box e (cs.map (rel1 id n))
 | y=>y
def k3m (id:Nat) (st:St):List Nat:=st.tmps.flatMap (fun p=>kx5 id p.2)++st.heap.flatMap (fun p=>k1n id p.2)
def k55 (id n:Nat) (st:St):St:={ dfr:=st.dfr,n:=st.n,tmps:=st.tmps.map (fun p=>(p.1,relT id n p.2)),heap:=st.heap.map (fun p=>(p.1,relO id n p.2)),ids:=st.ids }
theorem kyh {id n:Nat} {y:AV} (h:∀ m∈kst id y,m=n):rel1 id n y=y:=by
 cases y with
 | row k m=>
  simp only [rel1];cases a:Nat.beq k id with
  | false=>rfl
  | true=>rw [h m (by simp [kst,a])];rfl
 | _=>rfl
theorem kos {α:Type} {f:α->α} {l:List α} (h:∀ x∈l,f x=x):l.map f=l:=by rw [List.map_congr_left h];simp
theorem kx2 {id n:Nat} (y:AV) (h:∀ m∈k5o id y,m=n):relG id n y=y:=by
 cases y with
 | agg cs=>exact congrArg AV.agg (kos fun x hx=>kyh fun m hm=>h m (qa1.2 ⟨x,hx,hm⟩))
 | fn f cs=>exact congrArg (AV.fn f) (kos fun x hx=>kyh fun m hm=>h m (qa1.2 ⟨x,hx,hm⟩))
 | row k m=>exact kyh (y := .row k m) h
 | _=>rfl
theorem kali {id n:Nat} {y:AV} (h:∀ m∈kx5 id y,m=n):relT id n y=y:=by
 cases y with
 | tup cs=>exact congrArg AV.tup (kos fun x hx=>kx2 _ fun m hm=>h m (qa1.2 ⟨x,hx,hm⟩))
 | agg cs=>exact kx2 (.agg cs) h
 | fn f cs=>exact kx2 (.fn f cs) h
 | row k m=>exact kx2 (.row k m) h
 | _=>rfl
theorem kak1 {id n:Nat} {y:AObj} (h:∀ m∈k1n id y,m=n):relO id n y=y:=by
 cases y with
 | box e cs=>exact congrArg (AObj.box e) (kos fun x hx=>kyh fun m hm=>h m (qa1.2 ⟨x,hx,hm⟩))
 | _=>rfl
theorem kagc {st:St} (id:Nat) {k m n:Nat} (h:k3m id st=List.replicate k m) (b:m=n):LeSt st (k55 id n st):=by
 have a:∀ x∈k3m id st,x=n:=fun x hx=>by rw [h] at hx;rw [(qbu.1 hx).2,b]
 have:k55 id n st=st:=by
  unfold k55;have h1:st.tmps.map (fun p=>(p.1,relT id n p.2))=st.tmps:=kos fun p hp=>by rw [kali fun m hm=>a m (qau.2 (.inl (qa1.2 ⟨p,hp,hm⟩)))]
  have c:st.heap.map (fun p=>(p.1,relO id n p.2))=st.heap:=kos fun p hp=>by rw [kak1 fun m hm=>a m (qau.2 (.inr (qa1.2 ⟨p,hp,hm⟩)))]
  rw [h1,c]
 rw [this];exact LeSt.refl
end Go.Proofs.YtjpkdegjcilndaaGreatDoor
set_option linter.all false
set_option linter.unusedSectionVars false
namespace Go.Proofs.YtjpkdegjcilndaaGreatDoor
open Go Go.RowKit
variable [Dr]
def kwz:List FV->Option (List Value)
 | []=>some []
 | .atom v::l=>match kwz l with
  | some r=>some (v::r)
  | none=>none
 | _::_=>none
def toV:AV->Option Value
 | .fz (.atom v)=>bif v.oneCell' then some v else none
 | .fz (.agg xs)=>match kwz xs with
  | some l=>bif l.all (·.oneCell') then some (.agg l.toArray) else none
  | none=>none
 | _=>none
def ofV:Value->Option FV
 | .agg cs=>bif cs.toList.all (·.oneCell') then some (.agg (cs.toList.map .atom)) else none
 | .tuple _=>none
 | v=>some (.atom v)
variable {P:Program} {w w':World} {S S':Nat->Prop} {ψ:Env} {K:Nat->Prop} {T:List (TypeId×TD)} {o:Oper} {a:Act} {st:St} {t:TypeId} {d:TD}
theorem k4c:∀ {xs:List FV} {l:List Value},kwz xs=some l->xs=l.map .atom
 | [],l,h=>by simp only [kwz,qc] at h;subst h;rfl
 | .atom v::xs,l,h=>by
  simp only [kwz] at h;split at h;rename_i r hr;injection h with h;subst h;rw [k4c hr];rfl
  ·cases h
 | .agg _::_,l,h=>by cases h
 | .tup _::_,l,h=>by cases h
 | .lst _ _ _::_,l,h=>by cases h
 | .fp _::_,l,h=>by cases h
 | .bx _::_,l,h=>by cases h
theorem kann {u v:Value} {x:AV} (h:RV ψ K S w u x) (hx:toV x=some v):u=v:=by
 unfold toV at hx;split at hx
 ·rename_i v';cases b:v'.oneCell' with
  | false=>rw [b] at hx;cases hx
  | true=>rw [b] at hx;injection hx with hx;subst hx;exact h.atom
 ·rename_i xs;split at hx
  ·rename_i l hl;cases b:l.all (·.oneCell') with
   | false=>rw [b] at hx;cases hx
   | true=>
    rw [b] at hx;injection hx with hx;subst hx;have h:=h.inv;cases h with
    | @agg cs _ h h1 hr=>
     rw [k4c hl] at hr h;congr 1;apply qbm;apply qbg;intro i;simp only [qat];rcases qbb i cs.size with hi | hi;have a:i<l.length:=(by simp at h;omega);have:=hr i cs[i] (.atom l[i]) (by simp [hi]) (by simp [a]);rw [qbf hi,this.atom_eq];simp [a]
     ·have a:l.length<=i:=(by simp at h;omega);simp [hi,a]
  ·cases hx
 ·cases hx
theorem kam5 {v:Value} {x:FV} (h:ofV v=some x):RF S w v x:=by
 unfold ofV at h;split at h
 ·rename_i cs;cases a:cs.toList.all (·.oneCell') with
  | false=>rw [a] at h;cases h
  | true=>
   rw [a] at h;injection h with h;subst h;refine .agg (by simp) ?_ ?_;intro x hx;simp only [qas] at hx;obtain ⟨v,hv,rfl⟩:=hx;exact qr.1 a v hv
   ·intro i v x hv hx;simp only [qq,qt,qat] at hx;obtain ⟨u,b,rfl⟩:=hx;rw [hv] at b;injection b with b;subst b;exact .atom (qr.1 a v (by rw [Array.mem_toList_iff];exact Array.mem_of_getElem? hv))
 cases h
 ·rename_i c d;injection h with h;subst h;refine .atom ?_;cases v <;> first | rfl | exact absurd rfl (c _) | exact absurd rfl (d _)
theorem kalz {x:Operand} {v:Value} (g:o.op = .makeInterface t x) (hd:TdOk P t d) (hk:∀ h:d.kind = .ifc,False) (hx:toV (st.eval x)=some v):NStep P o st (.fz (.atom (.iface t v))):=by
 intro ψ S a w ht j;have hv:=kann (Sim.eval_tmps ht x) hx;obtain ⟨_,e,h1,f⟩:=hd;refine kae w (.iface t v) ?_ ⟨kaf _, .fz (.atom rfl)⟩;have c:∀ ms,e ≠ .interface ms:=fun ms i=>by subst i;cases b:d.kind <;> rw [b] at f <;> first | exact hk b | exact f
 simp only [execOp,g,hv,Instr.makeInterface,Sem.run_bind,Result.andThen_ok,run_underlying h1];cases e <;> first | exact absurd rfl (c _) | rfl
theorem kadw {x:Operand} {xt:TypeId} {v:Value} {y:FV} (k:o.op = .typeAssert x xt t true) (hd:TdOk P t d) (hk:∀ h:d.kind = .ifc,False) (hx:st.eval x = .fz (.atom (.iface t v))) (hy:ofV v=some y):
  NStep P o st (.fz (.tup [y, .atom (.bool true)])):=by
 intro ψ S a w ht m;have hv:=Sim.eval_tmps ht x;rw [hx] at hv;have hv:=hv.atom;obtain ⟨_,e,h1,j⟩:=hd;have g:∀ ms,e ≠ .interface ms:=fun ms l=>by subst l;cases b:d.kind <;> rw [b] at j <;> first | exact hk b | exact j
 refine kae w (.tuple #[v, .bool true]) ?_ ⟨kaf _, .fz (.tup rfl ?_)⟩
 ·simp only [execOp,k,hv,Instr.typeAssert,Sem.run_bind,Result.andThen_ok,run_underlying h1];cases e <;> first | exact absurd rfl (g _) | simp
 ·intro i u z f c
  match i with
  | 0=>simp at f c;subst f c;exact kam5 hy
  | 1=>simp at f c;subst f c;exact .atom rfl
  | i+2=>simp at c
theorem k84 {op:BinOp} {x y:Operand} {u v:Value} (h:(∃ s z,u = .iface s z)\/∃ c,y = .const c) (hv:v = .nilIface) (a:(∃ s z,u = .iface s z)\/u = .nilIface):(eqGuard op t x y u v).run P w = .ok () w:=by
 unfold eqGuard;subst hv;rcases a with ⟨s,z,rfl⟩ | rfl;cases op <;> simp
 ·rcases h with ⟨s,z,h⟩ | ⟨c,rfl⟩;cases h
  ·cases op <;> simp
theorem TdOk.ifc (h:TdOk P t d) (hk:d.kind = .ifc):∃ ms,P.underlying t=some (.interface ms):=by obtain ⟨_,e,h1,a⟩:=h;rw [hk] at a;cases e <;> simp [kg3] at a;exact ⟨_,h1⟩
theorem krk {x:Operand} {yt:TypeId} {u:Value} (neg r:Bool) (e:o.op = .binOp (if neg then .neq else .eql) t x (.const .nilIface) yt) (hd:TdOk P t d) (hk:d.kind = .ifc) (hx:st.eval x = .fz (.atom u)) (b:(r=false/\∃ s z,u = .iface s z)\/(r=true/\u = .nilIface)):
  NStep P o st (.fz (.atom (.bool (bif neg then !r else r)))):=by
 obtain ⟨ms,c⟩:=hd.ifc hk;intro ψ S a w ht j;have hv:=Sim.eval_tmps ht x;rw [hx] at hv;have hv:=hv.atom;have i:∀ d:Nat,(Op.equalIn (d+1) t u .nilIface).run P w = .ok r w:=fun d=>by rcases b with ⟨rfl,s,z,rfl⟩ | ⟨rfl,rfl⟩ <;> simp [Op.equalIn,run_underlying c]
 have f:∀ op,(eqGuard op t x (.const .nilIface) u .nilIface).run P w = .ok () w:=fun op=>k84 (.inr ⟨_,rfl⟩) rfl (b.elim (fun h => .inl h.2) fun h => .inr h.2);refine kae w (.bool (bif neg then !r else r)) ?_ ⟨kaf _, .fz (.atom rfl)⟩;have hc:a.eval (.const .nilIface) = .nilIface:=rfl;have g:(binOp .eql t u .nilIface).run P w = .ok (.bool r) w/\(binOp .neq t u .nilIface).run P w = .ok (.bool !r) w:=by rcases b with ⟨hr,s,z,rfl⟩ | ⟨hr,rfl⟩ <;> subst hr <;> constructor <;> (simp only [binOp];simp [Op.equal,Op.maxDepth,i 9999])
 cases neg;simp [execOp,e,hv,hc,f,g.1]
 ·simp [execOp,e,hv,hc,f,g.2]
end Go.Proofs.YtjpkdegjcilndaaGreatDoor
set_option linter.all false
set_option linter.unusedSectionVars false
namespace Go.Proofs.YtjpkdegjcilndaaGreatDoor
open Go Go.RowKit
variable [Dr]
def dfn (f:FuncId) (cs:List Value):Deferred:={ target := .fn (.func f) cs.toArray,args:=#[] }
def kni (fn:Func):Option (Nat×Nat×Code):=match fn.body with
 | some (.seq (.region _ os false) c)=>match os.toList with
  | [o1,o2]=>match o1.op,o1.dst,o1.guard with
   | .call c1,some t1,none=>match o2.op,o2.dst,o2.guard with
    | .assign (.tmp t),some t2,none=>match c1.callee,c1.args.toList with
     | .builtin .recover,[]=>bif Nat.beq t t1 && (Nat.blt t1 fn.ntmps && (Nat.blt t2 fn.ntmps && fn.results.isEmpty)) then some (t1,t2,c) else none
     | _,_=>none
    | _,_,_=>none
   | _,_,_=>none
  | [o1]=>match o1.op,o1.dst,o1.guard with
   | .call c1,some t1,none=>match c1.callee,c1.args.toList with
    | .builtin .recover,[]=>bif Nat.blt t1 fn.ntmps && fn.results.isEmpty then some (t1,t1,c) else none
    | _,_=>none
   | _,_,_=>none
  | _=>none
 | _=>none
def recV:Exit->Option Value
 | .normal=>some .nilIface
 | .ret=>some .nilIface
 | .panic [⟨v,false,false⟩]=>bif v.oneCell' then some v else none
 | _=>none
def dst0 (keep:List Nat) (n t1 t2:Nat) (pv:Value) (vs:List AV) (gi:Nat) (ocs:List Value) (st:St):St:=
 { n:=n,tmps:=(t2, .fz (.atom pv))::(t1, .fz (.atom pv))::argT 0 vs,heap:=(gi, .gho ocs (keep.map st.get))::st.heap,ids:=gi::st.ids }
def dstB (keep:List Nat) (gi:Nat) (vs:List AV) (st st2:St):St:={ n:=st.n,tmps:=zipS (keep.map fun t=>(t, .any)) vs,heap:=ka9 gi st2.heap,ids:=st2.ids }
def hdQ (P:Program) (T:List (TypeId×TD)) (rs:List ResultVar) (g:Nat) (ids:List Nat) (E:HEnd) (post:List (Nat×AObj)) (ids':List Nat) (ψ0:Env) (S1:Nat->Prop) (w0:World) (e:Exit) (st:St):Prop:=
 hQ T rs g ids E post ids' ψ0 S1 w0 e st \/ ∃ keep f fn2 t1 t2 c2 gi cvals vs pv gi2, st.dfr = [dfn f cvals] /\ kaa st.heap gi = some (.gho cvals vs) /\ cvals.length = vs.length /\ P.funcs[f]? = some fn2 /\ kni fn2 = some (t1, t2, c2) /\ (fn2.name == "runtime.NumGoroutine") = false /\
  Nat.ble vs.length fn2.ntmps=true/\recV e=some pv/\st.ids.contains gi2=false /\
  ∀ ocs,awp P c2 (dst0 keep fn2.ntmps t1 t2 pv vs gi2 ocs st) fun e2 st2=>(e2 = .normal\/e2 = .ret)/\st2.dfr=[]/\∃ vs',kaa st2.heap gi2=some (.gho ocs vs')/\hQ T rs g ids E post ids' ψ0 S1 w0 .ret (dstB keep gi2 vs' st st2)
variable {P:Program} {F S0:Nat->Prop} {N0:Nat} {w w':World} {S S':Nat->Prop} {ψ ψ':Env} {T:List (TypeId×TD)} {st:St} {ids:List Nat} {a:Act}
theorem k5f (z:TOk P T) {fn:Func} (pre:List (Nat×AObj)) {post:List (Nat×AObj)} {ids':List Nat} {E:HEnd} {g:Nat} {ψ0:Env} {w0:World} {e:Exit} (A:g∉ids) (o:g∉ids') (q:(post.all fun p=>okO ids' p.2)=true) (B:E.ok ids'=true) (hk:(post.all fun p=>ids'.contains p.1)=true) (h:khu T fn.results.toList g ids E post ids' ψ0 S w0 e st) (d:Sim F S0 N0 st ψ' S' a w') (u:Fr F w w'):
  a.defers=[]/\((e = .normal\/e = .ret)/\(∃ v,(results fn a.tmps).run P w' = .ok v w'/\∃ ψ'' S'',E.is (.returned v) ψ'' (·∈ids') S'' w'/\Core F S0 N0 post ids' ψ'' S'' w'/\Fr F w w'/\Ext (·∈ids) ψ0 ψ''/\(∀ i,i∈ids->i∈ids')/\(∀ b,S b->S'' b)/\Same S w0 w') \/
   ∃ v,e = .panic [{ v:=v,recovered:=false }]/\∃ ψ'' S'',E.is (.panicked [{ v:=v,recovered:=false }]) ψ'' (·∈ids') S'' w'/\Core F S0 N0 post ids' ψ'' S'' w'/\Fr F w w'/\Ext (·∈ids) ψ0 ψ''/\(∀ i,i∈ids->i∈ids')/\(∀ b,S b->S'' b)/\Same S w0 w'):=by
 obtain ⟨x,hi,y⟩:=h;have r:kaa st.heap g=some (.was ψ0 ids S w0):=by rw [x,kac,qo rfl]
 obtain ⟨_,⟨_,_,_,k1,k2,k3,k4⟩,_⟩:=d.core.obj g _ r;have j:∀ i,i∈ids->i∈ids':=fun i n=>by
  have:=k2 i n;rw [hi] at this;rcases qac.1 this with rfl | h;exact absurd n A
  ·exact h
 have khu:∀ i ob,kaa post i=some ob->i∈ids'/\okO ids' ob=true:=fun i ob f=>by
  have hm:∀ {l:List (Nat×AObj)},kaa l i=some ob->(i,ob)∈l:=fun {l}=>by
   induction l with
   | nil=>intro h;cases h
   | cons p l ih=>
    intro h;obtain ⟨k,v⟩:=p;rw [kac] at h;split at h;rename_i hk;subst hk;injection h with h;subst h;exact qu ..
    ·exact qh _ (ih h)
  have hm:=hm f;exact ⟨by simpa using qr.1 hk _ hm,by simpa using qr.1 q _ hm⟩
 have hl:∀ i ob,kaa post i=some ob->kaa st.heap i=some ob:=fun i ob f=>by have s:g≠i:=fun e=>o (e ▸ (khu i ob f).1);rw [x,kac,qi s];exact f
 have c:Core F S0 N0 post ids' ψ' S' w':=by refine ⟨fun i ob f=>?_,fun i i' ob ob' b f t=>d.core.inj i i' ob ob' b (hl i ob f) (hl i' ob' t),d.core.lt,d.core.s0,d.core.n0,d.core.fr⟩;obtain ⟨_,m2,m3⟩:=d.core.obj i ob (hl i ob f);exact ⟨(khu i ob f).1,m2.subA (khu i ob f).2,m3⟩
 cases E with
 | ret res=>
  obtain ⟨C,m⟩:=y;obtain ⟨v,e1,e2⟩:=k3f z d m;exact ⟨d.defers.trans (k0x m).1, .inl ⟨C,v,e1,ψ',S',⟨v,rfl,e2.subA B⟩,c,u,k1,j,k3,k4⟩⟩
 | pan v=>
  obtain ⟨hd,rfl⟩:=y;exact ⟨d.defers.trans hd, .inr ⟨v,rfl,ψ',S',rfl,c,u,k1,j,k3,k4⟩⟩
theorem kvz {fn:Func} {t1 t2:Nat} {c2:Code} (h:kni fn=some (t1,t2,c2)):∃ id os o1 c1,fn.body=some (.seq (.region id os false) c2)/\o1.op = .call c1/\c1.callee = .builtin .recover/\c1.args=#[]/\o1.dst=some t1/\o1.guard=none /\
  t1<fn.ntmps/\t2<fn.ntmps/\fn.results=#[]/\((∃ o2,os=#[o1,o2]/\o2.op = .assign (.tmp t1)/\o2.dst=some t2/\o2.guard=none)\/(os=#[o1]/\t2=t1)):=by
 unfold kni at h;split at h
 ·rename_i id os c i;split at h
  ·rename_i o1 o2 b;split at h
   ·rename_i c1 t1' h1 d e;split at h
    ·rename_i tt t2' j k l;split at h
     ·rename_i f g;cases hc:(Nat.beq tt t1' && (Nat.blt t1' fn.ntmps && (Nat.blt t2' fn.ntmps && fn.results.isEmpty))) with
      | false=>rw [hc] at h;cases h
      | true=>
       rw [hc] at h;simp only [qe,qc,qv] at h;obtain ⟨rfl,rfl,rfl⟩:=h;simp only [qp] at hc;obtain ⟨b1,b2,b3,b4⟩:=hc;obtain rfl:=qk b1;have a:os=#[o1,o2]:=(by apply qbm;simpa using b);exact ⟨id,os,o1,c1,i,h1,f,by apply qbm;simpa using g,d,e,by simpa [Nat.blt_eq] using b2,by simpa [Nat.blt_eq] using b3,by simpa using b4, .inl ⟨o2,a,j,k,l⟩⟩
     ·cases h
    ·cases h
   ·cases h
  ·rename_i o1 b;split at h
   ·rename_i c1 t1' h1 d e;split at h
    ·rename_i f g;cases hc:(Nat.blt t1' fn.ntmps && fn.results.isEmpty) with
     | false=>rw [hc] at h;cases h
     | true=>
      rw [hc] at h;simp only [qe,qc,qv] at h;obtain ⟨rfl,rfl,rfl⟩:=h;simp only [qp] at hc;obtain ⟨b2,b4⟩:=hc;have a:os=#[o1]:=(by apply qbm;simpa using b);exact ⟨id,os,o1,c1,i,h1,f,by apply qbm;simpa using g,d,e,by simpa [Nat.blt_eq] using b2,by simpa [Nat.blt_eq] using b2,by simpa using b4, .inr ⟨a,rfl⟩⟩
    ·cases h
   ·cases h
  ·cases h
 ·cases h
theorem kai9 {e:Exit} {pv:Value} (h:recV e=some pv):pv.oneCell'=true/\(((e = .normal\/e = .ret)/\pv = .nilIface)\/e = .panic [{ v:=pv,recovered:=false }]):=by
 unfold recV at h;split at h;injection h with h;subst h;exact ⟨rfl, .inl ⟨.inl rfl,rfl⟩⟩;injection h with h;subst h;exact ⟨rfl, .inl ⟨.inr rfl,rfl⟩⟩
 ·rename_i v;cases a:v.oneCell' with
  | false=>rw [a] at h;cases h
  | true=>rw [a] at h;injection h with h;subst h;exact ⟨a, .inr rfl⟩
 ·cases h
theorem k17 (hT:TOk P T) {fn:Func} {post:List (Nat×AObj)} {ids':List Nat} {E:HEnd} {g:Nat} {ψ0:Env} {w0:World} (e:Exit) (hg:g∉ids) (N:g∉ids') (O:(post.all fun p=>okO ids' p.2)=true) (hE:E.ok ids'=true) (hk:(post.all fun p=>ids'.contains p.1)=true) (D:Sim F S0 N0 st ψ' S' a w') (h3:Fr F w w') {keep:List Nat} {f:FuncId} {fn2:Func} {t1 t2:Nat} {c2:Code} {gi:Nat} {cvals:List Value} {vs:List AV} {pv:Value} {gi2:Nat} {u:FrameMode} (hd: st.dfr = [dfn f cvals]) (U: kaa st.heap gi = some (.gho cvals vs)) (G: cvals.length = vs.length) (hf: P.funcs[f]? = some fn2) (V: kni fn2 = some (t1, t2, c2)) (hn: (fn2.name == "runtime.NumGoroutine") = false) (H: Nat.ble vs.length fn2.ntmps = true) (hu:(u = .returning/\pv = .nilIface)\/u = .panicking [{ v:=pv,recovered:=false }]) (I:pv.oneCell'=true) (c:st.ids.contains gi2=false) (h:∀ ocs,awp P c2 (dst0 keep fn2.ntmps t1 t2 pv vs gi2 ocs st) fun e2 st2=>(e2 = .normal\/e2 = .ret)/\st2.dfr=[]/\∃ vs',kaa st2.heap gi2=some (.gho ocs vs')/\hQ T fn.results.toList g ids E post ids' ψ0 S w0 .ret (dstB keep gi2 vs' st st2)):
  Leaves P fn a.tmps (fun e w'=>∃ ψ'' S'',E.is e ψ'' (·∈ids') S'' w'/\Core F S0 N0 post ids' ψ'' S'' w'/\Fr F w w'/\Ext (·∈ids) ψ0 ψ''/\(∀ i,i∈ids->i∈ids')/\(∀ b,S b->S'' b)/\Same S w0 w') a.defers u w':=by
 obtain ⟨id,os,o1,c1,j,p1,p2,p3,p4,p5,n1,n2,nres,r⟩:=kvz V;have H:=qs H;have c:gi2∉st.ids:=by simpa using c
 rw [D.defers,hd];have X:fn2.body≠none:=by rw [j];simp
 simp only [qar,ne_eq] at hn;refine leaves_cons (f:=f) (args:=cvals.toArray) (fun hh=>by rcases hu with ⟨h,_⟩ | h <;> rw [hh] at h <;> cases h) (by simp [invoke,callFunc,hf,X,hn]) ?_;refine callsD_of_wpS hf j fun c₀ cs hm=>?_;have s:(cvals.toArray++Array.replicate (fn2.ntmps - cvals.toArray.size) undef).size=fn2.ntmps:=by simp;omega
 -- the values of the frame that leaves
 have z:=D.core.add (n:=0) (v := .nilFunc) (w':=w') (ob := .gho (keep.map fun t=>a.tmps.getD t undef) (keep.map st.get)) (kaf _) c (fun b V=>by cases V)
  ⟨kbf _ _,by rw [kai];rfl,by rw [kai];rfl,fun i v x hv hx=>by simp only [qq,qt] at hv hx;obtain ⟨p,hp,rfl⟩:=hv;obtain ⟨q,C,rfl⟩:=hx;rw [hp] at C;injection C with C;subst C;exact (D.tmps p).keep (ka8 c _ _) (fun _ h=>qh _ h) (fun _ h=>h) (fun _ _ _=>rfl)⟩
 obtain ⟨_,⟨_,_,_,Y⟩,_⟩:=D.core.obj gi _ U
 let a0:Act:={ tmps:=cvals.toArray++Array.replicate (fn2.ntmps - cvals.toArray.size) undef,defers:=[] }
 let a2:Act:=(a0.put (some t1) pv).put (some t2) pv
 have J:Sim F S0 N0 (dst0 keep fn2.ntmps t1 t2 pv vs gi2 (keep.map fun t=>a.tmps.getD t undef) st) (ψ'.set gi2 0 .nilFunc) S' a2 w':=by
  have s0:a0.tmps.size=fn2.ntmps:=s;have s1:(a0.put (some t1) pv).tmps.size=fn2.ntmps:=by rw [kz4];exact s0
  refine ⟨rfl,by show a2.tmps.size=fn2.ntmps;rw [kz4];exact s1,fun t=>?_,z⟩;show RV _ _ _ _ (a2.tmps.getD t undef) (look .any ((t2, .fz (.atom pv))::(t1, .fz (.atom pv))::argT 0 vs) t);rw [kat,kat,kot (some t2) fn2.ntmps t s1 (by intro t ht;injection ht with ht;omega),kot (some t1) fn2.ntmps t s0 (by intro t ht;injection ht with ht;omega)];by_cases e2:t2=t;rw [qo e2,qo (by rw [e2])];exact .fz (.atom I)
  ·rw [qi e2,qi (by simpa using e2)];by_cases e1:t1=t;rw [qo e1,qo (by rw [e1])];exact .fz (.atom I)
   ·rw [qi e1,qi (by simpa using e1)];rcases kla vs 0 t with h | ⟨x,_,k1,k2⟩;rw [h];exact .any
    ·rw [k2];have k1:vs[t]?=some x:=(by simpa using k1);have A:t<cvals.length:=(by rw [G];exact (qg.1 k1).1);have:a0.tmps.getD t undef=cvals[t]:=(by show (cvals.toArray++Array.replicate (fn2.ntmps - cvals.toArray.size) undef).getD t undef=_;rw [qam,qa7 (by simpa using A)];simp [A]);rw [this];exact (Y t _ x (by simp [A]) k1).keep (ka8 c _ _) (fun _ h=>qh _ h) (fun _ h=>h) (fun _ _ _=>rfl)
 -- what the closure leaves
 have o:∀ (u':FrameMode) (R:Ending->FrameMode->World->Prop),(∀ v w'',Leaves P fn a.tmps (fun e w'=>∃ ψ'' S'',E.is e ψ'' (·∈ids') S'' w'/\Core F S0 N0 post ids' ψ'' S'' w'/\Fr F w w'/\Ext (·∈ids) ψ0 ψ''/\(∀ i,i∈ids->i∈ids')/\(∀ b,S b->S'' b)/\Same S w0 w') [] .returning w''->R (.returned v) u' w'') ->
   c2.wp P (fun e a' w''=>bodyPostS P fn2 c₀ cs R e a' ({ c₀ with mode:=u' }::cs) w'') a2 w':=by
  intro u' R hR;refine wp_wide.1 (kco (h _ F S0 N0 _ S' a2 w' J) ?_);rintro e2 a'' w'' ⟨st2,ψ2,S2,⟨Z,aa,vs',K,st3,ab,ac⟩,k2,k3⟩;have L:a''.defers=[]/\∃ u'',({ c₀ with mode:=u' }::cs:List Frame)={ c₀ with mode:=u'' }::cs/\∃ v,(results fn2 a''.tmps).run P w'' = .ok v w''/\R (.returned v) u'' w'':=by
   refine ⟨k2.defers.trans aa,u',rfl, .tuple #[],by simp [results,nres],hR _ _ ?_⟩;obtain ⟨_,⟨_,_,_,M⟩,_⟩:=k2.core.obj gi2 _ K;have ad:Core F S0 N0 (ka9 gi2 st2.heap) st2.ids ψ2 S2 w'':=
    ⟨fun i ob ho=>k2.core.obj i ob (kbe gi2 ho).2,fun i i' ob ob' b ho ae=>k2.core.inj i i' ob ob' b (kbe gi2 ho).2 (kbe gi2 ae).2,k2.core.lt,k2.core.s0,k2.core.n0,k2.core.fr⟩
   have B:Sim F S0 N0 (dstB keep gi2 vs' st st2) ψ2 S2 { tmps:=a.tmps,defers:=[] } w'':=(by refine ⟨rfl,D.size,fun t=>?_,ad⟩;exact k0o (v:=fun t=>a.tmps.getD t undef) t fun i k x hk hx=>M i _ x (by simp only [qq,qt] at hk;obtain ⟨q,C,rfl⟩:=hk;rw [qq,C];rfl) hx);obtain ⟨ψ3,S3,h4⟩:=ab F S0 N0 ψ2 S2 _ w'' B;rcases (k5f hT [] hg N O hE hk ac h4 (h3.trans k3)).2 with ⟨_,v,r1,r2⟩ | ⟨v,r1,_⟩;exact ⟨v,r1,r2⟩
   ·cases r1
  rcases Z with rfl | rfl <;> exact L
 refine wpS_seq (wpS_region ?_);have af:∀ (a:Act) (w:World),(execOp a.eval o1).run P w = .ok .recover w:=fun a w=>by obtain ⟨cc,as_,ts⟩:=c1;simp only at p2 p3;subst p2 p3;simp [execOp,p1,resolve,invoke,builtin]
 have ag:∀ y,Region.wanted o1 y=true:=fun y=>by simp [Region.wanted,p5]
 have s0:a0.tmps.size=fn2.ntmps:=s;have key:∀ (cs':List Frame) (Q:Exit->Act->List Frame->World->Prop),(Q .normal a2 cs' w'->os[0]?=some o1/\∃ l,List.range os.size=0::l/\wpOpsS P os Q l (a0.put (some t1) pv) cs' w'):=fun cs' Q hQ=>by
  rcases r with ⟨o2,rfl,q1,q2,q3⟩ | ⟨rfl,rfl⟩;refine ⟨rfl,[1],rfl,?_⟩;have ah:∀ y,Region.wanted o2 y=true:=fun y=>(by simp [Region.wanted,q3]);unfold wpOpsS;simp only [List.getElem?_toArray,qag,List.getElem?_cons_zero,ah,if_true];have hv:(execOp (a0.put (some t1) pv).eval o2).run P w' = .ok (.value pv) w':=(by have:(a0.put (some t1) pv).eval (.tmp t1)=pv:=(by show (a0.put (some t1) pv).tmps.getD t1 undef=pv;rw [kot (some t1) fn2.ntmps t1 s (by intro t ht;injection ht with ht;omega),qo rfl]);simp [execOp,q1,this]);rw [hv];simp only [Oper.upon,q2];unfold wpOpsS;exact hQ
  ·refine ⟨rfl,[],rfl,?_⟩;unfold wpOpsS;have he:a2=a0.put (some t2) pv:=(by show (a0.put (some t2) pv).put (some t2) pv=a0.put (some t2) pv;simp [Act.put]);rw [<- he];exact hQ
 have go:∀ (cs0 cs':List Frame) (Q:Exit->Act->List Frame->World->Prop),(recoverD cs0=none/\pv = .nilIface/\cs'=cs0\/recoverD cs0=some (pv,cs'))->Q .normal a2 cs' w'->wpOpsS P os Q (List.range os.size) a0 cs0 w':=fun cs0 cs' Q hr hQ=>by
  obtain ⟨k1,l,k2,k3⟩:=key cs' Q hQ;rw [k2];unfold wpOpsS;simp only [k1,ag,if_true];rw [af];rcases hr with ⟨hr,rfl,rfl⟩ | hr;simp only [hr,p4];exact k3
  ·simp only [hr,p4];exact k3
 rcases hu with ⟨rfl,rfl⟩ | rfl
 ·have m:recoverD (c₀::cs)=none:=by simp [recoverD,hm]
  refine go _ _ _ (.inl ⟨m,rfl,rfl⟩) ?_;show c2.wpS P _ a2 (c₀::cs) w';refine wpS_of_wp ?_;have hc:(c₀::cs)=({ c₀ with mode := .returning }::cs:List Frame):=by rw [<- hm]
  rw [hc];exact o .returning _ fun v w'' hl=>hl
 ·have m:recoverD (c₀::cs)=some (pv,{ c₀ with mode := .panicking [{ v:=pv,recovered:=true }] }::cs):=by simp [recoverD,hm]
  refine go _ _ _ (.inr m) ?_;show c2.wpS P _ a2 _ w';refine wpS_of_wp ?_;exact o (.panicking [{ v:=pv,recovered:=true }]) _ fun v w'' hl=>by have:settle (.panicking [{ v:=pv,recovered:=true }]) = .returning:=rfl;simp only [this];exact hl
theorem k6f (z : TOk P T) {f : FuncId} {fn : Func} {c : Code} {args : List AV} {pre : List (Nat × AObj)} {E : HEnd} {post : List (Nat × AObj)} {ids' : List Nat} {g : Nat} (D : P.funcs[f]? = some fn) (q : fn.body = some c) (hn : (fn.name == "runtime.NumGoroutine") = false)
  (r:Nat.ble args.length fn.ntmps=true) (d:ids.contains g=false) (a:ids'.contains g=false) (k:(post.all fun p=>okO ids' p.2)=true) (A:E.ok ids'=true) (hk:(post.all fun p=>ids'.contains p.1)=true)
  (h:∀ ψ0 S1 w0,awp P c { n:=fn.ntmps,tmps:=argT 0 args,heap:=(g, .was ψ0 ids S1 w0)::pre,ids:=g::ids } (hdQ P T fn.results.toList g ids E post ids' ψ0 S1 w0)):HCall P f args pre ids E post ids':=by
 have r:=qs r;have d:g∉ids:=by simpa using d
 have a:g∉ids':=by simpa using a
 refine ⟨⟨fn,D,by rw [q];rfl,hn⟩,fun F S0 N0 ψ S w vs hs hr hc=>calls_of_wp_defers D q ?_⟩;have l:=hc.add (n:=0) (v := .nilFunc) (w':=w) (ob := .was ψ ids S w) (kaf _) d (fun b q=>by cases q)
  ⟨kbf _ _,by rw [kai];rfl,by rw [kai];rfl,ka8 d _ _,fun i hi=>qh _ hi,fun b q=>q,fun _ _ _=>rfl⟩
 have s:Sim F S0 N0 { n:=fn.ntmps,tmps:=argT 0 args,heap:=(g, .was ψ ids S w)::pre,ids:=g::ids } (ψ.set g 0 .nilFunc) S
   { tmps:=vs++Array.replicate (fn.ntmps - vs.size) undef,defers:=[] } w:=by
  refine ⟨rfl,by simp;omega,fun t=>?_,l⟩;show RV _ _ _ w _ (look .any (argT 0 args) t);rcases kla args 0 t with h | ⟨x,_,h1,u⟩;rw [h];exact .any
  ·rw [u];have h1:args[t]?=some x:=(by simpa using h1);have m:t<vs.size:=(by rw [hs];exact (qg.1 h1).1);have:(vs++Array.replicate (fn.ntmps - vs.size) undef).getD t undef=vs[t]:=(by rw [qam,qa7 m];simp [m]);rw [this];exact (hr t _ x (by simp [m]) h1).keep (ka8 d _ _) (fun _ h=>qh _ h) (fun _ h=>h) (fun _ _ _=>rfl)
 refine wp_wide.1 (kco (h _ _ _ F S0 N0 _ S _ w s) ?_);rintro e a' w' ⟨st',ψ',S',G,u,B⟩;rcases G with ⟨st2,hl,hp⟩ | ⟨keep,f2,fn2,t1,t2,c2,gi,cvals,avs,pv,gi2,d1,d2,d3,d4,d5,d6,d7,d8,d9,d10⟩
 ·obtain ⟨ψ2,S2,H⟩:=hl F S0 N0 ψ' S' a' w' u;obtain ⟨e0,y⟩:=k5f z pre d a k A hk hp H B;rcases y with ⟨y,v,r1,r2⟩ | ⟨v,rfl,r2⟩;rcases y with rfl | rfl <;> (show Leaves P fn a'.tmps _ a'.defers .returning w'; rw [e0];exact ⟨v,r1,r2⟩)
  ·show Leaves P fn a'.tmps _ a'.defers (.panicking _) w';rw [e0];exact r2
 ·obtain ⟨j,o⟩:=kai9 d8;rcases o with ⟨y,C⟩ | rfl;have:=k17 z e d a k A hk u B d1 d2 d3 d4 d5 d6 d7 (.inl ⟨rfl,C⟩) j d9 d10;rcases y with rfl | rfl <;> exact this
  ·exact k17 z .ret d a k A hk u B d1 d2 d3 d4 d5 d6 d7 (.inr rfl) j d9 d10
end Go.Proofs.YtjpkdegjcilndaaGreatDoor
set_option linter.all false
set_option linter.unusedSectionVars false
namespace Go.Proofs.YtjpkdegjcilndaaGreatDoor
open Go Go.RowKit
variable [Dr]
variable {P:Program} {F S0:Nat->Prop} {N0:Nat} {w w':World} {S S':Nat->Prop} {ψ:Env} {K:Nat->Prop} {T:List (TypeId×TD)} {o:Oper} {a:Act} {st:St} {t:TypeId} {d:TD} {id:Nat}
end Go.Proofs.YtjpkdegjcilndaaGreatDoor
set_option linter.all false
namespace Go.Proofs.YtjpkdegjcilndaaGreatDoor
open Go Go.RowKit
variable [Dr]
def vI (x:Int):Value := .int .i64 x
def vB (x:Bool):Value := .bool x
def tabF (rows:List (List Value)):FV := .lst 1 rows.length (rows.map fun r => .lst 1 r.length (r.map .atom))
def kaa7:FV->Bool
 | .atom _=>true
 | .tup vs=>vs.all fun x=>match x with
  | .atom _=>true
  | _=>false
 | _=>false
variable {P:Program} {F S0:Nat->Prop} {N0:Nat} {w w':World} {S S':Nat->Prop} {ψ ψ':Env} {K:Nat->Prop} {T:List (TypeId×TD)} {o:Oper} {a:Act} {st:St} {t:TypeId} {d:TD} {id:Nat} {ids:List Nat} {heap:List (Nat×AObj)}
theorem l_tab [Rd] {ops:Array Oper} {l:List Oper} {Q:Exit->St->Prop} {X Y:Operand} {n:Int} {eo:TypeId} (ei:TypeId) {de:TD} {k k':IntKind} (Z:o.op = .makeSlice t X Y) (V:TOk P T) (hd:kad T t=some d) (hk:d.kind = .slice eo) (y:kad T eo=some de) (H:de.size=1) (I:de.zero=[.slice none 0 0]) (hx:st.eval X = .fz (.atom (.int k n))) (hy:st.eval Y = .fz (.atom (.int k' n))) (h0:0<=n) (m:(de.bytes:Int)*n<=281474976710656) (J:n<=9223372036854775807) (p:st.ids.contains id=false) (hg:kbp ops st o=some true) (K:∀ t,o.dst=some t->t<st.n) (h:∀ ov,awpL P ops l (({ st with heap:=(id, .tab 0 ov eo ei (List.replicate n.toNat []))::st.heap,ids:=id::st.ids }:St).put o.dst (.fz (.atom ov))) Q):awpL P ops (o::l) st Q:=by
 have p:id∉st.ids:=by simpa using p
 have hd:=V.get hd;have y:=V.get y;intro F S0 N0 ψ S a w hs;have q:=hs.eval X;rw [hx] at q;have q:=q.atom;have r:=hs.eval Y;rw [hy] at r;have r:=r.atom;obtain ⟨⟨i,z',hi,L,M,hz,N⟩,_⟩:=y;have g:=hs.core;have hcl:z'.cells=#[.slice none 0 0]:=by apply qbm;rw [N,I]
 have hr:=run_make (P:=P) w t eo i z' (hd.slice hk) hi hz k k' n n h0 (Int.le_refl _) (by rw [M];exact m) J;rw [L,H,hcl,qbi] at hr;obtain ⟨w1,z⟩:∃ w1,w1=w.alloc (.cells (madeCells #[.slice none 0 0] n.toNat) eo):=⟨_,rfl⟩;have A:Grow w w1:=z ▸ kbj _ _;obtain ⟨ov,s⟩:∃ ov:Value,ov = .slice (some ⟨w.heap.size,0,none⟩) n.toNat n.toNat:=⟨_,rfl⟩;have O:(madeCells #[.slice none 0 0] n.toNat).toList=List.replicate n.toNat (.slice none 0 0):=toList_madeCells_one _ _;obtain ⟨vs,B⟩:∃ vs:List Value,vs=List.replicate n.toNat (.slice none 0 0):=⟨_,rfl⟩;have C:w1.ownsRow 0 eo 1 ov n.toNat vs:=by have:=World.ownsRow_lit (base:=0) (size:=1) (e:=eo) w (madeCells #[.slice none 0 0] n.toNat) n.toNat (qaj _) (by unfold maxLen;omega) (by rw [size_madeCells,qbi]);rw [O,<- B,<- s,<- z] at this;exact this
 have f:∀ (j:Nat) (v:Value),vs[j]?=some v->v = .slice none 0 0:=fun j v hv=>by have:=qn hv;rw [B,qbu] at this;exact this.2
 have hO:ObR (ψ.set id 0 (.tuple (ov::vs).toArray)) (·∈id::st.ids) S w1 id (.tab 0 ov eo ei (List.replicate n.toNat [])):=by
  refine ⟨kbf _ _,vs,kai _ _,by rw [B];simp,by simpa using C,fun j v xs hv hx=>?_,fun i j u v b x hv U D E=>?_⟩;rw [f j v hv];have:=qn hx;rw [qbu] at this;rw [this.2];exact ⟨⟨rfl, .inl ⟨rfl,rfl⟩⟩,fun u x=>by cases x⟩
  ·cases i with
   | zero=>cases j with
    | zero=>exact U rfl
    | succ j=>rw [qag] at hv;rw [f j v hv] at E;cases E
   | succ i=>rw [qag] at x;rw [f i u x] at D;cases D
 have hc:=g.addB A p (n:=0) (v := .tuple (ov::vs).toArray) (fun b m=>by
  rcases m with m | ⟨u,x,m⟩;cases m
  ·simp only [kfi] at x;rcases qac.1 x with rfl | x;rw [s] at m;simp [kak] at m;omega
   ·obtain ⟨i,hi,rfl⟩:=qai.1 x;rw [f i _ (qb hi)] at m;cases m) hO
 unfold kbg;rw [kew hs hg];refine (kjm (R:=fun v w'=>v=ov/\w'=w1) ?_ ?_);rintro v w' ⟨rfl,rfl⟩;have G:=hs.put (st':={ st with heap:=(id, .tab 0 v eo ei (List.replicate n.toNat []))::st.heap,ids:=id::st.ids }) (d:=o.dst) (v:=v) (c := .fz (.atom v)) rfl rfl rfl hc (.fz (.atom (by rw [s];rfl))) (ka8 p _ _) (fun _ h=>qh _ h) (fun _ h=>h) (Same.of_grow A) K;exact kdn (fun e a' w'' k=>k.pre (Fr.of_grow g.fr A)) _ _ _ (h v F S0 N0 _ S _ w' G)
 ·refine kae w1 ov ?_ ⟨rfl,rfl⟩;rw [z,s];simp [execOp,Z,q,r,hr]
theorem kakb {g:Nat} {ov:Value} {eo ei:TypeId} {rows:List (List Value)} (h:ObR ψ K S w id (.tab g ov eo ei rows)):∃ A cap,ov = .slice A rows.length cap:=by
 obtain ⟨_,vs,_,_,b,_⟩:=h;rcases b.2 with ⟨a,c⟩ | ⟨g,cap,cur,a,_⟩;exact ⟨none,0,by rw [a,c]⟩
 ·exact ⟨some ⟨g,0,none⟩,cap,a⟩
theorem kag5 (x:Operand) (e2:TypeId) (g:Nat) (ov:Value) (eo ei:TypeId) (rows:List (List Value)) (n:Nat) (e:TOk P T) (f:o.op = .call { callee := .builtin .len,args:=#[x],argTypes:=#[t] }) (hd:kad T t=some d) (hk:d.kind = .slice e2) (hx:st.eval x = .fz (.atom ov)) (b:kaa st.heap id=some (.tab g ov eo ei rows)) (hn:n=rows.length):
  NStep P o st (.fz (.atom (.int .i64 n))):=by
 subst hn;intro ψ S a w c h;have h0:=Sim.eval_tmps c x;rw [hx] at h0;have h0:=h0.atom;obtain ⟨A,cap,hv⟩:=kakb (h id _ b);rw [hv] at h0;refine kae w (.int .i64 rows.length) ?_ ⟨kaf _, .fz (.atom rfl)⟩;simp [execOp,f,resolve,invoke,builtin,Builtin.len_,run_underlying ((e.get hd).slice hk),h0,goInt]
theorem ksr (d:TD) (id:Nat) {α:Type} (f:α->Value) (rows:List (List α)) (row:List α) (i:Int) (X Y:Operand) (e:TypeId) (de:TD) (k:IntKind) (g:Nat) (ov:Value) (ei:TypeId) (h:idx rows i=some row) (s:TOk P T:=by exact tt_ok) (x:o.op = .indexAddr t X Y:=by kernel_rfl) (hd:kad T t=some d:=by kernel_rfl) (hk:d.kind = .slice e:=by kernel_rfl) (l:kad T e=some de:=by kernel_rfl) (y:de.size=1:=by kernel_rfl) (hx:st.eval X = .fz (.atom ov):=by kernel_rfl) (q:kaa st.heap id=some (.tab g ov e ei (rows.map (List.map f))):=by kernel_rfl) (hK:st.ids.contains id=true:=by kernel_rfl) (hy:st.eval Y = .fz (.atom (.int k i)):=by kernel_rfl):NStep P o st (.iref id g 0 i.toNat):=by
 intro ψ S a w ht z;have hd:=s.get hd;have l:=s.get l;unfold idx at h;split at h
 ·rename_i h0;have A:i.toNat<rows.length:=(qg.1 h).1;have b:=Sim.eval_tmps ht X;rw [hx] at b;have b:=b.atom;have c:=Sim.eval_tmps ht Y;rw [hy] at c;have c:=c.atom;obtain ⟨D,vs,m,r,j,B,u⟩:=z id _ q;rw [qaa] at r j;obtain ⟨gb,cap,cur,n,C,_⟩:=kjj j;refine kae w (.pointer (some ⟨gb,i.toNat,none⟩)) ?_ ⟨kaf _, .iref (by simpa using hK) (by omega) rfl fun _=>⟨ov,gb,by rw [m];rfl,by rw [n];rfl,rfl⟩⟩;have p:i<(rows.length:Int):=by omega
  simp [execOp,x,b,n,c,Instr.indexAt,asIntOf,run_underlying (hd.slice hk),h0,p,l.size,y,kb6]
 ·cases h
theorem kxh (d:TD) {α:Type} (f:α->Value) (rows:List (List α)) (row:List α) (i:Int) (X:Operand) (g:Nat) (ov:Value) (ei:TypeId) (h:idx rows i=some row) (y:TOk P T:=by exact tt_ok) (z:o.op = .load t X:=by kernel_rfl) (hd:kad T t=some d:=by kernel_rfl) (hk:d.kind.agg=false:=by kernel_rfl) (hx:st.eval X = .iref id g 0 i.toNat:=by kernel_rfl) (n:kaa st.heap id=some (.tab g ov t ei (rows.map (List.map f))):=by kernel_rfl) (hK:st.ids.contains id=true:=by kernel_rfl):NStep P o st (.irow id g (i.toNat+1)):=by
 intro ψ S a w ht A;have hd:=y.get hd;unfold idx at h;split at h
 ·rename_i h0;have B:i.toNat<rows.length:=(qg.1 h).1;have j:=Sim.eval_tmps ht X;rw [hx] at j;obtain ⟨C,vs,e,p,c,q,x⟩:=A id _ n;rw [qaa] at p c;obtain ⟨gb,cap,cur,m,D,E,hc2,F,G⟩:=kjj c;have hp:a.eval X = .pointer (some ⟨gb,i.toNat,none⟩):=by
   generalize a.eval X=u at j;cases j with
   | iref hK H h1 hv=>
    obtain ⟨u,b,r,s,rfl⟩:=hv C.symm;rw [e] at r;simp only [kfi,List.getElem?_cons_zero,qc] at r;subst r;rw [m] at s;simp only [kak,qc] at s;rw [s]
  have k:vs[i.toNat]?=some (vs[i.toNat]'(by omega)):=qb _;have l:w.cell? ⟨gb,i.toNat,none⟩=some (vs[i.toNat]'(by omega)):=by rw [m] at c;rw [World.ownsRow.cellAt c i.toNat (by omega),k]
  obtain ⟨k1,_⟩:=q i.toNat _ (row.map f) k (by rw [qq,h];rfl);refine kae w (vs[i.toNat]'(by omega)) ?_ ⟨kaf _, .irow (by simpa using hK) (by omega) (krc k1) fun _=>by rw [e];simp only [kfi,qag];exact k⟩;simp [execOp,z,hp,Instr.loadAt,Instr.sureAddr,loadVar,hd.isAgg,hk,l]
 ·cases h
theorem k3y {α:Type} {f:α->Value} {rows:List (List α)} {row:List α} {i:Int} {g:Nat} {ov:Value} {eo ei:TypeId} (h:idx rows i=some row) (l:ObR ψ K S w id (.tab g ov eo ei (rows.map (List.map f)))):
  ∃ v vs,ψ.len id=g/\ψ.val id = .tuple (ov::vs).toArray/\(kfi (ψ.val id))[i.toNat+1]?=some v/\vs[i.toNat]?=some v/\w.ownsRow 0 ei 1 v row.length (row.map f)/\rows[i.toNat]?=some row/\∀ u∈row.map f,u.oneCell'=true:=by
 unfold idx at h;split at h
 ·obtain ⟨m,vs,a,c,j,d,k⟩:=l;have e:i.toNat<rows.length:=(qg.1 h).1;have b:i.toNat<vs.length:=by rw [c];simpa using e
  obtain ⟨k1,k2⟩:=d i.toNat vs[i.toNat] (row.map f) (qb b) (by rw [qq,h];rfl);rw [qaa] at k1;exact ⟨vs[i.toNat],vs,m,a,by rw [a];simp only [kfi,qag];exact qb b,qb b,k1,h,k2⟩
 ·cases h
theorem kwn (d:TD) {α:Type} (f:α->Value) (rows:List (List α)) (row:List α) (x:α) (i j:Int) (X Y:Operand) (e:TypeId) (de:TD) (k:IntKind) (g:Nat) (ov:Value) (eo:TypeId) (h:idx rows i=some row) (s:idx row j=some x) (z:TOk P T:=by exact tt_ok) (B:o.op = .indexAddr t X Y:=by kernel_rfl) (hd:kad T t=some d:=by kernel_rfl) (hk:d.kind = .slice e:=by kernel_rfl) (c:kad T e=some de:=by kernel_rfl) (C:de.size=1:=by kernel_rfl) (hx:st.eval X = .irow id g (i.toNat+1):=by kernel_rfl) (y:kaa st.heap id=some (.tab g ov eo e (rows.map (List.map f))):=by kernel_rfl) (hK:st.ids.contains id=true:=by kernel_rfl) (hy:st.eval Y = .fz (.atom (.int k j)):=by kernel_rfl):NStep P o st (.iref id g (i.toNat+1) j.toNat):=by
 intro ψ S a w ht D;have hd:=z.get hd;have c:=z.get c;obtain ⟨v,vs,E,A,m,F,n,hr,_⟩:=k3y h (D id _ y);unfold idx at s;split at s
 ·rename_i h0;have G:j.toNat<row.length:=(qg.1 s).1;have l:=Sim.eval_tmps ht X;rw [hx] at l;have b:=Sim.eval_tmps ht Y;rw [hy] at b;have b:=b.atom;obtain ⟨gb,cap,cur,p,H,_⟩:=kjj n;have q:a.eval X = .slice (some ⟨gb,0,none⟩) row.length cap:=by
   generalize a.eval X=u at l;cases l with
   | irow hK hn h1 hv=>
    have:=hv E.symm;rw [m] at this;rw [<- qw this,p]
  refine kae w (.pointer (some ⟨gb,j.toNat,none⟩)) ?_ ⟨kaf _, .iref (by simpa using hK) (by omega) rfl fun _=>⟨v,gb,m,by rw [p];rfl,rfl⟩⟩;have r:j<(row.length:Int):=by omega
  simp [execOp,B,q,b,Instr.indexAt,asIntOf,run_underlying (hd.slice hk),h0,r,c.size,C,kb6]
 ·cases s
theorem k3v {X:Operand} {g i j b:Nat} {v:Value} (c:RV ψ K S w (a.eval X) (.iref id g i j)) (h:ψ.len id=g) (hv:(kfi (ψ.val id))[i]?=some v) (k:kak v=some b):a.eval X = .pointer (some ⟨b,j,none⟩):=by
 generalize a.eval X=u at c;cases c with
 | iref hK hn h1 e=>
  obtain ⟨u,b',f,d,rfl⟩:=e h.symm;rw [hv] at f;cases f;rw [k] at d;cases d;rfl
theorem kade {α:Type} (f:α->Value) (rows:List (List α)) (row:List α) (x:α) (i j:Int) (X:Operand) (g:Nat) (ov:Value) (eo:TypeId) (h:idx rows i=some row) (e:idx row j=some x) (r:TOk P T) (s:o.op = .load t X:=by kernel_rfl) (hd:kad T t=some d:=by kernel_rfl) (hk:d.kind.agg=false:=by kernel_rfl) (hx:st.eval X = .iref id g (i.toNat+1) j.toNat:=by kernel_rfl) (n:kaa st.heap id=some (.tab g ov eo t (rows.map (List.map f))):=by kernel_rfl):NStep P o st (.fz (.atom (f x))):=by
 intro ψ S a w ht u;have hd:=r.get hd;obtain ⟨v,vs,y,q,p,z,b,hr,k⟩:=k3y h (u id _ n);unfold idx at e;split at e
 ·rename_i h0;have A:j.toNat<row.length:=(qg.1 e).1;obtain ⟨gb,cap,cur,l,B,C,hc2,D,E⟩:=kjj b;have m:=Sim.eval_tmps ht X;rw [hx] at m;have hp:=k3v m y p (by rw [l];rfl);have c:w.cell? ⟨gb,j.toNat,none⟩=some (f x):=by rw [l] at b;rw [World.ownsRow.cellAt b j.toNat (by omega),qq,e];rfl
  refine kae w (f x) ?_ ⟨kaf _, .fz (.atom (k _ (List.mem_map_of_mem (qn e))))⟩;simp [execOp,s,hp,Instr.loadAt,Instr.sureAddr,loadVar,hd.isAgg,hk,c]
 ·cases e
end Go.Proofs.YtjpkdegjcilndaaGreatDoor
set_option linter.all false
namespace Go.Proofs.YtjpkdegjcilndaaGreatDoor
open Go Go.RowKit
variable [Dr]
variable {P:Program} {F S0:Nat->Prop} {N0:Nat} {w w':World} {S S':Nat->Prop} {ψ ψ':Env} {K:Nat->Prop} {T:List (TypeId×TD)} {o:Oper} {a:Act} {st:St} {t:TypeId} {d:TD} {id:Nat} {ids:List Nat} {heap:List (Nat×AObj)}
theorem kag8 {n:Nat} (hl:ψ.len id=n):ψ.set id n (ψ.val id)=ψ:=by
 unfold Env.set;congr 1
 ·funext j;split;rename_i a;rw [a,hl]
  ·rfl
 ·funext j;split;rename_i a;rw [a]
  ·rfl
theorem k89 {e:TypeId} {n cap g j:Nat} {cs:List Value} {cur:Array Value} {u:Value} (d:w.heap[g]?=some (.cells cur e (0,0))) (a:n<=cap) (hc2:cap<=maxLen) (b:cur.size=cap) (c:cur.toList.take n=cs) (hcl:cs.length=n) (f:j<n):
  (w.setRow g (cur.toList.set j u).toArray).ownsRow 0 e 1 (.slice (some ⟨g,0,none⟩) n cap) n (cs.set j u):=
 ⟨by rw [List.length_set,hcl,qbi], .inr ⟨g,cap,_,rfl,qaj _,kic g d,a,hc2,by simp [b],by rw [qbi,List.take_set,c]⟩⟩
theorem k8s {e:TypeId} {cur:Array Value} {g:Nat} (j:Nat) (u:Value) (b:w.heap[g]?=some (.cells cur e (0,0))) (c:j<cur.size) (a:u.oneCell'=true):
  (storeCells ⟨g,j,none⟩ [u] 0).run P w = .ok () (w.setRow g (cur.toList.set j u).toArray):=by
 have hst:=run_storeCells_at (P:=P) g j e [u] 0 cur w b (by simp;omega) (fun v hv=>by simp at hv;rw [hv];exact a);have:(cur.toList.take (j+0)++[u]++cur.toList.drop (j+0+[u].length))=cur.toList.set j u:=by rw [List.set_eq_take_append_cons_drop,qo (by simpa using c)];simp
 rw [this] at hst;exact hst
theorem ks8 {u:Value} (h:u.oneCell'=true):u.cells=#[u]:=by cases u <;> first | rfl | cases h
theorem k7k {vs:List Value} {i j b:Nat} {u v:Value} (h:∀ (i j:Nat) (u v:Value) (b:Nat),vs[i]?=some u->vs[j]?=some v->i≠j->kak u=some b->kak v≠some b) (hi:vs[i]?=some u) (c:vs[j]?=some v) (a:i≠j) (d:kak u=some b):
  ∀ k,v.ownBlock=some k->k≠b:=fun k hk e=>h i j u v b hi c a d (by rw [kha hk,e])
theorem k2k {α:Type} (f:α->Value) (rows:List (List α)) (row:List α) {x:α} (y:α) {i j:Int} (X Y:Operand) {g:Nat} {ov:Value} {eo:TypeId} (h:idx rows i=some row) (V:idx row j=some x) (hT:TOk P T) (ho:o.op = .store t X Y:=by kernel_rfl) (hd:kad T t=some d:=by kernel_rfl) (hz:d.size=1:=by kernel_rfl) (hx:st.eval X = .iref id g (i.toNat+1) j.toNat:=by kernel_rfl) (I:kaa st.heap id=some (.tab g ov eo t (rows.map (List.map f))):=by kernel_rfl) (hy:st.eval Y = .fz (.atom (f y)):=by kernel_rfl):StepA P o st .any ((id, .tab g ov eo t ((rows.set i.toNat (row.set j.toNat y)).map (List.map f)))::st.heap) st.ids:=by
 intro F S0 N0 ψ S a w H;have hd:=hT.get hd;have m:=H.core;obtain ⟨ah,hO,ai⟩:=m.obj id _ I;obtain ⟨v,vs,Z,p,aa,A,J,hr,K⟩:=k3y h hO;obtain ⟨_,vs',q,ab,r,ac,s⟩:=hO;obtain rfl:vs'=vs:=by rw [p] at q;simpa using q.symm
 unfold idx at V;split at V
 ·rename_i h0;have ad:j.toNat<row.length:=(qg.1 V).1;obtain ⟨gb,cap,cur,L,M,ae,hc2,N,af⟩:=kjj J;have O:=H.eval X;rw [hx] at O;have B:kak v=some gb:=by rw [L];rfl
  have hp:=k3v O Z aa B;have z:=H.eval Y;rw [hy] at z;have C:(f y).oneCell'=true:=by have Q:=z.inv;generalize a.eval Y=u at Q;cases Q with | atom h=>exact h
  have z:=z.atom;have hst:=k8s (P:=P) j.toNat (f y) M (by rw [N];omega) C;obtain ⟨w',l⟩:∃ w',w'=w.setRow gb (cur.toList.set j.toNat (f y)).toArray:=⟨_,rfl⟩;rw [<- l] at hst;have c:∀ k,k≠gb->w'.heap[k]?=w.heap[k]?:=fun k hk=>by rw [l];exact kjd gb _ k hk
  have aj:w'.heap.size=w.heap.size:=by rw [l];simp [World.setRow]
  have hB:Blk (ψ.val id) gb:=by rw [p];exact .inr ⟨v,by simp only [kfi];exact qh _ (qn A),B⟩
  have R:∀ k,k<w.heap.size->¬ Blk (ψ.val id) k->w'.heap[k]?=w.heap[k]?:=fun k _ hk=>c k fun e=>hk (e ▸ hB);have E:=kag8 (ψ:=ψ) (id:=id) Z;obtain ⟨c1,c2,c3⟩:=m.upd (n:=g) (v:=ψ.val id) (w':=w') (ob' := .tab g ov eo t ((rows.set i.toNat (row.set j.toNat y)).map (List.map f))) I (by omega) R (.inr ⟨Z,rfl⟩) (fun b U => .inl U) (by
   rw [E];refine ⟨Z,vs',p,by simpa using ab,?_,fun k u xs G D=>?_,s⟩;rw [qaa,List.length_set];rw [qaa] at r;exact kgn r fun b U=>c b (k7k s (i:=i.toNat+1) (j:=0) (by rw [qag];exact A) rfl (by omega) B b U)
   ·by_cases hk:i.toNat=k
    ·subst hk;rw [A] at G;cases G;have ag:i.toNat<rows.length:=(qg.1 hr).1;rw [qq,qbv ag,qa6] at D;cases D;rw [List.map_set];refine ⟨?_,fun u G=>?_⟩;rw [List.length_set,qaa,L,l];exact k89 M ae hc2 N af (by simp) ad
     ·rcases List.mem_or_eq_of_mem_set G with G | rfl;exact K u G
      ·exact C
    ·rw [qq,List.getElem?_set_ne hk,<- qq] at D;obtain ⟨k1,k2⟩:=ac k u xs G D;exact ⟨kgn k1 fun b U=>c b (k7k s (i:=i.toNat+1) (j:=k+1) (by rw [qag];exact A) (by rw [qag];exact G) (by omega) B b U),k2⟩)
  rw [E] at c1;refine kjh w' ?_ ⟨ψ,S,c1, .any,⟨by rw [l];rfl,by rw [l];rfl,by rw [l];rfl,by omega,c3,fun _=>by rw [l];exact qx _⟩,Ext.refl,fun _ h=>h,fun _ h=>h,c2⟩;simp only [execOp,ho,Instr.storeAt,hp,z,Instr.sureAddr,storeVar,hd.size,Sem.run_bind,Sem.run_pure,Result.andThen_ok];rw [qi (by rw [ks8 C,hz];simp)];simp [ks8 C,hst]
 ·cases V
theorem Core.upd2 {n id2:Nat} {v:Value} {ob ob2 ob':AObj} (h:Core F S0 N0 heap ids ψ S w) (y:kaa heap id=some ob) (t:kaa heap id2=some ob2) (q:w.heap.size<=w'.heap.size) (m:∀ k,k<w.heap.size->¬ Blk (ψ.val id) k->w'.heap[k]?=w.heap[k]?)
  (hx:ψ.len id<n) (p:∀ b,Blk v b->Blk (ψ.val id) b\/Blk (ψ.val id2) b) (H:ObR (ψ.set id n v) (·∈ids) S w' id ob'):
  Core F S0 N0 ((id,ob')::ka9 id2 heap) ids (ψ.set id n v) S w'/\Same S w w'/\∀ b,F b->w'.heap[b]?=w.heap[b]?:=by
 obtain ⟨z,I,r⟩:=h.obj id ob y;obtain ⟨C,D,u⟩:=h.obj id2 ob2 t;have hk:Same S w w':=fun b p hl=>m b hl fun e=>(r b e).1 p;refine ⟨⟨fun i o' c=>?_,fun i i' o' o'' b j a s g d=>?_,fun b p=>qa8 (h.lt b p) q,h.s0,qav h.n0 q,fun b p=>qa8 (h.fr b p) q⟩,hk,fun b E=>m b (h.fr b E) fun e=>(r b e).2.1 E⟩
 ·rw [kac] at c;by_cases o:id=i
  ·subst o;rw [qo rfl] at c;injection c with c;subst c;refine ⟨z,H,fun b f=>?_⟩;rw [kai] at f;rcases p b f with h1 | h1;exact r b h1
   ·exact u b h1
  ·rw [qi o] at c;obtain ⟨_,c⟩:=kbe id2 c;obtain ⟨h1,G,J⟩:=h.obj i o' c;have x:=ka6 ψ (Ne.symm o) n v;refine ⟨h1,G.keep (kl2 (.inl hx)) (fun _ h=>h) (fun _ h=>h) hk x fun b f=>m b (G.lt f) fun e=>h.inj i id o' ob b c y (Ne.symm o) f e,fun b f=>J b (by rw [x.2] at f;exact f)⟩
 ·have key:∀ {i' o''},id≠i'->kaa (ka9 id2 heap) i'=some o''->∀ {b},Blk v b->¬ Blk ((ψ.set id n v).val i') b:=fun {i' o''} l hl {b} g d=>by
   obtain ⟨A,hl⟩:=kbe id2 hl;rw [(ka6 ψ (Ne.symm l) n v).2] at d;rcases p b g with B | B;exact h.inj id i' ob o'' b y hl l B d
   ·exact h.inj id2 i' ob2 o'' b t hl (Ne.symm A) B d
  rw [kac] at j a;by_cases o:id=i;subst o;rw [qi s] at a;rw [kai] at g;exact key s a g d
  ·rw [qi o] at j;by_cases l:id=i';subst l;rw [kai] at d;exact key o j d g
   ·rw [qi l] at a;obtain ⟨_,j⟩:=kbe id2 j;obtain ⟨_,a⟩:=kbe id2 a;rw [(ka6 ψ (Ne.symm o) n v).2] at g;rw [(ka6 ψ (Ne.symm l) n v).2] at d;exact h.inj i i' o' o'' b j a s g d
theorem kacr {α:Type} (f:α->Value) (enc:α->FV) (rows:List (List α)) (row zs:List α) (i:Int) (X Y:Operand) (g id2 n:Nat) (ov:Value) (ei:TypeId) (h:idx rows i=some row) (hT:TOk P T) (ho:o.op = .store t X Y) (hd:kad T t=some d) (hz:d.size=1) (hx:st.eval X = .iref id g 0 i.toNat) (s:kaa st.heap id=some (.tab g ov t ei (rows.map (List.map f)))) (hy:st.eval Y = .row id2 n) (r:kaa st.heap id2=some (.frow ei 1 (zs.map enc))) (hn:n=zs.length) (hf:∀ y,enc y = .atom (f y)/\(f y).oneCell'=true):
  StepA P o st .any ((id, .tab (g+1) ov t ei ((rows.set i.toNat zs).map (List.map f)))::ka9 id2 st.heap) st.ids:=by
 subst hn;intro F S0 N0 ψ S a w G;have hd:=hT.get hd;have l:=G.core;have ae:id≠id2:=fun e=>by rw [e,r] at s;cases s
 obtain ⟨ao,⟨hg,vs,C,H,D,af,E⟩,aq⟩:=l.obj id _ s;obtain ⟨am,⟨N,_,cs,c,_,ag⟩,an⟩:=l.obj id2 _ r;rw [qaa] at H D N c;unfold idx at h;split at h
 ·rename_i h0;have O:i.toNat<rows.length:=(qg.1 h).1;obtain ⟨gb,cap,cur,Q,R,ah,hc2,U,ai⟩:=kjj D;have x:kak ov=some gb:=by rw [Q];rfl
  have V:=G.eval X;rw [hx] at V;have hp:=k3v V hg (v:=ov) (by rw [C];rfl) x;have I:=G.eval Y;rw [hy] at I;obtain ⟨u,Z⟩:∃ u,u=ψ.val id2:=⟨_,rfl⟩;have aj:a.eval Y=u:=by
   rw [Z];generalize a.eval Y=u at I;cases I with
   | row hK ar h1 hv=>exact hv N.symm
  rw [<- Z] at c;have J:u.oneCell'=true:=krc c;have ak:cs=zs.map f:=by have hcl:cs.length=zs.length:=(by rw [c.1,qbi]);apply List.ext_getElem (by rw [hcl,qaa]);intro k h1 h2;rw [qaa] at h2;have:=ag k (enc zs[k]) 0 cs[k] (enc zs[k]) (by rw [qq,qb h2];rfl) (by simp) (by rw [(hf zs[k]).1];rfl);rw [(hf zs[k]).1] at this;rw [this.atom_eq,List.getElem_map]
  have hst:=k8s (P:=P) i.toNat u R (by rw [U];omega) J;obtain ⟨w',p⟩:∃ w',w'=w.setRow gb (cur.toList.set i.toNat u).toArray:=⟨_,rfl⟩;rw [<- p] at hst;have m:∀ k,k≠gb->w'.heap[k]?=w.heap[k]?:=fun k hk=>by rw [p];exact kjd gb _ k hk
  have au:w'.heap.size=w.heap.size:=by rw [p];simp [World.setRow]
  have A:∀ u b,u∈ov::vs->kak u=some b->Blk (ψ.val id) b:=fun u b Z q=>by rw [C];exact .inr ⟨u,by simpa [kfi] using Z,q⟩
  have hB:Blk (ψ.val id) gb:=A ov gb (qu ..) x;have aa:∀ k,k<w.heap.size->¬ Blk (ψ.val id) k->w'.heap[k]?=w.heap[k]?:=fun k _ hk=>m k fun e=>hk (e ▸ hB);have ab:∀ b,kak u=some b->Blk (ψ.val id2) b:=fun b q => .of (Z ▸ q);have K:∀ v b,v∈ov::vs->kak v=some b->kak u≠some b:=fun v b hv q L=>l.inj id id2 _ _ b s r ae (A v b hv q) (ab b L);have ac:i.toNat<vs.length:=by omega
  obtain ⟨c1,c2,c3⟩:=l.upd2 (n:=g+1) (v := .tuple (ov::vs.set i.toNat u).toArray) (w':=w') (ob' := .tab (g+1) ov t ei ((rows.set i.toNat zs).map (List.map f))) s r (by omega) aa (by omega) (fun b q=>by
    rcases q with q | ⟨v,hv,q⟩;cases q
    ·simp only [kfi] at hv;rcases qac.1 hv with rfl | hv;exact .inl (A _ b (qu ..) q)
     ·rcases List.mem_or_eq_of_mem_set hv with hv | rfl;exact .inl (A v b (qh _ hv) q)
      ·exact .inr (ab b q)) (by
   refine ⟨kbf _ _,vs.set i.toNat u,kai _ _,by simpa using H,?_,fun k v xs hv B=>?_,fun k j v1 v2 b h1 h2 al M=>?_⟩;rw [qaa,List.length_set,Q,p];exact k89 R ah hc2 U ai H O
   ·by_cases hk:i.toNat=k;subst hk;rw [qbv ac] at hv;cases hv;rw [qq,qbv O,qa6] at B;cases B;rw [qaa];refine ⟨ak ▸ kgn c fun b q=>m b fun e=>K ov gb (qu ..) x (by rw [kha q,e]),fun y hy=>?_⟩;obtain ⟨z,_,rfl⟩:=qas.1 hy;exact (hf z).2
    ·rw [List.getElem?_set_ne hk] at hv;rw [qq,List.getElem?_set_ne hk,<- qq] at B;obtain ⟨k1,k2⟩:=af k v xs hv B;exact ⟨kgn k1 fun b q=>m b (k7k E (i:=0) (j:=k+1) rfl (by rw [qag];exact hv) (by omega) x b q),k2⟩
   ·have sp:∀ (k:Nat) (v:Value),(ov::vs.set i.toNat u)[k]?=some v->(k=i.toNat+1/\v=u)\/(k≠i.toNat+1/\(ov::vs)[k]?=some v):=fun k v hk=>by
     cases k with
     | zero=>exact .inr ⟨by omega,hk⟩
     | succ k=>
      rw [qag] at hk ⊢;by_cases ad:i.toNat=k;subst ad;rw [qbv ac] at hk;cases hk;exact .inl ⟨rfl,rfl⟩
      ·rw [List.getElem?_set_ne ad] at hk;exact .inr ⟨by omega,hk⟩
    rcases sp k v1 h1 with ⟨e1,d1⟩ | ⟨e1,g1⟩ <;> rcases sp j v2 h2 with ⟨e2,d2⟩ | ⟨e2,g2⟩;omega;exact fun L=>K v2 b (qn g2) L (d1 ▸ M);exact d2 ▸ K v1 b (qn g1) M
    ·exact E k j v1 v2 b g1 g2 al M)
  refine kjh w' ?_ ⟨_,S,c1, .any,⟨by rw [p];rfl,by rw [p];rfl,by rw [p];rfl,by omega,c3,fun _=>by rw [p];exact qx _⟩,kl2 (.inl (by omega)),fun _ h=>h,fun _ h=>h,c2⟩;simp only [execOp,ho,Instr.storeAt,hp,aj,Instr.sureAddr,storeVar,hd.size,Sem.run_bind,Sem.run_pure,Result.andThen_ok];rw [qi (by rw [ks8 J,hz];simp)];simp [ks8 J,hst]
 ·cases h
end Go.Proofs.YtjpkdegjcilndaaGreatDoor
set_option linter.all false
namespace Go.Proofs.YtjpkdegjcilndaaGreatDoor
open Go Go.RowKit
variable [Dr]
def noI (id:Nat) (ids:List Nat) (st:St):Bool:=!ids.contains id && (st.tmps.all (fun p=>okA ids p.2) && st.heap.all (fun p=>Nat.beq p.1 id || (ids.contains p.1 && (match p.2 with
 | .box _ cs=>okAs ids cs
 | .frow _ _ _=>true
 | .smap _=>true
 | .tab _ _ _ _ _=>true
 | .xo (.imap _)=>true
 | .xo (.opq _)=>true
 | .xo (.mit m _ _ _)=>ids.contains m
 | .gho _ vs=>okAs ids vs
 | .glb _=>true
 | .sit _ _=>true
 | .memo _ _=>true
 | .xo _=>false
 | .was _ ids0 _ _=>ids0.all ids.contains))))
variable {P:Program} {F S0:Nat->Prop} {N0:Nat} {w w':World} {S S':Nat->Prop} {ψ ψ':Env} {K:Nat->Prop} {T:List (TypeId×TD)} {o:Oper} {a:Act} {st:St} {t:TypeId} {d:TD} {id:Nat} {ids:List Nat} {heap:List (Nat×AObj)}
theorem k7y:∀ {l:List (Nat×AV)} {t:Nat},look .any l t = .any\/∃ p∈l,look .any l t=p.2
 | [],_ => .inl rfl
 | (k,v)::l,t=>by
  rw [kat];split;exact .inr ⟨(k,v),qu ..,rfl⟩
  ·rcases k7y (l:=l) (t:=t) with h | ⟨p,hp,h⟩;exact .inl h
   ·exact .inr ⟨p,qh _ hp,h⟩
theorem k4r:∀ {l:List (Nat×AObj)} {t:Nat} {ob:AObj},kaa l t=some ob->(t,ob)∈l
 | [],_,_,h=>by cases h
 | (k,v)::l,t,ob,h=>by
  rw [kac] at h;split at h;rename_i hk;cases hk;cases h;exact qu ..
  ·exact qh _ (k4r h)
theorem kak0 (id:Nat) (ids:List Nat) (g:Nat) (ov:Value) (eo ei:TypeId) (rows:List (List Value)) (u:kaa st.heap id=some (.tab g ov eo ei rows):=by kernel_rfl) (hn:noI id ids st=true:=by kernel_rfl) (hi:ids.all st.ids.contains=true:=by kernel_rfl):LeSt st { st with heap:=(id, .tab 0 ov eo ei rows)::ka9 id st.heap }:=by
 intro F S0 N0 ψ S a w hs;unfold noI at hn;simp only [qp,qbp,qr,qb1] at hn;obtain ⟨h1,T,U⟩:=hn;have o:id∉ids:=by simpa using h1
 have A:∀ i,i∈ids->i∈st.ids:=fun i L=>by simpa using qr.1 hi i L
 have d:=hs.core;obtain ⟨M,⟨V,vs,B,N,C,D,E⟩,O⟩:=d.obj id _ u;have G:Ext (·∈ids) ψ (ψ.set id 0 (ψ.val id)):=ka8 o _ _;have hv:∀ j,(ψ.set id 0 (ψ.val id)).val j=ψ.val j:=fun j=>by
  by_cases H:j=id;subst H;rw [kai]
  ·exact (ka6 ψ H _ _).2
 have keepA:∀ {v x},RV ψ (·∈st.ids) S w v x->okA ids x=true->RV (ψ.set id 0 (ψ.val id)) (·∈st.ids) S w v x:=fun {v x} h f=>
  (h.subA f).keep G A (fun _ h=>h) (fun _ _ _=>rfl)
 refine ⟨ψ.set id 0 (ψ.val id),S,hs.defers,hs.size,fun t=>?_,⟨fun i ob f=>?_,fun i i' ob ob' b f P Q q I=>?_,d.lt,d.s0,d.n0,d.fr⟩⟩
 ·have hk:=hs.tmps t;show RV _ _ S w _ (look .any st.tmps t);rcases k7y (l:=st.tmps) (t:=t) with h | ⟨p,hp,h⟩;rw [h];exact .any
  ·unfold St.get at hk;rw [h] at hk ⊢;exact keepA hk (T p hp)
 ·rw [kac] at f;by_cases r:id=i;subst r;rw [qo rfl] at f;cases f;exact ⟨M,⟨kbf _ _,vs,by rw [kai,B],N,C,D,E⟩,fun b q=>O b (by rwa [hv] at q)⟩
  ·rw [qi r] at f;obtain ⟨_,f⟩:=kbe id f;obtain ⟨k1,k2,k3⟩:=d.obj i ob f;have c:=ka6 ψ (Ne.symm r) 0 (ψ.val id);refine ⟨k1,?_,fun b q=>k3 b (by rwa [hv] at q)⟩;rcases U _ (k4r f) with h | h;exact absurd (qk h) (Ne.symm r)
   ·obtain ⟨hc,h⟩:=h;cases ob with
    | box e cells=>
     obtain ⟨q0,b,cs,q1,q2,q3,q4,q5⟩:=k2;simp only [kk0] at h;exact ⟨by rw [c.1,q0],b,cs,by rw [c.2,q1],q2,q3,q4,fun j v x hv hx=>keepA (q5 j v x hv hx) (qr.1 h x (qn hx))⟩
    | frow e size xs=>
     obtain ⟨q0,q1,cs,q2,q3,q4⟩:=k2;exact ⟨by rw [c.1,q0],q1,cs,by rw [c.2];exact q2,q3,q4⟩
    | sit s pos=>
     obtain ⟨q0,b,q1,q2⟩:=k2;exact ⟨by rw [c.1,q0],b,by rw [c.2,q1],q2⟩
    | glb gs=>
     obtain ⟨q0,q1,q2,q3⟩:=k2;exact ⟨by rw [c.1,q0],by rw [c.2,q1],by rw [c.2,q2],q3⟩
    | smap kv=>
     obtain ⟨q0,b,es,cl,q1,q2⟩:=k2;exact ⟨by rw [c.1,q0],b,es,cl,by rw [c.2,q1],q2⟩
    | xo k=>cases k with
     | imap kv=>
      obtain ⟨q0,b,es,q1,q2⟩:=k2;exact ⟨by rw [c.1,q0],b,es,by rw [c.2,q1],q2⟩
     | opq J=>
      obtain ⟨bs,q1,q2⟩:=k2;exact ⟨bs,by rw [c.2,q1],q2⟩
     | mit m x y z=>
      obtain ⟨q0,qm,b,bm,q1,q2,q3⟩:=k2;have hm:m∈ids:=(by simpa using h);have K:=ka6 (id:=id) (i:=m) ψ (fun (e:m=id)=>o (e ▸ hm)) 0 (ψ.val id);exact ⟨by rw [c.1,q0],qm,b,bm,by rw [c.2,q1],q2,fun e=>by rw [K.2];exact q3 (by rw [<- K.1];exact e)⟩
     | _=>cases h
    | memo Φ hi=>
     obtain ⟨q0,b,es,cl,q1,q2⟩:=k2;exact ⟨by rw [c.1,q0],b,es,cl,by rw [c.2,q1],q2⟩
    | tab g ov eo ei rows=>
     obtain ⟨q0,vs,q1,q2⟩:=k2;exact ⟨by rw [c.1,q0],vs,by rw [c.2,q1],q2⟩
    | gho cs vs=>
     obtain ⟨q0,q1,q2,q3⟩:=k2;simp only [kk0] at h;exact ⟨by rw [c.1,q0],by rw [c.2,q1],by rw [c.2,q2],fun j v x hv hx=>keepA (q3 j v x hv hx) (qr.1 h x (qn hx))⟩
    | was ψ0 ids0 S1 w0=>
     obtain ⟨q0,q1,q2,q3,q4,q5,q6⟩:=k2;refine ⟨by rw [c.1,q0],by rw [c.2,q1],by rw [c.2,q2],fun j H=>?_,q4,q5,q6⟩;have R:j∈ids:=(by simpa using qr.1 h j H);have n:=ka6 (id:=id) (i:=j) ψ (fun e=>o (e ▸ R)) 0 (ψ.val id);rw [n.1,n.2];exact q3 j H
 ·rw [hv] at q I;have up:∀ {i ob},kaa ((id,AObj.tab 0 ov eo ei rows)::ka9 id st.heap) i=some ob->∃ ob',kaa st.heap i=some ob':=fun {i ob} h=>by
   rw [kac] at h;split at h;rename_i r;exact ⟨_,r ▸ u⟩
   ·exact ⟨_,(kbe id h).2⟩
  obtain ⟨o1,g1⟩:=up f;obtain ⟨o2,g2⟩:=up P;exact d.inj i i' o1 o2 b g1 g2 Q q I
theorem kxf {ob:AObj} (h:Core F S0 N0 heap ids ψ S w) (i:kaa heap id=some ob):Core F S0 N0 (ka9 id heap) ids ψ (fun b=>S b\/Blk (ψ.val id) b) w:=by
 obtain ⟨l,e,f⟩:=h.obj id _ i;refine ⟨fun k ob hk=>?_,fun k k' o o' b hk c d a g=>?_,fun b a=>?_,fun b a=>?_,h.n0,h.fr⟩
 ·obtain ⟨d,hk⟩:=kbe id hk;obtain ⟨h1,m,j⟩:=h.obj k ob hk;refine ⟨h1,m.keep Ext.refl (fun _ h=>h) (fun b a => .inl a) (fun _ _ _=>rfl) ⟨rfl,rfl⟩ (fun _ _=>rfl),fun b a=>⟨fun hs=>?_,(j b a).2⟩⟩;rcases hs with hs | hs;exact (j b a).1 hs
  ·exact h.inj k id ob _ b hk i d a hs
 obtain ⟨_,hk⟩:=kbe id hk;obtain ⟨_,c⟩:=kbe id c;exact h.inj k k' o o' b hk c d a g
 ·rcases a with a | a;exact h.lt b a
  ·exact e.lt a
 ·rcases a with a | a;exact h.s0 b a
  ·exact (f b a).2.2
theorem k6t (r:List Value) (h:∀ u∈r,u.oneCell'=true):ElR 1 (r.map .atom):=fun x hx=>by obtain ⟨u,a,rfl⟩:=qas.1 hx;exact ⟨rfl,fun y hy=>by simp [FV.cells] at hy;subst hy;exact h u a⟩
theorem k4j (r:List Value) (h:∀ u∈r,u.oneCell'=true):RowR S w 1 (r.map .atom) r:=fun i x j v y hx hv hy=>by
 rw [qq,qt] at hx;obtain ⟨u,a,rfl⟩:=hx;have b:j=0:=by have:=(qg.1 hy).1;simp [FV.cells] at this;exact this
 subst b;simp [FV.cells] at hy;subst hy;rw [qbi,Nat.add_zero,a] at hv;cases hv;exact .atom (h _ (qn a))
theorem kv2 {g:Nat} {ov:Value} {eo ei:TypeId} {rows:List (List Value)} (h:ObR ψ K S w id (.tab g ov eo ei rows)):RF (fun b=>S b\/Blk (ψ.val id) b) w ov (tabF rows):=by
 obtain ⟨s,vs,d,o,e,k,m⟩:=h;have n:∀ u b,u∈ov::vs->kak u=some b->Blk (ψ.val id) b:=fun u b p f=>by rw [d];exact .inr ⟨u,by simpa [kfi] using p,f⟩
 have c:rows.length=(rows.map fun r:List Value=>FV.lst 1 r.length (r.map .atom)).length:=by simp
 have a:∀ (j:Nat) (v:Value) (r:List Value),vs[j]?=some v->rows[j]?=some r->RF (fun b=>S b\/Blk (ψ.val id) b) w v (.lst 1 r.length (r.map .atom)):=fun j v r hv hr=>by obtain ⟨k1,k2⟩:=k j v r hv hr;have:=kyn (S:=S) (r.map .atom) (by simpa using k1) (k6t r k2) (k4j r k2);rw [qaa] at this;exact this.mono fun b f=>f.imp _root_.id fun h=>n v b (qh _ (qn hv)) h
 have l:ElR 1 (rows.map fun r:List Value=>FV.lst 1 r.length (r.map .atom)):=fun x hx=>by obtain ⟨r,hr,rfl⟩:=qas.1 hx;exact ⟨rfl,fun y hy=>by simp [FV.cells] at hy;subst hy;rfl⟩
 have:=kyn (S:=fun b=>S b\/Blk (ψ.val id) b) (rows.map fun r:List Value=>FV.lst 1 r.length (r.map .atom)) (by rw [<- c];exact e) l (fun i x j v y hx hv hy=>by
  rw [qq,qt] at hx;obtain ⟨r,hr,rfl⟩:=hx;have q:j=0:=by have:=(qg.1 hy).1;simp [FV.cells] at this;exact this
  subst q;simp [FV.cells] at hy;subst hy;rw [qbi,Nat.add_zero] at hv;exact a i v r hv hr)
 rw [<- c] at this;exact this.mono fun b f=>f.elim _root_.id fun h => .inr (n ov b (qu ..) h)
def kac7 (st:St) (ov:Value):List Nat->Prop
 | []=>True
 | t::ts=>st.get t = .fz (.atom ov)/\kac7 st ov ts
theorem k7v (g:Nat) (ov:Value) (eo ei:TypeId) (rows:List (List Value)) (y:FV) (id:Nat) (ts:List Nat) (hx:kac7 st ov ts) (d:kaa st.heap id=some (.tab g ov eo ei rows)) (hy:y=tabF rows):
  LeSt st { st with tmps:=kv1 (.fz y) st.tmps ts,heap:=ka9 id st.heap }:=by
 subst hy;intro F S0 N0 ψ S a w hs;have c1:=kxf hs.core d;have c2:=kv2 (hs.core.obj id _ d).2.1;have c:∀ k,RV ψ (·∈st.ids) (fun b=>S b\/Blk (ψ.val id) b) w (a.tmps.getD k undef) (st.get k):=fun k=>(hs.tmps k).mono (fun _ h=>h) fun _ h => .inl h;refine ⟨ψ,_,hs.defers,hs.size,fun k=>?_,c1⟩;show RV ψ (·∈st.ids) _ w (a.tmps.getD k undef) (look .any (kv1 (.fz (tabF rows)) st.tmps ts) k)
 induction ts with
 | nil=>exact c k
 | cons t ts ih=>
  simp only [kv1,kat];split;rename_i hk;subst hk;have hv:=c t;rw [hx.1] at hv;refine .fz ?_;rw [hv.atom];exact c2
  ·exact ih hx.2
inductive LendI where
 | row (t id n:Nat) (e:TypeId) (size:Nat) (xs:List FV)
 | tab (t id g:Nat) (ov:Value) (eo ei:TypeId) (rows:List (List Value)) (x:FV)
 | inn (t id g:Nat) (ov:Value) (eo ei:TypeId) (rows:List (List Value)) (i:Nat) (x:FV)
def LendI.ok (st:St):LendI->Prop
 | .row t id n e size xs=>st.get t = .row id n/\kaa st.heap id=some (.frow e size xs)/\n=xs.length
 | .tab t id g ov eo ei rows x=>st.get t = .fz (.atom ov)/\kaa st.heap id=some (.tab g ov eo ei rows)/\x=tabF rows
 | .inn t id g ov eo ei rows i x=>st.get t = .irow id g (i+1)/\kaa st.heap id=some (.tab g ov eo ei rows)/\∃ r,rows[i]?=some r/\x = .lst 1 r.length (r.map .atom)
def LendI.slot:LendI->Nat×AV
 | .row t _ n _ size xs=>(t, .fz (.lst size n xs))
 | .tab t _ _ _ _ _ _ x=>(t, .fz x)
 | .inn t _ _ _ _ _ _ _ x=>(t, .fz x)
def kaiw (ls:List LendI) (st:St):St:={ st with tmps:=ls.map LendI.slot++st.tmps }
theorem kahp {e:TypeId} {size:Nat} {xs:List FV} (h:ObR ψ K S w id (.frow e size xs)):RF (fun b=>S b\/Blk (ψ.val id) b) w (ψ.val id) (.lst size xs.length xs):=by obtain ⟨h0,c,cs,a,d,hr⟩:=h;exact (kyn _ a d hr (f:=c)).mono fun b f=>f.imp _root_.id .of
theorem k6d {SB:Nat->Prop}:∀ (ls:List LendI),(∀ l∈ls,l.ok st)->(∀ t,RV ψ (·∈st.ids) S w (a.tmps.getD t undef) (st.get t))->(∀ id ob,kaa st.heap id=some ob->ObR ψ (·∈st.ids) S w id ob)->(∀ id ob,kaa st.heap id=some ob->∀ b,(S b\/Blk (ψ.val id) b)->SB b)->(∀ b,S b->SB b) ->
  ∀ t,RV ψ (·∈st.ids) SB w (a.tmps.getD t undef) (look .any (ls.map LendI.slot++st.tmps) t)
 | [],_,ht,_,_,hS,t=>(ht t).mono (fun _ h=>h) hS
 | l::ls,hl,ht,q,c,hS,t=>by
  have f:=hl l (qu ..);have j:=k6d ls (fun k hk=>hl k (qh _ hk)) ht q c hS t;cases l with
  | row t' id n e size xs=>
   obtain ⟨q1,q2,rfl⟩:=f;show RV ψ (·∈st.ids) SB w _ (look .any ((t',AV.fz (.lst size xs.length xs))::(ls.map LendI.slot++st.tmps)) t);rw [kat];split
   ·rename_i o;subst o;have hv:=ht t';rw [q1] at hv;have p:=q id _ q2;refine .fz ?_;generalize a.tmps.getD t' undef=u at hv;cases hv with
    | row hK s h1 hv=>
     rw [hv p.1.symm];exact (kahp p).mono (c id _ q2)
   ·exact j
  | tab t' id g ov eo ei rows x=>
   obtain ⟨q1,q2,rfl⟩:=f;show RV ψ (·∈st.ids) SB w _ (look .any ((t',AV.fz (tabF rows))::(ls.map LendI.slot++st.tmps)) t);rw [kat];split;rename_i o;subst o;have hv:=ht t';rw [q1] at hv;rw [hv.atom];exact .fz ((kv2 (q id _ q2)).mono (c id _ q2))
   ·exact j
  | inn t' id g ov eo ei rows i x=>
   obtain ⟨q1,q2,r,q3,rfl⟩:=f;show RV ψ (·∈st.ids) SB w _ (look .any ((t',AV.fz (.lst 1 r.length (r.map .atom)))::(ls.map LendI.slot++st.tmps)) t);rw [kat];split
   ·rename_i o;subst o;have hv:=ht t';rw [q1] at hv;obtain ⟨C,vs,d,v,A,y,B⟩:=q id _ q2;have m:i<vs.length:=(by rw [v];exact (qg.1 q3).1);obtain ⟨k1,k2⟩:=y i vs[i] r (qb m) q3;refine .fz ?_;have hd:=kyn (S:=S) (r.map .atom) (by simpa using k1) (k6t r k2) (k4j r k2);rw [qaa] at hd;have hd:=hd.mono fun b z=>c id _ q2 b (z.imp _root_.id fun z=>by rw [d];exact .inr ⟨vs[i],by simp only [kfi];exact qh _ (q9 m),z⟩);generalize a.tmps.getD t' undef=u at hv;cases hv with
    | irow hK s h1 hv=>
     have:=hv C.symm;rw [d] at this;simp only [kfi,qag] at this;rw [qb m] at this;cases this;exact hd
   ·exact j
theorem kal8 (ls:List LendI) {c:FV} (hl:∀ l∈ls,l.ok st) (hn:NStep P o (kaiw ls st) (.fz c)) (hc:kaa7 c=true):NStep P o st (.fz c):=by
 intro ψ S a w ht g
 let SB:Nat->Prop:=fun b=>S b\/∃ id ob,kaa st.heap id=some ob/\Blk (ψ.val id) b
 have d:∀ id ob,kaa st.heap id=some ob->∀ b,(S b\/Blk (ψ.val id) b)->SB b:=fun id ob h b e=>e.imp _root_.id fun e=>⟨id,ob,h,e⟩;refine kls ?_ (hn ψ SB a w (fun t=>?_) fun id ob j=>?_)
 ·rintro v w' ⟨k,hv⟩;refine ⟨k, .fz ?_⟩;have hv:=hv.inv;cases c with
  | atom u=>cases hv with | atom h=>exact .atom h
  | tup vs=>
   cases hv with
   | tup h hr=>
    refine .tup h fun i v x hv hx=>?_;have f:=qr.1 hc x (qn hx);have:=hr i v x hv hx;cases x with
    | atom u=>cases this with | atom h=>exact .atom h
    | _=>cases f
  | _=>cases hc
 exact k6d ls hl (fun t=>ht t) g d (fun b h => .inl h) t
 ·exact (g id ob j).keep Ext.refl (fun _ h=>h) (fun b e => .inl e) (fun _ _ _=>rfl) ⟨rfl,rfl⟩ fun _ _=>rfl
def renX (r:List (Nat×Nat)):AObj->AObj
 | .gho cs vs => .gho cs (kpd r vs)
 | ob=>renO r ob
def k5s (r:List (Nat×Nat)):List (Nat×AObj)->List (Nat×AObj)
 | []=>[]
 | (k,v)::l=>(rn r k,renX r v)::k5s r l
def k1j (r:List (Nat×Nat)):List (Nat×AV)->List (Nat×AV)
 | []=>[]
 | (k,v)::l=>(k,renA r v)::k1j r l
def renSt (r:List (Nat×Nat)) (st:St):St:={ n:=st.n,tmps:=k1j r st.tmps,heap:=k5s r st.heap,ids:=renI r st.ids,dfr:=st.dfr }
def kaim (r:List (Nat×Nat)) (st:St):Bool:=k2r (renI r st.ids) && st.heap.all (fun p=>match p.2 with
 | .was _ ids0 _ _=>ids0.all (fun i=>Nat.beq (rn r i) i && st.ids.contains i)
 | .box _ cs=>okAs st.ids cs
 | .xo _=>false
 | _=>true)
theorem k2b {r:List (Nat×Nat)}:∀ {l:List (Nat×AV)} {t:Nat},look .any (k1j r l) t=renA r (look .any l t)
 | [],_=>rfl
 | (k,v)::l,t=>by
  simp only [k1j,kat];split;rfl
  ·exact k2b
theorem kpf {r:List (Nat×Nat)} {j:Nat}:∀ {A:List (Nat×AObj)} {ob:AObj},kaa (k5s r A) j=some ob->∃ i o,(i,o)∈A/\kaa A i=some o/\rn r i=j/\ob=renX r o
 | [],ob,h=>by cases h
 | (k,v)::A,ob,h=>by
  simp only [k5s] at h;rw [kac] at h;by_cases hk:rn r k=j;rw [qo hk] at h;cases h;exact ⟨k,v,qu ..,by rw [kac,qo rfl],hk,rfl⟩
  ·rw [qi hk] at h;obtain ⟨i,o,h0,h1,a,b⟩:=kpf h;exact ⟨i,o,qh _ h0,by rw [kac,qi (fun e=>hk (by rw [e,a]))];exact h1,a,b⟩
theorem kanm (r:List (Nat×Nat)) (h:kaim r st=true:=by kernel_rfl):LeSt st (renSt r st):=by
 unfold kaim at h;simp only [qp] at h;obtain ⟨hd,d⟩:=h;have d:=qr.1 d;rw [kyq] at hd;have inj:=kwv hd;intro F S0 N0 ψ S a w hs
 let ψ':Env:=⟨fun j=>match st.ids.find? (fun k=>Nat.beq (rn r k) j) with | some i=>ψ.len i | none=>0,fun j=>match st.ids.find? (fun k=>Nat.beq (rn r k) j) with | some i=>ψ.val i | none => .nilFunc⟩
 have f:∀ i,i∈st.ids->st.ids.find? (fun k=>Nat.beq (rn r k) (rn r i))=some i:=fun i hi=>by
  cases h:st.ids.find? (fun k=>Nat.beq (rn r k) (rn r i)) with
  | none=>
   rw [List.find?_eq_none] at h;exact absurd (Nat.beq_refl _) (h i hi)
  | some k=>
   have h1:=List.find?_some h;rw [inj k i (List.mem_of_find?_eq_some h) hi (qk h1)]
 have hr:∀ i,i∈st.ids->rn r i∈renI r st.ids/\ψ'.len (rn r i)=ψ.len i/\ψ'.val (rn r i)=ψ.val i:=fun i hi=>by
  refine ⟨by rw [kyq];exact List.mem_map_of_mem hi,?_,?_⟩
  ·show (match st.ids.find? (fun k=>Nat.beq (rn r k) (rn r i)) with | some i=>ψ.len i | none=>0)=_
   rw [f i hi]
  ·show (match st.ids.find? (fun k=>Nat.beq (rn r k) (rn r i)) with | some i=>ψ.val i | none => .nilFunc)=_
   rw [f i hi]
 have c:=hs.core;refine ⟨ψ',S,hs.defers,hs.size,fun t=>?_,⟨fun j ob u=>?_,fun j j' ob ob' b u z A q n=>?_,c.lt,c.s0,c.n0,c.fr⟩⟩;show RV ψ' _ S w _ (look .any (k1j r st.tmps) t);rw [k2b];exact (hs.tmps t).ren hr
 ·obtain ⟨i,o,hm,h1,rfl,rfl⟩:=kpf u;obtain ⟨k1,k2,k3⟩:=c.obj i o h1;obtain ⟨e1,e2,e3⟩:=hr i k1;have B:=d _ hm;refine ⟨e1,?_,fun b q=>k3 b (by rwa [e3] at q)⟩;cases o with
  | box e cs=>exact k2.ren (ids:=st.ids) hr k1 B
  | frow e s xs=>exact k2.ren (ids:=st.ids) hr k1 rfl
  | smap kv=>exact k2.ren (ids:=st.ids) hr k1 rfl
  | memo Φ hi=>exact k2.ren (ids:=st.ids) hr k1 rfl
  | xo k=>cases B
  | glb gs=>exact k2.ren (ids:=st.ids) hr k1 rfl
  | sit s pos=>exact k2.ren (ids:=st.ids) hr k1 rfl
  | tab g ov eo ei rows=>exact k2.ren (ids:=st.ids) hr k1 rfl
  | gho cs vs=>
   obtain ⟨q0,q1,q2,q3⟩:=k2;refine ⟨by omega,by rw [e3,q1],by rw [e3,q2],fun j v x hv hx=>?_⟩;rw [klo,qq,qt] at hx;obtain ⟨y,hy,rfl⟩:=hx;exact (q3 j v y hv hy).ren hr
  | was ψ0 ids0 S1 w0=>
   obtain ⟨q0,q1,q2,q3,q4,q5,q6⟩:=k2;have l:∀ j,j∈ids0->rn r j=j/\j∈st.ids:=fun j m=>(by have:=qr.1 B j m;simp only [qp] at this;exact ⟨qk this.1,by simpa using this.2⟩);refine ⟨by omega,by rw [e3,q1],by rw [e3,q2],fun j m=>?_,fun j m=>?_,q5,q6⟩;obtain ⟨f1,f2⟩:=l j m;obtain ⟨_,g2,g3⟩:=hr j f2;rw [f1] at g2 g3;rw [g2,g3];exact q3 j m
   ·obtain ⟨f1,f2⟩:=l j m;exact f1 ▸ (hr j f2).1
 ·obtain ⟨i,o,_,h1,rfl,rfl⟩:=kpf u;obtain ⟨i',o',_,p,rfl,rfl⟩:=kpf z;rw [(hr i (c.obj i o h1).1).2.2] at q;rw [(hr i' (c.obj i' o' p).1).2.2] at n;exact c.inj i i' o o' b h1 p (fun e=>A (by rw [e])) q n
theorem kae3 {α:Type} (enc:α->FV) (m:List (BA×α)) (s:BA) (z:α) (x y:Operand) (kt et:TypeId) (kd:TD) (zv:Value) (K:o.op = .lookup t x y true) (L:TOk P T) (hd:kad T t=some d) (hk:d.kind = .map kt et) (c:kad T kt=some kd) (l:kd.kind = .str) (inf:TypeInfo) (B:P.info? et=some inf) (C:inf.zero=some zv) (D:enc z = .atom zv) (E:zv.oneCell'=true) (hx:st.eval x = .mp id:=by kernel_rfl) (F:kaa st.heap id=some (.smap (m.map fun p=>(p.1,enc p.2))):=by kernel_rfl) (hy:st.eval y = .fz (.atom (.string s)):=by kernel_rfl):NStep P o st (.fz (.tup [enc (mget m s z), .atom (.bool (mhas m s))])):=by
 intro ψ S a w ht N;have hd:=L.get hd;have c:=L.get c;have hv:=Sim.eval_tmps ht x;rw [hx] at hv;have n:=N id _ F;have q:=k7m n hv;obtain ⟨h0,b,es,clock,g,M,G,hr⟩:=n;have f:=Sim.eval_tmps ht y;rw [hy] at f;have f:=f.atom;have H:(zeroValue et).run P w = .ok zv w:=by simp [zeroValue,typeInfo,B,C]
 have r:=MapKept.run_checkKey (w:=w) (c.str l) (k := .string s) trivial es.isEmpty 9999;have two:∀ {v:Value} {x:FV} {ok:Bool},RF (fun b=>S b\/w.heap.size<=b) w v x->RF (fun b=>S b\/w.heap.size<=b) w (.tuple #[v, .bool ok]) (.tup [x, .atom (.bool ok)]):=fun {v x ok} h => .tup rfl fun i u y A hy=>by
  match i with
  | 0=>simp at A hy;subst A hy;exact h
  | 1=>simp at A hy;subst A hy;exact .atom rfl
  | i+2=>simp at A
 rcases kpa s (R:=fun v x=>RF S w v x) es.toList (m.map fun p=>(p.1,enc p.2)) 0 (by simpa using G) (fun j e p O hp=>hr j e p (by simpa using O) hp) with ⟨f1,f2⟩ | ⟨j,v,x',f1,f2,f3⟩
 ·have I:=MapKept.run_findKey (w:=w) (c.str l) f1;have J:mhas m s=false:=by rw [<- k8m enc];unfold mhas;rw [f2];rfl
  refine kae w (.tuple #[zv, .bool false]) ?_ ⟨kaf _, .fz ?_⟩;simp [execOp,K,f,q,g,Instr.lookup,run_underlying (hd.mp hk),MapKept.run_getObj_map M,r,I,H]
  ·rw [J];refine two ?_;rw [<- kvl enc];unfold mget;rw [f2];simp only;rw [D];exact .atom E
 ·have I:=MapKept.run_findKey (w:=w) (c.str l) f1;have J:mhas m s=true:=by rw [<- k8m enc];unfold mhas;rw [f2];rfl
  refine kae w (.tuple #[v, .bool true]) ?_ ⟨kaf _, .fz ?_⟩;simp [execOp,K,f,q,g,Instr.lookup,run_underlying (hd.mp hk),MapKept.run_getObj_map M,r,I]
  ·rw [J];refine two ?_;rw [<- kvl enc];unfold mget;rw [f2];exact f3.mono fun _ h => .inl h
theorem kve {α:Type} {f:α->Value} {enc:α->FV} (rows:List (List α)) (h:∀ y,enc y = .atom (f y):=by exact fun _=>rfl):eL 1 (eL 1 enc) rows=tabF (rows.map (List.map f)):=by have:enc=fun y => .atom (f y):=funext h;subst this;simp [eL,tabF,Function.comp_def]
theorem k6u {t id n:Nat} {e:TypeId} {size:Nat} {xs:List FV} (h1:st.get t = .row id n) (a:kaa st.heap id=some (.frow e size xs)) (b:n=xs.length):LendI.ok st (.row t id n e size xs):=⟨h1,a,b⟩
theorem kag1 {t id g:Nat} {ov:Value} {eo ei:TypeId} {rows:List (List Value)} {x:FV} (h1:st.get t = .fz (.atom ov)) (a:kaa st.heap id=some (.tab g ov eo ei rows)) (b:x=tabF rows):LendI.ok st (.tab t id g ov eo ei rows x):=⟨h1,a,b⟩
theorem k0w:∀ l∈([]:List LendI),l.ok st:=fun l h=>by cases h
theorem kxw {l:LendI} {ls:List LendI} (h:l.ok st) (hs:∀ k∈ls,k.ok st):∀ k∈l::ls,k.ok st:=fun k hk=>by
 rcases qac.1 hk with rfl | hk;exact h
 ·exact hs k hk
def cut3 {α:Type} (xs:List α) (l h m:Int):Option (List α):=if 0<=l/\l<=h/\h<=m/\m<=xs.length then some ((xs.take h.toNat).drop l.toNat) else none
theorem RF.take3 {A:Option Addr} {cap n size:Nat} {xs:List FV} (h:RF S w (.slice A n cap) (.lst size n xs)) (lo hi m:Nat) (h1:lo<=hi) (e:hi<=n) (f:hi<=m) (g:m<=cap):RF S w (.slice (if m=lo then A else A.map (·.add (lo*size))) (hi - lo) (m - lo)) (.lst size (hi - lo) ((xs.take hi).drop lo)):=by
 obtain ⟨A0,cap0,css,hv,hn,hc,hm,hs,ha,hl,hr⟩:=h.lst_inv;injection hv with e1 _ e3;subst e1 e3;have a:(xs.take hi).length=hi:=by rw [qaw];omega
 have get:∀ (i:Nat) (x:FV),((xs.take hi).drop lo)[i]?=some x->xs[lo+i]?=some x:=fun i x hx=>by
  rw [qao,qab] at hx;split at hx;exact hx
  ·cases hx
 refine .lst (fun i=>css (lo+i)) (by rw [qa9,a]) (by omega) (by omega) hs (fun i x hx=>?_) (fun i x hx=>hl _ x (get i x hx)) fun i x j v y hx hv hy=>hr _ x j v y (get i x hx) hv hy;obtain ⟨b,o,hA,hS,c⟩:=ha _ x (get i x hx);have d:=(qg.1 hx).1;rw [qa9,a] at d;refine ⟨b,o+lo*size,?_,hS,by rw [Nat.add_assoc,<- qbc];exact c⟩;rw [qi (by omega),hA];simp only [qa6,kb6]
theorem kamj {α:Type} (enc:α->FV) (x y m:Operand) (lo:Option Operand) (l:Option Int) (h k:Int) (xs:List α) {r:List α} (size:Nat) (e:TypeId) (de:TD) (k1 k2:IntKind) (hc:cut3 xs (l.getD 0) h k=some r) (p:TOk P T) (s:o.op = .slice t x lo (some y) (some m)) (hd:kad T t=some d) (hk:d.kind = .slice e) (f:kad T e=some de) (g:de.size=size) (hx:st.eval x = .fz (eL size enc xs)) (hl:kru st lo=some l) (u:st.eval y = .fz (.atom (.int k1 h))) (hm:st.eval m = .fz (.atom (.int k2 k))):NStep P o st (.fz (eL size enc r)):=by
 intro ψ S a w ht E;have h1:=Sim.eval_tmps ht x;rw [hx] at h1;have bl:=kqe ht hl;have b:=Sim.eval_tmps ht y;rw [u] at b;have b:=b.atom;have c:=Sim.eval_tmps ht m;rw [hm] at c;have c:=c.atom;unfold cut3 at hc;split at hc
 ·rename_i q;injection hc with hc;subst hc;have h1:=h1.inv;obtain ⟨A,cap,css,hv,hn,z,B,hs,ha,C,hr⟩:=h1.lst_inv;rw [hv] at h1;have i:=h1.take3 (l.getD 0).toNat h.toNat k.toNat (by omega) (by omega) (by omega) (by omega);refine kae w (.slice (if k.toNat=(l.getD 0).toNat then A else A.map (·.add ((l.getD 0).toNat*size))) (h.toNat - (l.getD 0).toNat) (k.toNat - (l.getD 0).toNat)) ?_ ⟨kaf _,(RV.fz ?_).here⟩
  ·have D:=(p.get hd).slice hk;have e1:(Instr.sliceBounds true xs.length cap (lo.map a.eval) ((some y).map a.eval) ((some m).map a.eval)).run P w = .ok ((l.getD 0).toNat,h.toNat,k.toNat) w:=by
    unfold Instr.sliceBounds;have q1:0<=k:=(by omega);have q2:k<=(cap:Int):=(by omega);have q3:0<=h:=(by omega);have q4:h<=(k.toNat:Int):=(by omega);rcases bl with ⟨rfl,rfl⟩ | ⟨y',k',n',rfl,rfl,j⟩;simp [Instr.sliceBound,b,c,asIntOf,q1,q2,q3,q4];intro hc;exfalso;omega
    ·simp only [qbj] at q ⊢;have q5:n'<=(h.toNat:Int):=(by omega);simp [Instr.sliceBound,b,c,j,asIntOf,q1,q2,q3,q4,q5,q.1];rw [qo (by omega),qo (by omega)]
   have n:(sizeOf e).run P w = .ok size w:=(by rw [(p.get f).size,g]);simp only [qa6] at e1;simp [execOp,s,Instr.sliceAt,Instr.slice,run_underlying D,hv,e1,n]
  ·have:((xs.take h.toNat).drop (l.getD 0).toNat).length=h.toNat - (l.getD 0).toNat:=(by rw [qa9,qaw];omega);unfold eL;rw [this,List.map_drop,List.map_take];exact i
 ·cases hc
end Go.Proofs.YtjpkdegjcilndaaGreatDoor
