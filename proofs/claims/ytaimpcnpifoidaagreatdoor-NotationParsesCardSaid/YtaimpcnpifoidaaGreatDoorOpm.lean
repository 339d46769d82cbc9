import Derived.Test.YtaimpcnpifoidaaGreatDoorHd
import Derived.Laws.StructEq
import Derived.Laws.BytesString
import Derived.Lib.ConvBytes
import Derived.Deep.AppendSrc
import Derived.Lib.Builder
import Derived.Lib.AppendStr
import Derived.Lib.UnsafeStr
set_option linter.all false
namespace Go.Proofs.YtaimpcnpifoidaaGreatDoor
open Go Go.RowKit
def eqF (T:List (TypeId×TD)):List (TypeId×Nat)->List FV->List FV->Option Bool
 | [],_,_=>some true
 | (ft,off)::fs,xs,ys=>match kat T ft,xs[off]?,ys[off]?,eqF T fs xs ys with
  | some d,some (.atom u),some (.atom v),some r=>match d.kind,u,v with
   | .str, .string a, .string b=>some (a.toList == b.toList && r)
   | .int k, .int k1 a, .int k2 b=>if k1=k2 then some ((a == b) && r) else none
   | .bool, .bool a, .bool b=>some ((a == b) && r)
   | _,_,_=>none
  | _,_,_,_=>none
def toBA (xs:List Int):BA:=xs.foldl (fun r n=>r.push (UInt8.ofNat n.toNat)) ByteArray.empty
def ofBA (s:BA):List Int:=s.data.toList.map fun b=>(b.toNat:Int)
def appS (xs:List Int) (s:BA):Option (List Int):=if xs.length+s.size<=140737488355328 then some (xs++ofBA s) else none
section
variable {P:Program} {F S0:Nat->Prop} {N0:Nat} {w w':World} {S S':Nat->Prop} {ψ:Env} {K:Nat->Prop} {T:List (TypeId×TD)} {o:Oper} {a:Act} {st:St} {t:TypeId} {d:TD} {id:Nat}
theorem k4h {ft off:Nat} {cs:Array Value} {v:Value} {df:TD} (hd:TdOk P ft df) (hk:df.kind.agg=false) (h:cs[off]?=some v):(part ft cs off).run P w = .ok v w:=by simp [part,hd.isAgg,hk,h]
theorem kaex (m:TOk P T) {cs1 cs2:Array Value} {xs ys:List FV} (h1:∀ (i:Nat) (v:Value) (x:FV),cs1[i]?=some v->xs[i]?=some x->RF S w v x) (h2:∀ (i:Nat) (v:Value) (x:FV),cs2[i]?=some v->ys[i]?=some x->RF S w v x)
  (l1 : cs1.size = xs.length) (l2 : cs2.size = ys.length) : ∀ {gs : List Field} {r : Bool}, (gs.all fun f => f.name != "_") = true -> eqF T (gs.map fun f => (f.type, f.offset)) xs ys = some r -> (Op.eqFields 9999 cs1 cs2 gs).run P w = .ok r w
 | [],r,_,h=>by simp only [List.map_nil,eqF,ql] at h;subst h;rfl
 | f::gs,r,hn,h=>by
  simp only [List.all_cons,q8,qbl,ne_eq] at hn;simp only [qa8,eqF] at h;split at h
  ·rename_i d u v r' hd s hv hr;have ih:=kaex m h1 h2 l1 l2 hn.2 hr;have n:cs1[f.offset]?=some u:=(by have g:f.offset<cs1.size:=(by rw [l1];exact (qo.1 s).1);rw [qaw g,(h1 f.offset _ _ (qaw g) s).atom_eq]);have o:cs2[f.offset]?=some v:=(by have g:f.offset<cs2.size:=(by rw [l2];exact (qo.1 hv).1);rw [qaw g,(h2 f.offset _ _ (qaw g) hv).atom_eq]);have p:=m.get hd;obtain ⟨_,e,l,c⟩:=p;have key:∀ b:Bool,d.kind.agg=false->(Op.equalIn 9999 f.type u v).run P w = .ok b w->(Op.eqFields 9999 cs1 cs2 (f::gs)).run P w = .ok (b && r') w:=fun b j t=>by
    simp only [Op.eqFields,hn.1,not_false_eq_true,qa6,ne_eq,Sem.run_bind,k4h (m.get hd) j n,k4h (m.get hd) j o,Result.andThen_ok,t];cases b;rfl
    ·simpa using ih
   split at h;rename_i a b hk;injection h with h;subst h;rw [hk] at c;cases e <;> simp only [kan] at c;exact key _ (by rw [hk];rfl) (run_equalIn_string w 9998 _ a b l)
   ·rename_i k k1 a k2 b hk;split at h;rename_i q;subst q;injection h with h;subst h;rw [hk] at c;cases e <;> simp only [kan] at c;exact key _ (by rw [hk];rfl) (run_equalIn_int w 9998 _ _ _ a b l)
    ·cases h
   rename_i a b hk;injection h with h;subst h;rw [hk] at c;cases e <;> simp only [kan] at c;exact key _ (by rw [hk];rfl) (run_equalIn_bool' w 9998 _ a b l)
   ·cases h
  ·cases h
theorem kacx {x y : Operand} {yt : TypeId} {fs : List (TypeId × Nat)} {xs ys : List FV} {r : Bool} (neg : Bool) (k : TOk P T) (ho : o.op = .binOp (if neg then .neq else .eql) t x y yt) (hd : kat T t = some d) (hk : d.kind = .st fs) (hn : ((P.fieldsOf t).toList.all fun f => f.name != "_") = true := by kernel_rfl) (hp : P.stoodInHeld t = false := by kernel_rfl) (hm : P.eqGuardType P.depth t = false := by kernel_rfl) (m : st.eval x = .fz (.agg xs) := by kernel_rfl) (n : st.eval y = .fz (.agg ys) := by kernel_rfl) (l : eqF T fs xs ys = some r := by kernel_rfl) : NStep P o st (.fz (.atom (.bool (bif neg then !r else r)))) := by
 intro ψ S a w ht q;have v1:=Sim.eval_tmps ht x;rw [m] at v1;have v2:=Sim.eval_tmps ht y;rw [n] at v2;have v1:=v1.inv;have v2:=v2.inv;obtain ⟨_,e,c,b⟩:=k.get hd;rw [hk] at b;cases e <;> simp only [kan] at b;rename_i gs;have j:P.fieldsOf t=gs:=by simp [Program.fieldsOf,c]
 rw [j] at hn;refine kaj (w':=w) (v := .bool (bif neg then !r else r)) ?_ ⟨kai _, .fz (.atom rfl)⟩;generalize g:a.eval x=u1 at v1;generalize h:a.eval y=u2 at v2;cases v1 with
 | agg l1 s1 r1=>
  cases v2 with
  | agg l2 s2 r2=>
   rename_i cs1 cs2;rw [<- b] at l;have p:=kaex (w:=w) k r1 r2 l1 l2 hn l;have i:(Op.equalIn 10000 t (.agg cs1) (.agg cs2)).run P w = .ok r w:=(by rw [show (10000:Nat)=9999+1 from rfl,run_equalIn_agg w 9999 t cs1 cs2 (by rw [j];exact c) hp,j];exact p);cases neg;simp [execOp,ho,g,h,run_eqGuard_agg w _ t x y cs1 cs2 hm,run_eql_struct,i]
   ·simp [execOp,ho,g,h,run_eqGuard_agg w _ t x y cs1 cs2 hm,run_neq_struct,i]
theorem kam5 {sr:TypeId} {x:Operand} {k k':IntKind} {n:Int} {ds:TD} (a:TOk P T) (ho:o.op = .convert sr t x) (hs:kat T sr=some ds) (hd:kat T t=some d) (hk:d.kind = .int k) (b:st.eval x = .fz (.atom (.int k' n))):NStep P o st (.fz (.atom (.int k (k.wrap n)))):=by obtain ⟨_,e,h1,_⟩:=a.get hs;obtain ⟨_,e',h2,h3⟩:=a.get hd;rw [hk] at h3;cases e' <;> simp only [kan] at h3;subst h3;exact kam9 (ds:=ds) ho ⟨_,h1⟩ h2 b
theorem kalw {sr:TypeId} {x:Operand} {s:BA} {ds:TD} (c:TOk P T) (ho:o.op = .convert sr t x) (hs:kat T sr=some ds) (b:ds.kind = .str) (hd:kat T t=some d) (hk:d.kind = .str) (e:st.eval x = .fz (.atom (.string s))):NStep P o st (.fz (.atom (.string s))):=by intro ψ S a w ht f;have h1:=Sim.eval_tmps ht x;rw [e] at h1;refine kaj (w':=w) (v := .string s) ?_ ⟨kai _, .fz (.atom rfl)⟩;simp [execOp,ho,h1.atom,convert,run_underlying ((c.get hs).str b),run_underlying ((c.get hd).str hk)]
theorem kaak {v:Value} {n:Int} (h:RF S w v (eU8 n)):v = .int .u8 n:=h.atom_eq
theorem s_b2s {sr e:TypeId} {x:Operand} {xs:List Int} {ds de:TD} (p:TOk P T) (ho:o.op = .convert sr t x) (hs:kat T sr=some ds) (q:ds.kind = .slice e) (D:kat T e=some de) (r:de.kind = .int .u8) (hd:kat T t=some d) (hk:d.kind = .str)
  (E:ktc (st.eval x)=some (xs.map eU8):=by kernel_rfl):NStep P o st (.fz (eS (toBA xs))):=by
 intro ψ S a w ht I;obtain ⟨A,cap,size,n,s,hv,F⟩:=k4m (Sim.eval_tmps ht x) E;obtain ⟨A',cap',css,i,G,hc,hm,H,ha,hl,hr⟩:=F.lst_inv;have hA:A'=A/\cap'=cap:=by rw [hv] at i;injection i with h1 h2 h3;exact ⟨h1.symm,h3.symm⟩
 obtain ⟨rfl,rfl⟩:=hA;obtain ⟨_,e',h1,h2⟩:=p.get D;rw [r] at h2;cases e' <;> simp only [kan] at h2;subst h2;refine kaj (w':=w) (v := .string (toBA xs)) ?_ ⟨kai _, .fz (.atom rfl)⟩;have k:(Conv.bytesToString (.slice A' n cap')).run P w = .ok (.string (toBA xs)) w:=by
  cases A' with
  | none=>
   have u:xs=[]:=by
    cases xs with
    | nil=>rfl
    | cons x xs=>obtain ⟨b,o,h,_⟩:=ha 0 (eU8 x) rfl;cases h
   subst u;rfl
  | some ad=>
   refine run_bytesToString w ad n cap' xs ?_;have:=run_loadCells_list (P:=P) w ad (xs.map (Value.int .u8)) fun j v C=>(by simp only [qp,qm] at C;obtain ⟨m,y,rfl⟩:=C;have c:(xs.map eU8)[j]?=some (eU8 m):=(by rw [qp,y];rfl);obtain ⟨b,off,hA,_,z⟩:=ha j _ c;injection hA with hA;subst hA;obtain ⟨l1,l2,l3⟩:=hl j _ c;have B:size=1:=(by rw [<- l2];rfl);subst B;have f:(css j)[0]?=some ((css j)[0]'(by omega)):=qc _;have:=hr j _ 0 _ (eU8 m) c f rfl;rw [kaak this] at f;have g:=z 0 _ f;rw [kjj];simpa using g);have l:(xs.map (Value.int .u8)).length=n:=(by rw [s];simp);rw [l] at this;exact this
 simp only [execOp,ho,hv,Sem.run_bind];rw [run_convert_bytes_string w sr t e A' n cap' ((p.get hs).slice q) h1 ((p.get hd).str hk),k];rfl
theorem kafu {n:Nat} {parts:Array (Nat×Operand)} {e:TypeId} {de:TD} {xs:List FV} (ho:o.op = .buildSlice t n parts) (hd:TdOk P t d) (hk:d.kind = .slice e) (H:TdOk P e de) (g:0<de.size) (hn:xs.length=n) (R:n*de.size<=16777216)
  (hp:krn de.size 0 (kfr st parts)=some xs) (hid:st.ids.contains id=false):kcx P o st (.row id n) ((id, .frow e de.size xs)::st.heap) (id::st.ids):=by
 have hid:id∉st.ids:=by simpa using hid
 subst hn;intro F S0 N0 ψ S a w I;have ht:=I.tmps;obtain ⟨e1,e2⟩:=kpu ht parts;obtain ⟨p1,p2⟩:=kx2 hp;obtain ⟨vs,B⟩:∃ vs:List Value,vs=parts.toList.map (fun p=>a.eval p.2):=⟨_,rfl⟩;have f:parts.toList.length=xs.length:=by
  have:(kfr st parts).length=xs.length:=by rw [p1];simp
  simpa [kfr] using this
 have C:vs.length=xs.length:=by rw [B];simp at f ⊢; exact f
 have k:∀ (i:Nat) (x:FV),xs[i]?=some x->∃ v p,vs[i]?=some v/\parts.toList[i]?=some p/\p.1=i/\RF S w v x:=fun i x A=>by
  have hi:i<parts.toList.length:=by rw [f];exact (qo.1 A).1
  have V:(kfr st parts)[i]?=some (i, .fz x):=by rw [p1];simp [A]
  have D:parts.toList[i]?=some parts.toList[i]:=qc hi;have K:(parts.map fun (i,x)=>(i,a.eval x)).toList[i]?=some (parts.toList[i].1,a.eval parts.toList[i].2):=by simp [D]
  obtain ⟨r1,r2⟩:=e2 i _ _ K V;exact ⟨a.eval parts.toList[i].2,parts.toList[i],by rw [B,qp,D];rfl,D,r1,r2.inv⟩
 have L:(parts.map fun (i,x)=>(i,a.eval x)).toList=(vs.zipIdx 0).map (fun x=>(x.2,x.1)):=by
  apply List.ext_getElem?;intro i;by_cases hi:i<xs.length;obtain ⟨v,p,h1,h2,h3,_⟩:=k i xs[i] (qc hi);have:v=a.eval p.2:=(by rw [B,qp,h2] at h1;simpa using h1.symm);simp only [Array.toList_map,qp,List.getElem?_zipIdx,h1,h2,qbk,Nat.zero_add];rw [this,h3]
  ·rw [qbm (by simp at f ⊢; omega),qbm (by simp [C];omega)]
 have c:∀ v∈vs,v.cells.size=de.size:=fun v hv=>by obtain ⟨i,hi,rfl⟩:=qad.1 hv;obtain ⟨v,p,h1,_,_,M⟩:=k i xs[i] (qc (by omega));rw [qc hi] at h1;injection h1 with h1;rw [h1,(M.cells (p2 _ (qv _)).2).1,(p2 _ (qv _)).1]
 obtain ⟨z,N,X⟩:=H.zero (P:=P) (w:=w);obtain ⟨cells,hcl⟩:∃ cells:Array Value,cells=(vs.flatMap fun v=>v.cells.toList).toArray:=⟨_,rfl⟩;have J:(Instr.buildSlice t xs.length (parts.map fun (i,x)=>(i,a.eval x))).run P w = .ok (.slice (some ⟨w.heap.size,0,none⟩) xs.length xs.length) (w.alloc (.cells cells e)):=by
  have O:¬ xs.length*de.size > 2 ^ 24:=by omega
  have m:∀ c0:Array Value,xs.length*de.size=c0.size->Instr.fill (fun i=>some (i*de.size,de.size)) c0 (parts.map fun (i,x)=>(i,a.eval x)).toList=some cells:=fun c0 Q=>by rw [L,Great.fill_whole g vs c0 c (by rw [C];exact Q),hcl]
  unfold Instr.buildSlice;rw [Sem.run_bind,run_underlying (hd.slice hk),Result.andThen_ok];simp only [Sem.run_bind,H.size,Result.andThen_ok,qg O];by_cases h0:xs.length*de.size=0
  ·simp only [qj h0,Sem.run_bind,Sem.run_pure,Result.andThen_ok];rw [m];rfl
   ·simp
  ·simp only [qg h0,Sem.run_bind,N,Result.andThen_ok,Sem.run_pure];rw [m];rfl
   ·simp
 have q:cells.toList.length=xs.length*de.size:=by
  rw [hcl];have:∀ l:List Value,(∀ v∈l,v.cells.size=de.size)->(l.flatMap fun v=>v.cells.toList).length=l.length*de.size:=fun l=>by
   induction l with
   | nil=>intro _;simp
   | cons v l ih=>
    intro h;rw [qa0,qr,ih fun u Y=>h u (qn _ Y),qas,h v (qt ..),qu,Nat.succ_mul,Nat.add_comm]
  simpa [C] using this vs c
 have r:=I.core;have E:Grow w (w.alloc (.cells cells e)):=kdd _ _;refine kaj (w':=w.alloc (.cells cells e)) (v := .slice (some ⟨w.heap.size,0,none⟩) xs.length xs.length) ?_ ⟨ψ.set id xs.length (.slice (some ⟨w.heap.size,0,none⟩) xs.length xs.length),S,?_,?_,koz _ r.fr,ker hid _ _,fun _ h=>qn _ h,fun _ h=>h,Same.of_grow E⟩;have s:=J;simp only [execOp,ho,Sem.run_bind];rw [show (parts.map fun (i,x)=>(i,a.eval x))=parts.map (fun x=>(x.1,a.eval x.2)) from rfl] at s;simp [s]
 ·refine r.add E hid (fun b R=>by simp [kby] at R;omega) ⟨kes _ _,g,cells.toList,?_,fun x A=>p2 x A,fun i x j v y A hv T=>?_⟩
  ·rw [kbp];refine ⟨q, .inr ⟨w.heap.size,xs.length,cells,rfl,qz _,heap_alloc_new w _,qy _,?_,by simpa using q,?_⟩⟩;have:xs.length*1<=xs.length*de.size:=Nat.mul_le_mul_left _ g;unfold maxLen;omega
   ·rw [<- q,List.take_length]
  ·obtain ⟨u,p,h1,_,_,M⟩:=k i x A;have U:j<de.size:=(by have:=(qo.1 T).1;rw [(p2 x (qw A)).1] at this;exact this);have G:=Great.flat_get g vs c (i*de.size+j);rw [show (i*de.size+j) / de.size=i by rw [Nat.mul_comm,Nat.mul_add_div g,Nat.div_eq_of_lt U];omega,show (i*de.size+j) % de.size=j by rw [Nat.mul_comm,Nat.mul_add_mod,Nat.mod_eq_of_lt U],h1] at G;simp only [qa] at G;rw [hcl] at hv;simp only [] at hv;rw [G] at hv;have:=(M.cells (p2 x (qw A)).2).2.1 j v y (by simpa using hv) T;exact this.keep (Same.of_grow E)
 ·exact .row (qt ..) (by rw [kes];exact qy _) rfl fun _=>(kbp _ _).symm
theorem kw0 {α:Type} {enc:α->FV} {n:Nat} {parts:Array (Nat×Operand)} {e:TypeId} {de:TD} {xs:List α} (b:TOk P T) (ho:o.op = .buildSlice t n parts) (hd:kat T t=some d) (hk:d.kind = .slice e) (a:kat T e=some de) (c:Nat.ble 1 de.size=true) (hn:xs.length=n) (f:Nat.ble (n*de.size) 16777216=true:=by kernel_rfl) (hp:krn de.size 0 (kfr st parts)=some (xs.map enc):=by kernel_rfl) (hid:st.ids.contains id=false:=by kernel_rfl):kcx P o st (.row id xs.length) ((id, .frow e de.size (xs.map enc))::st.heap) (id::st.ids):=by have:=kafu (id:=id) ho (b.get hd) hk (b.get a) (qai c) (by simpa using hn) (qai f) hp hid;rw [<- hn] at this;exact this
end
def k9i (id:Nat):List AV->Option (List AV)
 | .fz (.atom (.pointer none))::cs=>some (.opt id::cs)
 | .ref i n off::cs=>bif Nat.beq i id && (Nat.beq n 0 && Nat.beq off 0) then some (.opt id::cs) else none
 | _=>none
section
variable {P:Program} {F S0:Nat->Prop} {N0:Nat} {w w':World} {S S':Nat->Prop} {ψ:Env} {K:Nat->Prop} {T:List (TypeId×TD)} {o:Oper} {a:Act} {st:St} {t:TypeId} {d:TD} {id:Nat}
theorem k7t {e:TypeId} {c c':AV} {cells:List AV} (g:kab st.heap id=some (.box e (c::cells))) (k:c'.single=true) (hs:Sim F S0 N0 st ψ S a w)
  (hv:∀ v b,ψ.len id=0->ψ.val id = .pointer (some ⟨b,0,none⟩)->RV ψ (·∈st.ids) S w v c->RV ψ (·∈st.ids) S w v c'):Sim F S0 N0 { st with heap:=(id, .box e (c'::cells))::st.heap } ψ S a w:=by
 obtain ⟨k1,⟨k0,b,cs,k2,k3,k4,k5,k6⟩,k7⟩:=hs.core.obj id _ g;refine ⟨hs.defers,hs.size,hs.tmps,⟨fun i ob ho=>?_,fun i i' ob ob' bb ho l hne m=>?_,hs.core.lt,hs.core.s0,hs.core.n0,hs.core.fr⟩⟩
 ·rw [kae] at ho;by_cases hi:id=i
  ·subst hi;rw [qj rfl] at ho;injection ho with ho;subst ho;refine ⟨k1,⟨k0,b,cs,k2,k3,by simpa using k4,fun x d=>?_,fun i v x j d=>?_⟩,k7⟩
   ·rcases qac.1 d with rfl | d;exact k
    ·exact k5 x (qn _ d)
   ·cases i with
    | zero=>
     simp at d;subst d;exact hv v b k0 k2 (k6 0 v c j rfl)
    | succ i=>exact k6 (i+1) v x j (by simpa using d)
  ·rw [qg hi] at ho;exact hs.core.obj i ob ho
 ·have f:∀ {i:Nat} {o:AObj},kab ((id,AObj.box e (c'::cells))::st.heap) i=some o->∃ o',kab st.heap i=some o':=fun {i o} h=>by
   rw [kae] at h;by_cases hi:id=i;subst hi;exact ⟨_,g⟩
   ·rw [qg hi] at h;exact ⟨_,h⟩
  obtain ⟨o1,h1⟩:=f ho;obtain ⟨o2,h2⟩:=f l;exact hs.core.inj i i' o1 o2 bb h1 h2 hne m
theorem kl3 {e2:TypeId} {cells cells':List AV} (c:kab st.heap id=some (.box e2 cells):=by kernel_rfl) (hc:k9i id cells=some cells':=by kernel_rfl):LeSt st { st with heap:=(id, .box e2 cells')::st.heap }:=by
 intro F S0 N0 ψ S a w hs;have hid:=(hs.core.obj id _ c).1;unfold k9i at hc;split at hc;injection hc with hc;subst hc;refine ⟨ψ,S,k7t c rfl hs fun v b h0 h1 hv=>?_⟩;rw [hv.atom];exact .opt hid rfl fun _ => .inl rfl
 ·rename_i i n off cs;cases d:(Nat.beq i id && (Nat.beq n 0 && Nat.beq off 0)) with
  | false=>rw [d] at hc;cases hc
  | true=>
   rw [d] at hc;simp only [qf,ql] at hc;subst hc;simp only [q8] at d;obtain ⟨h1,h2,h3⟩:=d;obtain rfl:=qx h1;obtain rfl:=qx h2;obtain rfl:=qx h3;refine ⟨ψ,S,k7t c rfl hs fun v b h0 h1 hv=>?_⟩;cases hv with
   | ref hK hn ho hv=>exact .opt hK ho fun h => .inr (hv h)
 ·cases hc
theorem kaj1 {e:TypeId} {cells:List AV} (j:kab st.heap id=some (.box e (.opt id::cells))) (hs:Sim F S0 N0 st ψ S a w):
  Sim F S0 N0 { st with heap:=(id, .box e (.fz (.atom (.pointer none))::cells))::st.heap } ψ S a w\/Sim F S0 N0 { st with heap:=(id, .box e (.ref id 0 0::cells))::st.heap } ψ S a w:=by
 obtain ⟨k1,⟨k0,b,cs,k2,k3,k4,k5,k6⟩,k7⟩:=hs.core.obj id _ j;have d:cs[0]?=some (cs[0]'(by simp at k4;omega)):=qaw _;have hv:=k6 0 _ _ d rfl;generalize cs[0]'(by simp at k4;omega)=u at d hv;cases hv with
 | opt hK h1 hv=>
  have key:∀ c',c'.single=true->RV ψ (·∈st.ids) S w u c'->Sim F S0 N0 { st with heap:=(id, .box e (c'::cells))::st.heap } ψ S a w:=fun c' k hr=>by
   refine ⟨hs.defers,hs.size,hs.tmps,⟨fun i ob ho=>?_,fun i i' ob ob' bb ho l hne n=>?_,hs.core.lt,hs.core.s0,hs.core.n0,hs.core.fr⟩⟩
   ·rw [kae] at ho;by_cases hi:id=i
    ·subst hi;rw [qj rfl] at ho;injection ho with ho;subst ho;refine ⟨k1,⟨k0,b,cs,k2,k3,by simpa using k4,fun x g=>?_,fun i v x c g=>?_⟩,k7⟩
     ·rcases qac.1 g with rfl | g;exact k
      ·exact k5 x (qn _ g)
     ·cases i with
      | zero=>
       simp at g;subst g;rw [d] at c;injection c with c;exact c ▸ hr
      | succ i=>exact k6 (i+1) v x c (by simpa using g)
    ·rw [qg hi] at ho;exact hs.core.obj i ob ho
   ·have f:∀ {i:Nat} {o:AObj},kab ((id,AObj.box e (c'::cells))::st.heap) i=some o->∃ o',kab st.heap i=some o':=fun {i o} h=>by
     rw [kae] at h;by_cases hi:id=i;subst hi;exact ⟨_,j⟩
     ·rw [qg hi] at h;exact ⟨_,h⟩
    obtain ⟨o1,h1⟩:=f ho;obtain ⟨o2,h2⟩:=f l;exact hs.core.inj i i' o1 o2 bb h1 h2 hne n
  rcases hv k0.symm with rfl | ⟨b',m,rfl⟩;exact .inl (key _ rfl (.fz (.atom rfl)))
  ·exact .inr (key _ rfl (.ref hK (qz _) rfl fun _=>⟨b',m,rfl⟩))
theorem k8d {c:Code} {Q:Exit->St->Prop} {e:TypeId} {cells:List AV} (b:kab st.heap id=some (.box e (.opt id::cells))) (h1:awp P c { st with heap:=(id, .box e (.fz (.atom (.pointer none))::cells))::st.heap } Q)
  (h2:awp P c { st with heap:=(id, .box e (.ref id 0 0::cells))::st.heap } Q):awp P c st Q:=fun F S0 N0 ψ S a w hs=>by
 rcases kaj1 b hs with h | h;exact h1 F S0 N0 ψ S a w h
 ·exact h2 F S0 N0 ψ S a w h
theorem kyu {e:TypeId} {cells:List AV} {off:Nat} {v:Value} (c:ObR ψ K S w id (.box e cells)) (hv:RV ψ K S w v (.ref id 0 off)):∃ b cs,v = .pointer (some ⟨b,off,none⟩)/\w.heap[b]?=some (.cells cs e (0,0))/\cs.size=cells.length:=by
 obtain ⟨k0,b,cs,k2,k3,k4,_⟩:=c;cases hv with
 | ref hK hn h1 hv=>
  obtain ⟨b',a,rfl⟩:=hv k0.symm;rw [k2] at a;simp only [kby,ql] at a;subst a;exact ⟨b,cs,rfl,k3,k4⟩
theorem kmj {op:BinOp} {x y:Operand} {u v:Option Addr}:(eqGuard op t x y (.pointer u) (.pointer v)).run P w = .ok () w:=by unfold eqGuard;cases op <;> simp
theorem kv0 {u v:Option Addr} {r:Bool} (h:∀ d:Nat,(Op.equalIn (d+1) t (.pointer u) (.pointer v)).run P w = .ok r w):(binOp .eql t (.pointer u) (.pointer v)).run P w = .ok (.bool r) w/\(binOp .neq t (.pointer u) (.pointer v)).run P w = .ok (.bool !r) w:=by constructor <;> (simp only [binOp];simp [Op.equal,Op.maxDepth,h 9999])
theorem kaf6 {x y:Operand} {yt te e:TypeId} {cells:List AV} {off:Nat} (neg:Bool) (ho:o.op = .binOp (if neg then .neq else .eql) t x y yt:=by kernel_rfl) (ht:P.underlying t=some (.pointer te):=by kernel_rfl) (g:st.eval x = .ref id 0 off:=by kernel_rfl) (f:kab st.heap id=some (.box e cells):=by kernel_rfl) (h:st.eval y = .fz (.atom (.pointer none)):=by kernel_rfl):
  NStep P o st (.fz (.atom (.bool neg))):=by
 intro ψ S a w c i;have h1:=Sim.eval_tmps c x;rw [g] at h1;obtain ⟨b,cs,h1,_⟩:=kyu (i id _ f) h1;have h2:=Sim.eval_tmps c y;rw [h] at h2;have h2:=h2.atom;refine kaj (w':=w) (v := .bool neg) ?_ ⟨kai _, .fz (.atom rfl)⟩;obtain ⟨q1,q2⟩:=kv0 (P:=P) (w:=w) (t:=t) (r:=false) (u:=some ⟨b,off,none⟩) (v:=none) fun d=>by simp [Op.equalIn,run_underlying ht]
 cases neg;simp [execOp,ho,h1,h2,kmj,q1]
 ·simp [execOp,ho,h1,h2,kmj,q2]
theorem kahq {x y:Operand} {yt te:TypeId} (neg:Bool) (ho:o.op = .binOp (if neg then .neq else .eql) t x y yt:=by kernel_rfl) (ht:P.underlying t=some (.pointer te):=by kernel_rfl) (c:st.eval x = .fz (.atom (.pointer none)):=by kernel_rfl) (e:st.eval y = .fz (.atom (.pointer none)):=by kernel_rfl):
  NStep P o st (.fz (.atom (.bool !neg))):=by
 intro ψ S a w b f;have h1:=Sim.eval_tmps b x;rw [c] at h1;have h1:=h1.atom;have h2:=Sim.eval_tmps b y;rw [e] at h2;have h2:=h2.atom;refine kaj (w':=w) (v := .bool !neg) ?_ ⟨kai _, .fz (.atom rfl)⟩;obtain ⟨q1,q2⟩:=kv0 (P:=P) (w:=w) (t:=t) (r:=true) (u:=none) (v:=none) fun d=>by simp [Op.equalIn,run_underlying ht]
 cases neg;simp [execOp,ho,h1,h2,kmj,q1]
 ·simp [execOp,ho,h1,h2,kmj,q2]
theorem kadk {x y:Operand} {yt te e:TypeId} {cells:List AV} {off:Nat} {j:TypeInfo} (neg:Bool) (ho:o.op = .binOp (if neg then .neq else .eql) t x y yt:=by kernel_rfl) (ht:P.underlying t=some (.pointer te):=by kernel_rfl) (m:P.info? te=some j:=by kernel_rfl) (i:st.eval x = .ref id 0 off:=by kernel_rfl) (h:kab st.heap id=some (.box e cells):=by kernel_rfl) (n:st.eval y = .ref id 0 off:=by kernel_rfl):NStep P o st (.fz (.atom (.bool !neg))):=by
 intro ψ S a w f k;have h1:=Sim.eval_tmps f x;rw [i] at h1;obtain ⟨b,cs,h1,g1,_⟩:=kyu (k id _ h) h1;have h2:=Sim.eval_tmps f y;rw [n] at h2;obtain ⟨k0,b0,cs0,k2,_⟩:=k id _ h;have l:∀ v,RV ψ (·∈st.ids) S w v (.ref id 0 off)->v = .pointer (some ⟨b0,off,none⟩):=fun v hv=>by
  cases hv with
  | ref hK hn p hv=>
   obtain ⟨b',g,rfl⟩:=hv k0.symm;rw [k2] at g;simp only [kby,ql] at g;rw [g]
 have h2:=l _ h2;have c:=l _ (by have:=Sim.eval_tmps f x;rw [i] at this;exact this);rw [h1] at c;injection c with c;injection c with c;injection c with c;subst c;refine kaj (w':=w) (v := .bool !neg) ?_ ⟨kai _, .fz (.atom rfl)⟩;obtain ⟨q1,q2⟩:=kv0 (P:=P) (w:=w) (t:=t) (r:=true) (u:=some ⟨b,off,none⟩) (v:=some ⟨b,off,none⟩) fun d=>by simp [Op.equalIn,run_underlying ht,sizeOf,typeInfo,m,run_sameAddr_same]
 cases neg;simp [execOp,ho,h1,h2,kmj,q1]
 ·simp [execOp,ho,h1,h2,kmj,q2]
theorem kwj {b:Nat} {cs:Array Value} {e:TypeId} (h:w.heap[b]?=some (.cells cs e (0,0))):w.shape? b=some (e,cs.size):=by simp [World.shape?,h]
theorem kaa1 {x:Operand} {src te e:TypeId} {cells:List AV} {j:TypeInfo} (ho:o.op = .convert src t x:=by kernel_rfl) (hs:P.underlying src=some (.pointer te):=by kernel_rfl) (hd:P.underlying t=some .unsafePointer:=by kernel_rfl) (g:P.info? te=some j:=by kernel_rfl) (c:Nat.beq j.size 0=false:=by kernel_rfl) (h:st.eval x = .ref id 0 0:=by kernel_rfl) (d:kab st.heap id=some (.box e cells):=by kernel_rfl) (hc:Nat.ble 1 cells.length=true:=by kernel_rfl):NStep P o st (.ref id 0 0):=by intro ψ S a w f i;have h0:=Sim.eval_tmps f x;rw [h] at h0;obtain ⟨b,cs,h1,g1,g2⟩:=kyu (i id _ d) h0;refine kaj (w':=w) (v:=a.eval x) ?_ ⟨kai _,h0.here⟩;simp only [execOp,ho,Sem.run_bind,h1];rw [Lib.run_to_unsafe w ⟨b,0,none⟩ hs hd g (fun e=>by rw [e] at c;cases c) (kwj g1) (by rw [g2];exact qai hc)];rfl
theorem k7s {x:Operand} {src u e:TypeId} {cells:List AV} {j:TypeInfo} (ho:o.op = .convert src t x:=by kernel_rfl) (hs:P.underlying src=some .unsafePointer:=by kernel_rfl) (hd:P.underlying t=some (.pointer u):=by kernel_rfl) (f:P.info? u=some j:=by kernel_rfl) (g:st.eval x = .ref id 0 0:=by kernel_rfl) (c:kab st.heap id=some (.box e cells):=by kernel_rfl) (hl:liesAt P P.depth e (cells.length / P.cellsOf e) 0 u 1=true:=by kernel_rfl):NStep P o st (.ref id 0 0):=by intro ψ S a w d h;have h0:=Sim.eval_tmps d x;rw [g] at h0;obtain ⟨b,cs,h1,g1,g2⟩:=kyu (h id _ c) h0;refine kaj (w':=w) (v:=a.eval x) ?_ ⟨kai _,h0.here⟩;simp only [execOp,ho,Sem.run_bind,h1];rw [Lib.run_from_unsafe w ⟨b,0,none⟩ hs hd f (kwj g1) (by rw [g2];exact hl)];rfl
theorem kaaz {f : FuncId} {fn : Func} {ts : Array TypeId} {X : Operand} (ho : o.op = .call { callee := .value (.func f), args := #[X], argTypes := ts }) (c : P.funcs[f]? = some fn) (b : (fn.name == "runtime.NumGoroutine") = false := by kernel_rfl) (d : fn.body.isNone = true := by kernel_rfl) (hn : Extern.findNext fn = none := by kernel_rfl) (e : Extern.find fn = some Extern.AbiNoEscape.same := by kernel_rfl) :
  NStep P o st (st.eval X):=by
 intro ψ S a w ht g;refine kaj (w':=w) (v:=a.eval X) ?_ ⟨kai _,(Sim.eval_tmps ht X).here⟩;have h0:a.eval (.func f) = .func (.func f) #[] #[]:=rfl;simp [execOp,ho,resolve,h0,Deferred.ofValue,invoke,run_callFunc_extern c b d hn e,Lib.run_noEscape]
theorem k1r {e t u ty:TypeId} {i:TypeInfo} (ht:P.underlying t=some (.slice e)) (p:P.underlying u=some .string) (hi:P.info? e=some i) (q:i.zero=some (.int .u8 0)) (a:i.size=1) (k:i.bytes=1) {v:Value} {n:Nat} {xs:List Value} (c:w.ownsRow 0 e 1 v n xs) (s:BA)
  (d:n+s.size<=140737488355328):∃ v' w',(Builtin.append_ #[t,u] ty #[v, .string s]).run P w = .ok v' w'/\w'.ownsRow 0 e 1 v' (n+s.size) (xs++Lib.strCells s)/\w.grownBy w' v.ownBlock/\(∀ b,v'.ownBlock=some b->v.ownBlock=some b\/w.heap.size<=b)/\(s.size=0->v'=v):=by
 have hm:n+s.size<=maxLen:=by unfold maxLen;omega
 have o:xs.length=n:=by simpa using c.1
 obtain ⟨v',w',h1,h2,h3,C⟩:=Lib.run_append_own_string w 0 t u ty e i ht p hi q a k v n xs c s hm d (qz _);have D:s.size=0->xs++Lib.strCells s=xs:=fun h0=>by have:Lib.strCells s=[]:=qar (by rw [Lib.strCells_length];exact h0);rw [this,List.append_nil]
 rcases c.2 with ⟨rfl,rfl⟩ | ⟨g,cap,cur,rfl,r,z,E,F,x,y⟩
 ·have G:xs=[]:=qar o;subst G;obtain ⟨v2,w2,k1,k2,k3,k4⟩:=Lib.run_append_own_string w w.heap.size t u ty e i ht p hi q a k (.slice none 0 0) 0 [] (World.ownsRow_nil w _ e 1) s hm d (qy _);rw [h1] at k1;injection k1 with k5 k6;subst k5 k6;refine ⟨v',w',h1,h2,h3,fun b f => .inr ?_,fun h0=>C.2 ⟨rfl,h0⟩⟩;rcases k2.2 with ⟨rfl,_⟩ | ⟨g,cap,cur,rfl,r,_⟩;cases f
  ·have:g=b:=(by simpa [Value.ownBlock] using f);omega
 ·have A:cur.size=cap:=by simpa using x
  have h:=Src.ofString (P:=P) w p s;by_cases l:n+s.size<=cap
  ·have hr:=run_append_room_src (P:=P) w t u ty e i ht hi g 0 n cap (.string s) s.size _ (by rw [a];exact h) l (fun j B=>by rw [byteCells_length] at B;rw [a,Lib.cell_of_heap z,qaw (by omega)];rfl) (fun j B=>Lib.frozen_of_heap z _);rw [h1] at hr;injection hr with k5 k6;refine ⟨v',w',h1,h2,h3,fun b f => .inl ?_,fun h0=>?_⟩;rw [k5] at f;exact f
   ·rw [k5,h0];rfl
  ·have m:∀ j u,xs[j]?=some u->w.cell? ((⟨g,0,none⟩:Addr).add j)=some u:=c.cells (g:=g) rfl;have hr:=run_append_grow_src (P:=P) w t u ty e i (.int .u8 0) ht hi q (some ⟨g,0,none⟩) n cap xs (run_firstCells_some w.drew i.size n ⟨g,0,none⟩ n cap xs (by rw [a];simpa using o) (by simpa using m)) (.string s) s.size _ (by rw [a];exact h) (by omega) (by omega) (by rw [k];exact growslice_fits (by omega) (by omega));rw [h1] at hr;injection hr with k5 k6;refine ⟨v',w',h1,h2,h3,fun b f => .inr ?_,fun h0=>?_⟩;rw [k5] at f;injection f with f;simp at f;omega
   ·omega
theorem kaev {x y:Operand} {e u:TypeId} {n:Nat} {xs:List FV} {s:BA} {i:TypeInfo} (ho:o.op = .call { callee := .builtin .append,args:=#[x,y],argTypes:=#[t,u] }) (hd:TdOk P t d) (hk:d.kind = .slice e) (X:P.underlying u=some .string)
  (hi:P.info? e=some i) (O:i.zero=some (.int .u8 0)) (A:i.size=1) (Q:i.bytes=1) (Y:st.eval x = .row id n) (C:kab st.heap id=some (.frow e 1 xs)) (hn:n=xs.length) (N:st.eval y = .fz (.atom (.string s))) (D:xs.length+s.size<=140737488355328):
  kcx P o st (.row id (xs.length+s.size)) ((id, .frow e 1 (xs++(ofBA s).map eU8))::st.heap) st.ids:=by
 subst hn;intro F S0 N0 ψ S a w B;have p:=B.core;obtain ⟨hid,⟨h0,E,cs,g,G,hr⟩,R⟩:=p.obj id _ C;have hv:=B.eval x;rw [Y] at hv;have T:a.eval x=ψ.val id:=by
  generalize a.eval x=u at hv;cases hv with
  | row hK hn h1 hv=>exact hv h0.symm
 have q:=B.eval y;rw [N] at q;have q:=q.atom;obtain ⟨v',w',H,l,f,I,J⟩:=k1r (ty:=o.type) (hd.slice hk) X hi O A Q g s D;have hcl:cs.length=xs.length:=by simpa using g.1
 have K:((ofBA s).map eU8).length=s.size:=by simp [ofBA]
 have L:(xs++(ofBA s).map eU8).length=xs.length+s.size:=by rw [qr,K]
 have M:ψ.len id<xs.length+s.size\/(ψ.len id=xs.length+s.size/\v'=ψ.val id):=by
  by_cases U:s.size=0;refine .inr ⟨by omega,J U⟩
  ·exact .inl (by omega)
 have r:∀ k,k<w.heap.size->¬ Blk (ψ.val id) k->w'.heap[k]?=w.heap[k]?:=fun k hk hne=>f.block k hk fun e=>hne (kyo g e.symm);have V:Same S w w':=fun k hk hl=>r k hl fun e=>(R k e).1 hk;obtain ⟨c1,c2,c3⟩:=p.upd (n:=xs.length+s.size) (v:=v') (w':=w') (ob' := .frow e 1 (xs++(ofBA s).map eU8)) C f.size r M (fun b Z=>by
   rcases I b (k9w l Z) with h | h;exact .inl (kyo g h)
   ·exact .inr h)
  ⟨by rw [kes,L],E,cs++Lib.strCells s,by rw [kbp,L];exact l,fun z O=>(qao.1 O).elim (G z) (fun h=>by obtain ⟨m,_,rfl⟩:=qa3.1 h;exact ⟨rfl,fun y N=>by simp [eU8,FV.cells] at N;subst N;rfl⟩),(RowR.append E (fun i x j v y h1 h2 h3=>hr i x j v y h1 h2 h3) (fun i x j v y h1 h2 h3=>by simp only [qp,qm] at h1;obtain ⟨m,hm,rfl⟩:=h1;have hj:j=0:=(by have:=(qo.1 h3).1;simp [eU8,FV.cells] at this;exact this);subst hj;simp [eU8,FV.cells] at h3;subst h3;simp only [ofBA,qp,qm] at hm;obtain ⟨c,hc,rfl⟩:=hm;simp only [Lib.strCells,qp,Nat.mul_one,Nat.add_zero,hc,qbk,ql] at h2;subst h2;exact .atom rfl) g.1 G).keep V⟩
 refine kaj (w':=w') (v:=v') ?_ ⟨_,S,c1, .row hid (by rw [kes];exact qy _) (kaar l) (fun _=>(kbp _ _).symm),⟨f.os,f.tape,f.output,f.size,c3⟩,k3e M,fun _ h=>h,fun _ h=>h,c2⟩;simp only [execOp,ho,resolve,invoke,builtin,Sem.run_bind,Sem.run_pure,Result.andThen_ok,List.map_toArray,qa8,List.map_nil,T,q,H]
theorem kad8 {x y:Operand} {e u:TypeId} {n:Nat} {xs r:List Int} {s:BA} {i:TypeInfo} (h:appS xs s=some r) (f:TOk P T) (ho:o.op = .call { callee := .builtin .append,args:=#[x,y],argTypes:=#[t,u] }) (hd:kat T t=some d) (hk:d.kind = .slice e) (g:P.underlying u=some .string)
  (hi:P.info? e=some i) (j:i.zero=some (.int .u8 0)) (a:i.size=1) (b:i.bytes=1) (k:st.eval x = .row id n) (c:kab st.heap id=some (.frow e 1 (xs.map eU8))) (hn:n=xs.length) (l:st.eval y = .fz (.atom (.string s)):=by kernel_rfl):
  kcx P o st (.row id r.length) ((id, .frow e 1 (r.map eU8))::st.heap) st.ids:=by
 unfold appS at h;split at h
 ·rename_i hl;injection h with h;subst h;have:=kaev (P:=P) (id:=id) (xs:=xs.map eU8) ho (f.get hd) hk g hi j a b k c (by rw [hn];simp) l (by simpa using hl);rw [qag,<- List.map_append] at this;have hl:(xs++ofBA s).length=xs.length+s.size:=by simp [ofBA]
  rw [hl];exact this
 ·cases h
theorem k8y {x:Operand} {ts:Array TypeId} {e e':TypeId} {size n:Nat} {xs:List FV} (ho:o.op = .call { callee := .builtin .unsafeSliceData,args:=#[x],argTypes:=ts }) (i:P.underlying o.type=some (.pointer e')) (m:st.eval x = .row id n) (j:kab st.heap id=some (.frow e size xs)) (c:n=xs.length):
  NStep P o st (.sdp id n):=by
 intro ψ S a w k p;have h0:=Sim.eval_tmps k x;rw [m] at h0;obtain ⟨k0,q,cs,d,_⟩:=p id _ j;have key:∀ v w' u,(Builtin.unsafeSliceData_ ts o.type #[u]).run P w = .ok v w'->a.eval x=u->(execOp a.eval o).run P w = .ok (.value v) w':=fun v w' u h f=>by simp only [execOp,ho,resolve,invoke,builtin,Sem.run_bind,Sem.run_pure,Result.andThen_ok,List.map_toArray,qa8,List.map_nil,f,h]
 generalize f:a.eval x=u at h0;cases h0 with
 | row hK hn h1 hv=>
  have l:n=ψ.len id:=by rw [k0,c]
  ·obtain rfl:=hv l;rcases d.2 with ⟨b,c⟩ | ⟨g,cap,cur,b,r,s,t,y,z,A⟩;refine kaj (w':=w) (v := .pointer none) (key _ _ _ (by rw [b];exact Lib.run_unsafeSliceData_nil w _ _ _ _) f) ⟨kai _, .sdp hK hn rfl fun _=>⟨⟨_,rfl⟩,fun h=>by omega⟩⟩
   ·by_cases hc:cap=0;subst hc;have hr:=Lib.run_unsafeSliceData_zero (P:=P) w ts o.type e' i ⟨g,0,none⟩ xs.length _ (kwj s);refine kaj (w':=w.alloc (.view ⟨g,0,none⟩ e')) (v := .pointer (some ⟨w.heap.size,0,none⟩)) (key _ _ _ (by rw [b];exact hr) f) ⟨kdd _ _, .sdp hK hn rfl fun _=>⟨⟨_,rfl⟩,fun h=>by omega⟩⟩
    ·refine kaj (w':=w) (v := .pointer (some ⟨g,0,none⟩)) (key _ _ _ (by rw [b];exact Lib.run_unsafeSliceData_row w _ _ _ _ _ hc) f) ⟨kai _, .sdp hK hn rfl fun _=>⟨⟨_,rfl⟩,fun h=>⟨g,by rw [b];rfl,rfl⟩⟩⟩
theorem kxl:∀ (l:List Int) (a:Addr) (acc:BA),(∀ (j:Nat) (x:Int),l[j]?=some x->w.cell? (a.add j)=some (.int .u8 x))->(loadBytes a acc l.length).run P w = .ok (l.foldl (fun r n=>r.push (UInt8.ofNat n.toNat)) acc) w
 | [],a,acc,_=>by simp [loadBytes]
 | x::l,a,acc,h=>by
  have h0:w.cell? a=some (.int .u8 x):=by have:=h 0 x rfl;simpa [Addr.add] using this
  have ih:=kxl l (a.add 1) (acc.push x.toNat.toUInt8) (fun j y c=>by
   have:=h (j+1) y (by simpa using c);have e:(a.add 1).add j=a.add (j+1):=by
    unfold Addr.add;by_cases b:j=0;subst b;simp
    ·simp [b];omega
   rw [e];exact this)
  simp only [qu,loadBytes,Sem.run_bind,run_load,h0,Result.andThen];rw [ih];rfl
theorem kvg (pt it ty e:TypeId) (hp:P.underlying pt=some (.pointer e)) (hc:P.cellsOf e=1) (g cells:Nat) (k:w.shape? g=some (e,cells)) (l:List Int) (h0:l≠[]) (hn:l.length<=cells) (o:l.length<=9223372036854775807)
  (b:∀ (j:Nat) (x:Int),l[j]?=some x->w.cell? ((⟨g,0,none⟩:Addr).add j)=some (.int .u8 x)):
  (Builtin.unsafeString_ #[pt,it] ty #[.pointer (some ⟨g,0,none⟩), .int .i64 l.length]).run P w = .ok (.string (toBA l)) (w.freeze ⟨g,0,none⟩ l.length):=by
 have hl:l.length≠0:=by simpa using h0
 have m:=kxl (P:=P) (w:=w) l ⟨g,0,none⟩ .empty b;have c:=Lib.liesAt_bytes (P:=P) hc (cells / P.cellsOf e) l.length (by rw [hc];simpa using hn);have d:¬ (9223372036854775807:Int)<(l.length:Int):=by omega
 have f:Builtin.unsafeString_ #[pt,it] ty #[.pointer (some ⟨g,0,none⟩), .int .i64 l.length] =
   (do
    let n <- asInt (.int .i64 l.length)
    if n < 0 then runtimePanic (.error "unsafe.String: len out of range")
    if n > IntKind.i64.max then unsupported (.unsafePointer "String: a length above the largest int")
    if n=0 then pure (.string .empty)
    else if <- variablesAt ⟨g,0,none⟩ (<- elemOf pt) n.toNat then do
     let s <- loadBytes ⟨g,0,none⟩ .empty n.toNat
     freeze ⟨g,0,none⟩ n.toNat
     pure (.string s)
    else unsupported (.unsafePointer "String: not so many bytes at ptr")) := rfl
 rw [f];have h:IntKind.i64.max=9223372036854775807:=rfl;have i:¬ (l.length:Int)<0:=by omega
 simp [asInt,asIntOf,h,d,i,hl,variablesAt,k,elemOf,run_underlying hp,c,m,toBA]
theorem k26 {x y:Operand} {pt it e:TypeId} {n:Nat} {xs:List Int} (ho:o.op = .call { callee := .builtin .unsafeString,args:=#[x,y],argTypes:=#[pt,it] }) (hp:P.underlying pt=some (.pointer e)) (hc:P.cellsOf e=1) (X:st.eval x = .sdp id n) (z:kab st.heap id=some (.frow e 1 (xs.map eU8))) (hn:n=xs.length)
  (Y:st.eval y = .fz (.atom (.int .i64 (xs.length:Int))):=by kernel_rfl):kcx P o st (.fz (eS (toBA xs))) (kde id st.heap) st.ids:=by
 intro F S0 N0 ψ S a w hs;have h0:=hs.eval x;rw [X] at h0;have h2:=hs.eval y;rw [Y] at h2;have h2:=h2.atom;have c:=hs.core;obtain ⟨hid,⟨k0,Z,cs,r,_,E⟩,A⟩:=c.obj id _ z;have G:ψ.len id=xs.length:=by rw [k0];simp
 have s:∀ w',(∀ k,¬ Blk (ψ.val id) k->w'.heap[k]?=w.heap[k]?)->w'.heap.size=w.heap.size->Same S w w'/\Core F S0 N0 (kde id st.heap) st.ids ψ S w':=fun w' f d=>by have hk:Same S w w':=fun k hk hl=>f k fun e=>(A k e).1 hk;refine ⟨hk,fun i ob ho=>?_,fun i i' ob ob' b ho H=>c.inj i i' ob ob' b (ke4 id ho).2 (ke4 id H).2,fun b l=>by rw [d];exact c.lt b l,c.s0,by rw [d];exact c.n0,fun b l=>by rw [d];exact c.fr b l⟩;obtain ⟨hne,ho⟩:=ke4 id ho;obtain ⟨m1,m2,m3⟩:=c.obj i ob ho;exact ⟨m1,m2.keep Ext.refl (fun _ h=>h) (fun _ h=>h) hk ⟨rfl,rfl⟩ fun b l=>f b fun e=>c.inj i id ob _ b ho z hne l e,m3⟩
 have fin:∀ w' u,a.eval x=u->(∀ k,¬ Blk (ψ.val id) k->w'.heap[k]?=w.heap[k]?)->w'.heap.size=w.heap.size->w'.os=w.os->w'.tape=w.tape->w'.output=w.output->(Builtin.unsafeString_ #[pt,it] o.type #[u, .int .i64 xs.length]).run P w = .ok (.string (toBA xs)) w' ->
   kis P o a w fun v w'=>∃ ψ' S',Core F S0 N0 (kde id st.heap) st.ids ψ' S' w'/\RV ψ' (·∈st.ids) S' w' v (.fz (eS (toBA xs)))/\Fr F w w'/\Ext (·∈st.ids) ψ ψ'/\(∀ id,id∈st.ids->id∈st.ids)/\(∀ b,S b->S' b)/\Same S w w':=fun w' u D f d I J K B=>by
  obtain ⟨d1,d2⟩:=s w' f d;refine kaj (w':=w') (v := .string (toBA xs)) ?_ ⟨ψ,S,d2, .fz (.atom rfl),⟨I,J,K,by omega,fun b l=>f b fun e=>(A b e).2.1 l⟩,Ext.refl,fun _ h=>h,fun _ h=>h,d1⟩;simp only [execOp,ho,resolve,invoke,builtin,Sem.run_bind,Sem.run_pure,Result.andThen_ok,List.map_toArray,qa8,List.map_nil,D,h2,B]
 generalize D:a.eval x=u at h0;cases h0 with
 | sdp hK aa h1 hv=>
  obtain ⟨⟨p,rfl⟩,L⟩:=hv (by rw [hn,G]);by_cases M:xs=[];subst M;exact fin w _ D (fun _ _=>rfl) rfl rfl rfl rfl (Lib.run_unsafeString_none w pt it o.type p)
  ·have C:0<n:=(by rw [hn];exact List.length_pos_iff.2 M);obtain ⟨b,l,t⟩:=L C;injection t with t;subst t;rcases r.2 with ⟨q,ab⟩ | ⟨g,cap,cur,q,ac,T,ad,N,O,Q⟩;rw [q] at l;cases l
   ·rw [q] at l;injection l with l;simp at l;subst l;have ae:(xs.map eU8).length=xs.length:=(by simp);have U:cur.size=cap:=(by simpa using O);refine fin (w.freeze ⟨g,0,none⟩ xs.length) _ D (fun k hk=>?_) ?_ ?_ ?_ ?_ (kvg pt it o.type e hp hc g cur.size (kwj T) xs M (by omega) (by unfold maxLen at N;omega) fun j x V=>?_)
    ·rw [q] at hk;have hne:k≠g:=fun e=>hk (.of (by rw [e];rfl));unfold World.freeze;split;rfl
     ·simp only [Array.getElem?_modify];rw [qg (fun e=>hne e.symm)]
    unfold World.freeze;split <;> simp;unfold World.freeze;split <;> rfl;unfold World.freeze;split <;> rfl;unfold World.freeze;split <;> rfl
    ·have af:j<xs.length:=(qo.1 V).1;have hcl:cs.length=xs.length:=(by simpa using r.1);have m:cs[j]?=some (cs[j]'(by omega)):=qc _;have R:=E j (eU8 x) 0 _ (eU8 x) (by rw [qp,V];rfl) (by rw [Nat.mul_one,Nat.add_zero];exact m) rfl;rw [kaak R] at m;rw [kjj,Lib.cell_of_heap T];have:cur.toList[j]?=some (.int .u8 x):=by
      rw [<- Q] at m;rw [qaj] at m;split at m;exact m
      ·cases m
     simpa using this
theorem khl {x:Operand} {e e2:TypeId} {size n:Nat} {xs:List FV} (k:TOk P T) (ho:o.op = .call { callee := .builtin .len,args:=#[x],argTypes:=#[t] }) (hd:kat T t=some d) (hk:d.kind = .slice e2) (l:st.eval x = .row id n) (i:kab st.heap id=some (.frow e size xs)) (c:n=xs.length):
  NStep P o st (.fz (.atom (.int .i64 n))):=by
 intro ψ S a w j m;have h0:=Sim.eval_tmps j x;rw [l] at h0;obtain ⟨k0,p,cs,f,_⟩:=m id _ i;have hv:∃ A cap,a.eval x = .slice A n cap:=by
  generalize a.eval x=u at h0;cases h0 with
  | row hK hn h1 hv=>
   obtain rfl:=hv (by rw [k0,c]);rcases f.2 with ⟨b,h⟩ | ⟨g,cap,cur,b,_⟩;exact ⟨none,0,by rw [b,c,h]⟩
   ·exact ⟨some ⟨g,0,none⟩,cap,by rw [b,c]⟩
 obtain ⟨A,cap,hv⟩:=hv;refine kaj (w':=w) (v := .int .i64 n) ?_ ⟨kai _, .fz (.atom rfl)⟩;simp [execOp,ho,resolve,invoke,builtin,Builtin.len_,run_underlying ((k.get hd).slice hk),hv,goInt]
end
def fI (x:Int):AV := .fz (eI x)
def fB (x:Bool):AV := .fz (eB x)
def fS (x:BA):AV := .fz (eS x)
end Go.Proofs.YtaimpcnpifoidaaGreatDoor
