import Derived.Test.YtpnnpkmjohkgiaaGreatDoorHd
import Derived.Laws.StructEq
import Derived.Laws.BytesString
import Derived.Lib.ConvBytes
import Derived.Deep.AppendSrc
import Derived.Lib.Builder
import Derived.Lib.AppendStr
import Derived.Lib.UnsafeStr
set_option linter.all false
namespace Go.Proofs.YtpnnpkmjohkgiaaGreatDoor
open Go Go.RowKit
def toBA (xs:List Int):BA:=xs.foldl (fun r n=>r.push (UInt8.ofNat n.toNat)) ByteArray.empty
section
variable {P:Program} {F S0:Nat->Prop} {N0:Nat} {w w':World} {S S':Nat->Prop} {ψ:Env} {K:Nat->Prop} {T:List (TypeId×TD)} {o:Oper} {a:Act} {st:St} {t:TypeId} {d:TD} {id:Nat}
theorem kt3 {sr:TypeId} {x:Operand} {k k':IntKind} {n:Int} {ds:TD} (b:TOk P T) (ho:o.op = .convert sr t x) (hs:kad T sr=some ds) (c:kad T t=some d) (hk:d.kind = .int k) (f:st.eval x = .fz (.atom (.int k' n))):NStep P o st (.fz (.atom (.int k (k.wrap n)))):=by obtain ⟨_,e,h1,_⟩:=b.get hs;obtain ⟨_,e',g,a⟩:=b.get c;rw [hk] at a;cases e' <;> simp only [kai] at a;subst a;exact k01 (ds:=ds) ho ⟨_,h1⟩ g f
theorem kqq {sr:TypeId} {x:Operand} {s:BA} {ds:TD} (c:TOk P T) (ho:o.op = .convert sr t x) (hs:kad T sr=some ds) (b:ds.kind = .str) (e:kad T t=some d) (hk:d.kind = .str) (f:st.eval x = .fz (.atom (.string s))):NStep P o st (.fz (.atom (.string s))):=by intro ψ S a w ht g;have h1:=Sim.eval_tmps ht x;rw [f] at h1;refine kaf (w':=w) (v := .string s) ?_ ⟨kag _, .fz (.atom rfl)⟩;simp [execOp,ho,h1.atom,convert,run_underlying ((c.get hs).str b),run_underlying ((c.get e).str hk)]
theorem ku0 {n:Nat} {parts:Array (Nat×Operand)} {e:TypeId} {de:TD} {xs:List FV} (ho:o.op = .buildSlice t n parts) (X:TdOk P t d) (hk:d.kind = .slice e) (I:TdOk P e de) (g:0<de.size) (hn:xs.length=n) (T:n*de.size<=16777216)
  (hp:kf2 de.size 0 (kbv st parts)=some xs) (A:st.ids.contains id=false):StepA P o st (.row id n) ((id, .frow e de.size xs)::st.heap) (id::st.ids):=by
 have A:id∉st.ids:=by simpa using A
 subst hn;intro F S0 N0 ψ S a w J;have ht:=J.tmps;obtain ⟨e1,e2⟩:=kf3 ht parts;obtain ⟨p1,p2⟩:=kjn hp;obtain ⟨vs,C⟩:∃ vs:List Value,vs=parts.toList.map (fun p=>a.eval p.2):=⟨_,rfl⟩;have f:parts.toList.length=xs.length:=by
  have:(kbv st parts).length=xs.length:=by rw [p1];simp
  simpa [kbv] using this
 have D:vs.length=xs.length:=by rw [C];simp at f ⊢; exact f
 have k:∀ (i:Nat) (x:FV),xs[i]?=some x->∃ v p,vs[i]?=some v/\parts.toList[i]?=some p/\p.1=i/\RF S w v x:=fun i x B=>by
  have hi:i<parts.toList.length:=by rw [f];exact (qd.1 B).1
  have Y:(kbv st parts)[i]?=some (i, .fz x):=by rw [p1];simp [B]
  have E:parts.toList[i]?=some parts.toList[i]:=qa hi;have L:(parts.map fun (i,x)=>(i,a.eval x)).toList[i]?=some (parts.toList[i].1,a.eval parts.toList[i].2):=by simp [E]
  obtain ⟨r1,r2⟩:=e2 i _ _ L Y;exact ⟨a.eval parts.toList[i].2,parts.toList[i],by rw [C,qr,E];rfl,E,r1,r2.inv⟩
 have M:(parts.map fun (i,x)=>(i,a.eval x)).toList=(vs.zipIdx 0).map (fun x=>(x.2,x.1)):=by
  apply List.ext_getElem?;intro i;by_cases hi:i<xs.length;obtain ⟨v,p,h1,U,Z,_⟩:=k i xs[i] (qa hi);have:v=a.eval p.2:=(by rw [C,qr,U] at h1;simpa using h1.symm);simp only [Array.toList_map,qr,List.getElem?_zipIdx,h1,U,qa9,Nat.zero_add];rw [this,Z]
  ·rw [qan (by simp at f ⊢; omega),qan (by simp [D];omega)]
 have c:∀ v∈vs,v.cells.size=de.size:=fun v hv=>by obtain ⟨i,hi,rfl⟩:=qak.1 hv;obtain ⟨v,p,h1,_,_,N⟩:=k i xs[i] (qa (by omega));rw [qa hi] at h1;injection h1 with h1;rw [h1,(N.cells (p2 _ (qo _)).2).1,(p2 _ (qo _)).1]
 obtain ⟨z,O,aa⟩:=I.zero (P:=P) (w:=w);obtain ⟨cells,hcl⟩:∃ cells:Array Value,cells=(vs.flatMap fun v=>v.cells.toList).toArray:=⟨_,rfl⟩;have K:(Instr.buildSlice t xs.length (parts.map fun (i,x)=>(i,a.eval x))).run P w = .ok (.slice (some ⟨w.heap.size,0,none⟩) xs.length xs.length) (w.alloc (.cells cells e)):=by
  have Q:¬ xs.length*de.size > 2 ^ 24:=by omega
  have m:∀ c0:Array Value,xs.length*de.size=c0.size->Instr.fill (fun i=>some (i*de.size,de.size)) c0 (parts.map fun (i,x)=>(i,a.eval x)).toList=some cells:=fun c0 R=>by rw [M,Great.fill_whole g vs c0 c (by rw [D];exact R),hcl]
  unfold Instr.buildSlice;rw [Sem.run_bind,run_underlying (X.slice hk),Result.andThen_ok];simp only [Sem.run_bind,I.size,Result.andThen_ok,qh Q];by_cases h0:xs.length*de.size=0
  ·simp only [qq h0,Sem.run_bind,Sem.run_pure,Result.andThen_ok];rw [m];rfl
   ·simp
  ·simp only [qh h0,Sem.run_bind,O,Result.andThen_ok,Sem.run_pure];rw [m];rfl
   ·simp
 have q:cells.toList.length=xs.length*de.size:=by
  rw [hcl];have:∀ l:List Value,(∀ v∈l,v.cells.size=de.size)->(l.flatMap fun v=>v.cells.toList).length=l.length*de.size:=fun l=>by
   induction l with
   | nil=>intro _;simp
   | cons v l ih=>
    intro h;rw [List.flatMap_cons,List.length_append,ih fun u hu=>h u (qs _ hu),qas,h v (qv ..),List.length_cons,Nat.succ_mul,Nat.add_comm]
  simpa [D] using this vs c
 have r:=J.core;have G:Grow w (w.alloc (.cells cells e)):=ka7 _ _;refine kaf (w':=w.alloc (.cells cells e)) (v := .slice (some ⟨w.heap.size,0,none⟩) xs.length xs.length) ?_ ⟨ψ.set id xs.length (.slice (some ⟨w.heap.size,0,none⟩) xs.length xs.length),S,?_,?_,kel _ r.fr,kb2 A _ _,fun _ h=>qs _ h,fun _ h=>h,Same.of_grow G⟩;have s:=K;simp only [execOp,ho,Sem.run_bind];rw [show (parts.map fun (i,x)=>(i,a.eval x))=parts.map (fun x=>(x.1,a.eval x.2)) from rfl] at s;simp [s]
 ·refine r.add G A (fun b T=>by simp [kav] at T;omega) ⟨kbz _ _,g,cells.toList,?_,fun x B=>p2 x B,fun i x j v y B hv hy=>?_⟩
  ·rw [kar];refine ⟨q, .inr ⟨w.heap.size,xs.length,cells,rfl,qar _,heap_alloc_new w _,qt _,?_,by simpa using q,?_⟩⟩;have:xs.length*1<=xs.length*de.size:=Nat.mul_le_mul_left _ g;unfold maxLen;omega
   ·rw [<- q,qal]
  ·obtain ⟨u,p,h1,_,_,N⟩:=k i x B;have V:j<de.size:=(by have:=(qd.1 hy).1;rw [(p2 x (qm B)).1] at this;exact this);have H:=Great.flat_get g vs c (i*de.size+j);rw [show (i*de.size+j) / de.size=i by rw [Nat.mul_comm,Nat.mul_add_div g,Nat.div_eq_of_lt V];omega,show (i*de.size+j) % de.size=j by rw [Nat.mul_comm,Nat.mul_add_mod,Nat.mod_eq_of_lt V],h1] at H;simp only [qc] at H;rw [hcl] at hv;simp only [] at hv;rw [H] at hv;have:=(N.cells (p2 x (qm B)).2).2.1 j v y (by simpa using hv) hy;exact this.keep (Same.of_grow G)
 ·exact .row (qv ..) (by rw [kbz];exact qt _) rfl fun _=>(kar _ _).symm
theorem kw2 {α:Type} {enc:α->FV} {n:Nat} {parts:Array (Nat×Operand)} {e:TypeId} {de:TD} {xs:List α} (c:TOk P T) (ho:o.op = .buildSlice t n parts) (f:kad T t=some d) (hk:d.kind = .slice e) (a:kad T e=some de) (g:Nat.ble 1 de.size=true) (hn:xs.length=n) (h:Nat.ble (n*de.size) 16777216=true:=by kernel_rfl) (hp:kf2 de.size 0 (kbv st parts)=some (xs.map enc):=by kernel_rfl) (b:st.ids.contains id=false:=by kernel_rfl):StepA P o st (.row id xs.length) ((id, .frow e de.size (xs.map enc))::st.heap) (id::st.ids):=by have:=ku0 (id:=id) ho (c.get f) hk (c.get a) (qk g) (by simpa using hn) (qk h) hp b;rw [<- hn] at this;exact this
end
section
variable {P:Program} {F S0:Nat->Prop} {N0:Nat} {w w':World} {S S':Nat->Prop} {ψ:Env} {K:Nat->Prop} {T:List (TypeId×TD)} {o:Oper} {a:Act} {st:St} {t:TypeId} {d:TD} {id:Nat}
theorem kho {x:Operand} {e e2:TypeId} {size n:Nat} {xs:List FV} (k:TOk P T) (ho:o.op = .call { callee := .builtin .len,args:=#[x],argTypes:=#[t] }) (l:kad T t=some d) (hk:d.kind = .slice e2) (m:st.eval x = .row id n) (i:kab st.heap id=some (.frow e size xs)) (c:n=xs.length):
  NStep P o st (.fz (.atom (.int .i64 n))):=by
 intro ψ S a w j p;have h0:=Sim.eval_tmps j x;rw [m] at h0;obtain ⟨k0,q,cs,f,_⟩:=p id _ i;have hv:∃ A cap,a.eval x = .slice A n cap:=by
  generalize a.eval x=u at h0;cases h0 with
  | row hK hn h1 hv=>
   obtain rfl:=hv (by rw [k0,c]);rcases f.2 with ⟨b,h⟩ | ⟨g,cap,cur,b,_⟩;exact ⟨none,0,by rw [b,c,h]⟩
   ·exact ⟨some ⟨g,0,none⟩,cap,by rw [b,c]⟩
 obtain ⟨A,cap,hv⟩:=hv;refine kaf (w':=w) (v := .int .i64 n) ?_ ⟨kag _, .fz (.atom rfl)⟩;simp [execOp,ho,resolve,invoke,builtin,Builtin.len_,run_underlying ((k.get l).slice hk),hv,goInt]
end
def fI (x:Int):AV := .fz (eI x)
def fB (x:Bool):AV := .fz (eB x)
end Go.Proofs.YtpnnpkmjohkgiaaGreatDoor
