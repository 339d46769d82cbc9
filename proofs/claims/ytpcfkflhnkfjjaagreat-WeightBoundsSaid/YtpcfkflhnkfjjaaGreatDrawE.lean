import Derived.Test.YtpcfkflhnkfjjaaGreatRel
import Derived.Test.YtpcfkflhnkfjjaaGreatOpy
import Derived.Lib.Bytealg
set_option linter.all false
namespace Go.Proofs.YtpcfkflhnkfjjaaGreat
namespace RE
open Go Go.RowKit
structure Tr (M:Nat->Prop) (w w':World):Prop where
 os:w'.os=w.os
 tape:w'.tape=w.tape
 output:w'.output=w.output
 size:w.heap.size<=w'.heap.size
 block:∀ b,b<w.heap.size->¬ M b->w'.heap[b]?=w.heap[b]?
inductive Gd (M:Nat->Prop) where
 | det (c:Value)
 | rel (G:Value->World->Prop) (h:∀ v w w',G v w->Tr M w w'->G v w')
 | relE (G:Value->World->Prop) (h:∀ v w w',G v w->Below w.heap.size w w'->G v w')
def Gd.holds {M:Nat->Prop}:Gd M->Value->World->Prop
 | .det c,v,_=>v=c
 | .rel G _,v,w=>G v w
 | .relE G _,v,w=>G v w
section
variable {P:Program}
variable {M:Nat->Prop} {e:Nat} {D:World->Prop} {gs:List (Gd M)} {l:List Oper} {xs:Nat->Value} {a0:Act}
structure kaap {M:Nat->Prop} (e:Nat) (D:World->Prop) (gs:List (Gd M)) (l:List Oper) (C:World->Prop) (a0:Act) (listed:Array Bool) (a:Act) (w:World):Prop where
 inC:C w
 inD:listed.getD e false=false->D w
 defers:a.defers=a0.defers
 size:a.tmps.size=a0.tmps.size
 lsize:listed.size=l.length
 closed:∀ k o,listed.getD k false=true->l[k]?=some o->∀ e∈o.after,Region.binds .any e=true->listed.getD e.on false=true
 vals:∃ xs:Nat->Value,∀ j g,gs[j]?=some g->listed.getD j false=true->g.holds (xs j) w/\∀ o d,l[j]?=some o->o.dst=some d->a.tmps[d]?=some (xs j)
 rest:∀ t,(∀ j o,listed.getD j false=true->l[j]?=some o->o.dst≠some t)->a.tmps[t]?=a0.tmps[t]?
end
end RE
def kor (P:Program) (o:Oper) (st:St) (m:Nat) (om:AObj) (c:AV) (om':AObj):Prop:=
 ∀ F S0 N0 ψ S a w,(∀ t,RV ψ (·∈st.ids) S w (a.tmps.getD t undef) (st.get t))->Core F S0 N0 [(m,om)] st.ids ψ S w->kh2 P o a w fun v w'=>∃ n u,Core F S0 N0 [(m,om')] st.ids (ψ.set m n u) S w'/\RV (ψ.set m n u) (·∈st.ids) S w' v c/\Fr F w w' /\
  (ψ.len m<n\/(ψ.len m=n/\u=ψ.val m))/\(∀ b,Blk u b->Blk (ψ.val m) b\/w.heap.size<=b)
section
variable {P:Program} {F S0:Nat->Prop} {N0:Nat} {w w':World} {S S':Nat->Prop} {ψ ψ':Env} {K K':Nat->Prop} {o:Oper} {a:Act} {st:St} {T:List (TypeId×TD)} {t:TypeId} {d:TD}
def k3i (st:St) (id n:Nat):List Nat->Prop
 | []=>True
 | t::ts=>st.get t = .row id n/\k3i st id n ts
def kre (x:AV) (base:List (Nat×AV)):List Nat->List (Nat×AV)
 | []=>base
 | t::ts=>(t,x)::kre x base ts
theorem kpt {id n:Nat} {e:TypeId} {size:Nat} {xs:List FV} (ts:List Nat) (f:k3i st id n ts) (d:kae st.heap id=some (.frow e size xs)) (hn:n=xs.length):
  LeSt st { st with tmps:=kre (.fz (.lst size n xs)) st.tmps ts,heap:=kci id st.heap }:=by
 subst hn;intro F S0 N0 ψ S a w hs;obtain ⟨c1,c2⟩:=kke hs.core d;have c:∀ k,RV ψ (·∈st.ids) (fun b=>S b\/ka1 (ψ.val id)=some b) w (a.tmps.getD k undef) (st.get k):=fun k=>(hs.tmps k).mono (fun _ h=>h) fun _ h => .inl h;have h0:=(hs.core.obj id _ d).2.1.1;refine ⟨ψ,_,hs.defers,hs.size,fun k=>?_,c1⟩;show RV ψ (·∈st.ids) _ w (a.tmps.getD k undef) (look .any (kre (.fz (.lst size xs.length xs)) st.tmps ts) k)
 induction ts with
 | nil=>exact c k
 | cons t ts ih=>
  simp only [kre,kcd];split
  ·rename_i hk;subst hk;have hv:=c t;rw [f.1] at hv;refine .fz ?_;generalize a.tmps.getD t undef=u at hv;cases hv with
   | row hK g h1 hv=>rw [hv (by rw [h0])];exact c2
  ·exact ih f.2
theorem klx {st':St} {ids:List Nat} {ts:List (Nat×C1)} {c:AV} (h:coSt st ids ts []=some st') (hn:NStep P o st' c):NStep P o st c:=by
 unfold coSt at h;cases hi:ids.all st.ids.contains with
 | false=>rw [hi] at h;simp at h
 | true=>
  cases h1:kqe st ids ts with
  | none=>rw [hi,h1] at h;simp at h
  | some r=>
   rw [hi,h1] at h;simp only [kqd,ql] at h;subst h;have d:∀ id,id∈ids->id∈st.ids:=fun id e=>(by simpa using qr.1 hi id e);intro ψ S a w ht g;refine kna ?_ (hn ψ S a w (fun t=>?_) (fun id ob ho=>by cases ho));rintro v w' ⟨k1,k2⟩;exact ⟨k1,k2.mono d fun _ h=>h⟩
   ·show RV ψ (·∈ids) S w _ (look .any r t);rcases kqn t h1 with b | ⟨c',b,f⟩;rw [b];exact .any
    ·rw [b];rw [b] at *
     exact (kns (ht t)).sub1 f
theorem ks4 {e:TypeId} {size:Nat} {xs:List FV} {v:Value} {cs:List Value} (k:0<size) (d:w.ownsRow 0 e size v xs.length cs) (n:ElR size xs) (hr:RowR S w size xs cs):RF (fun b=>S b\/ka1 v=some b) w v (.lst size xs.length xs):=by
 rcases d.2 with ⟨hv,o⟩ | ⟨g,cap,cur,hv,_,r,p,l,s,q⟩;have:xs=[]:=qa0 o;subst this;rw [hv];exact .lst (A:=none) (cap:=0) (xs:=[]) (fun _=>[]) rfl (qx _) (by omega) k (fun i x a=>by simp at a) (fun i x a=>by simp at a) (fun i x j v y a=>by simp at a)
 ·rw [hv];have m:∀ i x,xs[i]?=some x->(i+1)*size<=cs.length:=fun i x a=>by rw [d.1];exact Nat.mul_le_mul_right _ (qj.1 a).1
  refine .lst (fun i=>(cs.drop (i*size)).take size) rfl p (by unfold maxLen at l;exact l) k (fun i x a=>⟨g,0,rfl, .inr (by rfl),fun j u f=>?_⟩) (fun i x a=>?_) fun i x j v y a c t=>?_
  ·rw [qag] at f;split at f
   ·rw [qau,<- q,qag] at f;split at f;simp only [World.cell?,r,Nat.zero_add];simpa using f
    ·cases f
   ·cases f
  have:=m i x a;rw [Nat.add_mul] at this;exact ⟨by rw [qak,qa1];omega,n x (qm a)⟩
  ·rw [qag] at c;split at c;rw [qau] at c;exact (hr i x j v y a c t).mono fun _ h => .inl h
   ·cases c
theorem k3d {f:FuncId} {fn:Func} {ts:Array TypeId} {X Y:Operand} {s:BA} {c:Int} (ho:o.op = .call { callee := .value (.func f),args:=#[X,Y],argTypes:=ts }) (hf:P.funcs[f]?=some fn)
  (b : (fn.name == "runtime.NumGoroutine") = false := by kernel_rfl) (e : fn.body.isNone = true := by kernel_rfl) (hn : Extern.findNext fn = none := by kernel_rfl) (g : Extern.find fn = some Extern.BytealgIndexByte.indexByte := by kernel_rfl) (h : st.eval X = .fz (eS s) := by kernel_rfl) (i : st.eval Y = .fz (eU8 c) := by kernel_rfl) : NStep P o st (.fz (eI (Lib.indexByte s.data.toList c.toNat.toUInt8))) := by
 intro ψ S a w ht j;have h1:=Sim.eval_tmps ht X;rw [h] at h1;have h1:=h1.atom;have d:=Sim.eval_tmps ht Y;rw [i] at d;have d:=d.atom;refine kai (w':=w) (v := .int .i64 (Lib.indexByte s.data.toList c.toNat.toUInt8)) ?_ ⟨kaj _, .fz (.atom rfl)⟩;have h0:a.eval (.func f) = .func (.func f) #[] #[]:=rfl;simp [execOp,ho,resolve,h0,Deferred.ofValue,invoke,run_callFunc_extern hf b e hn g,h1,d,Lib.run_indexByteString]
end
end Go.Proofs.YtpcfkflhnkfjjaaGreat
