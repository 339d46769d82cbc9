import Derived.Test.YtaimpcnpifoidaaGreatDoorRel
import Derived.Test.YtaimpcnpifoidaaGreatDoorOpy
import Derived.Lib.Bytealg
set_option linter.unusedVariables false
set_option linter.unusedSimpArgs false
namespace Go.Proofs.YtaimpcnpifoidaaGreatDoor
namespace RE
open Go Go.RowKit
structure Tr (M:Nat→Prop) (w w':World):Prop where
 os:w'.os=w.os
 tape:w'.tape=w.tape
 output:w'.output=w.output
 size:w.heap.size≤w'.heap.size
 block:∀ b,b<w.heap.size→¬ M b→w'.heap[b]?=w.heap[b]?
inductive Gd (M:Nat→Prop) where
 | det (c:Value)
 | rel (G:Value→World→Prop) (h:∀ v w w',G v w→Tr M w w'→G v w')
 | relE (G:Value→World→Prop) (h:∀ v w w',G v w→Below w.heap.size w w'→G v w')
def Gd.holds {M:Nat→Prop}:Gd M→Value→World→Prop
 | .det c,v,_=>v=c
 | .rel G _,v,w=>G v w
 | .relE G _,v,w=>G v w
section
variable {P:Program}
variable {M:Nat→Prop} {e:Nat} {D:World→Prop} {gs:List (Gd M)} {l:List Oper} {xs:Nat→Value} {a0:Act}
structure kajy {M:Nat→Prop} (e:Nat) (D:World→Prop) (gs:List (Gd M)) (l:List Oper) (C:World→Prop) (a0:Act) (listed:Array Bool) (a:Act) (w:World):Prop where
 inC:C w
 inD:listed.getD e false=false→D w
 defers:a.defers=a0.defers
 size:a.tmps.size=a0.tmps.size
 lsize:listed.size=l.length
 closed:∀ k o,listed.getD k false=true→l[k]?=some o→∀ e∈o.after,Region.binds .any e=true→listed.getD e.on false=true
 vals:∃ xs:Nat→Value,∀ j g,gs[j]?=some g→listed.getD j false=true→g.holds (xs j) w∧∀ o d,l[j]?=some o→o.dst=some d→a.tmps[d]?=some (xs j)
 rest:∀ t,(∀ j o,listed.getD j false=true→l[j]?=some o→o.dst≠some t)→a.tmps[t]?=a0.tmps[t]?
end
end RE
end Go.Proofs.YtaimpcnpifoidaaGreatDoor
set_option linter.unusedVariables false
set_option linter.unusedSimpArgs false
namespace Go.Proofs.YtaimpcnpifoidaaGreatDoor
open Go Go.RowKit
def ko2 (P:Program) (o:Oper) (st:St) (m:Nat) (om:AObj) (c:AV) (om':AObj):Prop:=
 ∀ F S0 N0 ψ S a w,(∀ t,RV ψ (·∈st.ids) S w (a.tmps.getD t undef) (st.get t))→Core F S0 N0 [(m,om)] st.ids ψ S w→khr P o a w fun v w'=>∃ n u,Core F S0 N0 [(m,om')] st.ids (ψ.set m n u) S w'∧RV (ψ.set m n u) (·∈st.ids) S w' v c∧Fr F w w' ∧
  (ψ.len m<n∨(ψ.len m=n∧u=ψ.val m))∧(∀ b,Blk u b→Blk (ψ.val m) b∨w.heap.size≤b)
section
variable {P:Program} {F S0:Nat→Prop} {N0:Nat} {w w':World} {S S':Nat→Prop} {ψ ψ':Env} {K K':Nat→Prop} {o:Oper} {a:Act} {st:St} {T:List (TypeId×TD)} {t:TypeId} {d:TD}
def kac0 (st:St) (id n:Nat):List Nat→Prop
 | []=>True
 | t::ts=>st.get t = .row id n∧kac0 st id n ts
def k2m (x:AV) (base:List (Nat×AV)):List Nat→List (Nat×AV)
 | []=>base
 | t::ts=>(t,x)::k2m x base ts
theorem koz {id n:Nat} {e:TypeId} {size:Nat} {xs:List FV} (ts:List Nat) (hx:kac0 st id n ts) (hob:kab st.heap id=some (.frow e size xs)) (hn:n=xs.length):
  LeSt st { st with tmps:=k2m (.fz (.lst size n xs)) st.tmps ts,heap:=kc2 id st.heap }:=by
 subst hn
 intro F S0 N0 ψ S a w hs
 obtain ⟨c1,c2⟩:=ko3 hs.core hob
 have hold:∀ k,RV ψ (·∈st.ids) (fun b=>S b∨kb1 (ψ.val id)=some b) w (a.tmps.getD k undef) (st.get k):=fun k=>(hs.tmps k).mono (fun _ h=>h) fun _ h => .inl h
 have h0:=(hs.core.obj id _ hob).2.1.1
 refine ⟨ψ,_,hs.defers,hs.size,fun k=>?_,c1⟩
 show RV ψ (·∈st.ids) _ w (a.tmps.getD k undef) (look .any (k2m (.fz (.lst size xs.length xs)) st.tmps ts) k)
 induction ts with
 | nil=>exact hold k
 | cons t ts ih=>
  simp only [k2m,kdg]
  split
  ·rename_i hk
   subst hk
   have hv:=hold t
   rw [hx.1] at hv
   refine .fz ?_
   generalize a.tmps.getD t undef=u at hv
   cases hv with
   | row hK hn' h1 hv=>rw [hv (by rw [h0])];exact c2
  ·exact ih hx.2
theorem kafl {st':St} {ids:List Nat} {ts:List (Nat×C1)} {c:AV} (h:coSt st ids ts []=some st') (hn:NStep P o st' c):NStep P o st c:=by
 unfold coSt at h
 cases hi:ids.all st.ids.contains with
 | false=>rw [hi] at h;simp at h
 | true=>
  cases h1:ksw st ids ts with
  | none=>rw [hi,h1] at h;simp at h
  | some r=>
   rw [hi,h1] at h
   simp only [ksy,qh] at h
   subst h
   have hin:∀ id,id∈ids→id∈st.ids:=fun id hid=>by simpa using qm.1 hi id hid
   intro ψ S a w ht hob
   refine kud ?_ (hn ψ S a w (fun t=>?_) (fun id ob ho=>by cases ho))
   ·rintro v w' ⟨k1,k2⟩
    exact ⟨k1,k2.mono hin fun _ h=>h⟩
   ·show RV ψ (·∈ids) S w _ (look .any r t)
    rcases kul t h1 with h' | ⟨c',h',hok⟩
    ·rw [h'];exact .any
    ·rw [h']
     rw [h'] at *
     exact (ksz (ht t)).sub1 hok
theorem kw5 {e:TypeId} {size:Nat} {xs:List FV} {v:Value} {cs:List Value} (hsz:0<size) (hown:w.ownsRow 0 e size v xs.length cs) (hel:ElR size xs) (hr:RowR S w size xs cs):RF (fun b=>S b∨kb1 v=some b) w v (.lst size xs.length xs):=by
 rcases hown.2 with ⟨hv,hx0⟩ | ⟨g,cap,cur,hv,_,hh,hnc,hcm,hcs,htk⟩
 ·have:xs=[]:=qz hx0
  subst this
  rw [hv]
  exact .lst (A:=none) (cap:=0) (xs:=[]) (fun _=>[]) rfl (qw _) (by omega) hsz (fun i x hx=>by simp at hx) (fun i x hx=>by simp at hx) (fun i x j v y hx=>by simp at hx)
 ·rw [hv]
  have hlen:∀ i x,xs[i]?=some x→(i+1)*size≤cs.length:=fun i x hx=>by
   rw [hown.1];exact Nat.mul_le_mul_right _ (List.getElem?_eq_some_iff.1 hx).1
  refine .lst (fun i=>(cs.drop (i*size)).take size) rfl hnc (by unfold maxLen at hcm;exact hcm) hsz (fun i x hx=>⟨g,0,rfl, .inr (by rfl),fun j u hu=>?_⟩) (fun i x hx=>?_) fun i x j v y hx hv' hy=>?_
  ·rw [List.getElem?_take] at hu
   split at hu
   ·rw [List.getElem?_drop,← htk,List.getElem?_take] at hu
    split at hu
    ·simp only [World.cell?,hh,Nat.zero_add]
     simpa using hu
    ·cases hu
   ·cases hu
  ·have:=hlen i x hx
   rw [Nat.add_mul] at this
   exact ⟨by rw [qai,qaq];omega,hel x (qt hx)⟩
  ·rw [List.getElem?_take] at hv'
   split at hv'
   ·rw [List.getElem?_drop] at hv'
    exact (hr i x j v y hx hv' hy).mono fun _ h => .inl h
   ·cases hv'
theorem kace {f:FuncId} {fn:Func} {ts:Array TypeId} {X Y:Operand} {s:BA} {c:Int} (ho:o.op = .call { callee := .value (.func f),args:=#[X,Y],argTypes:=ts }) (hf:P.funcs[f]?=some fn)
  (hname : (fn.name == "runtime.NumGoroutine") = false := by kernel_rfl) (hb : fn.body.isNone = true := by kernel_rfl) (hn : Extern.findNext fn = none := by kernel_rfl) (he : Extern.find fn = some Extern.BytealgIndexByte.indexByte := by kernel_rfl) (hx : st.eval X = .fz (eS s) := by kernel_rfl) (hy : st.eval Y = .fz (eU8 c) := by kernel_rfl) : NStep P o st (.fz (eI (Lib.indexByte s.data.toList c.toNat.toUInt8))) := by
 intro ψ S a w ht hO
 have h1:=Sim.eval_tmps ht X
 rw [hx] at h1
 have h1:=h1.atom
 have h2:=Sim.eval_tmps ht Y
 rw [hy] at h2
 have h2:=h2.atom
 refine kam (w':=w) (v := .int .i64 (Lib.indexByte s.data.toList c.toNat.toUInt8)) ?_ ⟨kaj _, .fz (.atom rfl)⟩
 have h0:a.eval (.func f) = .func (.func f) #[] #[]:=rfl
 simp [execOp,ho,resolve,h0,Deferred.ofValue,invoke,run_callFunc_extern hf hname hb hn he,h1,h2,Lib.run_indexByteString]
end
end Go.Proofs.YtaimpcnpifoidaaGreatDoor
