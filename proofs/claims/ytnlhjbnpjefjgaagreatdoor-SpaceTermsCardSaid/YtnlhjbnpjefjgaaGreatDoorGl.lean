import Derived.Test.YtnlhjbnpjefjgaaGreatDoorXk
import Derived.Test.YtnlhjbnpjefjgaaGreatDoorOpr
import Derived.Test.YtnlhjbnpjefjgaaGreatDoorMach
import Derived.Test.YtnlhjbnpjefjgaaGreatDoorMz
import Derived.Test.YtnlhjbnpjefjgaaGreatDoorKz
import Derived.Test.YtnlhjbnpjefjgaaGreatDoorProg
import Derived.Test.YtnlhjbnpjefjgaaGreatDoorRows
import Derived.Lib.LaidTab
import Derived.LaidLaws
import Derived.LaidHandle
import Derived.OpenShut
import Derived.ChangeSame
set_option linter.all false
namespace Go.Proofs.YtnlhjbnpjefjgaaGreatDoor
open Go Go.RowKit Go.Proofs.Tryz
variable {P:Program} {F S0:Nat->Prop} {N0:Nat} {w w' w0:World} {S S' SB:Nat->Prop} {ψ ψ':Env} {K:Nat->Prop} {T:List (TypeId×TD)} {Z:List (TypeId×Value)} {o:Oper} {a a':Act} {st st' st1 st2:St} {t tx:TypeId} {d:TD} {id:Nat} {c:AV} {s s1 s2:XS} {e:Exit} {C:Cx} {ih:EvT} {heap:List (Nat×AObj)}
theorem ky0 {x:FV} (h:x.single=true):x.cells=[x]:=by cases x <;> first | rfl | cases h
theorem ku6:∀ {sz n:Nat} {l ys:List FV},(∀ x∈l,x.single=true)->kmv sz n l=some ys->ys.length=n/\l.length=n*sz/\∀ (i:Nat) (x:FV),ys[i]?=some x->x.cells=(l.drop (i*sz)).take sz/\x.cells.length=sz
 | sz,0,l,ys,h1,h=>by
  cases l with
  | nil=>
   simp only [kmv,qc] at h;subst h;exact ⟨rfl,by simp,fun i x h=>by simp at h⟩
  | cons x l=>simp only [kmv] at h;cases h
 | sz,n+1,l,ys,h1,h=>by
  have gen:∀ (y:FV) (r:List FV),kmv sz n (l.drop sz)=some r->(l.take sz).length=sz->y.cells=l.take sz->ys=y::r->ys.length=n+1/\l.length=(n+1)*sz/\∀ (i:Nat) (x:FV),ys[i]?=some x->x.cells=(l.drop (i*sz)).take sz/\x.cells.length=sz:=by
   intro y r hr hl hy b;subst b;obtain ⟨k1,k2,k3⟩:=ku6 (fun x a=>h1 x (qbk a)) hr;have c:sz<=l.length:=(by rw [qav] at hl;omega);rw [qba] at k2;refine ⟨by simp [k1],by rw [qbi];omega,fun i x a=>?_⟩;cases i with
   | zero=>
    simp only [List.getElem?_cons_zero,qc] at a;subst a;simp only [Nat.zero_mul,List.drop_zero];exact ⟨hy,by rw [hy];exact hl⟩
   | succ i=>
    simp only [qax] at a;obtain ⟨q1,q2⟩:=k3 i x a;rw [List.drop_drop] at q1;exact ⟨by rw [q1];congr 2;rw [qbi];omega,q2⟩
  simp only [kmv] at h;split at h
  ·rename_i y r hy hr;injection h with h;unfold mkEl at hy;replace hy:=kaq hy;obtain ⟨d,hy⟩:=hy;refine gen y r hr (qi d) ?_ h.symm;split at hy;rename_i x a;injection hy with hy;subst hy;rw [a];exact ky0 (h1 x (qa8 (by rw [a];exact q9.2 rfl)))
   ·injection hy with hy;subst hy;rfl
  ·cases h
theorem kzd {v:Value} {r:FV} {S':Nat->Prop} {w':World} (h:RF S w v r) (ha:atF r=true):RF S' w' v r:=by
 cases h with
 | atom h=>exact .atom h
 | @tup cs xs hl hr=>
  refine .tup hl fun i u x b a=>?_;have:=qu.1 ha x (qk a);cases x <;> simp at this;cases hr i u _ b a with
  | atom h=>exact .atom h
 | @agg cs xs hl h1 hr=>
  refine .agg hl h1 fun i u x b a=>?_;have:=qu.1 ha x (qk a);cases x <;> simp at this;cases hr i u _ b a with
  | atom h=>exact .atom h
 | _=>cases ha
theorem kqv {H:Nat->Option AObj} {fr:Bool} (hS:fr=false->∀ b,S b->SB b) (G:∀ id o,H id=some o->ObR ψ K S w id o/\∀ b,Blk (ψ.val id) b->SB b):∀ fuel:Nat,
  (∀ (x:AV) (y:FV),frz H fr fuel x=some y->(x.single=true->y.single=true)/\∀ v,RV ψ K S w v x->RF SB w v y) /\
  (∀ (xs:List AV) (ys:List FV),frzs H fr fuel xs=some ys->xs.length=ys.length/\∀ (i:Nat) (x:AV) (y:FV),xs[i]?=some x->ys[i]?=some y->(x.single=true->y.single=true)/\∀ v,RV ψ K S w v x->RF SB w v y)
 | 0=>⟨(fun x y h=>by unfold frz at h;cases h),fun xs ys h=>by unfold frzs at h;cases h⟩
 | f+1=>by
  obtain ⟨ih1,ih2⟩:=kqv hS G f;constructor
  ·intro x y h;unfold frz at h;split at h;rename_i h0;cases h0
   ·replace h:=kaq h;obtain ⟨A,h⟩:=h;injection h with h;subst h;refine ⟨fun h=>h,fun v hv=>?_⟩;cases hf:fr with
    | false=>exact hv.inv.mono (hS hf)
    | true=>rw [hf,qbd,Bool.false_or] at A;exact kzd hv.inv A
   ·cases hf:fr with
    | true=>rw [hf] at h;cases h
    | false=>
     rw [hf] at h;injection h with h;subst h;refine ⟨fun _=>rfl,fun v hv=>?_⟩;cases hv with
     | lim h=>exact h.mono (hS hf)
   ·rename_i f' cs hf;cases hf;split at h
    ·rename_i xs k;injection h with h;subst h;obtain ⟨k1,k2⟩:=ih2 _ _ k;refine ⟨fun h=>(by cases h),fun v hv=>?_⟩;cases hv with
     | @agg vs _ q1 q2 q3=>
      refine .agg (by omega) (fun y hy=>?_) fun i u y d hy=>?_;obtain ⟨i,hi,rfl⟩:=qah.1 hy;have a:cs[i]?=some (cs[i]'(by omega)):=qa _;exact (k2 i _ _ a (qa hi)).1 (q2 _ (qo _))
      ·have hi:=(qd.1 hy).1;have a:cs[i]?=some (cs[i]'(by omega)):=qa _;exact (k2 i _ _ a hy).2 u (q3 i u _ d a)
    ·cases h
   ·rename_i f' cs hf;cases hf;split at h
    ·rename_i xs k;injection h with h;subst h;obtain ⟨k1,k2⟩:=ih2 _ _ k;refine ⟨fun h=>(by cases h),fun v hv=>?_⟩;cases hv with
     | @tup vs _ q1 q3=>
      refine .tup (by omega) fun i u y d hy=>?_;have hi:=(qd.1 hy).1;have a:cs[i]?=some (cs[i]'(by omega)):=qa _;exact (k2 i _ _ a hy).2 u (q3 i u _ d a)
    ·cases h
   ·rename_i f' id g off len cap hf;cases hf;split at h
    ·rename_i g' e sz cells ho;replace h:=kaq h;obtain ⟨A,h⟩:=h;obtain rfl:=qi A;split at h
     ·rename_i xs k;split at h
      ·rename_i ys B;injection h with h;subst h;refine ⟨fun _=>rfl,fun v hv=>?_⟩;obtain ⟨C,D⟩:=G id _ ho;obtain ⟨q0,qz,b,cs,n,cap',q1,q2,q3,q4,q5,q6,q7⟩:=C;obtain ⟨hK,b',c,p,rfl,E,hm,_⟩:=khv hv q0;rw [q1] at p;simp only [kar,qc] at p;subst p;obtain ⟨k1,k2⟩:=ih2 _ _ k;have m:∀ x∈xs,x.single=true:=fun x a=>(by obtain ⟨i,hi,rfl⟩:=qah.1 a;have s:i<((cells.drop off).take (len*sz)).length:=(by omega);exact (k2 i _ _ (qa s) (qa hi)).1 (q6 _ (qbk (qa8 (qo s)))));obtain ⟨m1,m2,m3⟩:=ku6 m B;have t:((cells.drop off).take (len*sz)).length=len*sz:=(by omega);have I:off+len*sz<=cells.length\/len*sz=0:=(by rw [qav,qba] at t;omega);have z:∀ (i:Nat),i<len->i*sz+sz<=len*sz:=fun i hi=>(by have:=qbe sz (show i+1<=len by omega);rw [qbi] at this;omega);refine .lst (fun i=>(cs.toList.drop (off+i*sz)).take sz) m1.symm E hm qz (fun i x a=>⟨b,off,rfl,D b (.of (by rw [q1];rfl)),fun j u d=>?_⟩) (fun i x a=>?_) fun i x j u y a d hy=>?_
       ·rw [qad] at d;split at d;rw [qan] at d;exact kri q2 (by simpa using d)
        ·cases d
       have hi:i<len:=(by rw [<- m1];exact (qd.1 a).1);have:=z i hi;obtain ⟨p1,p2⟩:=m3 i x a;refine ⟨by rw [qav,qba,qa7];omega,p2,fun y hy=>?_⟩;rw [p1] at hy;exact m y (qbk (qa8 hy))
       ·have hi:i<len:=(by rw [<- m1];exact (qd.1 a).1);have J:=z i hi;obtain ⟨p1,p2⟩:=m3 i x a;rw [p1,qad] at hy;rw [qad] at d;split at d;rename_i L;rw [qn L,qan] at hy;rw [qan] at d;have F:i*sz+j<len*sz:=(by omega);have hc:((cells.drop off).take (len*sz))[i*sz+j]?=some (((cells.drop off).take (len*sz))[i*sz+j]'(by omega)):=qa _;refine (k2 _ _ _ hc hy).2 u (q7 (off+(i*sz+j)) u _ (by rw [<- Nat.add_assoc];simpa using d) ?_);rw [qad,qn F,qan] at hc;exact hc
        ·cases d
      ·cases h
     ·cases h
    ·cases h
   ·cases h
  ·intro xs ys h;unfold frzs at h;split at h;rename_i h0;cases h0;injection h with h;subst h;exact ⟨rfl,fun i x y h=>by simp at h⟩
   ·rename_i f' x l hf;cases hf;split at h
    ·rename_i y r hy hr;injection h with h;subst h;obtain ⟨k1,k2⟩:=ih2 _ _ hr;refine ⟨by simp [k1],fun i x' y' a q=>?_⟩;cases i with
     | zero=>simp at a q;subst a q;exact ih1 _ _ hy
     | succ i=>exact k2 i x' y' (by simpa using a) (by simpa using q)
    ·cases h
theorem kzw {f:Nat} {xs:List FV} {y:AV} {r:FV} (h:ka3 P f (xs.map .fz) [] [] (.ret y) s1.heap (idsN s1.k)) (hr:frz (kaa s1.heap) false 1000 y=some r):PCall P f xs r:=by
 refine ⟨h.1,fun S w vs hs hv=>?_⟩;have d:∀ {v x},RF S w v x->RF (fun b=>S b/\b<w.heap.size) w v x:=fun h=>h.bound;refine (h.2 (fun b=>b<w.heap.size) (fun b=>S b/\b<w.heap.size) w.heap.size ⟨fun _=>0,fun _ => .nilFunc⟩ (fun b=>S b/\b<w.heap.size) w vs (by simpa using hs) (fun i v x g l=>?_) ⟨fun id o h=>(by cases h),fun i i' o o' b h=>(by cases h),fun b h=>h.2,fun b h => .inl h,qy _,fun b h=>h⟩).mono ?_;rw [ql,qw] at l;obtain ⟨z,m,rfl⟩:=l;exact .fz (d (hv i v z g m))
 ·rintro e w' ⟨ψ',S',⟨v,rfl,j⟩,a,c,_⟩;refine ⟨v,rfl,((kqv (SB:=fun b=>S b\/w.heap.size<=b) (fun _ b d=>?_) (fun id o ho=>⟨(a.obj id o ho).2.1,fun b d => .inr ?_⟩) 1000).1 y r hr).2 v j,⟨⟨c.os,c.tape,c.output,c.size,c.block⟩,no0⟩⟩
  ·rcases a.s0 b d with h | h;exact .inl h.1
   ·exact .inr h
  ·have:=((a.obj id o ho).2.2 b d).2.1;omega
theorem ks4 {u v:Value} (h:kwm u v=true):u=v:=by
 unfold kwm at h;split at h;simp only [qv,qay,beq_iff_eq] at h;rw [h.1,h.2];rw [kmb,MapKept.bytes_beq] at h;rw [h];simp at h;rw [h]
 all_goals first | rfl | cases h
mutual
theorem k8r:∀ {a b:FV},eqFV a b=true->a=b
 | .atom v,b,h=>by cases b <;> simp only [eqFV] at h <;> first | (rw [ks4 h]) | cases h
 | .agg v,b,h=>by cases b <;> simp only [eqFV] at h <;> first | (rw [kj2 h]) | cases h
 | .tup v,b,h=>by cases b <;> simp only [eqFV] at h <;> first | (rw [kj2 h]) | cases h
 | .lst s n v,b,h=>by
  cases b <;> simp only [eqFV] at h <;> try cases h
  simp only [qv] at h;rw [qi h.1,qi h.2.1,kj2 h.2.2]
 | .fp v,b,h=>by cases b <;> simp only [eqFV] at h <;> first | (rw [kj2 h]) | cases h
 | .bx v,b,h=>by cases b <;> simp only [eqFV] at h <;> first | (rw [kj2 h]) | cases h
theorem kj2:∀ {a b:List FV},kjr a b=true->a=b
 | [],[],_=>rfl
 | [],_::_,h=>by simp only [kjr] at h;cases h
 | _::_,[],h=>by simp only [kjr] at h;cases h
 | a::l,b::m,h=>by simp only [kjr,qv] at h;rw [k8r h.1,kj2 h.2]
end
theorem kwy {l:List (Nat×List FV×FV)} (hl:∀ p∈l,PCall P p.1 p.2.1 p.2.2) {f:Nat} {xs:List FV} {r:FV} (h:kth l f xs=some r):PCall P f xs r:=by
 induction l with
 | nil=>cases h
 | cons p l ih=>
  obtain ⟨g,as_,q⟩:=p;simp only [kth] at h;cases a:(Nat.beq g f && kjr as_ xs) with
  | true=>
   rw [a] at h;simp only [qe,qc] at h;subst h;simp only [qv] at a;have:=hl _ (qq ..)
   rwa [qi a.1,kj2 a.2] at this
  | false=>
   rw [a] at h;exact ih (fun p hp=>hl p (qh _ hp)) h
theorem kzf (hC:CxOk P C) (a:EvOk P ih) {f:Nat} {xs:List FV} {r:FV} (hr:kwh C ih f xs=some r):PCall P f xs r:=by
 unfold kwh at hr;split at hr;rename_i r' hf;injection hr with hr;subst hr;exact kwy hC.fx hf
 ·replace hr:=kaq hr;obtain ⟨_,hr⟩:=hr;split at hr;rename_i y s2 b;rw [H_eq []] at hr;exact kzw (kpl hC a b).1 hr
  ·cases hr
def PNew (P:Program) (f:FuncId) (args:List FV) (r:FV):Prop:=
 (∃ fn, P.funcs[f]? = some fn /\ fn.body.isNone = false /\ (fn.name == "runtime.NumGoroutine") = false) /\
 ∀ (S:Nat->Prop) (w:World) (vs:Array Value),vs.size=args.length->(∀ (i:Nat) (v:Value) (x:FV),vs[i]?=some v->args[i]?=some x->RF S w v x) ->
  Calls P f vs w fun e w'=>∃ v,e = .returned v/\RF (fun b=>w.heap.size<=b) w' v r/\Grow w w'
theorem kabu {f:Nat} {xs:List FV} {y:AV} {r:FV} (h:ka3 P f (xs.map .fz) [] [] (.ret y) s1.heap (idsN s1.k)) (hr:frz (kaa s1.heap) true 1000 y=some r):PNew P f xs r:=by
 refine ⟨h.1,fun S w vs hs hv=>?_⟩;have d:∀ {v x},RF S w v x->RF (fun b=>S b/\b<w.heap.size) w v x:=fun h=>h.bound;refine (h.2 (fun b=>b<w.heap.size) (fun b=>S b/\b<w.heap.size) w.heap.size ⟨fun _=>0,fun _ => .nilFunc⟩ (fun b=>S b/\b<w.heap.size) w vs (by simpa using hs) (fun i v x g l=>?_) ⟨fun id o h=>(by cases h),fun i i' o o' b h=>(by cases h),fun b h=>h.2,fun b h => .inl h,qy _,fun b h=>h⟩).mono ?_;rw [ql,qw] at l;obtain ⟨z,m,rfl⟩:=l;exact .fz (d (hv i v z g m))
 ·rintro e w' ⟨ψ',S',⟨v,rfl,j⟩,a,c,_⟩;refine ⟨v,rfl,((kqv (fr:=true) (SB:=fun b=>w.heap.size<=b) (fun h=>by cases h) (fun id o ho=>⟨(a.obj id o ho).2.1,fun b d=>?_⟩) 1000).1 y r hr).2 v j,⟨⟨c.os,c.tape,c.output,c.size,c.block⟩,no0⟩⟩;have:=((a.obj id o ho).2.2 b d).2.1;omega
theorem PNew.of_atF {f:Nat} {xs:List FV} {r:FV} (h:PCall P f xs r) (ha:atF r=true):PNew P f xs r:=
 ⟨h.1,fun S w vs hs hv=>(h.2 S w vs hs hv).mono fun e w' ⟨v,a,h1,b⟩=>⟨v,a,kzd h1 ha,b⟩⟩
theorem kzl (hC:CxOk P C) (k:EvOk P ih) {H:Nat->Option AObj} (z:∀ id ob,H id=some ob->kaa st.heap id=some ob) {f:Nat} {fst caps:List AV} {x:Operand} {args:Array Operand} {ts:Array TypeId} {r:FV} (ho:o.op = .call { callee := .value x,args:=args,argTypes:=ts }) (c:kj7 st.eval x=some (f,fst,caps)) (hr:kwc C ih H f (fst++(args.toList.map st.eval++caps))=some r):NStep P o st (.fz r):=by
 unfold kwc at hr;split at hr
 ·rename_i xs d;split at hr;rename_i u cc n;injection hr with hr;subst hr;exact ib_n ho c d (hC.ib f (by simpa using n))
  ·exact k9z ho c d (kzf hC k hr)
 ·split at hr
  ·rename_i xs d;have h:=kzf hC k hr;intro ψ S a w ht A;obtain ⟨vf,vc,p,h1,q⟩:=klh args ht c;have l:=(kqv (H:=fun _=>none) (fr:=false) (ψ:=ψ) (K:=(·∈st.ids)) (S:=S) (w:=w) (SB:=S) (fun _ b j=>j) (fun id o ho=>by cases ho) 1000).2 _ _ d;unfold kcm;rw [kmj ho p h.1];refine (h.2 S w _ (by rw [<- l.1,<- h1,qa7]) fun i v x hv g=>?_).mono ?_;have hi:i<(fst++(args.toList.map st.eval++caps)).length:=(by rw [l.1];exact (qd.1 g).1);exact (l.2 i _ x (qa hi) g).2 v (q i v _ (by rw [qaz];exact hv) (qa hi))
   ·rintro e w' ⟨v,rfl,hv,s⟩;exact ⟨v,rfl,s, .fz hv⟩
  ·replace hr:=kaq hr;obtain ⟨_,hr⟩:=hr;split at hr
   ·rename_i xs d;have h:PNew P f xs r:=by
     split at hr;rename_i r' hf;replace hr:=kaq hr;obtain ⟨t,hr⟩:=hr;injection hr with hr;subst hr;exact .of_atF (kwy hC.fx hf) t
     ·split at hr;rename_i y s2 j;rw [H_eq []] at hr;exact kabu (kpl hC k j).1 hr
      ·cases hr
    intro ψ S a w ht A;obtain ⟨vf,vc,p,h1,q⟩:=klh args ht c;obtain ⟨SB,m⟩:∃ SB:Nat->Prop,SB=fun b=>S b\/∃ id ob,kaa st.heap id=some ob/\Blk (ψ.val id) b:=⟨_,rfl⟩;have l:=(kqv (H:=H) (fr:=false) (ψ:=ψ) (K:=(·∈st.ids)) (S:=S) (w:=w) (SB:=SB) (fun _ b j=>by rw [m];exact .inl j) (fun id o ho=>⟨A id o (z id o ho),fun b j=>by rw [m];exact .inr ⟨id,o,z id o ho,j⟩⟩) 1000).2 _ _ d;unfold kcm;rw [kmj ho p h.1];refine (h.2 SB w _ (by rw [<- l.1,<- h1,qa7]) fun i v x hv g=>?_).mono ?_;have hi:i<(fst++(args.toList.map st.eval++caps)).length:=(by rw [l.1];exact (qd.1 g).1);exact (l.2 i _ x (qa hi) g).2 v (q i v _ (by rw [qaz];exact hv) (qa hi))
    ·rintro e w' ⟨v,rfl,hv,s⟩;exact ⟨v,rfl,s, .fz (hv.mono fun b j => .inr j)⟩
   ·cases hr
theorem kw1 {x:Operand} {as_:List Operand} (a:kwn o=some (x,as_)):∃ args ts,o.op = .call { callee := .value x,args:=args,argTypes:=ts }/\as_=args.toList:=by
 unfold kwn at a;split at a
 ·rename_i cl hcl;split at a;rename_i f hf;simp only [qc,qt] at a;obtain ⟨rfl,rfl⟩:=a;obtain ⟨cal,args,ts⟩:=cl;simp only at hf;exact ⟨args,ts,by rw [hcl,hf],rfl⟩
  ·cases a
 ·cases a
theorem k2r (hC:CxOk P C) (b:EvOk P ih) {mu:Bool} (h:opE C ih mu o s=some (c,s1)):k22 P o s c s1:=by
 unfold opE at h;split at h
 ·rename_i x as_ d;obtain ⟨args,ts,ho,rfl⟩:=kw1 d;split at h
  ·rename_i f fst caps a;unfold k68 at h;split at h;rename_i r hr;simp only [qc,qt] at h;obtain ⟨rfl,rfl⟩:=h;refine ⟨fun D=>?_,rfl,rfl,LG.refl⟩;rw [E_eq D] at a hr;exact (kzl hC b (fun _ _ h=>by rw [H_eq D] at h;exact h) ho a hr).step
   ·split at h;rename_i y s2 i;simp only [qc,qt] at h;obtain ⟨rfl,rfl⟩:=h;obtain ⟨g,e⟩:=kpl hC b i;refine ⟨fun D=>?_,rfl,rfl,e⟩;rw [E_eq D] at a g;exact k2w ho a g
    ·cases h
  ·cases h
 ·split at h;rename_i c' dl hs;simp only [qc,qt] at h;obtain ⟨rfl,rfl⟩:=h;refine kabr fun D=>?_;rw [E_eq D,H_eq D] at hs;exact sE_ok hC.T hC.Z k1f hs
  ·cases h
theorem NStep.moreH {st st':St} (h:NStep P o st c) (hn:st'.tmps=st.tmps) (hi:st'.ids=st.ids) (d:∀ id ob,kaa st.heap id=some ob->kaa st'.heap id=some ob):NStep P o st' c:=by
 intro ψ S a w ht b;have e:∀ t,st'.get t=st.get t:=fun t=>by unfold St.get;rw [hn]
 rw [hi] at ht b ⊢;exact h ψ S a w (fun t=>by rw [<- e];exact ht t) fun id ob ho=>b id ob (d id ob ho)
theorem kpd {rf:List Nat} {id:Nat} {ob:AObj}:∀ {l:List (Nat×AObj)},kaa (kl5 rf l) id=some ob->id∈rf/\kaa l id=some ob
 | [],h=>by cases h
 | (k,v)::l,h=>by
  simp only [kl5] at h;cases hc:rf.contains k with
  | true=>
   rw [hc] at h;simp only [qe] at h;rw [kah] at h ⊢;by_cases hk:k=id;subst hk;rw [qn rfl] at h ⊢;exact ⟨by simpa using hc,h⟩
   ·rw [qj hk] at h ⊢;exact kpd h
  | false=>
   rw [hc] at h;simp only [qf] at h;obtain ⟨h1,a⟩:=kpd (l:=l) h;refine ⟨h1,?_⟩;rw [kah,qj];exact a
   ·rintro rfl;have:rf.contains k=true:=(by simpa using h1);rw [this] at hc;cases hc
theorem k0e {k:Nat} {x:AV} (h:okN0 k x=true):okA (idsN k) x=true:=by
 have a:∀ {id},Nat.blt id k=true->(idsN k).contains id=true:=fun {id} h=>by
  have:id<k:=by simpa [Nat.blt_eq] using h
  simpa using mem_idsN.2 this
 cases x <;> simp only [okN0] at h <;> first | rfl | exact a h | cases h
theorem kaau {k:Nat} {x:AV} (h:okN k x=true):okA (idsN k) x=true:=by
 have hl:∀ {cs:List AV},cs.all (okN0 k)=true->okAs (idsN k) cs=true:=fun {cs} h=>by rw [kih];exact qu.2 fun x a=>k0e (qu.1 h x a)
 cases x <;> simp only [okN] at h <;> first | exact k0e h | exact hl h
theorem k3b (D:List Deferred) (hC:CxOk P C) (m:EvOk P ih) {mu:Bool} {os:Array Oper} {L:List Oper} {n i:Nat} {es:List Nat} (ch cs ai:List Nat) {rf:List Nat} {s0 hs hs1:XS} {fs:List (Nat×Option Nat×AV)} (s:∀ e,e∈es->phB L es e=true) (h:dz1 C ih mu os L n es s0 i o fs hs=some (c,hs1,rf)):
  LG hs hs1/\((∀ r,r∈rf->r∉ch)->(∀ new,hs1.lg=new++hs.lg->∀ r,r∈new->r∈cs)->(∀ id,id<hs1.k->id∈ai) ->
   (i∉es/\hs1=hs/\ko2 P os (kdj L n es ch ai (s0.st D) i o fs hs.heap (idsN hs.k)) o c/\(phB L es i || okA (s0.st D).ids c)=true) \/
   (i∈es/\kts P os L n es cs ai (s0.st D) (kdj L n es ch ai (s0.st D) i o fs hs.heap (idsN hs.k)) o c hs.heap (idsN hs.k) hs1.heap (idsN hs1.k))):=by
 unfold dz1 at h;obtain ⟨v,hv⟩:∃ v:XS,v=⟨s0.n,hadd fs (kgc o) (khs L i n++s0.tmps),hs.heap,hs.k,hs.lg⟩:=⟨_,rfl⟩;simp only [<- hv] at h;have a:∀ b,kqz os v.E o=some b->kbk os (kdj L n es ch ai (s0.st D) i o fs hs.heap (idsN hs.k)) o=some b:=fun b B=>by rw [E_eq D] at B;rw [<- B,hv];rfl
 have F:(v.st D).eval=(kdj L n es ch ai (s0.st D) i o fs hs.heap (idsN hs.k)).eval:=by rw [hv];funext x;cases x <;> rfl
 have g:phB L es i=true->(v.st D)=kdj L n es ch ai (s0.st D) i o fs hs.heap (idsN hs.k):=fun hp=>by rw [hv];unfold kdj;rw [hp];rfl
 split at h
 ·rename_i j;simp only [qc,qt] at h;obtain ⟨rfl,rfl,rfl⟩:=h;refine ⟨LG.refl,fun _ _ l=>?_⟩;by_cases hi:i∈es;exact .inr ⟨hi, .inr ⟨a _ j,rfl,rfl,rfl⟩, .inr ⟨fun _ _ _ h=>h,fun id h=>l id (mem_idsN.1 h),fun _ h=>h⟩⟩
  ·exact .inl ⟨hi,rfl, .inr ⟨a _ j,rfl⟩,by simp [okA]⟩
 ·rename_i j;cases hc:es.contains i with
  | true=>
   have hi:i∈es:=(by simpa using hc);rw [hc] at h;simp only [qe] at h;split at h;rename_i c' v1 t;simp only [qc,qt] at h;obtain ⟨rfl,rfl,rfl⟩:=h;obtain ⟨k1,_,_,k5⟩:=k2r hC m t;have p:LG hs v1:=(by rw [hv] at k5;exact k5);refine ⟨p,fun _ q l => .inr ⟨hi, .inl ⟨a _ j,by rw [<- g (s i hi)];exact k1 D⟩, .inr ?_⟩⟩;obtain ⟨m0,new,m1,m2⟩:=p;refine ⟨fun id u ob ho=>m2 id (fun h=>u (q new m1 id h)) ob ho,fun id h=>l id (mem_idsN.1 h),fun id h=>mem_idsN.2 (by have:=mem_idsN.1 h;omega)⟩
   ·cases h
  | false=>
   have hi:i∉es:=(by simpa using hc);rw [hc] at h;simp only [qf] at h;split at h
   ·rename_i x as_ w;obtain ⟨args,ts,ho,rfl⟩:=kw1 w;split at h
    ·rename_i f fst caps d;split at h
     ·rename_i r hr;simp only [qc,qt] at h;obtain ⟨rfl,rfl,rfl⟩:=h;rw [E_eq D,F] at d hr;refine ⟨LG.refl,fun _ _ _ => .inl ⟨hi,rfl, .inl ⟨a _ j,kzl hC m (fun id ob hi=>?_) ho d hr⟩,by simp [okA]⟩⟩;cases hp:phB L es i with
      | true=>rw [hp,qe,H_eq D,g hp] at hi;exact hi
      | false=>rw [hp] at hi;cases hi
     ·cases h
    ·cases h
   ·cases hp:phB L es i with
    | true=>
     rw [hp] at h;simp only [qe] at h;split at h;rename_i c' hn;simp only [qc,qt] at h;obtain ⟨rfl,rfl,rfl⟩:=h;rw [E_eq D,H_eq D,g hp] at hn;exact ⟨LG.refl,fun _ _ _ => .inl ⟨hi,rfl, .inl ⟨a _ j,kwi hC.T hC.Z hn⟩,rfl⟩⟩
     ·cases h
    | false=>
     rw [hp] at h;simp only [qf] at h;split at h
     ·rename_i c' hn;replace h:=kaq h;obtain ⟨y,h⟩:=h;simp only [qc,qt] at h;obtain ⟨rfl,rfl,rfl⟩:=h;refine ⟨LG.refl,fun z _ _ => .inl ⟨hi,rfl, .inl ⟨a _ j,?_⟩,by rw [Bool.false_or];exact kaau y⟩⟩;rw [show getO (kl5 (krf v.E o) s0.heap)=kaa (kl5 (krf v.E o) s0.heap) from funext fun i=>kzg,E_eq D] at hn;have A:NStep P o ⟨s0.n,hadd fs (kgc o) (khs L i n++s0.tmps),kl5 (krf v.E o) s0.heap,ai,D⟩ c':=(by refine kwi hC.T hC.Z ?_;have G:(v.st D).eval=St.eval ⟨s0.n,hadd fs (kgc o) (khs L i n++s0.tmps),kl5 (krf v.E o) s0.heap,ai,D⟩:=(by rw [F];funext x;cases x <;> rfl);rw [<- G,E_eq D];exact hn);refine A.moreH rfl ?_ fun id ob ho=>?_;show (bif phB L es i then idsN hs.k else ai)=ai;rw [hp];rfl
      ·obtain ⟨q1,q2⟩:=kpd ho;show kaa (bif phB L es i then hs.heap else klb ch s0.heap) id=some ob;rw [hp];exact ko0 (z id q1) q2
     ·cases h
 ·cases h
theorem kzt {D:List Deferred} (h:dstE s.n o=true):∀ t,o.dst=some t->t<(s.st D).n:=fun t ht=>by unfold dstE at h;rw [ht] at h;show t<s.n;simpa [Nat.blt_eq] using h
theorem kuf (hC:CxOk P C) (a:EvOk P ih) {mu:Bool} {ops:Array Oper}:∀ {l:List Oper} {s s1:XS},opsE C ih mu ops l s=some s1->(∀ D,XWL P ops l (s.st D) (s1.st D))/\LG s s1/\s1.n=s.n
 | [],s,s1,h=>by have h:some s=some s1:=h;injection h with h;subst h;exact ⟨fun D=>kaaj,LG.refl,rfl⟩
 | o::l,s,s1,h=>by
  have h:(bif dstE s.n o then (match kqz ops s.E o with
   | some true=>match opE C ih mu o s with
    | some (c,s1)=>opsE C ih mu ops l (s1.put o.dst c)
    | none=>none
   | some false=>opsE C ih mu ops l (s.put o.dst (.fz (.tup [])))
   | none=>none) else none)=some s1:=h
  replace h:=kaq h;obtain ⟨f,h⟩:=h;have g:∀ D,kqz ops s.E o=kbk ops (s.st D) o:=fun D=>by rw [E_eq D];rfl
  split at h
  ·rename_i b;split at h;rename_i c s2 d;obtain ⟨k1,k2,k3,k5⟩:=k2r hC a d;obtain ⟨j1,j2,j3⟩:=kuf hC a h;obtain ⟨p1,p2,p3,p5⟩:=kpb s2 o.dst c;exact ⟨fun D=>k8o (k1 D) ((g D).symm.trans b) (kzt f) (by show (s2.put o.dst c).n=s.n;omega) (fun t=>kuo _ _ t k3) p2 (by show idsN (s2.put o.dst c).k=_;rw [p3]) rfl (j1 D),k5.trans j2.put,by omega⟩
   ·cases h
  rename_i e;obtain ⟨j1,j2,j3⟩:=kuf hC a h;obtain ⟨p1,p2,p3,p5⟩:=kpb s o.dst (AV.fz (.tup []));exact ⟨fun D=>k9l ((g D).symm.trans e) (kzt f) p1 (fun t=>kuo s.heap (idsN s.k) t rfl) p2 (by show idsN (s.put o.dst _).k=_;rw [p3];rfl) rfl (j1 D),j2.put,by omega⟩
  ·cases h
theorem kxs (D:List Deferred) (hC:CxOk P C) (b:EvOk P ih) {mu:Bool} {os:Array Oper} {L:List Oper} {n:Nat} {es:List Nat} {s0:XS} (d:∀ e,e∈es->phB L es e=true):∀ (l:List Oper) (i:Nat) (fs:List (Nat×Option Nat×AV)) (hs:XS) (rf sl:List (Nat×List Nat)) {fsF:List (Nat×Option Nat×AV)} {a:XS} {rfF slF:List (Nat×List Nat)},
  dzE C ih mu os L n es s0 l i fs hs rf sl=some (fsF,a,rfF,slF)->L.drop i=l->i+l.length=n->∀ (c0:Nat->AV) (H0:Nat->XS),fs=fsOf L c0 i->H0 i=hs ->
  LG hs a/\(∀ r,r∈rf->r∈rfF)/\(∀ r,r∈sl->r∈slF)/\∃ (c:Nat->AV) (H:Nat->XS),(∀ j,j<i->c j=c0 j)/\(∀ j,j<=i->H j=H0 j)/\fsF=fsOf L c n/\H n=a /\
   ∀ (chi chs:Nat->List Nat) ai,(∀ p,p∈rfF->∀ r,r∈p.2->r∉chi p.1)->(∀ p,p∈slF->∀ r,r∈p.2->r∈chs p.1)->(∀ id,id<a.k->id∈ai)->∀ j o,i<=j->j<n->L[j]?=some o ->
    (j∉es/\H (j+1)=H j/\ko2 P os (kdj L n es (chi j) ai (s0.st D) j o (fsOf L c j) (H j).heap (idsN (H j).k)) o (c j)/\(phB L es j || okA (s0.st D).ids (c j))=true) \/
    (j∈es/\kts P os L n es (chs j) ai (s0.st D) (kdj L n es (chi j) ai (s0.st D) j o (fsOf L c j) (H j).heap (idsN (H j).k)) o (c j) (H j).heap (idsN (H j).k) (H (j+1)).heap (idsN (H (j+1)).k))
 | [],i,fs,hs,rf,sl,fsF,a,rfF,slF,h,hl,hn,c0,H0,hf,u=>by
  have h:some (fs,hs,rf,sl)=some (fsF,a,rfF,slF):=h;simp only [qc,qt] at h;obtain ⟨rfl,rfl,rfl,rfl⟩:=h;have v:i=n:=by simpa using hn
  subst v;exact ⟨LG.refl,fun _ h=>h,fun _ h=>h,c0,H0,fun _ _=>rfl,fun _ _=>rfl,hf,u,fun chi chs ai _ _ _ j o h1 E=>by omega⟩
 | o::l,i,fs,hs,rf,sl,fsF,a,rfF,slF,h,hl,hn,c0,H0,hf,u=>by
  simp only [dzE] at h;split at h
  ·rename_i c' hs1 r1 F;have m:L[i]?=some o:=(by have:=qau (·[0]?) hl;simpa using this);have w:L.drop (i+1)=l:=(by rw [<- List.drop_drop,hl];rfl);have x:dstT L i=o.dst:=(by unfold dstT;rw [m];rfl);have f:(i,o.dst,c')::fs=fsOf L (fun j=>if j=i then c' else c0 j) (i+1):=(by rw [hf];simp only [fsOf,x,if_true];rw [kfq (k:=i) (c':=fun j=>if j=i then c' else c0 j) fun j G=>by rw [qj (by omega)]]);obtain ⟨k1,k2,k2',c,H,k3,k4,k5,k6,k7⟩:=kxs D hC b d l (i+1) _ hs1 _ _ h w (by simp at hn;omega) (fun j=>if j=i then c' else c0 j) (fun j=>if j=i+1 then hs1 else H0 j) f (by simp);have e1:∀ j,j<i->c j=c0 j:=fun j G=>(by rw [k3 j (by omega),qj (by omega)]);have e2:c i=c':=(by rw [k3 i (by omega),qn rfl]);have e3:H i=hs:=(by rw [k4 i (by omega),qj (by omega)];exact u);have e4:H (i+1)=hs1:=(by rw [k4 (i+1) (qy _),qn rfl]);have y:fsOf L c i=fs:=(by rw [hf];exact kfq e1);have z:=(k3b D hC b [] [] [] d F).1;refine ⟨z.trans k1,fun r hr=>k2 r (qh _ hr),fun r hr=>k2' r (qh _ hr),c,H,e1,fun j G=>by rw [k4 j (by omega),qj (by omega)],k5,k6,fun chi chs ai q s t j o' h1 E g=>?_⟩;obtain ⟨m2,_⟩:=k1;by_cases A:j=i;subst A;rw [m] at g;obtain rfl:=qag g;have:=(k3b D hC b (chi j) (chs j) ai d F).2 (q (j,r1) (k2 _ (qq ..))) (fun new B r hr=>s (j,hs1.lg.take (hs1.lg.length - hs.lg.length)) (k2' _ (qq ..)) r (by have:hs1.lg.take (hs1.lg.length - hs.lg.length)=new:=(by rw [B,qaj,Nat.add_sub_cancel];exact List.take_left' rfl);rw [this];exact hr)) (fun id I=>t id (by omega));rw [y,e2,e3,e4];exact this
   ·exact k7 chi chs ai q s t j o' (by omega) E g
  ·cases h
theorem kpw {t:Nat} {base:List (Nat×AV)}:∀ {fs:List (Nat×Option Nat×AV)},look .any (kmu fs base) t=look .any (hadd fs (fun _=>true) base) t
 | []=>rfl
 | (j,some d,c)::l=>by simp only [kmu,hadd,qe];rw [kl6,kbc,kpw]
 | (j,none,c)::l=>by simp only [kmu,hadd];exact kpw
theorem kr4 (hC:CxOk P C) (y:EvOk P ih) {mu:Bool} {rid:Nat} {ops:Array Oper} {es:List Nat} (h:drzA C ih mu ops s es=some s1):(∀ D,XW P (.region rid ops true) (s.st D) .normal (s1.st D))/\LG s s1/\s1.n=s.n:=by
 obtain ⟨L,rfl⟩:∃ L:List Oper,ops=L.toArray:=⟨ops.toList,by simp⟩;unfold drzA at h;simp only [List.toList_toArray] at h;replace h:=kaq h;obtain ⟨A,h⟩:=h;simp only [qv] at A;split at h
 ·rename_i fs hs rf sl N;replace h:=kaq h;obtain ⟨B,h⟩:=h;injection h with h;have f:∀ e,e∈es->phB L es e=true:=fun e O=>by have:=qu.1 A.2 e O;rw [qv] at this;exact this.2
  have k1:LG s hs:=(kxs [] hC y f L 0 [] s [] [] N rfl (by simp) (fun _ => .any) (fun _=>s) rfl rfl).1;subst h;refine ⟨fun D=>?_,k1,rfl⟩;obtain ⟨k1,k2,k2',c,H,k3,k4,k5,k6,k7⟩:=kxs D hC y f L 0 [] s [] [] N rfl (by simp) (fun _ => .any) (fun _=>s) rfl rfl;obtain ⟨chs,l⟩:∃ chs:Nat->List Nat,chs=fun j=>sl.flatMap fun q=>bif Nat.beq q.1 j then q.2 else []:=⟨_,rfl⟩;obtain ⟨chi,m⟩:∃ chi:Nat->List Nat,chi=fun i=>sl.flatMap fun q=>bif anc L q.1 i then [] else q.2:=⟨_,rfl⟩;have u:=k7 chi chs (idsN hs.k) (fun p hp r hr hc=>by
   rw [m] at hc;obtain ⟨q,E,b⟩:=qa5.1 hc;have:=qu.1 (qu.1 B p hp) q E;cases ha:anc L q.1 p.1 with
   | true=>rw [ha] at b;cases b
   | false=>
    rw [ha] at b this;simp only [qf] at b;rw [Bool.false_or] at this;have:=qu.1 this r hr;simp at this;exact this b) (fun p hp r hr=>by
   rw [l];exact qa5.2 ⟨p,hp,by simp only [Nat.beq_refl,qe];exact hr⟩) (fun id g=>mem_idsN.2 g)
  have G:H 0=s:=k4 0 (qy _);have Q:=k1.1;intro F S0 N0 ψ S a w z;refine kww (ai:=idsN hs.k) hC.mixed c (fun i=>((H i).heap,idsN (H i).k)) chi chs A.1 A.2 ?_ (by rw [G];rfl) ?_ ?_ z _ ?_
  ·exact qu.2 fun x R=>by have:=mem_idsN.1 (show x∈idsN s.k from R);simpa using mem_idsN.2 (show x<hs.k by omega)
  ·intro j i T hi ha id g;rw [l] at g;obtain ⟨q,E,b⟩:=qa5.1 g;rw [m];refine qa5.2 ⟨q,E,?_⟩;cases v:Nat.beq q.1 j with
   | false=>rw [v] at b;cases b
   | true=>
    rw [v] at b;rw [qi v,ha];exact b
  ·intro i o I J;rcases u i o (qar _) I J with ⟨q1,q2,q3,q4⟩ | ⟨q1,q2⟩;exact .inl ⟨q1,by simp only [q2],q3,q4⟩
   ·exact .inr ⟨q1,q2⟩
  ·intro ψ' S' a' w' K M d;rw [List.drop_length];refine ⟨rfl,ψ',S',K.congr rfl (fun t=>?_) (fun id=>?_) ?_ rfl,M,?_⟩;show look .any (kmu fs s.tmps) t=look .any (hadd (fsOf L c L.length) (fun _=>true) s.tmps) t;rw [kpw,k5];show kaa hs.heap id=kaa (H L.length).heap id;rw [k6];show idsN hs.k=idsN (H L.length).k;rw [k6]
   ·have d:HistI (idsN s.k) (idsN (H L.length).k) ψ ψ' S S' w w':=d;rw [k6] at d;exact d
 ·cases h
theorem kaa9 (hC:CxOk P C) (a:EvOk P ih) {mu:Bool} {rid:Nat} {ops:Array Oper} (h:drzE C ih mu ops s=some s1):(∀ D,XW P (.region rid ops true) (s.st D) .normal (s1.st D))/\LG s s1/\s1.n=s.n:=by
 unfold drzE at h;split at h;rename_i r hr;injection h with h;subst h;exact kr4 hC a hr
 ·split at h;rename_i r hr;injection h with h;subst h;exact kr4 hC a hr
  ·split at h;rename_i r hr;injection h with h;subst h;exact kr4 hC a hr
   ·exact kr4 hC a h
theorem XC.of {x:Code} (h:XW P x st e st1) (hl:∀ y,x ≠ .loop y):XC P x st e st1:=by
 unfold XC;split;exact absurd rfl (hl _)
 ·exact h
theorem kabw (hC:CxOk P C) (a:EvOk P ih):EvOk P (evB C ih):=by
 intro mu x s e s1 h;unfold evB at h;split at h;simp only [qc,qt] at h;obtain ⟨rfl,rfl⟩:=h;exact ⟨fun D=>XC.of k72 (fun _ h=>by cases h),rfl,LG.refl,rfl⟩
 ·split at h;rename_i s2 hs;simp only [qc,qt] at h;obtain ⟨rfl,rfl⟩:=h;obtain ⟨k1,k2,k3⟩:=kuf hC a hs;exact ⟨fun D=>XC.of (k33 (k1 D)) (fun _ h=>by cases h),rfl,k2,k3⟩
  ·cases h
 ·split at h;rename_i s2 hs;simp only [qc,qt] at h;obtain ⟨rfl,rfl⟩:=h;obtain ⟨k1,k2,k3⟩:=kaa9 hC a hs;exact ⟨fun D=>XC.of (k1 D) (fun _ h=>by cases h),rfl,k2,k3⟩
  ·cases h
 ·rename_i x y;cases c:ih mu x s with
  | none=>rw [c] at h;cases h
  | some p=>
   obtain ⟨e1,s2⟩:=p;rw [c] at h;obtain ⟨k1,k2,k3,k4⟩:=a _ _ _ _ _ c;cases e1 with
   | normal=>
    obtain ⟨j1,j2,j3,j4⟩:=a _ _ _ _ _ h;exact ⟨fun D=>XC.of (kaa1 (k1 D).xw (j1 D).xw) (fun _ h=>by cases h),j2,k3.trans j3,j4.trans k4⟩
   | _=>
    simp only [qc,qt] at h;obtain ⟨rfl,rfl⟩:=h;exact ⟨fun D=>XC.of (k7y (k1 D).xw (fun h=>by cases h)) (fun _ h=>by cases h),k2,k3,k4⟩
 ·rename_i cc x y;split at h;rename_i b d;obtain ⟨k1,k2⟩:=a _ _ _ _ _ h;exact ⟨fun D=>XC.of (k9y (by rw [E_eq D] at d;exact d) (k1 D).xw) (fun _ h=>by cases h),k2⟩
  ·cases h
 ·rename_i i x;cases c:ih mu x s with
  | none=>rw [c] at h;cases h
  | some p=>
   obtain ⟨e1,s2⟩:=p;rw [c] at h;obtain ⟨k1,k2,k3⟩:=a _ _ _ _ _ c;cases e1 with
   | exit j=>
    simp only at h;cases d:Nat.beq j i with
    | true=>
     rw [d] at h;simp only [qe,qc,qt] at h;obtain ⟨rfl,rfl⟩:=h;obtain rfl:=qi d;exact ⟨fun D=>XC.of (k5o (k1 D).xw) (fun _ h=>by cases h),rfl,k3⟩
    | false=>
     rw [d] at h;simp only [qf,qc,qt] at h;obtain ⟨rfl,rfl⟩:=h;exact ⟨fun D=>XC.of (kvx (k1 D).xw (fun h=>by injection h with h;subst h;simp at d)) (fun _ h=>by cases h),rfl,k3⟩
   | _=>
    simp only [qc,qt] at h;obtain ⟨rfl,rfl⟩:=h;exact ⟨fun D=>XC.of (kvx (k1 D).xw (fun h=>by cases h)) (fun _ h=>by cases h),k2,k3⟩
 ·rename_i x;cases c:ih mu x s with
  | none=>rw [c] at h;cases h
  | some p=>
   obtain ⟨e1,s2⟩:=p;rw [c] at h;obtain ⟨k1,k2,k3,k4⟩:=a _ _ _ _ _ c;cases e1 with
   | normal=>
    obtain ⟨j1,j2,j3,j4⟩:=a _ _ _ _ _ h;exact ⟨fun D=>xr_go (k1 D).xw (j1 D),j2,k3.trans j3,j4.trans k4⟩
   | _=>
    simp only [qc,qt] at h;obtain ⟨rfl,rfl⟩:=h;exact ⟨fun D=>kabo (k1 D).xw (fun h=>by cases h),k2,k3,k4⟩
 simp only [qc,qt] at h;obtain ⟨rfl,rfl⟩:=h;exact ⟨fun D=>XC.of k8y (fun _ h=>by cases h),rfl,LG.refl,rfl⟩;simp only [qc,qt] at h;obtain ⟨rfl,rfl⟩:=h;exact ⟨fun D=>XC.of kaag (fun _ h=>by cases h),rfl,LG.refl,rfl⟩;obtain ⟨k1,k2,k3⟩:=a _ _ _ _ _ h;exact ⟨fun D=>XC.of (k6l (k1 D).xw k2) (fun _ h=>by cases h),k2,k3⟩
 ·cases h
theorem k6t (hC:CxOk P C):∀ n,EvOk P (ev C n)
 | 0=>fun mu c s e s1 h=>by cases h
 | n+1=>kabw hC (k6t hC n)
theorem kz1 (hC:CxOk P C) (n:Nat) {f:Nat} {xs:List FV} {r:FV} (h:runE C n f xs=some r:=by kernel_rfl):PCall P f xs r:=by
 unfold runE at h;split at h;rename_i y s1 a;rw [H_eq []] at h;exact kzw (kpl hC (k6t hC n) a).1 h
 ·cases h
mutual
def leFV:FV->FV->Bool
 | .atom (.slice none 0 0), .lst s n xs=>Nat.ble 1 s && (Nat.beq n 0 && xs.isEmpty)
 | .atom v, .atom u=>kwm v u
 | .agg a, .agg b=>kjq a b
 | .tup a, .tup b=>kjq a b
 | .lst s n a, .lst s' n' b=>Nat.beq s s' && (Nat.beq n n' && kjq a b)
 | _,_=>false
def kjq:List FV->List FV->Bool
 | [],[]=>true
 | a::l,b::m=>leFV a b && kjq l m
 | _,_=>false
end
theorem kio:∀ {a b:List FV},kjq a b=true->a.length=b.length/\∀ (i:Nat) (x y:FV),a[i]?=some x->b[i]?=some y->leFV x y=true
 | [],[],_=>⟨rfl,fun i x y h=>by simp at h⟩
 | [],_::_,h=>by simp only [kjq] at h;cases h
 | _::_,[],h=>by simp only [kjq] at h;cases h
 | a::l,b::m,h=>by
  simp only [kjq,qv] at h;obtain ⟨h1,d⟩:=kio h.2;refine ⟨by simp [h1],fun i x y c hy=>?_⟩;cases i with
  | zero=>simp at c hy;subst c hy;exact h.1
  | succ i=>exact d i x y (by simpa using c) (by simpa using hy)
theorem ksf {x y:FV} (h:leFV x y=true) (a:x.single=true):y.single=true:=by
 unfold leFV at h;split at h;rfl;rw [<- ks4 h];exact a;cases a;cases a;rfl
 ·cases h
theorem kt2 {x y:FV} (h:leFV x y=true):kjq x.cells y.cells=true:=by
 have one:kjq [x] [y]=true:=by simp only [kjq,h,Bool.and_true]
 revert one
 unfold leFV at h;intro one;split at h;exact one;exact one;exact h;exact one;exact one
 ·cases h
theorem k86 {v:Value} {x:FV} (h:RF S w v x):∀ {y:FV},leFV x y=true->RF S w v y:=by
 induction h with
 | @atom v h=>
  intro y hy;unfold leFV at hy;split at hy
  ·rename_i s n xs c;cases c;simp only [qv] at hy;have hn:=qi hy.2.1;have a:xs=[]:=(by simpa using hy.2.2);subst hn a;exact .lst (fun _=>[]) rfl (qy _) (by omega) (qr hy.1) (fun i x h=>by simp at h) (fun i x h=>by simp at h) fun i x j v y h=>by simp at h
  rename_i u _ c;cases c;rw [<- ks4 hy];exact .atom h;rename_i c;cases c;rename_i c;cases c;rename_i c;cases c
  ·cases hy
 | @agg cs xs hl h1 hr ih=>
  intro y hy;cases y <;> simp only [leFV] at hy <;> try cases hy
  rename_i ys;obtain ⟨k1,k2⟩:=kio hy;refine .agg (by omega) (fun z b=>?_) fun i u z f b=>?_;obtain ⟨i,hi,rfl⟩:=qah.1 b;have a:xs[i]?=some (xs[i]'(by omega)):=qa _;exact ksf (k2 i _ _ a (qa hi)) (h1 _ (qo _))
  ·have hi:=(qd.1 b).1;have a:xs[i]?=some (xs[i]'(by omega)):=qa _;exact ih i u _ f a (k2 i _ _ a b)
 | @tup cs xs hl hr ih=>
  intro y hy;cases y <;> simp only [leFV] at hy <;> try cases hy
  rename_i ys;obtain ⟨k1,k2⟩:=kio hy;refine .tup (by omega) fun i u z f b=>?_;have hi:=(qd.1 b).1;have a:xs[i]?=some (xs[i]'(by omega)):=qa _;exact ih i u _ f a (k2 i _ _ a b)
 | @lst A cap size n xs css hn hc hm hs ha hl hr ih=>
  intro y hy;cases y <;> simp only [leFV] at hy <;> try cases hy
  rename_i s' n' ys;simp only [qv] at hy;obtain ⟨e1,e2,e3⟩:=hy;have e1:=qi e1;have e2:=qi e2;subst e1 e2;obtain ⟨k1,k2⟩:=kio e3;have get:∀ (i:Nat) (y:FV),ys[i]?=some y->∃ x,xs[i]?=some x/\leFV x y=true:=fun i y hy=>by have hi:=(qd.1 hy).1;have a:xs[i]?=some (xs[i]'(by omega)):=qa _;exact ⟨_,a,k2 i _ _ a hy⟩
  refine .lst css (by omega) hc hm hs (fun i y hy=>?_) (fun i y hy=>?_) fun i y j u z hy f b=>?_;obtain ⟨x,a,_⟩:=get i y hy;exact ha i x a;obtain ⟨x,a,e⟩:=get i y hy;obtain ⟨q1,q2,q3⟩:=hl i x a;obtain ⟨r1,r2⟩:=kio (kt2 e);refine ⟨q1,by omega,fun z b=>?_⟩;obtain ⟨j,g,rfl⟩:=qah.1 b;have d:x.cells[j]?=some (x.cells[j]'(by omega)):=qa _;exact ksf (r2 j _ _ d (qa g)) (q3 _ (qo _))
  ·obtain ⟨x,a,e⟩:=get i y hy;obtain ⟨r1,r2⟩:=kio (kt2 e);have g:=(qd.1 b).1;have d:x.cells[j]?=some (x.cells[j]'(by omega)):=qa _;exact ih i x j u _ a f d (r2 j _ _ d b)
 | fp=>intro y hy;cases y <;> simp only [leFV] at hy <;> cases hy
 | bx=>intro y hy;cases y <;> simp only [leFV] at hy <;> cases hy
 | bn=>intro y hy;cases y <;> simp only [leFV] at hy <;> cases hy
theorem PCall.le {f:FuncId} {xs ys:List FV} {r:FV} (h:PCall P f xs r) (a:kjq ys xs=true):PCall P f ys r:=by obtain ⟨k1,k2⟩:=kio a;refine ⟨h.1,fun S w vs hs hv=>h.2 S w vs (by omega) fun i v x b c=>?_⟩;have hi:=(qd.1 c).1;have hy:ys[i]?=some (ys[i]'(by omega)):=qa _;exact k86 (hv i v _ b hy) (k2 i _ _ hy c)
def tabG {α:Type} (f:α->Value) (id g:Nat) (ov:Value) (eo ei:TypeId) (rows:List (List α)) (i:Nat) (row:List α) (st:St):St:=
 { st with heap:=(id, .tab (g+1) ov eo ei ((rows.set i row).map (List.map f)))::st.heap }
def notT (d:Nat):Operand->Bool
 | .tmp t=>t != d
 | _=>true
theorem kss {a:Act} {d:Nat} {v:Value} {x:Operand} (h:notT d x=true):(a.put (some d) v).eval x=a.eval x:=by
 cases x with
 | tmp t=>
  have b:t≠d:=by simpa [notT] using h
  show (a.tmps.setIfInBounds d v).getD t undef=a.tmps.getD t undef;rw [qa3,qa3,Array.getElem?_setIfInBounds_ne (Ne.symm b)]
 | const v=>rfl
 | global g=>rfl
 | func f=>rfl
theorem k42 {α:Type} {f:α->Value} {enc:α->FV} {ops:Array Oper} {o1 o2 o3:Oper} {l:List Oper} {Q:Exit->St->Prop} {rows:List (List α)} {row zs:List α} {i:Int} {A B X Y:Operand} {g m d1 d2:Nat} {ov:Value} {eo ei t2:TypeId} {d2' di:TD} {k:IntKind}
  (h:idx rows i=some row) (hT:TOk P T) (hd:kad T eo=some d) (bg:d.kind = .slice ei) (ar:d.size=1) (bh:kad T ei=some di) (E:di.size=1) (bi:di.zero.length=1)
  (bj:o1.op = .call { callee := .builtin .append,args:=#[A,B],argTypes:=#[eo,eo] }) (bk:o1.dst=some d1)
  (bl:o2.op = .indexAddr t2 X Y) (bm:o2.dst=some d2) (bn:kad T t2=some d2') (bo:d2'.kind = .slice eo)
  (bp:o3.op = .store eo (.tmp d2) (.tmp d1)) (bq:o3.dst=none) (g1:o1.guard=none) (g2:o2.guard=none) (g3:o3.guard=none) (ad:d1≠d2) (au:d1<st.n) (av:d2<st.n)
  (hA:st.eval A = .irow id g (i.toNat+1)) (hB:st.eval B = .fz (.lst 1 m (zs.map enc))\/st.eval B = .lim 1 m (zs.map enc)) (hX:st.eval X = .fz (.atom ov)) (br:notT d1 X=true) (hY:st.eval Y = .fz (.atom (.int k i))) (bs:notT d1 Y=true)
  (ae:kaa st.heap id=some (.tab g ov eo ei (rows.map (List.map f)))) (hf:∀ y,enc y = .atom (f y)/\(f y).oneCell'=true) (aw:(row.length+zs.length)*(di.bytes+1)<=140737488355328)
  (hn:awpL P ops l (((tabG f id g ov eo ei rows i.toNat (row++zs) st).put (some d1) .any).put (some d2) .any) Q):awpL P ops (o1::o2::o3::l) st Q:=fun F S0 N0 ψ S a w hs=>by
 have C:=hs.core;have af:=hT.get hd;have bt:=hT.get bh;obtain ⟨b6,⟨hg,vs,O,ag,U,ax,s⟩,b7⟩:=C.obj id _ ae;rw [qaa] at ag U;unfold idx at h;split at h
 case isFalse=>cases h
 rename_i h0;have ay:i.toNat<rows.length:=(qd.1 h).1;obtain ⟨gb,cap,cur,ah,az,bu,hc2,a0,bv⟩:=kh2 U;have K:kar ov=some gb:=by rw [ah];rfl
 have ai:i.toNat<vs.length:=by omega
 obtain ⟨u,hu⟩:∃ u,u=vs[i.toNat]:=⟨_,rfl⟩;have H:vs[i.toNat]?=some u:=by rw [hu];exact qa ai
 obtain ⟨L,a1⟩:=ax i.toNat u (row.map f) H (by rw [ql,h];rfl);rw [qaa] at L;have I:∀ v b,v∈ov::vs->kar v=some b->Blk (ψ.val id) b:=fun v b hv p=>by rw [O];exact .inr ⟨v,by simpa [kfa] using hv,p⟩
 -- append
 have bw:a.eval A=u:=by
  have aj:=hs.eval A;rw [hA] at aj;generalize a.eval A=z at aj;cases aj with
  | irow hK b8 h1 hv=>
   have:=hv hg.symm;rw [O] at this;simp only [kfa,List.toList_toArray] at this;rw [qax,H] at this;exact (qag this).symm
 have bx:RF S w (a.eval B) (.lst di.size m (zs.map enc)):=by
  have hv:=hs.eval B;rw [E];rcases hB with hB | hB;rw [hB] at hv;exact hv.inv
  ·rw [hB] at hv;generalize a.eval B=z at hv;cases hv with
   | lim h=>exact h
 rw [Nat.mul_add,qbt] at aw;obtain ⟨v',w1,news,V,o,r,a2,M,a3,a4,b5⟩:=k0d o1.type (af.slice bg) bt (by omega) (by rw [bi,E]) (by rw [E];exact L) bx (by simp;omega) (by simp;omega);rw [E] at o a3 a4 M;rw [qaa] at o M;have ak:news=zs.map f:=by apply List.ext_getElem (by simp at M;rw [M,qaa]);intro j h1 h2;rw [qaa] at h2;have:=a3 j (enc zs[j]) 0 news[j] (enc zs[j]) (by rw [ql,qa h2];rfl) (by simp [qa h1]) (by rw [(hf zs[j]).1];rfl);rw [(hf zs[j]).1] at this;rw [this.atom_eq,List.getElem_map]
 have al:v'.oneCell'=true:=kuj o;have a5:∀ b,kar v'=some b->kar u=some b\/b=w.heap.size:=fun b p=>by
  have h1:=kun o (b:=b);rcases a2 with e | e
  ·left;have:v'.ownBlock=some b:=by
    rcases o.2 with ⟨rfl,_⟩ | ⟨g0,c0,cu0,rfl,_⟩;cases p
    ·exact p
   rw [e] at this;rcases L.2 with ⟨rfl,_⟩ | ⟨g0,c0,cu0,rfl,_⟩;cases this
   ·exact this
  ·right;rcases o.2 with ⟨rfl,_⟩ | ⟨g0,c0,cu0,rfl,_⟩;cases p
   ·have p:some g0=some b:=p;have e:some g0=some w.heap.size:=e;rw [p] at e;exact qag e
 have J:∀ k,k<w.heap.size->kar u≠some k->w1.heap[k]?=w.heap[k]?:=fun k hk ad=>r.block k hk fun e=>by
  rcases L.2 with ⟨rfl,_⟩ | ⟨g0,c0,cu0,rfl,_⟩;cases e
  ·exact ad e.symm
 have a6:kar u≠some gb:=s 0 (i.toNat+1) ov u gb rfl (by rw [qax];exact H) (by omega) K;have am:gb<w.heap.size:=(qa2.1 az).1;have Z:w1.heap[gb]?=some (.cells cur eo (0,0)):=by rw [J gb am a6];exact az
 have bz:a.eval X=ov:=by have:=hs.eval X;rw [hX] at this;exact this.atom
 have b0:a.eval Y = .int k i:=by have:=hs.eval Y;rw [hY] at this;exact this.atom
 unfold wpList;rw [show Region.wanted o1 (yielded ops a.tmps)=true by unfold Region.wanted;rw [g1]];refine .inl (kcg (R:=fun v w'=>v'=v/\w1=w') ?_ (kaf w1 v' (by simp only [execOp,bj,resolve,invoke,builtin,Sem.run_bind,Sem.run_pure,Result.andThen_ok,List.map_toArray,qao,List.map_nil,bw,V]) ⟨rfl,rfl⟩));rintro _ _ ⟨rfl,rfl⟩;rw [bk]
 -- the row's place
 have a7:(a.put (some d1) v').eval X=ov:=by rw [kss br,bz]
 have a8:(a.put (some d1) v').eval Y = .int k i:=by rw [kss bs,b0]
 unfold wpList;rw [show Region.wanted o2 (yielded ops (a.put (some d1) v').tmps)=true by unfold Region.wanted;rw [g2]];refine .inl (kcg (R:=fun v w' => .pointer (some ⟨gb,i.toNat,none⟩)=v/\w1=w') ?_ (kaf w1 (.pointer (some ⟨gb,i.toNat,none⟩)) ?_ ⟨rfl,rfl⟩))
 rotate_left
 ·have a9:i<(rows.length:Int):=by omega
  simp [execOp,bl,a7,ah,a8,Instr.indexAt,asIntOf,run_underlying ((hT.get bn).slice bo),h0,a9,af.size,ar,kbo]
 rintro _ _ ⟨rfl,rfl⟩;rw [bm]
 -- the store
 have b1:((a.put (some d1) v').put (some d2) (.pointer (some ⟨gb,i.toNat,none⟩))).eval (.tmp d1)=v':=by
  rw [kss (show notT d2 (.tmp d1)=true by simp [notT,ad])];show (a.tmps.setIfInBounds d1 v').getD d1 undef=v';have:d1<a.tmps.size:=by rw [hs.size];exact au
  simp [Array.getD,this]
 have b2:((a.put (some d1) v').put (some d2) (.pointer (some ⟨gb,i.toNat,none⟩))).eval (.tmp d2) = .pointer (some ⟨gb,i.toNat,none⟩):=by
  show ((a.tmps.setIfInBounds d1 v').setIfInBounds d2 _).getD d2 undef=_;have:d2<a.tmps.size:=by rw [hs.size];exact av
  simp [Array.getD,this]
 have hst:=k6k (w:=w1) (P:=P) i.toNat v' Z (by rw [a0];omega) al;obtain ⟨w',x⟩:∃ w',w'=w1.setRow gb (cur.toList.set i.toNat v').toArray:=⟨_,rfl⟩;rw [<- x] at hst;have G:∀ k,k≠gb->w'.heap[k]?=w1.heap[k]?:=fun k hk=>by rw [x];exact kkp gb _ k hk
 have ba:w'.heap.size=w1.heap.size:=by rw [x];simp [World.setRow]
 have bb:w.heap.size<=w'.heap.size:=by rw [ba];exact r.size
 have bc:u∈ov::vs:=qh _ (qk H);have aa:∀ k,k<w.heap.size->k≠gb->kar u≠some k->w'.heap[k]?=w.heap[k]?:=fun k hk h1 h2=>by rw [G k h1,J k hk h2]
 have bd:∀ k,k<w.heap.size->¬ Blk (ψ.val id) k->w'.heap[k]?=w.heap[k]?:=fun k hk ab=>aa k hk (fun e=>ab (I ov k (qq ..) (e ▸ K))) fun e=>ab (I u k bc e);have ac:∀ v b,v∈ov::vs->kar v=some b->b<w.heap.size:=fun v b hv p=>(C.obj id _ ae).2.1.lt (I v b hv p);have sp:∀ (k:Nat) (v:Value),(ov::vs.set i.toNat v')[k]?=some v->(k=i.toNat+1/\v=v')\/(k≠i.toNat+1/\(ov::vs)[k]?=some v):=fun k v hk=>by
  cases k with
  | zero=>exact .inr ⟨by omega,hk⟩
  | succ k=>
   rw [qax] at hk ⊢;by_cases be:i.toNat=k;subst be;rw [qbj ai] at hk;cases hk;exact .inl ⟨rfl,rfl⟩
   ·rw [qbm be] at hk;exact .inr ⟨by omega,hk⟩
 -- a block of v' is none of the other rows'
 have an:∀ (k:Nat) (v:Value) (b:Nat),k≠i.toNat+1->(ov::vs)[k]?=some v->kar v=some b->kar v'≠some b:=fun k v b hk hv p D=>by
  rcases a5 b D with e | e;exact s (i.toNat+1) k u v b (by rw [qax];exact H) hv (Ne.symm hk) e p
  ·have:=ac v b (qk hv) p;omega
 obtain ⟨c1,c2,c3⟩:=C.upd (n:=g+1) (v := .tuple (ov::vs.set i.toNat v').toArray) (w':=w') (ob' := .tab (g+1) ov eo ei ((rows.set i.toNat (row++zs)).map (List.map f))) ae bb bd (.inl (by omega)) (fun b p=>by
   rcases p with p | ⟨v,hv,p⟩;cases p
   ·simp only [kfa] at hv;rcases qat.1 hv with rfl | hv;exact .inl (I _ b (qq ..) p)
    ·rcases List.mem_or_eq_of_mem_set hv with hv | rfl;exact .inl (I v b (qh _ hv) p)
     ·rcases a5 b p with e | e;exact .inl (I u b bc e)
      ·exact .inr (by omega)) (by
  refine ⟨kbq _ _,vs.set i.toNat v',kap _ _,by simpa using ag,?_,fun k v xs hv N=>?_,fun k j v1 v2 b h1 h2 b3 ao=>?_⟩;rw [qaa,qbs,ah,x];exact k7h Z bu hc2 a0 bv ag ay
  ·by_cases hk:i.toNat=k
   ·subst hk;rw [qbj ai] at hv;cases hv;rw [ql,qbj ay,qaw] at N;cases N;rw [qaa,qas,qaj];refine ⟨?_,fun y hy=>?_⟩
    ·rw [<- ak];exact kiy o fun b p=>G b fun e=>by have D:=khy p;exact an 0 ov gb (by omega) rfl K (e ▸ D)
    ·rcases qab.1 hy with hy | hy;exact a1 y hy
     ·obtain ⟨z,_,rfl⟩:=qaf.1 hy;exact (hf z).2
   ·rw [qbm hk] at hv;rw [ql,qbm hk,<- ql] at N;obtain ⟨k1,k2⟩:=ax k v xs hv N;refine ⟨kiy k1 fun b p=>?_,k2⟩;have D:=khy p;have aq:(ov::vs)[k+1]?=some v:=(by rw [qax];exact hv);exact aa b (ac v b (qk aq) D) (fun e=>s 0 (k+1) ov v gb rfl aq (by omega) K (e ▸ D)) (fun e=>s (i.toNat+1) (k+1) u v b (by rw [qax];exact H) aq (by omega) e D)
  ·rcases sp k v1 h1 with ⟨e1,f1⟩ | ⟨e1,f1⟩ <;> rcases sp j v2 h2 with ⟨e2,f2⟩ | ⟨e2,f2⟩;omega;exact fun b4=>an j v2 b e2 f2 b4 (f1 ▸ ao);exact f2 ▸ an k v1 b e1 f1 ao
   ·exact s k j v1 v2 b f1 f2 b3 ao)
 have bf:Fr F w w':=⟨by rw [x];exact r.os,by rw [x];exact r.tape,by rw [x];exact r.output,bb,c3,fun _=>by have:=ku8 V;rw [x];exact this⟩;have s1:=hs.put (st':=tabG f id g ov eo ei rows i.toNat (row++zs) st) (d:=some d1) (v:=v') (c := .any) rfl rfl rfl c1 .any (krz (.inl (by omega))) (fun _ h=>h) (fun _ h=>h) c2 (fun t ht=>by cases ht;exact au);have s2:=s1.put (st':=(tabG f id g ov eo ei rows i.toNat (row++zs) st).put (some d1) .any) (d:=some d2) (v := .pointer (some ⟨gb,i.toNat,none⟩)) (c := .any) rfl rfl rfl s1.core .any Ext.refl (fun _ h=>h) (fun _ h=>h) (fun _ _ _=>rfl) (fun t ht=>by cases ht;exact av);unfold wpList;rw [show Region.wanted o3 (yielded ops ((a.put (some d1) v').put (some d2) (.pointer (some ⟨gb,i.toNat,none⟩))).tmps)=true by unfold Region.wanted;rw [g3]];refine .inl (kcg (R:=fun v w2=>w'=w2) ?_ (kia w' ?_ rfl))
 rotate_left
 simp only [execOp,bp,Instr.storeAt,b2,b1,Instr.sureAddr,storeVar,af.size,Sem.run_bind,Sem.run_pure,Result.andThen_ok];rw [qj (by rw [kv4 al,ar];simp)];simp [kv4 al,hst];rintro v2 _ rfl;rw [bq];exact kbm (fun e a' w2 q=>q.pre bf) _ _ _ (hn F S0 N0 _ _ _ w' s2)
def DlP {σ α β:Type} (step:σ->Option ((List Int×(List Int->σ)) ⊕ α)) (K:α->Option β) (r:β):Nat->σ->Prop
 | 0,_=>False
 | n+1,s=>∃ x,step s=some x/\Sum.elim (fun p=>∀ τ:List Int,τ.Perm p.1->DlP step K r n (p.2 τ)) (fun v=>K v=some r) x
theorem kxi {σ α β:Type} {step:σ->Option ((List Int×(List Int->σ)) ⊕ α)} {K:α->Option β} {r r':β}:∀ (n:Nat) (s:σ),DlP step K r n s->DlP step K r' n s->r=r'
 | 0,_,h,_=>h.elim
 | n+1,s,⟨x,h1,b⟩,⟨y,c,a⟩=>by
  rw [h1] at c;cases c;cases x with
  | inl p=>exact kxi n _ (b p.1 (List.Perm.refl _)) (a p.1 (List.Perm.refl _))
  | inr v=>
   have b:K v=some r:=b;have a:K v=some r':=a;rw [b] at a;exact qag a
open Classical in
noncomputable def kru {σ α β:Type} (step:σ->Option ((List Int×(List Int->σ)) ⊕ α)) (n:Nat) (s:σ) (K:α->Option β):Option β:=
 if h:∃ r,DlP step K r n s then some (Classical.choose h) else none
theorem k05 {σ α β:Type} {step:σ->Option ((List Int×(List Int->σ)) ⊕ α)} {n:Nat} {s:σ} {K:α->Option β} {r:β} (h:kru step n s K=some r):DlP step K r n s:=by
 unfold kru at h;split at h;rename_i a;cases h;exact Classical.choose_spec a
 ·cases h
theorem k4x {σ α β:Type} {step:σ->Option ((List Int×(List Int->σ)) ⊕ α)} {n:Nat} {s:σ} (K:α->Option β) {r:β} (h:DlP step K r n s):kru step n s K=some r:=by unfold kru;rw [dif_pos ⟨r,h⟩];exact qau some (kxi n s (Classical.choose_spec (⟨r,h⟩:∃ r,DlP step K r n s)) h)
def kqg {α:Type} (rows:List (List Int)) (i:Int) (m:List (Int×α)):Option (List Int):=
 Option.bind (idx rows i) fun row=>bif Nat.ble ((row.length+m.length)*9) 140737488355328 then some row else none
theorem kza {α:Type} {rows:List (List Int)} {i:Int} {m:List (Int×α)} {row:List Int} (h:kqg rows i m=some row):idx rows i=some row/\(row.length+m.length)*9<=140737488355328:=by
 unfold kqg at h;obtain ⟨x,h1,h⟩:=qg.1 h;cases a:Nat.ble ((x.length+m.length)*9) 140737488355328 with
 | false=>rw [a] at h;cases h
 | true=>
  rw [a] at h;cases h;exact ⟨h1,qr a⟩
def kfs (rows:List (List Int)) (i:Int) (row:List Int):List Int->List (List Int)
 | []=>rows
 | k::l=>rows.set i.toNat (row++k::l)
theorem kk3 {rows:List (List Int)} {i:Int} {row:List Int} (h:idx rows i=some row) (ks:List Int):kfs rows i row ks=rows.set i.toNat (row++ks):=by
 cases ks with
 | nil=>
  unfold idx at h;split at h;show rows=_;rw [qbh];obtain ⟨h1,a⟩:=qd.1 h;rw [<- a,List.set_getElem_self]
  ·cases h
 | cons k l=>rfl
theorem k14 {rows:List (List Int)} {i:Int} {row:List Int} (h:idx rows i=some row) (ks:List Int):idx (kfs rows i row ks) i=some (row++ks):=by
 rw [kk3 h];unfold idx at h ⊢;split at h;rename_i h0;rw [qn h0];obtain ⟨h1,a⟩:=qd.1 h;rw [qbj h1]
 ·cases h
theorem k0u {rows:List (List Int)} {i:Int} {row:List Int} (h:idx rows i=some row) (ks:List Int) (k:Int):(kfs rows i row ks).set i.toNat ((row++ks)++[k])=kfs rows i row (ks++[k]):=by rw [kk3 h,kk3 h,List.set_set,qa1]
def kb2 {α:Type} (m:List (Int×α)) (seen:List Nat):List Int:=seen.filterMap fun j=>(m[j]?).map (·.1)
theorem kzc {α:Type} {m:List (Int×α)} {seen:List Nat} {j:Nat} {p:Int×α} (h:m[j]?=some p):kb2 m (seen++[j])=kb2 m seen++[p.1]:=by unfold kb2;rw [List.filterMap_append];simp [h]
theorem k04:∀ (n:Nat) (l:List Nat),l.Nodup->(∀ j,j∈l↔j<n)->l.Perm (List.range n):=fun n l h1 b=>by rw [List.perm_ext_iff_of_nodup h1 List.nodup_range];intro a;rw [List.mem_range];exact b a
theorem k0t {α:Type} {m:List (Int×α)} {seen:List Nat} (hn:seen.Nodup) (hl:∀ j∈seen,j<m.length) (h0:kil seen m.length=[]):(kb2 m seen).Perm (m.map (·.1)):=by
 have hp:seen.Perm (List.range m.length):=k04 _ _ hn fun j=>⟨hl j,fun b=>by
  by_cases h:j∈seen;exact h
  ·have:=(ki2 (i:=j) (n:=m.length) seen).2 ⟨b,h⟩;rw [h0] at this;cases this⟩
 have e:(List.range m.length).filterMap (fun j=>(m[j]?).map (·.1))=m.map (·.1):=by
  apply qb1;intro k;have hs:∀ (l:List Nat),(∀ j∈l,j<m.length)->l.filterMap (fun j=>(m[j]?).map (·.1))=l.map fun j=>((m[j]?).map (·.1)).getD 0:=by
   intro l
   induction l with
   | nil=>intro _;rfl
   | cons a l ih=>
    intro hl;have ha:=hl a (qq ..);rw [List.filterMap_cons,qa ha];simp only [qaw,qao,qa ha,qam];rw [ih fun j b=>hl j (qh _ b)]
  rw [hs _ fun j b=>List.mem_range.1 b];by_cases hk:k<m.length;rw [ql,List.getElem?_range hk,ql,qa hk];simp [hk]
  ·rw [qa4 (by simp;omega),qa4 (by simp;omega)]
 rw [<- e];exact hp.filterMap _
def RngI {α:Type} (m:List (Int×α)) (s:List Nat):Prop:=s.Nodup/\∀ j∈s,j<m.length
theorem k4f {α:Type} (m:List (Int×α)):RngI m []:=⟨List.nodup_nil,fun _ h=>nomatch h⟩
theorem ko1:∀ (n:Nat) (s:List Nat),s.Nodup->(∀ j∈s,j<n)->s.length<=n
 | 0,[],_,_=>qy _
 | 0,a::s,_,h=>absurd (h a (qq ..)) (Nat.not_lt_zero _)
 | n+1,s,hn,h=>by
  by_cases hm:n∈s;have h1:=ko1 n (s.erase n) (hn.erase n) fun j b=>(by have c:=(hn.mem_erase_iff).1 b;have:=h j c.2;have:=c.1;omega);rw [List.length_erase_of_mem hm] at h1;omega
  ·have:=ko1 n s hn fun j b=>(by have:=h j b;have:j≠n:=fun e=>hm (e ▸ b);omega);omega
section
variable {α:Type} {m:List (Int×α)} {s:List Nat} {j:Nat} {enc:α->FV} {p:Int×FV}
theorem k2o (h:(kvI enc m)[j]?=some p):∃ q,m[j]?=some q/\p.1=q.1:=by
 unfold kvI at h;rw [ql] at h;cases a:m[j]? with
 | none=>rw [a] at h;cases h
 | some q=>rw [a] at h;cases h;exact ⟨q,rfl,rfl⟩
theorem kabb (h:(kvI enc m)[j]?=some p):j<m.length:=by obtain ⟨q,a,_⟩:=k2o h;exact (qd.1 a).1
theorem kx4 (h:(kvI enc m)[j]?=some p):kb2 m (s++[j])=kb2 m s++[p.1]:=by obtain ⟨q,a,e⟩:=k2o h;rw [kzc a,e]
theorem ky5 (a:RngI m s) (h0:kil s (kvI enc m).length=[]):(kb2 m s).Perm (m.map fun p=>p.1):=by unfold kvI at h0;rw [qaa] at h0;exact k0t a.1 a.2 h0
theorem kvp (c:RngI m s) (f:j∉s) (hp:(kvI enc m)[j]?=some p):RngI m (s++[j]):=by
 refine ⟨?_,fun k hk=>?_⟩;rw [List.nodup_append];exact ⟨c.1,by simp,fun a ha b d=>by rw [q9] at d;subst d;exact fun e=>f (e ▸ ha)⟩
 ·rcases qab.1 hk with hk | hk;exact c.2 k hk
  ·rw [q9] at hk;subst hk;exact kabb hp
theorem k3w (a:RngI m s) (b:j∉s) (hp:(kvI enc m)[j]?=some p):s.length+1<=m.length:=by have h:=kvp a b hp;have:=ko1 _ _ h.1 h.2;simpa using this
theorem k6f (a:RngI m s) (b:j∉s) (hp:(kvI enc m)[j]?=some p):m.length - (s++[j]).length<m.length - s.length:=by have:=k3w a b hp;rw [qaj,qak];omega
theorem k1k:(kb2 m s).length<=s.length:=List.length_filterMap_le _ _
theorem k5p {row:List Int} (hl:(row.length+m.length)*9<=140737488355328) (a:RngI m s) (b:j∉s) (hp:(kvI enc m)[j]?=some p):((row++kb2 m s).length+[p.1].length)*(8+1)<=140737488355328:=by have h1:=k3w a b hp;have c:=k1k (m:=m) (s:=s);rw [qaj,qak];omega
end
section
variable {P:Program} {T:List (TypeId×TD)} {Q:Exit->St->Prop} {st:St} {ks:List Frm} [t:Tab P] {g:Cfg} {β:Type} {r:β}
theorem lend (k:Nat) (e:Exit) (a:Q e (stOf (crun P k g))) (hc:(nilK (crun P k g) && kmd (crun P k g).foc e)=true:=by kernel_rfl):W P g Q:=by
 refine kb0 k ?_;generalize crun P k g=g' at *
 obtain ⟨foc,ks,st⟩:=g';simp only [qv] at hc;cases ks with
 | cons=>cases hc.1
 | nil=>
  obtain ⟨rfl,_⟩:=ksy hc.2;exact W_fin a
theorem lpN {σ α:Type} {step:σ->Option ((List Int×(List Int->σ)) ⊕ α)} {n:Nat} {s0:σ} {K:α->Option β} (k:Nat) (H:σ->St) (Qb:α->Exit->St->Prop) (h:kru step n s0 K=some r) (hc:kke (crun P k g)=true) (h0:LeSt (stOf (crun P k g)) (H s0))
  (d:∀ s x,step s=some x->W P (knt (klg (crun P k g)) (H s)) (Sum.elim (fun p e st=>e = .normal/\∃ τ:List Int,τ.Perm p.1/\LeSt st (H (p.2 τ))) (fun v e st=>(e ≠ .normal/\e ≠ .outgrown)/\Qb v e st) x))
  (ha:∀ v,K v=some r->∀ e st',Qb v e st'->∃ st2,LeSt st' st2/\W P (unw e (ksOf (crun P k g)) st2) Q):W P g Q:=by
 have f:=k05 h;refine lpI (σ:=σ×Nat) k (fun p=>H p.1) (fun p=>DlP step K r p.2 p.1) (fun p=>p.2) (fun e st=>∃ v,K v=some r/\Qb v e st) (s0,n) f hc h0 (fun p hp=>?_) fun e st' a=>?_
 ·obtain ⟨s,m⟩:=p;cases m with
  | zero=>exact hp.elim
  | succ m=>
   obtain ⟨x,i,hr⟩:=hp;have:=d s x i;obtain ⟨c,b⟩:∃ c,klg (crun P k g)=⟨.code c,[],(crun P k g).st⟩:=by
    unfold kke at hc;unfold klg;split at hc;rename_i c hf;exact ⟨c,rfl⟩
    ·cases hc
   rw [b] at this ⊢;refine kaae (kpy (c:=c) (kaad this) ?_)
   ·intro e st a;cases x with
    | inl q=>
     obtain ⟨j,τ,l,hl⟩:=a;exact .inl ⟨j,(q.2 τ,m),⟨hr τ l,Nat.lt_succ_self m⟩,hl⟩
    | inr v=>exact .inr ⟨a.1,v,hr,a.2⟩
 ·obtain ⟨v,hv,a⟩:=a;exact ha v hv e st' a
theorem nxI (k:Nat) (x:Operand) (id m stepped:Nat) (kv:List (Int×FV)) (seen:List Nat) (ho:(kjw (crun P k g)).op = .next x false) (e:(stOf (crun P k g)).eval x = .ref id 0 0) (a:kaa (stOf (crun P k g)).heap id=some (.xo (.mit m kv.length seen stepped))) (b:kaa (stOf (crun P k g)).heap m=some (.xo (.imap kv))) (d:kv.length<=stepped) (h0:kil seen kv.length=[]->W P (rsmA (.fz (.tup [.atom (.bool false)])) (stOf (crun P k g)).heap (stOf (crun P k g)).ids (crun P k g)) Q) (h1:∀ (j:Nat) (p:Int×FV),j∉seen->kv[j]?=some p->W P (rsmA (.tup [.fz (.atom (.bool true)), .fz (.atom (.int .i64 p.1)), .fz p.2]) ((id, .xo (.mit m kv.length (seen++[j]) kv.length))::(stOf (crun P k g)).heap) (stOf (crun P k g)).ids (crun P k g)) Q) (hv:okP (crun P k g)=true:=by kernel_rfl):W P g Q:=
 sstD k (k7r ho e a b d) hv fun c h i f=>by
  rcases f with ⟨e0,rfl,rfl,rfl⟩ | ⟨j,p,l,hp,rfl,rfl,rfl⟩;exact h0 e0
  ·exact h1 j p l hp
def op3 (n:Nat) (g:Cfg):Oper:=match g.foc with
 | .ops _ (a::b::c::_)=>match n with
  | 0=>a
  | 1=>b
  | _=>c
 | _=>default
def k6r (g:Cfg):Bool:=match g.foc with
 | .ops _ (_::_::_::_)=>true
 | _=>false
def kaav (f:St->St) (g:Cfg):Cfg:=match g.foc with
 | .ops os (_::_::_::l)=>⟨.ops os l,g.ks,f g.st⟩
 | _=>⟨.bad,g.ks,g.st⟩
theorem tapp {α:Type} (f:α->Value) (enc:α->FV) (k:Nat) (rows:List (List α)) (row zs:List α) (i:Int) (A B X Y:Operand) (g' m d1 d2 id:Nat) (ov:Value) (eo ei t2:TypeId) (d d2' di:TD) (ki:IntKind) (h:idx rows i=some row) (H:kad t.T eo=some d) (e:d.kind = .slice ei) (j:d.size=1) (l:kad t.T ei=some di) (b:di.size=1) (o:di.zero.length=1) (a:k6r (crun P k g)=true) (p:(op3 0 (crun P k g)).op = .call { callee := .builtin .append,args:=#[A,B],argTypes:=#[eo,eo] }) (q:(op3 0 (crun P k g)).dst=some d1) (r:(op3 1 (crun P k g)).op = .indexAddr t2 X Y) (s:(op3 1 (crun P k g)).dst=some d2) (u:kad t.T t2=some d2') (v:d2'.kind = .slice eo) (w:(op3 2 (crun P k g)).op = .store eo (.tmp d2) (.tmp d1)) (x:(op3 2 (crun P k g)).dst=none) (g1:(op3 0 (crun P k g)).guard=none) (g2:(op3 1 (crun P k g)).guard=none) (g3:(op3 2 (crun P k g)).guard=none) (z:(d1 == d2)=false) (C:Nat.blt d1 (stOf (crun P k g)).n=true) (D:Nat.blt d2 (stOf (crun P k g)).n=true) (hA:(stOf (crun P k g)).eval A = .irow id g' (i.toNat+1)) (I:(stOf (crun P k g)).eval B = .fz (.lst 1 m (zs.map enc))\/(stOf (crun P k g)).eval B = .lim 1 m (zs.map enc)) (hX:(stOf (crun P k g)).eval X = .fz (.atom ov)) (E:notT d1 X=true) (J:(stOf (crun P k g)).eval Y = .fz (.atom (.int ki i))) (F:notT d1 Y=true) (G:kaa (stOf (crun P k g)).heap id=some (.tab g' ov eo ei (rows.map (List.map f)))) (hf:∀ y,enc y = .atom (f y)/\(f y).oneCell'=true) (c:(row.length+zs.length)*(di.bytes+1)<=140737488355328) (hn:W P (kaav (fun st=>((tabG f id g' ov eo ei rows i.toNat (row++zs) st).put (some d1) .any).put (some d2) .any) (crun P k g)) Q):W P g Q:=by
 refine kb0 k ?_;generalize crun P k g=gg at *
 obtain ⟨foc,ks,st⟩:=gg;unfold k6r at a;simp only at a;split at a;exact W_ops (k42 h t.ok H e j l b o p q r s u v w x g1 g2 g3 (by simpa using z) (qr C) (qr D) hA I hX E J F G hf c (ops_W hn))
 ·cases a
end
def tt2:TD:=⟨1,8, .int .i64,[.int .i64 0]⟩
def tt3:TD:=⟨1,8, .int .i64,[.int .i64 0]⟩
def tt4:TD:=⟨1,1, .bool,[.bool false]⟩
def tt5:TD:=⟨1,1, .int .u8,[.int .u8 0]⟩
def tt9:TD:=⟨1,16, .str,[.string ⟨#[]⟩]⟩
def tt20:TD:=⟨1,16, .ifc,[.nilIface]⟩
def tt22:TD:=⟨1,24, .slice 41,[.slice none 0 0]⟩
def tt23:TD:=⟨1,24, .slice 3,[.slice none 0 0]⟩
def tt25:TD:=⟨2,48, .st [(22,0),(23,1)],[.slice none 0 0, .slice none 0 0]⟩
def tt26:TD:=⟨1,24, .slice 28,[.slice none 0 0]⟩
def tt28:TD:=⟨2,32, .st [(3,0),(26,1)],[.int .i64 0, .slice none 0 0]⟩
def tt32:TD:=⟨1,8, .int .i64,[.int .i64 0]⟩
def tt38:TD:=⟨1,8, .fn,[.nilFunc]⟩
def tt39:TD:=⟨1,24, .slice 43,[.slice none 0 0]⟩
def tt41:TD:=⟨3,40, .st [(3,0),(3,1),(39,2)],[.int .i64 0, .int .i64 0, .slice none 0 0]⟩
def tt43:TD:=⟨2,32, .st [(3,0),(23,1)],[.int .i64 0, .slice none 0 0]⟩
def tt45:TD:=⟨1,24, .slice 77,[.slice none 0 0]⟩
def tt46:TD:=⟨1,24, .slice 82,[.slice none 0 0]⟩
def tt48:TD:=⟨4,88, .st [(9,0),(23,1),(45,2),(46,3)],[.string ⟨#[]⟩, .slice none 0 0, .slice none 0 0, .slice none 0 0]⟩
def tt58:TD:=⟨1,8, .ptr 95,[.pointer none]⟩
def tt60:TD:=⟨1,24, .slice 23,[.slice none 0 0]⟩
def tt61:TD:=⟨1,8, .map 3 4,[.map none]⟩
def tt66:TD:=⟨1,24, .slice 26,[.slice none 0 0]⟩
def tt69:TD:=⟨1,8, .fn,[.nilFunc]⟩
def tt73:TD:=⟨1,8, .fn,[.nilFunc]⟩
def tt77:TD:=⟨2,24, .st [(9,0),(3,1)],[.string ⟨#[]⟩, .int .i64 0]⟩
def tt78:TD:=⟨1,24, .slice 80,[.slice none 0 0]⟩
def tt80:TD:=⟨4,56, .st [(3,0),(2,1),(9,2),(78,3)],[.int .i64 0, .int .i64 0, .string ⟨#[]⟩, .slice none 0 0]⟩
def tt82:TD:=⟨9,120, .st [(3,0),(3,1),(3,2),(80,3),(9,7),(23,8)],[.int .i64 0, .int .i64 0, .int .i64 0, .int .i64 0, .int .i64 0, .string ⟨#[]⟩, .slice none 0 0, .string ⟨#[]⟩, .slice none 0 0]⟩
def tt84:TD:=⟨1,24, .slice 23,[.slice none 0 0]⟩
def tt91:TD:=⟨1,8, .fn,[.nilFunc]⟩
def tt93:TD:=⟨1,8, .map 9 3,[.map none]⟩
def tt95:TD:=⟨4,80, .st [(93,0),(23,1),(60,2),(23,3)],[.map none, .slice none 0 0, .slice none 0 0, .slice none 0 0]⟩
def tt98:TD:=⟨1,24, .slice 4,[.slice none 0 0]⟩
def k6n:TD:=⟨1,24, .slice 3,[.slice none 0 0]⟩
def tt106:TD:=⟨1,8, .fn,[.nilFunc]⟩
def tt109:TD:=⟨1,8, .fn,[.nilFunc]⟩
def tt113:TD:=⟨1,8, .int .u64,[.int .u64 0]⟩
def k1e:TD:=⟨1,8, .map 3 103,[.map none]⟩
def tt121:TD:=⟨1,8, .fn,[.nilFunc]⟩
def tt124:TD:=⟨1,8, .map 9 4,[.map none]⟩
def tt128:TD:=⟨1,8, .fn,[.nilFunc]⟩
def tt134:TD:=⟨1,8, .ptr 178,[.pointer none]⟩
def tt137:TD:=⟨1,8, .fn,[.nilFunc]⟩
def tt138:TD:=⟨1,8, .fn,[.nilFunc]⟩
def tt148:TD:=⟨1,8, .int .i64,[.int .i64 0]⟩
def tt155:TD:=⟨1,4, .int .u32,[.int .u32 0]⟩
def tt157:TD:=⟨1,8, .int .u64,[.int .u64 0]⟩
def tt165:TD:=⟨3,48, .st [(9,0),(23,1),(3,2)],[.string ⟨#[]⟩, .slice none 0 0, .int .i64 0]⟩
def tt176:TD:=⟨1,8, .map 9 2,[.map none]⟩
def tt178:TD:=⟨5,96, .st [(48,0),(176,4)],[.string ⟨#[]⟩, .slice none 0 0, .slice none 0 0, .slice none 0 0, .map none]⟩
def tt193:TD:=⟨1,24, .slice 5,[.slice none 0 0]⟩
def tt195:TD:=⟨1,8, .int .u64,[.int .u64 0]⟩
def tt199:TD:=⟨1,8, .ptr 3,[.pointer none]⟩
def tt207:TD:=⟨4,64, .st [(165,0),(9,3)],[.string ⟨#[]⟩, .slice none 0 0, .int .i64 0, .string ⟨#[]⟩]⟩
def tt220:TD:=⟨1,24, .slice 207,[.slice none 0 0]⟩
def tt226:TD:=⟨1,24, .slice 220,[.slice none 0 0]⟩
def tt228:TD:=⟨24,24, .arr 24 5,List.replicate 24 (.int .u8 0)⟩
def tt232:TD:=⟨1,24, .slice 9,[.slice none 0 0]⟩
def tt238:TD:=⟨20,160, .arr 20 157,List.replicate 20 (.int .u64 0)⟩
def tt241:TD:=⟨32,32, .arr 32 5,List.replicate 32 (.int .u8 0)⟩
def tt242:TD:=⟨64,64, .arr 64 5,List.replicate 64 (.int .u8 0)⟩
def TT:List (TypeId×TD):=[(2,tt2),(3,tt3),(4,tt4),(5,tt5),(9,tt9),(20,tt20),(22,tt22),(23,tt23),(25,tt25),(26,tt26),(28,tt28),(32,tt32),(38,tt38),(39,tt39),(41,tt41),(43,tt43),(45,tt45),(46,tt46),(48,tt48),(58,tt58),(60,tt60),(61,tt61),(66,tt66),(69,tt69),(73,tt73),(77,tt77),(78,tt78),(80,tt80),(82,tt82),(84,tt84),(91,tt91),(93,tt93),(95,tt95),(98,tt98),(103,k6n),(106,tt106),(109,tt109),(113,tt113),(116,k1e),(121,tt121),(124,tt124),(128,tt128),(134,tt134),(137,tt137),(138,tt138),(148,tt148),(155,tt155),(157,tt157),(165,tt165),(176,tt176),(178,tt178),(193,tt193),(195,tt195),(199,tt199),(207,tt207),(220,tt220),(226,tt226),(228,tt228),(232,tt232),(238,tt238),(241,tt241),(242,tt242)]
theorem kaj:TOk prog TT:=k27 (by kernel_rfl)
instance tabP:Tab prog:=⟨TT,kaj,by kernel_rfl⟩
def gt0:List Int:=[1,10,100,1000,10000,100000,1000000,10000000,100000000,1000000000,10000000000,100000000000,1000000000000,10000000000000,100000000000000,1000000000000000,10000000000000000,100000000000000000,1000000000000000000,10000000000000000000]
def gv0:Array Value:=#[.int .u64 1, .int .u64 10, .int .u64 100, .int .u64 1000, .int .u64 10000, .int .u64 100000, .int .u64 1000000, .int .u64 10000000, .int .u64 100000000, .int .u64 1000000000, .int .u64 10000000000, .int .u64 100000000000, .int .u64 1000000000000, .int .u64 10000000000000, .int .u64 100000000000000, .int .u64 1000000000000000, .int .u64 10000000000000000, .int .u64 100000000000000000, .int .u64 1000000000000000000, .int .u64 10000000000000000000]
def gt1:List Int:=[0,1,28,2,29,14,24,3,30,22,20,15,25,17,4,8,31,27,13,23,21,19,16,7,26,12,18,6,11,5,10,9]
def gv1:Array Value:=#[.int .u8 0, .int .u8 1, .int .u8 28, .int .u8 2, .int .u8 29, .int .u8 14, .int .u8 24, .int .u8 3, .int .u8 30, .int .u8 22, .int .u8 20, .int .u8 15, .int .u8 25, .int .u8 17, .int .u8 4, .int .u8 8, .int .u8 31, .int .u8 27, .int .u8 13, .int .u8 23, .int .u8 21, .int .u8 19, .int .u8 16, .int .u8 7, .int .u8 26, .int .u8 12, .int .u8 18, .int .u8 6, .int .u8 11, .int .u8 5, .int .u8 10, .int .u8 9]
def gt2:List Int:=[0,1,56,2,57,49,28,3,61,58,42,50,38,29,17,4,62,47,59,36,45,43,51,22,53,39,33,30,24,18,12,5,63,55,48,27,60,41,37,16,46,35,44,21,52,32,23,11,54,26,40,15,34,20,31,10,25,14,19,9,13,8,7,6]
def gv2:Array Value:=#[.int .u8 0, .int .u8 1, .int .u8 56, .int .u8 2, .int .u8 57, .int .u8 49, .int .u8 28, .int .u8 3, .int .u8 61, .int .u8 58, .int .u8 42, .int .u8 50, .int .u8 38, .int .u8 29, .int .u8 17, .int .u8 4, .int .u8 62, .int .u8 47, .int .u8 59, .int .u8 36, .int .u8 45, .int .u8 43, .int .u8 51, .int .u8 22, .int .u8 53, .int .u8 39, .int .u8 33, .int .u8 30, .int .u8 24, .int .u8 18, .int .u8 12, .int .u8 5, .int .u8 63, .int .u8 55, .int .u8 48, .int .u8 27, .int .u8 60, .int .u8 41, .int .u8 37, .int .u8 16, .int .u8 46, .int .u8 35, .int .u8 44, .int .u8 21, .int .u8 52, .int .u8 32, .int .u8 23, .int .u8 11, .int .u8 54, .int .u8 26, .int .u8 40, .int .u8 15, .int .u8 34, .int .u8 20, .int .u8 31, .int .u8 10, .int .u8 25, .int .u8 14, .int .u8 19, .int .u8 9, .int .u8 13, .int .u8 8, .int .u8 7, .int .u8 6]
def GV:List (Nat×Array Value):=[(0,gv0),(1,gv1),(2,gv2),(3,#[])]
set_option maxRecDepth 100000
open Go Go.RowKit Go.Proofs Go.Proofs.Tryz
section
variable {P:Program} {H:Type} {enc:TypeId×Value->H} {w:World} {base:Nat} {sp:Nat->Bool} {held:Bool}
theorem kx7 {nm:String} {cs:Array Value} {g:Nat} (h:w.var? P nm=some cs) (a:P.globalNamed nm=some g):∃ e d,w.heap[g]?=some (.cells cs e d):=by
 unfold World.var? at h;rw [a,qb] at h;split at h;rename_i cs' e d b;injection h with h;subst h;exact ⟨e,d,b⟩
 ·cases h
end
theorem gl1_n : prog.globalNamed "math/bits.deBruijn32tab" = some 1 := by kernel_rfl
theorem gl1_t:(prog.globals[1]?).map (·.type)=some 241:=by kernel_rfl
theorem gl1_d:(Rows.laid_math_bits_deBruijn32tab:DataW Unit)=Lib.tabData .u8 gt1:=by kernel_rfl
theorem gl1_c:(gt1.map fun z=>Value.int .u8 z).toArray=gv1:=by kernel_rfl
theorem gl1_v {W : World} {cs : Array Value} {fuel : Nat} {p : List MemPlace} (hv : W.var? prog "math/bits.deBruijn32tab" = some cs) (h : DataW.trod (fun _ => ()) prog W 0 (fun _ => true) false fuel 241 cs.toList = some (Rows.laid_math_bits_deBruijn32tab, p)) : ∃ e d, W.heap[1]? = some (.cells gv1 e d) := by
 rw [gl1_d] at h;have:=Lib.cells_of_tab underlying241 underlying5 (by kernel_rfl) (by kernel_rfl) h;have e:cs=gv1:=by rw [<- gl1_c,<- this]
 rw [e] at hv;exact kx7 hv gl1_n
theorem gl2_n : prog.globalNamed "math/bits.deBruijn64tab" = some 2 := by kernel_rfl
theorem gl2_t:(prog.globals[2]?).map (·.type)=some 242:=by kernel_rfl
theorem gl2_d:(Rows.laid_math_bits_deBruijn64tab:DataW Unit)=Lib.tabData .u8 gt2:=by kernel_rfl
theorem gl2_c:(gt2.map fun z=>Value.int .u8 z).toArray=gv2:=by kernel_rfl
theorem gl2_v {W : World} {cs : Array Value} {fuel : Nat} {p : List MemPlace} (hv : W.var? prog "math/bits.deBruijn64tab" = some cs) (h : DataW.trod (fun _ => ()) prog W 0 (fun _ => true) false fuel 242 cs.toList = some (Rows.laid_math_bits_deBruijn64tab, p)) : ∃ e d, W.heap[2]? = some (.cells gv2 e d) := by
 rw [gl2_d] at h;have:=Lib.cells_of_tab underlying242 underlying5 (by kernel_rfl) (by kernel_rfl) h;have e:cs=gv2:=by rw [<- gl2_c,<- this]
 rw [e] at hv;exact kx7 hv gl2_n
theorem gl0_n : prog.globalNamed "internal/strconv.uint64pow10" = some 0 := by kernel_rfl
theorem gl0_t:(prog.globals[0]?).map (·.type)=some 238:=by kernel_rfl
theorem gl0_d:(Rows.laid_internal_strconv_uint64pow10:DataW Unit)=Lib.tabData .u64 gt0:=by kernel_rfl
theorem gl0_c:(gt0.map fun z=>Value.int .u64 z).toArray=gv0:=by kernel_rfl
theorem gl0_v {W : World} {cs : Array Value} {fuel : Nat} {p : List MemPlace} (hv : W.var? prog "internal/strconv.uint64pow10" = some cs) (h : DataW.trod (fun _ => ()) prog W 0 (fun _ => true) false fuel 238 cs.toList = some (Rows.laid_internal_strconv_uint64pow10, p)) : ∃ e d, W.heap[0]? = some (.cells gv0 e d) := by
 rw [gl0_d] at h;have:=Lib.cells_of_tab underlying238 underlying157 (by kernel_rfl) (by kernel_rfl) h;have e:cs=gv0:=by rw [<- gl0_c,<- this]
 rw [e] at hv;exact kx7 hv gl0_n
def kq4 : List (String × DataW Unit) := [("math/bits.deBruijn32tab", Rows.laid_math_bits_deBruijn32tab), ("math/bits.deBruijn64tab", Rows.laid_math_bits_deBruijn64tab), ("internal/strconv.uint64pow10", Rows.laid_internal_strconv_uint64pow10)]
theorem k97 {W:World} (h:W.ShapedOpen prog):GlbR W 3 #[]:=by
 obtain ⟨m,hm⟩:=Go.Proofs.cell_of_shapedOpen_int (zero:=#[.int .i64 0]) (g:=3) (t:=3) (k := .i64) h (qb0 (by kernel_rfl)) (by kernel_rfl) rfl (by kernel_rfl) (by kernel_rfl) underlying3;obtain ⟨cs,a,hs,_⟩:=h.1 3 #[.int .i64 0] 3 (qb0 (by kernel_rfl)) (by kernel_rfl);refine .inr ⟨rfl,m,3,(0,0),?_⟩;obtain ⟨l⟩:=cs
 match l,hs with
 | [u],_=>
  simp only [World.cell?,a] at hm;have b:u = .int .i64 m:=by simpa using hm
  rw [a,b]
theorem kaap {W:World} (h:laidMetH prog kq4 W) (a:W.ShapedOpen prog):∀ p,p∈GV->GlbR W p.1 p.2:=by
 have h:laidMet prog kq4 W:=h;obtain ⟨ps,hl,_⟩:=h;simp only [kq4,DataW.LaidVars] at hl;obtain ⟨g0,t0,c0,u0,p0,q0,n0,y0,v0,d0,⟨g1,t1,c1,u1,p1,q1,n1,y1,v1,d1,⟨g2,t2,c2,u2,p2,q2,n2,y2,v2,d2,_,_⟩,_⟩,_⟩:=hl;obtain rfl:=qag (gl1_t.symm.trans (by rw [qag (gl1_n.symm.trans n0)];exact y0));have z1:=gl1_v v0 d0;obtain rfl:=qag (gl2_t.symm.trans (by rw [qag (gl2_n.symm.trans n1)];exact y1));have z2:=gl2_v v1 d1;obtain rfl:=qag (gl0_t.symm.trans (by rw [qag (gl0_n.symm.trans n2)];exact y2));have z0:=gl0_v v2 d2;intro p hp;simp only [GV,qat,List.not_mem_nil,or_false] at hp;rcases hp with rfl | rfl | rfl | rfl;exact .inl ⟨qb0 (by kernel_rfl),z0⟩;exact .inl ⟨qb0 (by kernel_rfl),z1⟩;exact .inl ⟨qb0 (by kernel_rfl),z2⟩
 ·exact k97 a
noncomputable def ku5 (os:Os):World:=
 let w0:=World.holding prog os ⟨#[],#[],[]⟩
 { w0 with heap:=(((w0.heap).modify 0 (fun | Obj.cells _ t fr=>Obj.cells gv0 t fr | o=>o)).modify 1 (fun | Obj.cells _ t fr=>Obj.cells gv1 t fr | o=>o)).modify 2 (fun | Obj.cells _ t fr=>Obj.cells gv2 t fr | o=>o) }
theorem kv7 (os:Os) (args:Array Value):laidMetH prog kq4 ((ku5 os).forCall (fun _ _=>0) ⟨#[],args,[]⟩).memory:=
 laidMetH_of_parts (laidMet_of_run' 8 (by kernel_rfl) (by kernel_rfl)) (by kernel_rfl)
end Go.Proofs.YtnlhjbnpjefjgaaGreatDoor
