import Derived.Test.YtgebfaidgikieaaGreatDoorXk
import Derived.Test.YtgebfaidgikieaaGreatDoorRg
import Derived.Lib.ItoaNum
import Derived.Sort.Grow
import Derived.Deep.Draws
import Derived.Lib.ConvBytes
import Derived.Lib.AtoiErrMem
import Derived.Test.YtgebfaidgikieaaGreatDoorXd
import Derived.Test.YtgebfaidgikieaaGreatDoorSim
import Derived.Test.YtgebfaidgikieaaGreatDoorProg
set_option linter.all false
namespace Go.Proofs.YtgebfaidgikieaaGreatDoor
open Go Go.RowKit
variable {P:Program} {F S0:Nat->Prop} {N0:Nat} {w w' w0:World} {S S' SB:Nat->Prop} {ψ ψ':Env} {K:Nat->Prop} {T:List (TypeId×TD)} {Z:List (TypeId×Value)} {o:Oper} {a a':Act} {st st' st1 st2:St} {t tx:TypeId} {d:TD} {id:Nat} {c:AV} {s s1 s2:XS} {e:Exit} {C:Cx} {ih:EvT} {heap:List (Nat×AObj)}
theorem k7z {x:FV} (h:x.single=true):x.cells=[x]:=by cases x <;> first | rfl | cases h
theorem k3c:∀ {sz n:Nat} {l ys:List FV},(∀ x∈l,x.single=true)->krz sz n l=some ys->ys.length=n/\l.length=n*sz/\∀ (i:Nat) (x:FV),ys[i]?=some x->x.cells=(l.drop (i*sz)).take sz/\x.cells.length=sz
 | sz,0,l,ys,h1,h=>by
  cases l with
  | nil=>
   simp only [krz,qc] at h;subst h;exact ⟨rfl,by simp,fun i x h=>by simp at h⟩
  | cons x l=>simp only [krz] at h;cases h
 | sz,n+1,l,ys,h1,h=>by
  have gen:∀ (y:FV) (r:List FV),krz sz n (l.drop sz)=some r->(l.take sz).length=sz->y.cells=l.take sz->ys=y::r->ys.length=n+1/\l.length=(n+1)*sz/\∀ (i:Nat) (x:FV),ys[i]?=some x->x.cells=(l.drop (i*sz)).take sz/\x.cells.length=sz:=by
   intro y r hr hl hy a;subst a;obtain ⟨k1,k2,k3⟩:=k3c (fun x hx=>h1 x (qbf hx)) hr;have b:sz<=l.length:=(by rw [qap] at hl;omega);rw [qa2] at k2;refine ⟨by simp [k1],by rw [qa3];omega,fun i x hx=>?_⟩;cases i with
   | zero=>
    simp only [List.getElem?_cons_zero,qc] at hx;subst hx;simp only [Nat.zero_mul,List.drop_zero];exact ⟨hy,by rw [hy];exact hl⟩
   | succ i=>
    simp only [qbn] at hx;obtain ⟨q1,q2⟩:=k3 i x hx;rw [List.drop_drop] at q1;exact ⟨by rw [q1];congr 2;rw [qa3];omega,q2⟩
  simp only [krz] at h;split at h
  ·rename_i y r hy hr;injection h with h;unfold mkEl at hy;replace hy:=kas hy;obtain ⟨c,hy⟩:=hy;refine gen y r hr (qi c) ?_ h.symm;split at hy;rename_i x hx;injection hy with hy;subst hy;rw [hx];exact k7z (h1 x (qbi (by rw [hx];exact qbh.2 rfl)))
   ·injection hy with hy;subst hy;rfl
  ·cases h
theorem k8f {v:Value} {r:FV} {S':Nat->Prop} {w':World} (h:RF S w v r) (ha:atF r=true):RF S' w' v r:=by
 cases h with
 | atom h=>exact .atom h
 | @tup cs xs hl hr=>
  refine .tup hl fun i u x a hx=>?_;have:=qp.1 ha x (qu hx);cases x <;> simp at this;cases hr i u _ a hx with
  | atom h=>exact .atom h
 | @agg cs xs hl h1 hr=>
  refine .agg hl h1 fun i u x a hx=>?_;have:=qp.1 ha x (qu hx);cases x <;> simp at this;cases hr i u _ a hx with
  | atom h=>exact .atom h
 | _=>cases ha
theorem kxm {H:Nat->Option AObj} {fr:Bool} (hS:fr=false->∀ b,S b->SB b) (G:∀ id o,H id=some o->ObR ψ K S w id o/\∀ b,Blk (ψ.val id) b->SB b):∀ fuel:Nat,
  (∀ (x:AV) (y:FV),frz H fr fuel x=some y->(x.single=true->y.single=true)/\∀ v,RV ψ K S w v x->RF SB w v y) /\
  (∀ (xs:List AV) (ys:List FV),frzs H fr fuel xs=some ys->xs.length=ys.length/\∀ (i:Nat) (x:AV) (y:FV),xs[i]?=some x->ys[i]?=some y->(x.single=true->y.single=true)/\∀ v,RV ψ K S w v x->RF SB w v y)
 | 0=>⟨(fun x y h=>by unfold frz at h;cases h),fun xs ys h=>by unfold frzs at h;cases h⟩
 | f+1=>by
  obtain ⟨ih1,ih2⟩:=kxm hS G f;constructor
  ·intro x y h;unfold frz at h;split at h;rename_i h0;cases h0
   ·replace h:=kas h;obtain ⟨A,h⟩:=h;injection h with h;subst h;refine ⟨fun h=>h,fun v hv=>?_⟩;cases d:fr with
    | false=>exact hv.inv.mono (hS d)
    | true=>rw [d,qbo,Bool.false_or] at A;exact k8f hv.inv A
   ·cases d:fr with
    | true=>rw [d] at h;cases h
    | false=>
     rw [d] at h;injection h with h;subst h;refine ⟨fun _=>rfl,fun v hv=>?_⟩;cases hv with
     | lim h=>exact h.mono (hS d)
   ·rename_i f' cs d;cases d;split at h
    ·rename_i xs k;injection h with h;subst h;obtain ⟨k1,k2⟩:=ih2 _ _ k;refine ⟨fun h=>(by cases h),fun v hv=>?_⟩;cases hv with
     | @agg vs _ q1 q2 q3=>
      refine .agg (by omega) (fun y hy=>?_) fun i u y a hy=>?_;obtain ⟨i,hi,rfl⟩:=qaf.1 hy;have hx:cs[i]?=some (cs[i]'(by omega)):=qb _;exact (k2 i _ _ hx (qb hi)).1 (q2 _ (qv _))
      ·have hi:=(qj.1 hy).1;have hx:cs[i]?=some (cs[i]'(by omega)):=qb _;exact (k2 i _ _ hx hy).2 u (q3 i u _ a hx)
    ·cases h
   ·rename_i f' cs d;cases d;split at h
    ·rename_i xs k;injection h with h;subst h;obtain ⟨k1,k2⟩:=ih2 _ _ k;refine ⟨fun h=>(by cases h),fun v hv=>?_⟩;cases hv with
     | @tup vs _ q1 q3=>
      refine .tup (by omega) fun i u y a hy=>?_;have hi:=(qj.1 hy).1;have hx:cs[i]?=some (cs[i]'(by omega)):=qb _;exact (k2 i _ _ hx hy).2 u (q3 i u _ a hx)
    ·cases h
   ·rename_i f' id g off len cap d;cases d;split at h
    ·rename_i g' e sz cells J;replace h:=kas h;obtain ⟨A,h⟩:=h;obtain rfl:=qi A;split at h
     ·rename_i xs k;split at h
      ·rename_i ys B;injection h with h;subst h;refine ⟨fun _=>rfl,fun v hv=>?_⟩;obtain ⟨C,D⟩:=G id _ J;obtain ⟨q0,qz,b,cs,n,cap',q1,q2,q3,q4,q5,q6,q7⟩:=C;obtain ⟨hK,b',c,p,rfl,E,hm,_⟩:=kjx hv q0;rw [q1] at p;simp only [kay,qc] at p;subst p;obtain ⟨k1,k2⟩:=ih2 _ _ k;have m:∀ x∈xs,x.single=true:=fun x hx=>(by obtain ⟨i,hi,rfl⟩:=qaf.1 hx;have s:i<((cells.drop off).take (len*sz)).length:=(by omega);exact (k2 i _ _ (qb s) (qb hi)).1 (q6 _ (qbf (qbi (qv s)))));obtain ⟨m1,m2,m3⟩:=k3c m B;have t:((cells.drop off).take (len*sz)).length=len*sz:=(by omega);have I:off+len*sz<=cells.length\/len*sz=0:=(by rw [qap,qa2] at t;omega);have z:∀ (i:Nat),i<len->i*sz+sz<=len*sz:=fun i hi=>(by have:=qau sz (show i+1<=len by omega);rw [qa3] at this;omega);refine .lst (fun i=>(cs.toList.drop (off+i*sz)).take sz) m1.symm E hm qz (fun i x hx=>⟨b,off,rfl,D b (.of (by rw [q1];rfl)),fun j u a=>?_⟩) (fun i x hx=>?_) fun i x j u y hx a hy=>?_
       ·rw [q9] at a;split at a;rw [qag] at a;exact kye q2 (by simpa using a)
        ·cases a
       have hi:i<len:=(by rw [<- m1];exact (qj.1 hx).1);have:=z i hi;obtain ⟨p1,p2⟩:=m3 i x hx;refine ⟨by rw [qap,qa2,qak];omega,p2,fun y hy=>?_⟩;rw [p1] at hy;exact m y (qbf (qbi hy))
       ·have hi:i<len:=(by rw [<- m1];exact (qj.1 hx).1);have L:=z i hi;obtain ⟨p1,p2⟩:=m3 i x hx;rw [p1,q9] at hy;rw [q9] at a;split at a;rename_i M;rw [qs M,qag] at hy;rw [qag] at a;have F:i*sz+j<len*sz:=(by omega);have hc:((cells.drop off).take (len*sz))[i*sz+j]?=some (((cells.drop off).take (len*sz))[i*sz+j]'(by omega)):=qb _;refine (k2 _ _ _ hc hy).2 u (q7 (off+(i*sz+j)) u _ (by rw [<- Nat.add_assoc];simpa using a) ?_);rw [q9,qs F,qag] at hc;exact hc
        ·cases a
      ·cases h
     ·cases h
    ·cases h
   ·cases h
  ·intro xs ys h;unfold frzs at h;split at h;rename_i h0;cases h0;injection h with h;subst h;exact ⟨rfl,fun i x y h=>by simp at h⟩
   ·rename_i f' x l d;cases d;split at h
    ·rename_i y r hy hr;injection h with h;subst h;obtain ⟨k1,k2⟩:=ih2 _ _ hr;refine ⟨by simp [k1],fun i x' y' hx q=>?_⟩;cases i with
     | zero=>simp at hx q;subst hx q;exact ih1 _ _ hy
     | succ i=>exact k2 i x' y' (by simpa using hx) (by simpa using q)
    ·cases h
theorem k8v {f:Nat} {xs:List FV} {y:AV} {r:FV} (h:HCall P f (xs.map .fz) [] [] (.ret y) s1.heap (idsN s1.k)) (hr:frz (kaa s1.heap) false 1000 y=some r):PCall P f xs r:=by
 refine ⟨h.1,fun S w vs hs hv=>?_⟩;have d:∀ {v x},RF S w v x->RF (fun b=>S b/\b<w.heap.size) w v x:=fun h=>h.bound;refine (h.2 (fun b=>b<w.heap.size) (fun b=>S b/\b<w.heap.size) w.heap.size ⟨fun _=>0,fun _ => .nilFunc⟩ (fun b=>S b/\b<w.heap.size) w vs (by simpa using hs) (fun i v x g hx=>?_) ⟨fun id o h=>(by cases h),fun i i' o o' b h=>(by cases h),fun b h=>h.2,fun b h => .inl h,qw _,fun b h=>h⟩).mono ?_;rw [qr,qm] at hx;obtain ⟨z,m,rfl⟩:=hx;exact .fz (d (hv i v z g m))
 ·rintro e w' ⟨ψ',S',⟨v,rfl,j⟩,a,c,_⟩;refine ⟨v,rfl,((kxm (SB:=fun b=>S b\/w.heap.size<=b) (fun _ b d=>?_) (fun id o l=>⟨(a.obj id o l).2.1,fun b d => .inr ?_⟩) 1000).1 y r hr).2 v j,⟨⟨c.os,c.tape,c.output,c.size,c.block⟩,no0⟩⟩
  ·rcases a.s0 b d with h | h;exact .inl h.1
   ·exact .inr h
  ·have:=((a.obj id o l).2.2 b d).2.1;omega
theorem k0c {u v:Value} (h:k43 u v=true):u=v:=by
 unfold k43 at h;split at h;simp only [qo,decide_eq_true_eq,beq_iff_eq] at h;rw [h.1,h.2];rw [kkh,MapKept.bytes_beq] at h;rw [h];simp at h;rw [h]
 all_goals first | rfl | cases h
mutual
theorem kah3:∀ {a b:FV},eqFV a b=true->a=b
 | .atom v,b,h=>by cases b <;> simp only [eqFV] at h <;> first | (rw [k0c h]) | cases h
 | .agg v,b,h=>by cases b <;> simp only [eqFV] at h <;> first | (rw [kni h]) | cases h
 | .tup v,b,h=>by cases b <;> simp only [eqFV] at h <;> first | (rw [kni h]) | cases h
 | .lst s n v,b,h=>by
  cases b <;> simp only [eqFV] at h <;> try cases h
  simp only [qo] at h;rw [qi h.1,qi h.2.1,kni h.2.2]
 | .fp v,b,h=>by cases b <;> simp only [eqFV] at h <;> first | (rw [kni h]) | cases h
 | .bx v,b,h=>by cases b <;> simp only [eqFV] at h <;> first | (rw [kni h]) | cases h
theorem kni:∀ {a b:List FV},km7 a b=true->a=b
 | [],[],_=>rfl
 | [],_::_,h=>by simp only [km7] at h;cases h
 | _::_,[],h=>by simp only [km7] at h;cases h
 | a::l,b::m,h=>by simp only [km7,qo] at h;rw [kah3 h.1,kni h.2]
end
theorem k5j {l:List (Nat×List FV×FV)} (hl:∀ p∈l,PCall P p.1 p.2.1 p.2.2) {f:Nat} {xs:List FV} {r:FV} (h:k04 l f xs=some r):PCall P f xs r:=by
 induction l with
 | nil=>cases h
 | cons p l ih=>
  obtain ⟨g,as_,q⟩:=p;simp only [k04] at h;cases a:(Nat.beq g f && km7 as_ xs) with
  | true=>
   rw [a] at h;simp only [qe,qc] at h;subst h;simp only [qo] at a;have:=hl _ (qx ..)
   rwa [qi a.1,kni a.2] at this
  | false=>
   rw [a] at h;exact ih (fun p hp=>hl p (qk _ hp)) h
theorem k8g (b:CxOk P C) (a:EvOk P ih) {f:Nat} {xs:List FV} {r:FV} (hr:k4w C ih f xs=some r):PCall P f xs r:=by
 unfold k4w at hr;split at hr;rename_i r' c;injection hr with hr;subst hr;exact k5j b.fx c
 ·replace hr:=kas hr;obtain ⟨_,hr⟩:=hr;split at hr;rename_i y s2 d;rw [H_eq []] at hr;exact k8v (kvh b a d).1 hr
  ·cases hr
def PNew (P:Program) (f:FuncId) (args:List FV) (r:FV):Prop:=
 (∃ fn, P.funcs[f]? = some fn /\ fn.body.isNone = false /\ (fn.name == "runtime.NumGoroutine") = false) /\
 ∀ (S:Nat->Prop) (w:World) (vs:Array Value),vs.size=args.length->(∀ (i:Nat) (v:Value) (x:FV),vs[i]?=some v->args[i]?=some x->RF S w v x) ->
  Calls P f vs w fun e w'=>∃ v,e = .returned v/\RF (fun b=>w.heap.size<=b) w' v r/\Grow w w'
theorem kaku {f:Nat} {xs:List FV} {y:AV} {r:FV} (h:HCall P f (xs.map .fz) [] [] (.ret y) s1.heap (idsN s1.k)) (hr:frz (kaa s1.heap) true 1000 y=some r):PNew P f xs r:=by
 refine ⟨h.1,fun S w vs hs hv=>?_⟩;have d:∀ {v x},RF S w v x->RF (fun b=>S b/\b<w.heap.size) w v x:=fun h=>h.bound;refine (h.2 (fun b=>b<w.heap.size) (fun b=>S b/\b<w.heap.size) w.heap.size ⟨fun _=>0,fun _ => .nilFunc⟩ (fun b=>S b/\b<w.heap.size) w vs (by simpa using hs) (fun i v x g hx=>?_) ⟨fun id o h=>(by cases h),fun i i' o o' b h=>(by cases h),fun b h=>h.2,fun b h => .inl h,qw _,fun b h=>h⟩).mono ?_;rw [qr,qm] at hx;obtain ⟨z,m,rfl⟩:=hx;exact .fz (d (hv i v z g m))
 ·rintro e w' ⟨ψ',S',⟨v,rfl,j⟩,a,c,_⟩;refine ⟨v,rfl,((kxm (fr:=true) (SB:=fun b=>w.heap.size<=b) (fun h=>by cases h) (fun id o l=>⟨(a.obj id o l).2.1,fun b d=>?_⟩) 1000).1 y r hr).2 v j,⟨⟨c.os,c.tape,c.output,c.size,c.block⟩,no0⟩⟩;have:=((a.obj id o l).2.2 b d).2.1;omega
theorem PNew.of_atF {f:Nat} {xs:List FV} {r:FV} (h:PCall P f xs r) (ha:atF r=true):PNew P f xs r:=
 ⟨h.1,fun S w vs hs hv=>(h.2 S w vs hs hv).mono fun e w' ⟨v,a,h1,b⟩=>⟨v,a,k8f h1 ha,b⟩⟩
theorem k8m (n:CxOk P C) (l:EvOk P ih) {H:Nat->Option AObj} (A:∀ id ob,H id=some ob->kaa st.heap id=some ob) {f:Nat} {fst caps:List AV} {x:Operand} {args:Array Operand} {ts:Array TypeId} {r:FV} (j:o.op = .call { callee := .value x,args:=args,argTypes:=ts }) (c:kno st.eval x=some (f,fst,caps)) (hr:k4r C ih H f (fst++(args.toList.map st.eval++caps))=some r):NStep P o st (.fz r):=by
 unfold k4r at hr;split at hr
 ·rename_i xs d;split at hr;rename_i u cc q;injection hr with hr;subst hr;exact ib_n j c d (n.ib f (by simpa using q))
  ·exact kai5 j c d (k8g n l hr)
 ·split at hr
  ·rename_i xs d;have h:=k8g n l hr;intro ψ S a w ht B;obtain ⟨vf,vc,hx,h1,s⟩:=kp5 args ht c;have m:=(kxm (H:=fun _=>none) (fr:=false) (ψ:=ψ) (K:=(·∈st.ids)) (S:=S) (w:=w) (SB:=S) (fun _ b k=>k) (fun id o j=>by cases j) 1000).2 _ _ d;unfold kek;rw [krk j hx h.1];refine (h.2 S w _ (by rw [<- m.1,<- h1,qak]) fun i v x hv g=>?_).mono ?_;have hi:i<(fst++(args.toList.map st.eval++caps)).length:=(by rw [m.1];exact (qj.1 g).1);exact (m.2 i _ x (qb hi) g).2 v (s i v _ (by rw [qas];exact hv) (qb hi))
   ·rintro e w' ⟨v,rfl,hv,t⟩;exact ⟨v,rfl,t, .fz hv⟩
  ·replace hr:=kas hr;obtain ⟨_,hr⟩:=hr;split at hr
   ·rename_i xs d;have h:PNew P f xs r:=by
     split at hr;rename_i r' E;replace hr:=kas hr;obtain ⟨z,hr⟩:=hr;injection hr with hr;subst hr;exact .of_atF (k5j n.fx E) z
     ·split at hr;rename_i y s2 k;rw [H_eq []] at hr;exact kaku (kvh n l k).1 hr
      ·cases hr
    intro ψ S a w ht B;obtain ⟨vf,vc,hx,h1,s⟩:=kp5 args ht c;obtain ⟨SB,p⟩:∃ SB:Nat->Prop,SB=fun b=>S b\/∃ id ob,kaa st.heap id=some ob/\Blk (ψ.val id) b:=⟨_,rfl⟩;have m:=(kxm (H:=H) (fr:=false) (ψ:=ψ) (K:=(·∈st.ids)) (S:=S) (w:=w) (SB:=SB) (fun _ b k=>by rw [p];exact .inl k) (fun id o j=>⟨B id o (A id o j),fun b k=>by rw [p];exact .inr ⟨id,o,A id o j,k⟩⟩) 1000).2 _ _ d;unfold kek;rw [krk j hx h.1];refine (h.2 SB w _ (by rw [<- m.1,<- h1,qak]) fun i v x hv g=>?_).mono ?_;have hi:i<(fst++(args.toList.map st.eval++caps)).length:=(by rw [m.1];exact (qj.1 g).1);exact (m.2 i _ x (qb hi) g).2 v (s i v _ (by rw [qas];exact hv) (qb hi))
    ·rintro e w' ⟨v,rfl,hv,t⟩;exact ⟨v,rfl,t, .fz (hv.mono fun b k => .inr k)⟩
   ·cases hr
theorem k5n {x:Operand} {as_:List Operand} (a:k44 o=some (x,as_)):∃ args ts,o.op = .call { callee := .value x,args:=args,argTypes:=ts }/\as_=args.toList:=by
 unfold k44 at a;split at a
 ·rename_i cl hcl;split at a;rename_i f b;simp only [qc,qq] at a;obtain ⟨rfl,rfl⟩:=a;obtain ⟨cal,args,ts⟩:=cl;simp only at b;exact ⟨args,ts,by rw [hcl,b],rfl⟩
  ·cases a
 ·cases a
theorem kabz (d:CxOk P C) (b:EvOk P ih) {mu:Bool} (h:opE C ih mu o s=some (c,s1)):kab8 P o s c s1:=by
 unfold opE at h;split at h
 ·rename_i x as_ e;obtain ⟨args,ts,i,rfl⟩:=k5n e;split at h
  ·rename_i f fst caps a;unfold kagv at h;split at h;rename_i r hr;simp only [qc,qq] at h;obtain ⟨rfl,rfl⟩:=h;refine ⟨fun D=>?_,rfl,rfl,LG.refl⟩;rw [E_eq D] at a hr;exact (k8m d b (fun _ _ h=>by rw [H_eq D] at h;exact h) i a hr).step
   ·split at h;rename_i y s2 k;simp only [qc,qq] at h;obtain ⟨rfl,rfl⟩:=h;obtain ⟨j,g⟩:=kvh d b k;refine ⟨fun D=>?_,rfl,rfl,g⟩;rw [E_eq D] at a j;exact kab3 i a j
    ·cases h
  ·cases h
 ·split at h;rename_i c' dl hs;simp only [qc,qq] at h;obtain ⟨rfl,rfl⟩:=h;refine kakq fun D=>?_;rw [E_eq D,H_eq D] at hs;exact sE_ok d.T d.Z kaao hs
  ·cases h
theorem NStep.moreH {st st':St} (h:NStep P o st c) (hn:st'.tmps=st.tmps) (hi:st'.ids=st.ids) (d:∀ id ob,kaa st.heap id=some ob->kaa st'.heap id=some ob):NStep P o st' c:=by
 intro ψ S a w ht b;have e:∀ t,st'.get t=st.get t:=fun t=>by unfold St.get;rw [hn]
 rw [hi] at ht b ⊢;exact h ψ S a w (fun t=>by rw [<- e];exact ht t) fun id ob f=>b id ob (d id ob f)
theorem ku6 {rf:List Nat} {id:Nat} {ob:AObj}:∀ {l:List (Nat×AObj)},kaa (kq1 rf l) id=some ob->id∈rf/\kaa l id=some ob
 | [],h=>by cases h
 | (k,v)::l,h=>by
  simp only [kq1] at h;cases hc:rf.contains k with
  | true=>
   rw [hc] at h;simp only [qe] at h;rw [kac] at h ⊢;by_cases hk:k=id;subst hk;rw [qs rfl] at h ⊢;exact ⟨by simpa using hc,h⟩
   ·rw [ql hk] at h ⊢;exact ku6 h
  | false=>
   rw [hc] at h;simp only [qd] at h;obtain ⟨h1,a⟩:=ku6 (l:=l) h;refine ⟨h1,?_⟩;rw [kac,ql];exact a
   ·rintro rfl;have:rf.contains k=true:=(by simpa using h1);rw [this] at hc;cases hc
theorem k9i {k:Nat} {x:AV} (h:okN0 k x=true):okA (idsN k) x=true:=by
 have a:∀ {id},Nat.blt id k=true->(idsN k).contains id=true:=fun {id} h=>by
  have:id<k:=by simpa [Nat.blt_eq] using h
  simpa using mem_idsN.2 this
 cases x <;> simp only [okN0] at h <;> first | rfl | exact a h | cases h
theorem kajx {k:Nat} {x:AV} (h:okN k x=true):okA (idsN k) x=true:=by
 have hl:∀ {cs:List AV},cs.all (okN0 k)=true->okAs (idsN k) cs=true:=fun {cs} h=>by rw [knp];exact qp.2 fun x hx=>k9i (qp.1 h x hx)
 cases x <;> simp only [okN] at h <;> first | exact k9i h | exact hl h
theorem kace (D:List Deferred) (m:CxOk P C) (p:EvOk P ih) {mu:Bool} {os:Array Oper} {L:List Oper} {n i:Nat} {es:List Nat} (ch cs ai:List Nat) {rf:List Nat} {s0 hs hs1:XS} {fs:List (Nat×Option Nat×AV)} (u:∀ e,e∈es->phB L es e=true) (h:dz1 C ih mu os L n es s0 i o fs hs=some (c,hs1,rf)):
  LG hs hs1/\((∀ r,r∈rf->r∉ch)->(∀ new,hs1.lg=new++hs.lg->∀ r,r∈new->r∈cs)->(∀ id,id<hs1.k->id∈ai) ->
   (i∉es/\hs1=hs/\kxz P os (kex L n es ch ai (s0.st D) i o fs hs.heap (idsN hs.k)) o c/\(phB L es i || okA (s0.st D).ids c)=true) \/
   (i∈es/\k1g P os L n es cs ai (s0.st D) (kex L n es ch ai (s0.st D) i o fs hs.heap (idsN hs.k)) o c hs.heap (idsN hs.k) hs1.heap (idsN hs1.k))):=by
 unfold dz1 at h;obtain ⟨v,hv⟩:∃ v:XS,v=⟨s0.n,hadd fs (ki6 o) (klb L i n++s0.tmps),hs.heap,hs.k,hs.lg⟩:=⟨_,rfl⟩;simp only [<- hv] at h;have a:∀ b,kxr os v.E o=some b->kb7 os (kex L n es ch ai (s0.st D) i o fs hs.heap (idsN hs.k)) o=some b:=fun b G=>by rw [E_eq D] at G;rw [<- G,hv];rfl
 have H:(v.st D).eval=(kex L n es ch ai (s0.st D) i o fs hs.heap (idsN hs.k)).eval:=by rw [hv];funext x;cases x <;> rfl
 have g:phB L es i=true->(v.st D)=kex L n es ch ai (s0.st D) i o fs hs.heap (idsN hs.k):=fun hp=>by rw [hv];unfold kex;rw [hp];rfl
 split at h
 ·rename_i j;simp only [qc,qq] at h;obtain ⟨rfl,rfl,rfl⟩:=h;refine ⟨LG.refl,fun _ _ l=>?_⟩;by_cases hi:i∈es;exact .inr ⟨hi, .inr ⟨a _ j,rfl,rfl,rfl⟩, .inr ⟨fun _ _ _ h=>h,fun id h=>l id (mem_idsN.1 h),fun _ h=>h⟩⟩
  ·exact .inl ⟨hi,rfl, .inr ⟨a _ j,rfl⟩,by simp [okA]⟩
 ·rename_i j;cases hc:es.contains i with
  | true=>
   have hi:i∈es:=(by simpa using hc);rw [hc] at h;simp only [qe] at h;split at h;rename_i c' v1 w;simp only [qc,qq] at h;obtain ⟨rfl,rfl,rfl⟩:=h;obtain ⟨k1,_,_,k5⟩:=kabz m p w;have q:LG hs v1:=(by rw [hv] at k5;exact k5);refine ⟨q,fun _ s l => .inr ⟨hi, .inl ⟨a _ j,by rw [<- g (u i hi)];exact k1 D⟩, .inr ?_⟩⟩;obtain ⟨m0,new,m1,m2⟩:=q;refine ⟨fun id y ob t=>m2 id (fun h=>y (s new m1 id h)) ob t,fun id h=>l id (mem_idsN.1 h),fun id h=>mem_idsN.2 (by have:=mem_idsN.1 h;omega)⟩
   ·cases h
  | false=>
   have hi:i∉es:=(by simpa using hc);rw [hc] at h;simp only [qd] at h;split at h
   ·rename_i x as_ z;obtain ⟨args,ts,t,rfl⟩:=k5n z;split at h
    ·rename_i f fst caps d;split at h
     ·rename_i r hr;simp only [qc,qq] at h;obtain ⟨rfl,rfl,rfl⟩:=h;rw [E_eq D,H] at d hr;refine ⟨LG.refl,fun _ _ _ => .inl ⟨hi,rfl, .inl ⟨a _ j,k8m m p (fun id ob hi=>?_) t d hr⟩,by simp [okA]⟩⟩;cases hp:phB L es i with
      | true=>rw [hp,qe,H_eq D,g hp] at hi;exact hi
      | false=>rw [hp] at hi;cases hi
     ·cases h
    ·cases h
   ·cases hp:phB L es i with
    | true=>
     rw [hp] at h;simp only [qe] at h;split at h;rename_i c' hn;simp only [qc,qq] at h;obtain ⟨rfl,rfl,rfl⟩:=h;rw [E_eq D,H_eq D,g hp] at hn;exact ⟨LG.refl,fun _ _ _ => .inl ⟨hi,rfl, .inl ⟨a _ j,k4x m.T m.Z hn⟩,rfl⟩⟩
     ·cases h
    | false=>
     rw [hp] at h;simp only [qd] at h;split at h
     ·rename_i c' hn;replace h:=kas h;obtain ⟨A,h⟩:=h;simp only [qc,qq] at h;obtain ⟨rfl,rfl,rfl⟩:=h;refine ⟨LG.refl,fun B _ _ => .inl ⟨hi,rfl, .inl ⟨a _ j,?_⟩,by rw [Bool.false_or];exact kajx A⟩⟩;rw [show getO (kq1 (kx8 v.E o) s0.heap)=kaa (kq1 (kx8 v.E o) s0.heap) from funext fun i=>k8h,E_eq D] at hn;have F:NStep P o ⟨s0.n,hadd fs (ki6 o) (klb L i n++s0.tmps),kq1 (kx8 v.E o) s0.heap,ai,D⟩ c':=(by refine k4x m.T m.Z ?_;have I:(v.st D).eval=St.eval ⟨s0.n,hadd fs (ki6 o) (klb L i n++s0.tmps),kq1 (kx8 v.E o) s0.heap,ai,D⟩:=(by rw [H];funext x;cases x <;> rfl);rw [<- I,E_eq D];exact hn);refine F.moreH rfl ?_ fun id ob t=>?_;show (bif phB L es i then idsN hs.k else ai)=ai;rw [hp];rfl
      ·obtain ⟨q1,q2⟩:=ku6 t;show kaa (bif phB L es i then hs.heap else kpw ch s0.heap) id=some ob;rw [hp];exact kur (B id q1) q2
     ·cases h
 ·cases h
theorem k8t {D:List Deferred} (h:dstE s.n o=true):∀ t,o.dst=some t->t<(s.st D).n:=fun t ht=>by unfold dstE at h;rw [ht] at h;show t<s.n;simpa [Nat.blt_eq] using h
theorem k2f (b:CxOk P C) (a:EvOk P ih) {mu:Bool} {ops:Array Oper}:∀ {l:List Oper} {s s1:XS},opsE C ih mu ops l s=some s1->(∀ D,XWL P ops l (s.st D) (s1.st D))/\LG s s1/\s1.n=s.n
 | [],s,s1,h=>by have h:some s=some s1:=h;injection h with h;subst h;exact ⟨fun D=>kajn,LG.refl,rfl⟩
 | o::l,s,s1,h=>by
  have h:(bif dstE s.n o then (match kxr ops s.E o with
   | some true=>match opE C ih mu o s with
    | some (c,s1)=>opsE C ih mu ops l (s1.put o.dst c)
    | none=>none
   | some false=>opsE C ih mu ops l (s.put o.dst (.fz (.tup [])))
   | none=>none) else none)=some s1:=h
  replace h:=kas h;obtain ⟨hd,h⟩:=h;have g:∀ D,kxr ops s.E o=kb7 ops (s.st D) o:=fun D=>by rw [E_eq D];rfl
  split at h
  ·rename_i d;split at h;rename_i c s2 e;obtain ⟨k1,k2,k3,k5⟩:=kabz b a e;obtain ⟨j1,j2,j3⟩:=k2f b a h;obtain ⟨p1,p2,p3,p5⟩:=ku4 s2 o.dst c;exact ⟨fun D=>kah1 (k1 D) ((g D).symm.trans d) (k8t hd) (by show (s2.put o.dst c).n=s.n;omega) (fun t=>k2s _ _ t k3) p2 (by show idsN (s2.put o.dst c).k=_;rw [p3]) rfl (j1 D),k5.trans j2.put,by omega⟩
   ·cases h
  rename_i f;obtain ⟨j1,j2,j3⟩:=k2f b a h;obtain ⟨p1,p2,p3,p5⟩:=ku4 s o.dst (AV.fz (.tup []));exact ⟨fun D=>kaip ((g D).symm.trans f) (k8t hd) p1 (fun t=>k2s s.heap (idsN s.k) t rfl) p2 (by show idsN (s.put o.dst _).k=_;rw [p3];rfl) rfl (j1 D),j2.put,by omega⟩
  ·cases h
theorem k6t (D:List Deferred) (v:CxOk P C) (b:EvOk P ih) {mu:Bool} {os:Array Oper} {L:List Oper} {n:Nat} {es:List Nat} {s0:XS} (d:∀ e,e∈es->phB L es e=true):∀ (l:List Oper) (i:Nat) (fs:List (Nat×Option Nat×AV)) (hs:XS) (rf sl:List (Nat×List Nat)) {fsF:List (Nat×Option Nat×AV)} {a:XS} {rfF slF:List (Nat×List Nat)},
  dzE C ih mu os L n es s0 l i fs hs rf sl=some (fsF,a,rfF,slF)->L.drop i=l->i+l.length=n->∀ (c0:Nat->AV) (H0:Nat->XS),fs=fsOf L c0 i->H0 i=hs ->
  LG hs a/\(∀ r,r∈rf->r∈rfF)/\(∀ r,r∈sl->r∈slF)/\∃ (c:Nat->AV) (H:Nat->XS),(∀ j,j<i->c j=c0 j)/\(∀ j,j<=i->H j=H0 j)/\fsF=fsOf L c n/\H n=a /\
   ∀ (chi chs:Nat->List Nat) ai,(∀ p,p∈rfF->∀ r,r∈p.2->r∉chi p.1)->(∀ p,p∈slF->∀ r,r∈p.2->r∈chs p.1)->(∀ id,id<a.k->id∈ai)->∀ j o,i<=j->j<n->L[j]?=some o ->
    (j∉es/\H (j+1)=H j/\kxz P os (kex L n es (chi j) ai (s0.st D) j o (fsOf L c j) (H j).heap (idsN (H j).k)) o (c j)/\(phB L es j || okA (s0.st D).ids (c j))=true) \/
    (j∈es/\k1g P os L n es (chs j) ai (s0.st D) (kex L n es (chi j) ai (s0.st D) j o (fsOf L c j) (H j).heap (idsN (H j).k)) o (c j) (H j).heap (idsN (H j).k) (H (j+1)).heap (idsN (H (j+1)).k))
 | [],i,fs,hs,rf,sl,fsF,a,rfF,slF,h,hl,hn,c0,H0,u,w=>by
  have h:some (fs,hs,rf,sl)=some (fsF,a,rfF,slF):=h;simp only [qc,qq] at h;obtain ⟨rfl,rfl,rfl,rfl⟩:=h;have x:i=n:=by simpa using hn
  subst x;exact ⟨LG.refl,fun _ h=>h,fun _ h=>h,c0,H0,fun _ _=>rfl,fun _ _=>rfl,u,w,fun chi chs ai _ _ _ j o h1 G=>by omega⟩
 | o::l,i,fs,hs,rf,sl,fsF,a,rfF,slF,h,hl,hn,c0,H0,u,w=>by
  simp only [dzE] at h;split at h
  ·rename_i c' hs1 r1 hd;have m:L[i]?=some o:=(by have:=qbg (·[0]?) hl;simpa using this);have y:L.drop (i+1)=l:=(by rw [<- List.drop_drop,hl];rfl);have z:dstT L i=o.dst:=(by unfold dstT;rw [m];rfl);have f:(i,o.dst,c')::fs=fsOf L (fun j=>if j=i then c' else c0 j) (i+1):=(by rw [u];simp only [fsOf,z,if_true];rw [kly (k:=i) (c':=fun j=>if j=i then c' else c0 j) fun j I=>by rw [ql (by omega)]]);obtain ⟨k1,k2,k2',c,H,k3,k4,k5,k6,k7⟩:=k6t D v b d l (i+1) _ hs1 _ _ h y (by simp at hn;omega) (fun j=>if j=i then c' else c0 j) (fun j=>if j=i+1 then hs1 else H0 j) f (by simp);have e1:∀ j,j<i->c j=c0 j:=fun j I=>(by rw [k3 j (by omega),ql (by omega)]);have e2:c i=c':=(by rw [k3 i (by omega),qs rfl]);have e3:H i=hs:=(by rw [k4 i (by omega),ql (by omega)];exact w);have e4:H (i+1)=hs1:=(by rw [k4 (i+1) (qw _),qs rfl]);have A:fsOf L c i=fs:=(by rw [u];exact kly e1);have B:=(kace D v b [] [] [] d hd).1;refine ⟨B.trans k1,fun r hr=>k2 r (qk _ hr),fun r hr=>k2' r (qk _ hr),c,H,e1,fun j I=>by rw [k4 j (by omega),ql (by omega)],k5,k6,fun chi chs ai q s t j o' h1 G g=>?_⟩;obtain ⟨m2,_⟩:=k1;by_cases E:j=i;subst E;rw [m] at g;obtain rfl:=qt g;have:=(kace D v b (chi j) (chs j) ai d hd).2 (q (j,r1) (k2 _ (qx ..))) (fun new F r hr=>s (j,hs1.lg.take (hs1.lg.length - hs.lg.length)) (k2' _ (qx ..)) r (by have:hs1.lg.take (hs1.lg.length - hs.lg.length)=new:=(by rw [F,qy,Nat.add_sub_cancel];exact List.take_left' rfl);rw [this];exact hr)) (fun id J=>t id (by omega));rw [A,e2,e3,e4];exact this
   ·exact k7 chi chs ai q s t j o' (by omega) G g
  ·cases h
theorem kvu {t:Nat} {base:List (Nat×AV)}:∀ {fs:List (Nat×Option Nat×AV)},look .any (krw fs base) t=look .any (hadd fs (fun _=>true) base) t
 | []=>rfl
 | (j,some d,c)::l=>by simp only [krw,hadd,qe];rw [kq3,kbd,kvu]
 | (j,none,c)::l=>by simp only [krw,hadd];exact kvu
theorem kyx (B:CxOk P C) (y:EvOk P ih) {mu:Bool} {rid:Nat} {ops:Array Oper} {es:List Nat} (h:drzA C ih mu ops s es=some s1):(∀ D,XW P (.region rid ops true) (s.st D) .normal (s1.st D))/\LG s s1/\s1.n=s.n:=by
 obtain ⟨L,rfl⟩:∃ L:List Oper,ops=L.toArray:=⟨ops.toList,by simp⟩;unfold drzA at h;simp only [List.toList_toArray] at h;replace h:=kas h;obtain ⟨A,h⟩:=h;simp only [qo] at A;split at h
 ·rename_i fs hs rf sl hd;replace h:=kas h;obtain ⟨E,h⟩:=h;injection h with h;have f:∀ e,e∈es->phB L es e=true:=fun e O=>by have:=qp.1 A.2 e O;rw [qo] at this;exact this.2
  have k1:LG s hs:=(k6t [] B y f L 0 [] s [] [] hd rfl (by simp) (fun _ => .any) (fun _=>s) rfl rfl).1;subst h;refine ⟨fun D=>?_,k1,rfl⟩;obtain ⟨k1,k2,k2',c,H,k3,k4,k5,k6,k7⟩:=k6t D B y f L 0 [] s [] [] hd rfl (by simp) (fun _ => .any) (fun _=>s) rfl rfl;obtain ⟨chs,l⟩:∃ chs:Nat->List Nat,chs=fun j=>sl.flatMap fun q=>bif Nat.beq q.1 j then q.2 else []:=⟨_,rfl⟩;obtain ⟨chi,m⟩:∃ chi:Nat->List Nat,chi=fun i=>sl.flatMap fun q=>bif anc L q.1 i then [] else q.2:=⟨_,rfl⟩;have u:=k7 chi chs (idsN hs.k) (fun p hp r hr hc=>by
   rw [m] at hc;obtain ⟨q,G,b⟩:=qa6.1 hc;have:=qp.1 (qp.1 E p hp) q G;cases ha:anc L q.1 p.1 with
   | true=>rw [ha] at b;cases b
   | false=>
    rw [ha] at b this;simp only [qd] at b;rw [Bool.false_or] at this;have:=qp.1 this r hr;simp at this;exact this b) (fun p hp r hr=>by
   rw [l];exact qa6.2 ⟨p,hp,by simp only [Nat.beq_refl,qe];exact hr⟩) (fun id g=>mem_idsN.2 g)
  have I:H 0=s:=k4 0 (qw _);have Q:=k1.1;intro F S0 N0 ψ S a w z;refine k5h (ai:=idsN hs.k) B.mixed c (fun i=>((H i).heap,idsN (H i).k)) chi chs A.1 A.2 ?_ (by rw [I];rfl) ?_ ?_ z _ ?_
  ·exact qp.2 fun x hx=>by have:=mem_idsN.1 (show x∈idsN s.k from hx);simpa using mem_idsN.2 (show x<hs.k by omega)
  ·intro j i R hi ha id g;rw [l] at g;obtain ⟨q,G,b⟩:=qa6.1 g;rw [m];refine qa6.2 ⟨q,G,?_⟩;cases v:Nat.beq q.1 j with
   | false=>rw [v] at b;cases b
   | true=>
    rw [v] at b;rw [qi v,ha];exact b
  ·intro i o J K;rcases u i o (qaj _) J K with ⟨q1,q2,q3,q4⟩ | ⟨q1,q2⟩;exact .inl ⟨q1,by simp only [q2],q3,q4⟩
   ·exact .inr ⟨q1,q2⟩
  ·intro ψ' S' a' w' M N d;rw [List.drop_length];refine ⟨rfl,ψ',S',M.congr rfl (fun t=>?_) (fun id=>?_) ?_ rfl,N,?_⟩;show look .any (krw fs s.tmps) t=look .any (hadd (fsOf L c L.length) (fun _=>true) s.tmps) t;rw [kvu,k5];show kaa hs.heap id=kaa (H L.length).heap id;rw [k6];show idsN hs.k=idsN (H L.length).k;rw [k6]
   ·have d:HistI (idsN s.k) (idsN (H L.length).k) ψ ψ' S S' w w':=d;rw [k6] at d;exact d
 ·cases h
theorem kake (b:CxOk P C) (a:EvOk P ih) {mu:Bool} {rid:Nat} {ops:Array Oper} (h:drzE C ih mu ops s=some s1):(∀ D,XW P (.region rid ops true) (s.st D) .normal (s1.st D))/\LG s s1/\s1.n=s.n:=by
 unfold drzE at h;split at h;rename_i r hr;injection h with h;subst h;exact kyx b a hr
 ·split at h;rename_i r hr;injection h with h;subst h;exact kyx b a hr
  ·split at h;rename_i r hr;injection h with h;subst h;exact kyx b a hr
   ·exact kyx b a h
theorem XC.of {x:Code} (h:XW P x st e st1) (hl:∀ y,x ≠ .loop y):XC P x st e st1:=by
 unfold XC;split;exact absurd rfl (hl _)
 ·exact h
theorem kakx (d:CxOk P C) (a:EvOk P ih):EvOk P (evB C ih):=by
 intro mu x s e s1 h;unfold evB at h;split at h;simp only [qc,qq] at h;obtain ⟨rfl,rfl⟩:=h;exact ⟨fun D=>XC.of kahj (fun _ h=>by cases h),rfl,LG.refl,rfl⟩
 ·split at h;rename_i s2 hs;simp only [qc,qq] at h;obtain ⟨rfl,rfl⟩:=h;obtain ⟨k1,k2,k3⟩:=k2f d a hs;exact ⟨fun D=>XC.of (kadb (k1 D)) (fun _ h=>by cases h),rfl,k2,k3⟩
  ·cases h
 ·split at h;rename_i s2 hs;simp only [qc,qq] at h;obtain ⟨rfl,rfl⟩:=h;obtain ⟨k1,k2,k3⟩:=kake d a hs;exact ⟨fun D=>XC.of (k1 D) (fun _ h=>by cases h),rfl,k2,k3⟩
  ·cases h
 ·rename_i x y;cases hx:ih mu x s with
  | none=>rw [hx] at h;cases h
  | some p=>
   obtain ⟨e1,s2⟩:=p;rw [hx] at h;obtain ⟨k1,k2,k3,k4⟩:=a _ _ _ _ _ hx;cases e1 with
   | normal=>
    obtain ⟨j1,j2,j3,j4⟩:=a _ _ _ _ _ h;exact ⟨fun D=>XC.of (kaj7 (k1 D).xw (j1 D).xw) (fun _ h=>by cases h),j2,k3.trans j3,j4.trans k4⟩
   | _=>
    simp only [qc,qq] at h;obtain ⟨rfl,rfl⟩:=h;exact ⟨fun D=>XC.of (kahg (k1 D).xw (fun h=>by cases h)) (fun _ h=>by cases h),k2,k3,k4⟩
 ·rename_i cc x y;split at h;rename_i b c;obtain ⟨k1,k2⟩:=a _ _ _ _ _ h;exact ⟨fun D=>XC.of (kai3 (by rw [E_eq D] at c;exact c) (k1 D).xw) (fun _ h=>by cases h),k2⟩
  ·cases h
 ·rename_i i x;cases hx:ih mu x s with
  | none=>rw [hx] at h;cases h
  | some p=>
   obtain ⟨e1,s2⟩:=p;rw [hx] at h;obtain ⟨k1,k2,k3⟩:=a _ _ _ _ _ hx;cases e1 with
   | exit j=>
    simp only at h;cases c:Nat.beq j i with
    | true=>
     rw [c] at h;simp only [qe,qc,qq] at h;obtain ⟨rfl,rfl⟩:=h;obtain rfl:=qi c;exact ⟨fun D=>XC.of (kaez (k1 D).xw) (fun _ h=>by cases h),rfl,k3⟩
    | false=>
     rw [c] at h;simp only [qd,qc,qq] at h;obtain ⟨rfl,rfl⟩:=h;exact ⟨fun D=>XC.of (k4b (k1 D).xw (fun h=>by injection h with h;subst h;simp at c)) (fun _ h=>by cases h),rfl,k3⟩
   | _=>
    simp only [qc,qq] at h;obtain ⟨rfl,rfl⟩:=h;exact ⟨fun D=>XC.of (k4b (k1 D).xw (fun h=>by cases h)) (fun _ h=>by cases h),k2,k3⟩
 ·rename_i x;cases hx:ih mu x s with
  | none=>rw [hx] at h;cases h
  | some p=>
   obtain ⟨e1,s2⟩:=p;rw [hx] at h;obtain ⟨k1,k2,k3,k4⟩:=a _ _ _ _ _ hx;cases e1 with
   | normal=>
    obtain ⟨j1,j2,j3,j4⟩:=a _ _ _ _ _ h;exact ⟨fun D=>xr_go (k1 D).xw (j1 D),j2,k3.trans j3,j4.trans k4⟩
   | _=>
    simp only [qc,qq] at h;obtain ⟨rfl,rfl⟩:=h;exact ⟨fun D=>kakp (k1 D).xw (fun h=>by cases h),k2,k3,k4⟩
 simp only [qc,qq] at h;obtain ⟨rfl,rfl⟩:=h;exact ⟨fun D=>XC.of kah9 (fun _ h=>by cases h),rfl,LG.refl,rfl⟩;simp only [qc,qq] at h;obtain ⟨rfl,rfl⟩:=h;exact ⟨fun D=>XC.of kajk (fun _ h=>by cases h),rfl,LG.refl,rfl⟩;obtain ⟨k1,k2,k3⟩:=a _ _ _ _ _ h;exact ⟨fun D=>XC.of (kafy (k1 D).xw k2) (fun _ h=>by cases h),k2,k3⟩
 ·cases h
theorem kaf3 (a:CxOk P C):∀ n,EvOk P (ev C n)
 | 0=>fun mu c s e s1 h=>by cases h
 | n+1=>kakx a (kaf3 a n)
theorem kud (a:CxOk P C) (n:Nat) {f:Nat} {xs:List FV} {r:FV} (h:runE C n f xs=some r:=by kernel_rfl):PCall P f xs r:=by
 unfold runE at h;split at h;rename_i y s1 b;rw [H_eq []] at h;exact k8v (kvh a (kaf3 a n) b).1 h
 ·cases h
mutual
def leFV:FV->FV->Bool
 | .atom (.slice none 0 0), .lst s n xs=>Nat.ble 1 s && (Nat.beq n 0 && xs.isEmpty)
 | .atom v, .atom u=>k43 v u
 | .agg a, .agg b=>klu a b
 | .tup a, .tup b=>klu a b
 | .lst s n a, .lst s' n' b=>Nat.beq s s' && (Nat.beq n n' && klu a b)
 | _,_=>false
def klu:List FV->List FV->Bool
 | [],[]=>true
 | a::l,b::m=>leFV a b && klu l m
 | _,_=>false
end
theorem kle:∀ {a b:List FV},klu a b=true->a.length=b.length/\∀ (i:Nat) (x y:FV),a[i]?=some x->b[i]?=some y->leFV x y=true
 | [],[],_=>⟨rfl,fun i x y h=>by simp at h⟩
 | [],_::_,h=>by simp only [klu] at h;cases h
 | _::_,[],h=>by simp only [klu] at h;cases h
 | a::l,b::m,h=>by
  simp only [klu,qo] at h;obtain ⟨h1,c⟩:=kle h.2;refine ⟨by simp [h1],fun i x y hx hy=>?_⟩;cases i with
  | zero=>simp at hx hy;subst hx hy;exact h.1
  | succ i=>exact c i x y (by simpa using hx) (by simpa using hy)
theorem kzd {x y:FV} (h:leFV x y=true) (hx:x.single=true):y.single=true:=by
 unfold leFV at h;split at h;rfl;rw [<- k0c h];exact hx;cases hx;cases hx;rfl
 ·cases h
theorem k1u {x y:FV} (h:leFV x y=true):klu x.cells y.cells=true:=by
 have one:klu [x] [y]=true:=by simp only [klu,h,Bool.and_true]
 revert one
 unfold leFV at h;intro one;split at h;exact one;exact one;exact h;exact one;exact one
 ·cases h
theorem kaid {v:Value} {x:FV} (h:RF S w v x):∀ {y:FV},leFV x y=true->RF S w v y:=by
 induction h with
 | @atom v h=>
  intro y hy;unfold leFV at hy;split at hy
  ·rename_i s n xs b;cases b;simp only [qo] at hy;have hn:=qi hy.2.1;have hx:xs=[]:=(by simpa using hy.2.2);subst hn hx;exact .lst (fun _=>[]) rfl (qw _) (by omega) (qn hy.1) (fun i x h=>by simp at h) (fun i x h=>by simp at h) fun i x j v y h=>by simp at h
  rename_i u _ b;cases b;rw [<- k0c hy];exact .atom h;rename_i b;cases b;rename_i b;cases b;rename_i b;cases b
  ·cases hy
 | @agg cs xs hl h1 hr ih=>
  intro y hy;cases y <;> simp only [leFV] at hy <;> try cases hy
  rename_i ys;obtain ⟨k1,k2⟩:=kle hy;refine .agg (by omega) (fun z a=>?_) fun i u z e a=>?_;obtain ⟨i,hi,rfl⟩:=qaf.1 a;have hx:xs[i]?=some (xs[i]'(by omega)):=qb _;exact kzd (k2 i _ _ hx (qb hi)) (h1 _ (qv _))
  ·have hi:=(qj.1 a).1;have hx:xs[i]?=some (xs[i]'(by omega)):=qb _;exact ih i u _ e hx (k2 i _ _ hx a)
 | @tup cs xs hl hr ih=>
  intro y hy;cases y <;> simp only [leFV] at hy <;> try cases hy
  rename_i ys;obtain ⟨k1,k2⟩:=kle hy;refine .tup (by omega) fun i u z e a=>?_;have hi:=(qj.1 a).1;have hx:xs[i]?=some (xs[i]'(by omega)):=qb _;exact ih i u _ e hx (k2 i _ _ hx a)
 | @lst A cap size n xs css hn hc hm hs ha hl hr ih=>
  intro y hy;cases y <;> simp only [leFV] at hy <;> try cases hy
  rename_i s' n' ys;simp only [qo] at hy;obtain ⟨e1,e2,e3⟩:=hy;have e1:=qi e1;have e2:=qi e2;subst e1 e2;obtain ⟨k1,k2⟩:=kle e3;have get:∀ (i:Nat) (y:FV),ys[i]?=some y->∃ x,xs[i]?=some x/\leFV x y=true:=fun i y hy=>by have hi:=(qj.1 hy).1;have hx:xs[i]?=some (xs[i]'(by omega)):=qb _;exact ⟨_,hx,k2 i _ _ hx hy⟩
  refine .lst css (by omega) hc hm hs (fun i y hy=>?_) (fun i y hy=>?_) fun i y j u z hy e a=>?_;obtain ⟨x,hx,_⟩:=get i y hy;exact ha i x hx;obtain ⟨x,hx,d⟩:=get i y hy;obtain ⟨q1,q2,q3⟩:=hl i x hx;obtain ⟨r1,r2⟩:=kle (k1u d);refine ⟨q1,by omega,fun z a=>?_⟩;obtain ⟨j,f,rfl⟩:=qaf.1 a;have c:x.cells[j]?=some (x.cells[j]'(by omega)):=qb _;exact kzd (r2 j _ _ c (qb f)) (q3 _ (qv _))
  ·obtain ⟨x,hx,d⟩:=get i y hy;obtain ⟨r1,r2⟩:=kle (k1u d);have f:=(qj.1 a).1;have c:x.cells[j]?=some (x.cells[j]'(by omega)):=qb _;exact ih i x j u _ hx e c (r2 j _ _ c a)
 | fp=>intro y hy;cases y <;> simp only [leFV] at hy <;> cases hy
 | bx=>intro y hy;cases y <;> simp only [leFV] at hy <;> cases hy
 | bn=>intro y hy;cases y <;> simp only [leFV] at hy <;> cases hy
theorem PCall.le {f:FuncId} {xs ys:List FV} {r:FV} (h:PCall P f xs r) (a:klu ys xs=true):PCall P f ys r:=by obtain ⟨k1,k2⟩:=kle a;refine ⟨h.1,fun S w vs hs hv=>h.2 S w vs (by omega) fun i v x b hx=>?_⟩;have hi:=(qj.1 hx).1;have hy:ys[i]?=some (ys[i]'(by omega)):=qb _;exact kaid (hv i v _ b hy) (k2 i _ _ hy hx)
theorem kah7 {α:Type} {b:Bool} {x y r:α} (h:(bif b then x else y)=r):(b=true/\x=r)\/(b=false/\y=r):=by
 cases b;exact .inr ⟨rfl,h⟩
 ·exact .inl ⟨rfl,h⟩
def tabC {α:Type} (E:En α) (xs:List α):List FV:=xs.flatMap E.cl
theorem k9l {α:Type} (E:En α):∀ (xs:List α) (i:Nat) (x:α),xs[i]?=some x->∃ post,(tabC E xs).drop (i*E.n)=E.cl x++post
 | [],i,x,h=>by simp at h
 | y::xs,0,x,h=>by simp at h;subst h;exact ⟨xs.flatMap E.cl,by simp [tabC]⟩
 | y::xs,i+1,x,h=>by
  obtain ⟨post,hp⟩:=k9l E xs i x (by simpa using h);refine ⟨post,?_⟩;have hl:(E.cl y).length=E.n:=by rw [<- E.hcl];exact E.hn y
  rw [<- hp];unfold tabC;rw [qbd,qa3,Nat.one_mul,Nat.add_comm,<- List.drop_drop,show (E.cl y++xs.flatMap E.cl).drop E.n=xs.flatMap E.cl by rw [<- hl];simp]
theorem kahp {b:Nat} (o:Nat) {cs ys zs:List FV} {off:Nat} (h:RF S w (.pointer (some ⟨b,o,none⟩)) (.fp cs)) (hd:cs.drop off=ys++zs) (h0:0<ys.length):RF S w (.pointer (some ⟨b,o+off,none⟩)) (.fp ys):=by
 cases h with
 | fp vs hS ha hl hp h1 hr=>
  have c:ys.length+zs.length=cs.length - off:=by rw [<- qy,<- hd,qa2]
  refine .fp ((vs.drop off).take ys.length) hS (fun j u a=>?_) (by rw [qap,qa2];omega) h0 (fun x hx=>h1 x (qbf (i:=off) (by rw [hd];exact List.mem_append_left _ hx))) fun i v x hv hx=>?_
  ·rw [q9] at a;split at a
   ·rw [qag] at a;have:=ha _ u a
    rwa [<- Nat.add_assoc] at this
   ·cases a
  ·rw [q9] at hv;split at hv;rename_i hi;rw [qag] at hv;refine hr _ v x hv ?_;rw [<- qag,hd,qah hi];exact hx
   ·cases hv
theorem kak0 {α:Type} (E:En α) {xs:List α} {g m:Nat} {gs:List (Nat×Array Value)} {vs:Array Value} (c:∀ id o,kaa st.heap id=some o->ObR ψ (·∈st.ids) S w id o) (a:kaa st.heap id=some (.glb gs)) (hm:gs[m]?=some (g,vs)) (hv:vs.toList.map FV.atom=tabC E xs) (h1:vs.toList.all (·.oneCell')=true) (h0:0<vs.size):
  RF S w (.pointer (some ⟨g,0,none⟩)) (.fp (tabC E xs)):=by
 obtain ⟨_,_,_,h⟩:=c id _ a;obtain ⟨hS,b⟩:=h (g,vs) (qu hm);obtain ⟨e,d,f⟩:=b.tab h0;rw [<- hv];refine .fp vs.toList hS (fun j u k=>?_) (by simp) (by simpa using h0) (fun x hx=>?_) fun i v x hv hx=>?_;simp only [World.cell?,f];simpa using k;obtain ⟨v,hv,rfl⟩:=qaz.1 hx;exact qp.1 h1 v hv
 ·rw [qr,hv] at hx;simp only [qa9,qc] at hx;subst hx;exact .atom (qp.1 h1 v (qu hv))
theorem kai1 {g m:Nat} {gs:List (Nat×Array Value)} {vs:Array Value} (c:∀ id o,kaa st.heap id=some o->ObR ψ (·∈st.ids) S w id o) (a:kaa st.heap id=some (.glb gs)) (hm:gs[m]?=some (g,vs)) {nm:String} (f:P.globalNamed nm=some g) (h0:0<vs.size):w.var? P nm=some vs:=by obtain ⟨_,_,_,h⟩:=c id _ a;obtain ⟨hS,b⟩:=h (g,vs) (qu hm);obtain ⟨e,d,i⟩:=b.tab h0;simp only [World.var?,f,qa,i]
theorem kacp {α:Type} (E:En α) (xs:List α) (v:α) (g m n:Nat) (gs:List (Nat×Array Value)) (vs:Array Value) (Y:Operand) (k:IntKind) (i:Int) (e:TypeId) (de:TD) (h:idx xs i=some v) (y:TOk P T) (z:P.underlying t=some (.array n e)) (p:vs.toList.map FV.atom=tabC E xs) (h1:vs.toList.all (·.oneCell')=true) (h0:Nat.blt 0 vs.size=true:=by kernel_rfl) (x:o.op = .indexAddr t (.global g) Y:=by kernel_rfl) (c:kae T e=some de:=by kernel_rfl) (j:de.size=E.n:=by kernel_rfl) (hn:xs.length=n:=by kernel_rfl) (hp:0<E.n:=by decide) (hy:st.eval Y = .fz (.atom (.int k i)):=by kernel_rfl) (l:kaa st.heap id=some (.glb gs):=by kernel_rfl) (hm:gs[m]?=some (g,vs):=by kernel_rfl):
  NStep P o st (.fz (.fp (E.cl v))):=by
 intro ψ S a w ht A;obtain ⟨q,hi⟩:=kpj h;have B:i.toNat<xs.length:=(qj.1 hi).1;obtain ⟨post,hd⟩:=k9l E xs i.toNat v hi;have hr:=kak0 E A l hm p h1 (by simpa [Nat.blt_eq] using h0);have d:=Sim.eval_tmps ht Y;rw [hy] at d;have r:=d.atom;have f:i<(n:Int):=by omega
 have c:=y.get c;have hl:(E.cl v).length=E.n:=by rw [<- E.hcl];exact E.hn v
 have s:=kahp 0 hr hd (by omega);refine kad w (.pointer (some ⟨g,0+i.toNat*E.n,none⟩)) ?_ ⟨kaf _, .fz (s.mono fun b C => .inl C)⟩;have u:a.eval (.global g) = .pointer (some ⟨g,0,none⟩):=rfl;simp [execOp,x,u,r,Instr.indexAt,asIntOf,run_underlying z,Instr.sureAddr,q,f,c.size,j,kck]
theorem kahd (X:Operand) (s:BA) (k:TOk P T) (l:o.op = .range t X:=by kernel_rfl) (hd:kae T t=some d:=by kernel_rfl) (hk:d.kind = .str:=by kernel_rfl) (hx:st.eval X = .fz (.atom (.string s)):=by kernel_rfl) (f:st.ids.contains id=false:=by kernel_rfl):StepA P o st (.ref id 0 0) ((id, .sit s 0)::st.heap) (id::st.ids):=by
 have f:id∉st.ids:=by simpa using f
 intro F S0 N0 ψ S a w i;have c:=i.core;obtain ⟨_,e,h1,j⟩:=k.get hd;rw [hk] at j;have m:P.underlying t=some .string:=by cases e <;> simp only [kfv] at j;exact h1
 have g:=i.eval X;rw [hx] at g;have g:=g.atom;refine kad (w.alloc (.stringIter s 0)) (.pointer (some ⟨w.heap.size,0,none⟩)) ?_ ⟨ψ.set id 0 (.pointer (some ⟨w.heap.size,0,none⟩)),S,?_,?_,kiv _ c.fr,kbm f _ _,fun _ h=>qk _ h,fun _ h=>h,Same.of_grow (kbn _ _)⟩;simp [execOp,l,g,Instr.range,run_underlying m];exact c.add (kbn _ _) f (fun b n=>by simp [kay] at n;omega) ⟨kbv _ _,w.heap.size,kan _ _,heap_alloc_new w _⟩
 ·exact .ref (qx ..) (by rw [kbv];exact qw _) rfl fun _=>⟨w.heap.size,by rw [kan];rfl,rfl⟩
theorem kac1 {s:BA} {pos:Nat} {v:Value} (hs:ObR ψ K S w id (.sit s pos)) (hv:RV ψ K S w v (.ref id 0 0)):∃ b,ψ.val id = .pointer (some ⟨b,0,none⟩)/\w.heap[b]?=some (.stringIter s pos)/\v = .pointer (some ⟨b,0,none⟩):=by
 obtain ⟨h0,b,h1,c⟩:=hs;cases hv with
 | ref hK hn d hv=>
  obtain ⟨b',a,rfl⟩:=hv h0.symm;rw [h1] at a;simp only [kay,qc] at a;subst a;exact ⟨b,h1,c,rfl⟩
theorem kac4 (X:Operand) (s:BA) (pos:Nat) (f:decide (pos<s.size)=false) (g:o.op = .next X true:=by kernel_rfl) (hx:st.eval X = .ref id 0 0:=by kernel_rfl) (d:kaa st.heap id=some (.sit s pos):=by kernel_rfl):StepA P o st (.fz (.tup [eB false])) st.heap st.ids:=by
 refine NStep.step fun ψ S a w ht h=>?_;have c:=Sim.eval_tmps ht X;rw [hx] at c;obtain ⟨b,h1,j,k⟩:=kac1 (h id _ d) c;have e:¬ pos<s.size:=qav f;refine kad w (.tuple #[.bool false]) ?_ ⟨kaf _, .fz (.tup rfl fun i v x hv hx=>?_)⟩;simp [execOp,g,k,Instr.next,getObj,Sem.run,j,e]
 ·cases i with
  | zero=>simp at hv hx;subst hv hx;exact .atom rfl
  | succ i=>simp at hv
theorem kaj2 (X:Operand) (s:BA) (pos:Nat) (y:decide (pos<s.size)=true) (z:o.op = .next X true:=by kernel_rfl) (hx:st.eval X = .ref id 0 0:=by kernel_rfl) (l:kaa st.heap id=some (.sit s pos):=by kernel_rfl):
  StepA P o st (.fz (.tup [eB true,eI ((pos:Nat):Int),eI32 (((Utf8.decode s pos).1:Nat):Int)])) ((id, .sit s (pos+(Utf8.decode s pos).2))::st.heap) st.ids:=by
 intro F S0 N0 ψ S a w m;have c:=m.core;obtain ⟨A,d,q⟩:=c.obj id _ l;have hv:=m.eval X;rw [hx] at hv;obtain ⟨b,f,p,r⟩:=kac1 d hv;have h0:=d.1;have t:pos<s.size:=qay y;have u:b<w.heap.size:=(qai.1 p).1;have g:ψ.set id 0 (ψ.val id)=ψ:=by
  unfold Env.set;congr 1
  ·funext i;split;rename_i h;rw [h,h0]
   ·rfl
  ·funext i;split;rename_i h;rw [h]
   ·rfl
 let w':World:={ w with heap:=w.heap.setIfInBounds b (.stringIter s (pos+(Utf8.decode s pos).2)) }
 have j:∀ k,k<w.heap.size->¬ Blk (ψ.val id) k->w'.heap[k]?=w.heap[k]?:=fun k _ hk=>by show (w.heap.setIfInBounds b _)[k]?=_;rw [Array.getElem?_setIfInBounds_ne];exact fun e=>hk (.of (by rw [f,e];rfl))
 have hk:Same S w w':=fun k hk hl=>j k hl fun e=>(q k e).1 hk;obtain ⟨c1,c2,c3⟩:=c.upd (n:=0) (v:=ψ.val id) (w':=w') (ob' := .sit s (pos+(Utf8.decode s pos).2)) l (by simp [w']) j (.inr ⟨h0,rfl⟩) (fun b p => .inl p) (by rw [g];exact ⟨h0,b,f,by show (w.heap.setIfInBounds b _)[b]?=_;simp [u]⟩);rw [g] at c1;refine kad w' (.tuple #[.bool true, .int .i64 pos, .int .i32 (Utf8.decode s pos).1]) ?_ ⟨ψ,S,c1, .fz (.tup rfl fun i v x hv hx=>?_),⟨rfl,rfl,rfl,by simp [w'],c3,no0⟩,Ext.refl,fun _ h=>h,fun _ h=>h,hk⟩;simp [execOp,z,r,Instr.next,getObj,setObj,Sem.run,p,t,goInt,w']
 ·match i with
  | 0=>simp at hv hx;subst hv hx;exact .atom rfl
  | 1=>simp at hv hx;subst hv hx;exact .atom rfl
  | 2=>simp at hv hx;subst hv hx;exact .atom rfl
  | i+3=>simp at hv
def s2b (s:BA):Option (List Int):=if s.size<=140737488355328 then some (ofBA s) else none
theorem s_s2b (sr:TypeId) (x:Operand) (s:BA) {xs:List Int} (e:TypeId) (ds de:TD) (h:s2b s=some xs) (l:TOk P T) (B:o.op = .convert sr t x:=by kernel_rfl) (hs:kae T sr=some ds:=by kernel_rfl) (C:ds.kind = .str:=by kernel_rfl) (hd:kae T t=some d:=by kernel_rfl) (hk:d.kind = .slice e:=by kernel_rfl) (m:kae T e=some de:=by kernel_rfl) (p:de.kind = .int .u8:=by kernel_rfl) (hx:st.eval x = .fz (.atom (.string s)):=by kernel_rfl):NStep P o st (.fz (eL 1 eU8 xs)):=by
 unfold s2b at h;split at h
 ·rename_i D;injection h with h;subst h;intro ψ S a w ht I;obtain ⟨_,u,h1,_⟩:=l.get hs;have f:=(l.get hd).slice hk;obtain ⟨_,u3,E,q⟩:=l.get m;rw [p] at q;have F:P.underlying e=some (.int .u8):=by cases u3 <;> simp only [kfv] at q;subst q;exact E
  have hv:=Sim.eval_tmps ht x;rw [hx] at hv;have c:(ofBA s).length=s.size:=by unfold ofBA;rw [qaw,qak];rfl
  have g:∀ i (n:Int),(ofBA s)[i]?=some n->i<s.size/\((s.data.toList.getD i 0).toNat:Int)=n:=fun i n hn=>by have hi:i<s.size:=(by rw [<- c];exact (qj.1 hn).1);refine ⟨hi,?_⟩;unfold ofBA at hn;rw [qr,qm] at hn;obtain ⟨b,G,rfl⟩:=hn;rw [List.getD_eq_getElem?_getD,G];rfl
  refine kad (Lib.bytesWorld w e s) (.slice (some ⟨w.heap.size,0,none⟩) s.size (grownCap w s.size 0 e)) ?_ ⟨?_, .fz ?_⟩;have:=Lib.run_convert_string_bytes (P:=P) w sr t e s h1 f F;simp [execOp,B,hv.atom,this];exact Below.kit rfl (Lib.bytesWorld_below w e s)
  ·have r:=grownCap_ge w s.size 0 e;have A:=grownCap_le_maxLen w s.size 0 e (by unfold maxLen;omega);unfold maxLen at A;show RF _ _ _ (.lst 1 (ofBA s).length ((ofBA s).map eU8));rw [c];refine .lst (fun i=>[.int .u8 (s.data.toList.getD i 0).toNat]) (by simp [c]) r (by omega) (by omega) (fun i y hy=>?_) (fun i y hy=>?_) fun i y j v z hy hv k=>?_
   ·simp only [qr,qm] at hy;obtain ⟨n,hn,rfl⟩:=hy;refine ⟨w.heap.size,0,rfl, .inr (qw _),fun j u f=>?_⟩;cases j with
    | zero=>
     simp at f;subst f;have:=Lib.bytesWorld_cell w e s i (g i n hn).1;simpa using this
    | succ j=>simp at f
   simp only [qr,qm] at hy;obtain ⟨n,hn,rfl⟩:=hy;exact ⟨rfl,rfl,fun z k=>by simp [FV.cells,eU8] at k;subst k;rfl⟩
   ·simp only [qr,qm] at hy;obtain ⟨n,hn,rfl⟩:=hy;cases j with
    | zero=>
     simp [FV.cells,eU8] at hv k;subst hv k;have H:=(g i n hn).2;rw [<- H,show s.data.toList.getD i 0=(s.data[i]?).getD 0 by simp];exact RF.atom rfl
    | succ j=>simp at hv
 ·cases h
theorem kae6 (f:FuncId) (args:Array Operand) (ts:Array TypeId) (cs:List C1) {as_:List AV} {res:AV} {post:List (Nat×AObj)} {ids1:List Nat} {r:FV} {gs:List (Nat×Array Value)} (B:o.op = .call { callee := .value (.func f),args:=args,argTypes:=ts }) (hc:krn st cs args.toList=some as_) (m:kaa st.heap id=some (.glb gs)) (hp:HCall P f (as_++[]) [(1, .glb gs)] [1] (.ret res) post ids1) (hr:res = .fz r\/∃ (id n:Nat) (e:TypeId) (size:Nat) (xs:List FV),res = .row id n/\kaa post id=some (.frow e size xs)/\n=xs.length/\r = .lst size n xs):NStep P o st (.fz r):=by
 intro ψ S a w ht C;rw [List.append_nil] at hp;obtain ⟨e1,e2⟩:=kuu (fun t=>(ht t).bound) hc;obtain ⟨g0,g1,g2,g3⟩:=C id _ m
 let ψ1:Env:=⟨fun _=>0,fun _=>ψ.val id⟩
 have k:ObR ψ1 (·∈[1]) (fun b=>S b/\b<w.heap.size) w 1 (.glb gs):=⟨rfl,g1,g2,fun p hp=>by obtain ⟨q1,q2⟩:=g3 p hp;exact ⟨⟨q1,q2.lt⟩,q2⟩⟩;unfold kek;rw [ks6 B hp.1];refine (hp.2 (fun b=>b<w.heap.size) (fun b=>S b/\b<w.heap.size) w.heap.size ψ1 (fun b=>S b/\b<w.heap.size) w (args.map a.eval) (by simp [e1]) (fun i v x hv hx=>?_) ⟨fun id' o h=>?_,fun id1 id2 o o' b h s z=>?_,fun b h=>h.2,fun b h => .inl h,qw _,fun b h=>h⟩).mono ?_;simp only [Array.getElem?_map,qm] at hv;obtain ⟨y,hy,rfl⟩:=hv;exact (e2 i y x (by simpa using hy) hx ψ1).mono (fun id j=>by cases j) fun b d=>d
 ·rw [kac] at h;split at h
  ·rename_i j;injection h with h;subst h j;exact ⟨qbh.2 rfl,k,fun b d=>by
    rcases d with d | ⟨u,A,_⟩;rw [g1] at d;cases d
    ·rw [g2] at A;cases A⟩
  ·cases h
 ·rw [kac] at h s;split at h
  ·split at s;rename_i p q;exact absurd (p.symm.trans q) z
   ·cases s
  ·cases h
 ·rintro e w' ⟨ψ',S',⟨v,rfl,hv⟩,c,g,_,_,hS,_⟩;have D:Grow w w':=⟨⟨g.os,g.tape,g.output,g.size,fun b d=>g.block b d⟩,no0⟩;refine ⟨v,rfl,D, .fz ?_⟩;rcases hr with rfl | ⟨id,n,e,size,xs,rfl,l,rfl,rfl⟩;exact hv.inv.mono fun b d=>(c.s0 b d).imp And.left _root_.id
  ·obtain ⟨c1,c2⟩:=kkx c l;obtain ⟨_,k2,k3⟩:=c.obj id _ l;have h0:=k2.1;cases hv with
   | row hK E h1 hv=>
    rw [hv (by rw [h0])];exact c2.mono fun b d=>d.elim (fun d=>(c.s0 b d).imp And.left _root_.id) fun d=>((k3 b (.of d)).2.2).imp And.left _root_.id
def kys (n b:Int):Option BA:=if b=10 /\ -9223372036854775808<=n/\n<=9223372036854775807 then some ⟨(Lib.itoa n).toArray⟩ else none
theorem kacw (f:FuncId) (ts:Array TypeId) (X Y:Operand) (n b:Int) (v:BA) (g m:Nat) (gs:List (Nat×Array Value)) (vs:Array Value) {nm:String} (h:kys n b=some v) (i:∀ (n:Int),-9223372036854775808<=n->n<=9223372036854775807->∀ w:World,w.var? P nm=some vs->Calls P f #[.int .i64 n, .int .i64 10] w fun e w'=>e = .returned (.string ⟨(Lib.itoa n).toArray⟩)/\∃ k os,w'=Sort.grow (w.drewN k) os) (p: ∃ fn, P.funcs[f]? = some fn /\ fn.body.isNone = false /\ (fn.name == "runtime.NumGoroutine") = false) (q: P.globalNamed nm = some g:=by kernel_rfl) (r:o.op = .call { callee := .value (.func f),args:=#[X,Y],argTypes:=ts }:=by kernel_rfl) (hx:st.eval X = .fz (.atom (.int .i64 n)):=by kernel_rfl) (hy:st.eval Y = .fz (.atom (.int .i64 b)):=by kernel_rfl) (j:kaa st.heap id=some (.glb gs):=by kernel_rfl) (hm:gs[m]?=some (g,vs):=by kernel_rfl) (l:Nat.blt 0 vs.size=true:=by kernel_rfl):
  NStep P o st (.fz (.atom (.string v))):=by
 unfold kys at h;split at h;rename_i hc;obtain ⟨rfl,h0,h1⟩:=hc;injection h with h;subst h;intro ψ S a w ht s;have c:=Sim.eval_tmps ht X;rw [hx] at c;have d:=Sim.eval_tmps ht Y;rw [hy] at d;unfold kek;rw [ks6 r p];have:=i n h0 h1 w (kai1 s j hm q (by simpa [Nat.blt_eq] using l));rw [show (#[X,Y].map a.eval)=#[.int .i64 n, .int .i64 10] by simp [c.atom,d.atom]];refine this.mono ?_;rintro e w' ⟨rfl,k,os,rfl⟩;refine ⟨_,rfl,⟨⟨rfl,rfl,rfl,by simp [Sort.grow,World.drewN],fun b t=>?_⟩,no0⟩, .fz (.atom rfl)⟩;simp only [Sort.grow,World.drewN];exact qa0 t
 ·cases h
theorem kaa6 {f:FuncId} (args:List FV) {vs:Array Value} {gs:List (Nat×Array Value)} {post:List (Nat×AObj)} {ids1:List Nat} (hp:HCall P f (args.map .fz++[]) [(1, .glb gs)] [1] (.ret (fB true)) post ids1) (hs:vs.size=args.length) (hr:∀ (i:Nat) (v:Value) (x:FV),vs[i]?=some v->args[i]?=some x->RF Any w v x) (l:∀ p,p∈gs->GlbR w p.1 p.2):
  Calls P f vs w fun e w'=>e = .returned (.bool true)/\RowKit.Below w.heap.size w w':=by
 rw [List.append_nil] at hp
 let SB:Nat->Prop:=fun b=>b<w.heap.size
 have m:∀ {v x},RF Any w v x->RF SB w v x:=fun h=>h.bound.mono fun b c=>c.2;refine (hp.2 SB SB w.heap.size ⟨fun _=>0,fun _ => .bool true⟩ SB w vs (by simpa using hs) (fun i v x hv hx=>?_) ⟨fun id' o h=>?_,fun id1 id2 o o' b h d g=>?_,fun b h=>h,fun b h => .inl h,qw _,fun b h=>h⟩).mono ?_;simp only [qr,qm] at hx;obtain ⟨y,hy,rfl⟩:=hx;exact .fz (m (hr i v y hv hy))
 ·rw [kac] at h;split at h
  ·rename_i j;injection h with h;subst h j;refine ⟨qbh.2 rfl,⟨rfl,rfl,rfl,fun p hp=>?_⟩,fun b c=>by
    rcases c with c | ⟨u,n,_⟩;cases c
    ·cases n⟩
   exact ⟨(l p hp).lt,l p hp⟩
  ·cases h
 ·rw [kac] at h d;split at h
  ·split at d;rename_i p q;exact absurd (p.symm.trans q) g
   ·cases d
  ·cases h
 ·rintro e w' ⟨ψ',S',⟨v,rfl,hv⟩,k,a,_,_,hS,_⟩;rw [hv.atom];exact ⟨rfl,⟨a.os,a.tape,a.output,a.size,fun b c=>a.block b c⟩⟩
inductive Dk where
 | mk (rule hole:Int) (args:List Dk)
namespace Dk
def rule:Dk->Int | mk r _ _=>r
def hole:Dk->Int | mk _ h _=>h
def args:Dk->List Dk | mk _ _ l=>l
theorem ind {P:Dk->Prop} (h:∀ r k l,(∀ t∈l,P t)->P (mk r k l)) (t:Dk):P t:=
 Dk.rec (motive_1:=P) (motive_2:=fun l=>∀ t∈l,P t) (fun r k l ih=>h r k l ih) (fun _ h=>nomatch h)
  (fun t l h1 a x hx=>(qab.1 hx).elim (fun e=>e ▸ h1) (a x)) t
end Dk
mutual
def eDkR:Dk->FV
 | .mk r h l => .agg [eI r,eI h, .lst 3 l.length (kvx l)]
def kvx:List Dk->List FV
 | []=>[]
 | x::l=>eDkR x::kvx l
end
def eDk (x:Dk):FV := .agg [eI x.rule,eI x.hole,eL 3 eDkR x.args]
theorem kzt:∀ l:List Dk,kvx l=l.map eDkR
 | []=>by simp [kvx]
 | x::l=>by simp [kvx,kzt l]
theorem k2q (x:Dk):eDkR x=eDk x:=by cases x;simp [eDkR,eDk,kzt,eL,Dk.rule,Dk.hole,Dk.args]
theorem kaa0 (x:Dk):(eDkR x).cells=(eDk x).cells:=by rw [k2q]
theorem kaft (x:Dk):(eDkR x).cells.length=3:=by rw [k2q];rfl
def nDkR:En Dk:=⟨eDkR,3,fun x=>(eDk x).cells,kaa0,kaft⟩
variable {P:Program} {w:World} {t:TypeId} {st:St} {o:Oper} {a:Act}
section
variable {P:Program} [t:Tab P] {Q:Exit->St->Prop} {g:Cfg}
def k46 (ks ids:List Nat) (st:St):St:=⟨st.n,ks.map fun t=>(t,look .any st.tmps t),ids.filterMap fun i=>(kaa st.heap i).map fun o=>(i,o),ids,st.dfr⟩
theorem wrl (k:Nat) (ks ids:List Nat) (i q m n:Nat) (b:W P (kpv (crun P k g) (k47 i n (k46 ks ids (stOf (crun P k g))))) Q) (a:m=n:=by simp) (hl:coA (stOf (crun P k g)) (k46 ks ids (stOf (crun P k g)))=some (k46 ks ids (stOf (crun P k g))):=by kernel_rfl)
  (hr:k20 i (k46 ks ids (stOf (crun P k g)))=List.replicate q m:=by kernel_rfl) (hc:kxi (crun P k g)=true:=by kernel_rfl):W P g Q:=wle k ((le_a hl).trans (kaeg i hr a)) b (hc:=hc)
end
variable {F S0:Nat->Prop} {N0:Nat} {w':World} {S S':Nat->Prop} {ψ ψ':Env} {K:Nat->Prop} {T:List (TypeId×TD)} {tx:TypeId} {d:TD} {id:Nat}
def tt2:TD:=⟨1,8, .int .i64,[.int .i64 0]⟩
def tt3:TD:=⟨1,8, .int .i64,[.int .i64 0]⟩
def tt4:TD:=⟨1,1, .bool,[.bool false]⟩
def tt5:TD:=⟨1,1, .int .u8,[.int .u8 0]⟩
def tt9:TD:=⟨1,16, .str,[.string ⟨#[]⟩]⟩
def tt20:TD:=⟨1,16, .ifc,[.nilIface]⟩
def tt21:TD:=⟨1,4, .int .i32,[.int .i32 0]⟩
def tt22:TD:=⟨1,24, .slice 3,[.slice none 0 0]⟩
def tt23:TD:=⟨1,24, .slice 73,[.slice none 0 0]⟩
def tt24:TD:=⟨1,24, .slice 78,[.slice none 0 0]⟩
def tt26:TD:=⟨4,88, .st [(9,0),(22,1),(23,2),(24,3)],[.string ⟨#[]⟩, .slice none 0 0, .slice none 0 0, .slice none 0 0]⟩
def tt27:TD:=⟨1,24, .slice 29,[.slice none 0 0]⟩
def tt29:TD:=⟨3,40, .st [(3,0),(3,1),(27,2)],[.int .i64 0, .int .i64 0, .slice none 0 0]⟩
def tt30:TD:=⟨1,24, .slice 44,[.slice none 0 0]⟩
def tt32:TD:=⟨4,64, .st [(29,0),(30,3)],[.int .i64 0, .int .i64 0, .slice none 0 0, .slice none 0 0]⟩
def tt36:TD:=⟨1,8, .int .i64,[.int .i64 0]⟩
def tt42:TD:=⟨1,24, .slice 47,[.slice none 0 0]⟩
def tt44:TD:=⟨2,32, .st [(3,0),(42,1)],[.int .i64 0, .slice none 0 0]⟩
def tt47:TD:=⟨2,32, .st [(3,0),(42,1)],[.int .i64 0, .slice none 0 0]⟩
def tt58:TD:=⟨1,8, .fn,[.nilFunc]⟩
def tt60:TD:=⟨1,8, .ptr 63,[.pointer none]⟩
def tt61:TD:=⟨1,24, .slice 5,[.slice none 0 0]⟩
def tt63:TD:=⟨2,32, .st [(60,0),(61,1)],[.pointer none, .slice none 0 0]⟩
def tt73:TD:=⟨2,24, .st [(9,0),(3,1)],[.string ⟨#[]⟩, .int .i64 0]⟩
def tt74:TD:=⟨1,24, .slice 76,[.slice none 0 0]⟩
def tt76:TD:=⟨4,56, .st [(3,0),(2,1),(9,2),(74,3)],[.int .i64 0, .int .i64 0, .string ⟨#[]⟩, .slice none 0 0]⟩
def tt78:TD:=⟨9,120, .st [(3,0),(3,1),(3,2),(76,3),(9,7),(22,8)],[.int .i64 0, .int .i64 0, .int .i64 0, .int .i64 0, .int .i64 0, .string ⟨#[]⟩, .slice none 0 0, .string ⟨#[]⟩, .slice none 0 0]⟩
def tt80:TD:=⟨1,24, .slice 22,[.slice none 0 0]⟩
def tt85:TD:=⟨1,8, .fn,[.nilFunc]⟩
def tt91:TD:=⟨1,8, .fn,[.nilFunc]⟩
def tt103:TD:=⟨1,24, .slice 9,[.slice none 0 0]⟩
def tt105:TD:=⟨1,8, .ptr 5,[.pointer none]⟩
def kaan:TD:=⟨1,8, .map 9 4,[.map none]⟩
def tt114:TD:=⟨1,8, .fn,[.nilFunc]⟩
def tt116:TD:=⟨1,8, .fn,[.nilFunc]⟩
def tt118:TD:=⟨1,8, .fn,[.nilFunc]⟩
def tt122:TD:=⟨1,8, .int .u64,[.int .u64 0]⟩
def tt131:TD:=⟨3,48, .st [(9,0),(22,1),(3,2)],[.string ⟨#[]⟩, .slice none 0 0, .int .i64 0]⟩
def tt140:TD:=⟨1,8, .int .i64,[.int .i64 0]⟩
def tt148:TD:=⟨1,4, .int .u32,[.int .u32 0]⟩
def tt150:TD:=⟨1,8, .int .u64,[.int .u64 0]⟩
def tt152:TD:=⟨1,8, .ptr 191,[.pointer none]⟩
def tt158:TD:=⟨1,8, .fn,[.nilFunc]⟩
def tt161:TD:=⟨1,24, .slice 196,[.slice none 0 0]⟩
def tt163:TD:=⟨5,112, .st [(26,0),(161,4)],[.string ⟨#[]⟩, .slice none 0 0, .slice none 0 0, .slice none 0 0, .slice none 0 0]⟩
def tt178:TD:=⟨4,64, .st [(131,0),(9,3)],[.string ⟨#[]⟩, .slice none 0 0, .int .i64 0, .string ⟨#[]⟩]⟩
def tt183:TD:=⟨1,8, .int .u64,[.int .u64 0]⟩
def tt187:TD:=⟨1,8, .ptr 3,[.pointer none]⟩
def kaac:TD:=⟨1,8, .map 9 2,[.map none]⟩
def tt191:TD:=⟨5,96, .st [(26,0),(189,4)],[.string ⟨#[]⟩, .slice none 0 0, .slice none 0 0, .slice none 0 0, .map none]⟩
def k0t:TD:=⟨1,24, .slice 4,[.slice none 0 0]⟩
def tt202:TD:=⟨24,24, .arr 24 5,List.replicate 24 (.int .u8 0)⟩
def tt206:TD:=⟨1,24, .slice 178,[.slice none 0 0]⟩
def tt208:TD:=⟨1,24, .slice 210,[.slice none 0 0]⟩
def tt210:TD:=⟨3,48, .arr 3 9,[.string ⟨#[]⟩, .string ⟨#[]⟩, .string ⟨#[]⟩]⟩
def tt219:TD:=⟨1,8, .fn,[.nilFunc]⟩
def tt221:TD:=⟨20,160, .arr 20 150,List.replicate 20 (.int .u64 0)⟩
def tt225:TD:=⟨1,24, .slice 206,[.slice none 0 0]⟩
def tt230:TD:=⟨32,32, .arr 32 5,List.replicate 32 (.int .u8 0)⟩
def tt231:TD:=⟨64,64, .arr 64 5,List.replicate 64 (.int .u8 0)⟩
def kagr:TD:=⟨2,2, .st [(5,0),(5,1)],[.int .u8 0, .int .u8 0]⟩
def tt247:TD:=⟨32,32, .arr 16 246,List.replicate 32 (.int .u8 0)⟩
def TT:List (TypeId×TD):=[(2,tt2),(3,tt3),(4,tt4),(5,tt5),(9,tt9),(20,tt20),(21,tt21),(22,tt22),(23,tt23),(24,tt24),(26,tt26),(27,tt27),(29,tt29),(30,tt30),(32,tt32),(36,tt36),(42,tt42),(44,tt44),(47,tt47),(58,tt58),(60,tt60),(61,tt61),(63,tt63),(73,tt73),(74,tt74),(76,tt76),(78,tt78),(80,tt80),(85,tt85),(91,tt91),(103,tt103),(105,tt105),(110,kaan),(114,tt114),(116,tt116),(118,tt118),(122,tt122),(131,tt131),(140,tt140),(148,tt148),(150,tt150),(152,tt152),(158,tt158),(161,tt161),(163,tt163),(178,tt178),(183,tt183),(187,tt187),(189,kaac),(191,tt191),(196,k0t),(202,tt202),(206,tt206),(208,tt208),(210,tt210),(219,tt219),(221,tt221),(225,tt225),(230,tt230),(231,tt231),(246,kagr),(247,tt247)]
theorem kbc:TOk Tryz.prog TT:=kacb (by kernel_rfl)
instance tabP:Tab Tryz.prog:=⟨TT,kbc,by kernel_rfl⟩
structure Saf where
 yn:Int
 yo:Int
def ko1 (x:Saf):FV := .agg [eU8 (x.yn),eU8 (x.yo)]
def ko2:En Saf:=⟨ko1,2,fun x=>(ko1 x).cells,fun _=>rfl,fun _=>rfl⟩
def gt0:List Int:=[1,10,100,1000,10000,100000,1000000,10000000,100000000,1000000000,10000000000,100000000000,1000000000000,10000000000000,100000000000000,1000000000000000,10000000000000000,100000000000000000,1000000000000000000,10000000000000000000]
def gv0:Array Value:=#[.int .u64 1, .int .u64 10, .int .u64 100, .int .u64 1000, .int .u64 10000, .int .u64 100000, .int .u64 1000000, .int .u64 10000000, .int .u64 100000000, .int .u64 1000000000, .int .u64 10000000000, .int .u64 100000000000, .int .u64 1000000000000, .int .u64 10000000000000, .int .u64 100000000000000, .int .u64 1000000000000000, .int .u64 10000000000000000, .int .u64 100000000000000000, .int .u64 1000000000000000000, .int .u64 10000000000000000000]
def gt1:List Int:=[0,1,28,2,29,14,24,3,30,22,20,15,25,17,4,8,31,27,13,23,21,19,16,7,26,12,18,6,11,5,10,9]
def gv1:Array Value:=#[.int .u8 0, .int .u8 1, .int .u8 28, .int .u8 2, .int .u8 29, .int .u8 14, .int .u8 24, .int .u8 3, .int .u8 30, .int .u8 22, .int .u8 20, .int .u8 15, .int .u8 25, .int .u8 17, .int .u8 4, .int .u8 8, .int .u8 31, .int .u8 27, .int .u8 13, .int .u8 23, .int .u8 21, .int .u8 19, .int .u8 16, .int .u8 7, .int .u8 26, .int .u8 12, .int .u8 18, .int .u8 6, .int .u8 11, .int .u8 5, .int .u8 10, .int .u8 9]
def gt2:List Int:=[0,1,56,2,57,49,28,3,61,58,42,50,38,29,17,4,62,47,59,36,45,43,51,22,53,39,33,30,24,18,12,5,63,55,48,27,60,41,37,16,46,35,44,21,52,32,23,11,54,26,40,15,34,20,31,10,25,14,19,9,13,8,7,6]
def gv2:Array Value:=#[.int .u8 0, .int .u8 1, .int .u8 56, .int .u8 2, .int .u8 57, .int .u8 49, .int .u8 28, .int .u8 3, .int .u8 61, .int .u8 58, .int .u8 42, .int .u8 50, .int .u8 38, .int .u8 29, .int .u8 17, .int .u8 4, .int .u8 62, .int .u8 47, .int .u8 59, .int .u8 36, .int .u8 45, .int .u8 43, .int .u8 51, .int .u8 22, .int .u8 53, .int .u8 39, .int .u8 33, .int .u8 30, .int .u8 24, .int .u8 18, .int .u8 12, .int .u8 5, .int .u8 63, .int .u8 55, .int .u8 48, .int .u8 27, .int .u8 60, .int .u8 41, .int .u8 37, .int .u8 16, .int .u8 46, .int .u8 35, .int .u8 44, .int .u8 21, .int .u8 52, .int .u8 32, .int .u8 23, .int .u8 11, .int .u8 54, .int .u8 26, .int .u8 40, .int .u8 15, .int .u8 34, .int .u8 20, .int .u8 31, .int .u8 10, .int .u8 25, .int .u8 14, .int .u8 19, .int .u8 9, .int .u8 13, .int .u8 8, .int .u8 7, .int .u8 6]
def gt4:List Int:=[240,240,240,240,240,240,240,240,240,240,240,240,240,240,240,240,240,240,240,240,240,240,240,240,240,240,240,240,240,240,240,240,240,240,240,240,240,240,240,240,240,240,240,240,240,240,240,240,240,240,240,240,240,240,240,240,240,240,240,240,240,240,240,240,240,240,240,240,240,240,240,240,240,240,240,240,240,240,240,240,240,240,240,240,240,240,240,240,240,240,240,240,240,240,240,240,240,240,240,240,240,240,240,240,240,240,240,240,240,240,240,240,240,240,240,240,240,240,240,240,240,240,240,240,240,240,240,240,241,241,241,241,241,241,241,241,241,241,241,241,241,241,241,241,241,241,241,241,241,241,241,241,241,241,241,241,241,241,241,241,241,241,241,241,241,241,241,241,241,241,241,241,241,241,241,241,241,241,241,241,241,241,241,241,241,241,241,241,241,241,241,241,241,241,2,2,2,2,2,2,2,2,2,2,2,2,2,2,2,2,2,2,2,2,2,2,2,2,2,2,2,2,2,2,19,3,3,3,3,3,3,3,3,3,3,3,3,35,3,3,52,4,4,4,68,241,241,241,241,241,241,241,241,241,241,241]
def gv4:Array Value:=#[.int .u8 240, .int .u8 240, .int .u8 240, .int .u8 240, .int .u8 240, .int .u8 240, .int .u8 240, .int .u8 240, .int .u8 240, .int .u8 240, .int .u8 240, .int .u8 240, .int .u8 240, .int .u8 240, .int .u8 240, .int .u8 240, .int .u8 240, .int .u8 240, .int .u8 240, .int .u8 240, .int .u8 240, .int .u8 240, .int .u8 240, .int .u8 240, .int .u8 240, .int .u8 240, .int .u8 240, .int .u8 240, .int .u8 240, .int .u8 240, .int .u8 240, .int .u8 240, .int .u8 240, .int .u8 240, .int .u8 240, .int .u8 240, .int .u8 240, .int .u8 240, .int .u8 240, .int .u8 240, .int .u8 240, .int .u8 240, .int .u8 240, .int .u8 240, .int .u8 240, .int .u8 240, .int .u8 240, .int .u8 240, .int .u8 240, .int .u8 240, .int .u8 240, .int .u8 240, .int .u8 240, .int .u8 240, .int .u8 240, .int .u8 240, .int .u8 240, .int .u8 240, .int .u8 240, .int .u8 240, .int .u8 240, .int .u8 240, .int .u8 240, .int .u8 240, .int .u8 240, .int .u8 240, .int .u8 240, .int .u8 240, .int .u8 240, .int .u8 240, .int .u8 240, .int .u8 240, .int .u8 240, .int .u8 240, .int .u8 240, .int .u8 240, .int .u8 240, .int .u8 240, .int .u8 240, .int .u8 240, .int .u8 240, .int .u8 240, .int .u8 240, .int .u8 240, .int .u8 240, .int .u8 240, .int .u8 240, .int .u8 240, .int .u8 240, .int .u8 240, .int .u8 240, .int .u8 240, .int .u8 240, .int .u8 240, .int .u8 240, .int .u8 240, .int .u8 240, .int .u8 240, .int .u8 240, .int .u8 240, .int .u8 240, .int .u8 240, .int .u8 240, .int .u8 240, .int .u8 240, .int .u8 240, .int .u8 240, .int .u8 240, .int .u8 240, .int .u8 240, .int .u8 240, .int .u8 240, .int .u8 240, .int .u8 240, .int .u8 240, .int .u8 240, .int .u8 240, .int .u8 240, .int .u8 240, .int .u8 240, .int .u8 240, .int .u8 240, .int .u8 240, .int .u8 240, .int .u8 240, .int .u8 240, .int .u8 240, .int .u8 240, .int .u8 241, .int .u8 241, .int .u8 241, .int .u8 241, .int .u8 241, .int .u8 241, .int .u8 241, .int .u8 241, .int .u8 241, .int .u8 241, .int .u8 241, .int .u8 241, .int .u8 241, .int .u8 241, .int .u8 241, .int .u8 241, .int .u8 241, .int .u8 241, .int .u8 241, .int .u8 241, .int .u8 241, .int .u8 241, .int .u8 241, .int .u8 241, .int .u8 241, .int .u8 241, .int .u8 241, .int .u8 241, .int .u8 241, .int .u8 241, .int .u8 241, .int .u8 241, .int .u8 241, .int .u8 241, .int .u8 241, .int .u8 241, .int .u8 241, .int .u8 241, .int .u8 241, .int .u8 241, .int .u8 241, .int .u8 241, .int .u8 241, .int .u8 241, .int .u8 241, .int .u8 241, .int .u8 241, .int .u8 241, .int .u8 241, .int .u8 241, .int .u8 241, .int .u8 241, .int .u8 241, .int .u8 241, .int .u8 241, .int .u8 241, .int .u8 241, .int .u8 241, .int .u8 241, .int .u8 241, .int .u8 241, .int .u8 241, .int .u8 241, .int .u8 241, .int .u8 241, .int .u8 241, .int .u8 2, .int .u8 2, .int .u8 2, .int .u8 2, .int .u8 2, .int .u8 2, .int .u8 2, .int .u8 2, .int .u8 2, .int .u8 2, .int .u8 2, .int .u8 2, .int .u8 2, .int .u8 2, .int .u8 2, .int .u8 2, .int .u8 2, .int .u8 2, .int .u8 2, .int .u8 2, .int .u8 2, .int .u8 2, .int .u8 2, .int .u8 2, .int .u8 2, .int .u8 2, .int .u8 2, .int .u8 2, .int .u8 2, .int .u8 2, .int .u8 19, .int .u8 3, .int .u8 3, .int .u8 3, .int .u8 3, .int .u8 3, .int .u8 3, .int .u8 3, .int .u8 3, .int .u8 3, .int .u8 3, .int .u8 3, .int .u8 3, .int .u8 35, .int .u8 3, .int .u8 3, .int .u8 52, .int .u8 4, .int .u8 4, .int .u8 4, .int .u8 68, .int .u8 241, .int .u8 241, .int .u8 241, .int .u8 241, .int .u8 241, .int .u8 241, .int .u8 241, .int .u8 241, .int .u8 241, .int .u8 241, .int .u8 241]
theorem gt4_v:gv4.toList.map FV.atom=tabC nU8 gt4:=by kernel_rfl
theorem gt4_1:gv4.toList.all (·.oneCell')=true:=by kernel_rfl
def gt5:List Saf:=[Saf.mk 128 191,Saf.mk 160 191,Saf.mk 128 159,Saf.mk 144 191,Saf.mk 128 143,Saf.mk 0 0,Saf.mk 0 0,Saf.mk 0 0,Saf.mk 0 0,Saf.mk 0 0,Saf.mk 0 0,Saf.mk 0 0,Saf.mk 0 0,Saf.mk 0 0,Saf.mk 0 0,Saf.mk 0 0]
def gv5:Array Value:=#[.int .u8 128, .int .u8 191, .int .u8 160, .int .u8 191, .int .u8 128, .int .u8 159, .int .u8 144, .int .u8 191, .int .u8 128, .int .u8 143, .int .u8 0, .int .u8 0, .int .u8 0, .int .u8 0, .int .u8 0, .int .u8 0, .int .u8 0, .int .u8 0, .int .u8 0, .int .u8 0, .int .u8 0, .int .u8 0, .int .u8 0, .int .u8 0, .int .u8 0, .int .u8 0, .int .u8 0, .int .u8 0, .int .u8 0, .int .u8 0, .int .u8 0, .int .u8 0]
theorem gt5_v:gv5.toList.map FV.atom=tabC ko2 gt5:=by kernel_rfl
theorem gt5_1:gv5.toList.all (·.oneCell')=true:=by kernel_rfl
def GV:List (Nat×Array Value):=[(0,gv0),(1,gv1),(2,gv2),(4,gv4),(5,gv5),(3,#[])]
theorem kakw:powV=gv0:=by kernel_rfl
theorem k82 : ∀ (n : Int), -9223372036854775808 <= n -> n <= 9223372036854775807 -> ∀ w : World, w.var? Tryz.prog "internal/strconv.uint64pow10" = some gv0 -> Calls Tryz.prog 130 #[.int .i64 n, .int .i64 10] w fun e w' => e = .returned (.string ⟨(Lib.itoa n).toArray⟩) /\ ∃ k os, w' = Sort.grow (w.drewN k) os := kakw ▸ kag9
end Go.Proofs.YtgebfaidgikieaaGreatDoor
