import Derived.Test.YtpnnpkmjohkgiaaGreatDoorXk
set_option linter.all false
namespace Go.Proofs.YtpnnpkmjohkgiaaGreatDoor
open Go Go.RowKit
section
variable {P:Program} {F S0:Nat->Prop} {N0:Nat} {w w' w0:World} {S S' SB:Nat->Prop} {ψ ψ':Env} {K:Nat->Prop} {T:List (TypeId×TD)} {Z:List (TypeId×Value)} {o:Oper} {a a':Act} {st st' st1 st2:St} {t tx:TypeId} {d:TD} {id:Nat} {c:AV} {s s1 s2:XS} {e:Exit} {C:Cx} {ih:EvT} {heap:List (Nat×AObj)}
theorem kp4 {x:FV} (h:x.single=true):x.cells=[x]:=by cases x <;> first | rfl | cases h
theorem knb:∀ {sz n:Nat} {l ys:List FV},(∀ x∈l,x.single=true)->khc sz n l=some ys->ys.length=n/\l.length=n*sz/\∀ (i:Nat) (x:FV),ys[i]?=some x->x.cells=(l.drop (i*sz)).take sz/\x.cells.length=sz
 | sz,0,l,ys,h1,h=>by
  cases l with
  | nil=>
   simp only [khc,qb] at h;subst h;exact ⟨rfl,by simp,fun i x h=>by simp at h⟩
  | cons x l=>simp only [khc] at h;cases h
 | sz,n+1,l,ys,h1,h=>by
  have gen:∀ (y:FV) (r:List FV),khc sz n (l.drop sz)=some r->(l.take sz).length=sz->y.cells=l.take sz->ys=y::r->ys.length=n+1/\l.length=(n+1)*sz/\∀ (i:Nat) (x:FV),ys[i]?=some x->x.cells=(l.drop (i*sz)).take sz/\x.cells.length=sz:=by
   intro y r hr hl hy b;subst b;obtain ⟨k1,k2,k3⟩:=knb (fun x a=>h1 x (qaz a)) hr;have c:sz<=l.length:=(by rw [qam] at hl;omega);rw [qba] at k2;refine ⟨by simp [k1],by rw [qa4];omega,fun i x a=>?_⟩;cases i with
   | zero=>
    simp only [List.getElem?_cons_zero,qb] at a;subst a;simp only [Nat.zero_mul,List.drop_zero];exact ⟨hy,by rw [hy];exact hl⟩
   | succ i=>
    simp only [List.getElem?_cons_succ] at a;obtain ⟨q1,q2⟩:=k3 i x a;rw [List.drop_drop] at q1;exact ⟨by rw [q1];congr 2;rw [qa4];omega,q2⟩
  simp only [khc] at h;split at h
  ·rename_i y r hy hr;injection h with h;unfold mkEl at hy;replace hy:=kam hy;obtain ⟨d,hy⟩:=hy;refine gen y r hr (qf d) ?_ h.symm;split at hy;rename_i x a;injection hy with hy;subst hy;rw [a];exact kp4 (h1 x (qa5 (by rw [a];exact qao.2 rfl)))
   ·injection hy with hy;subst hy;rfl
  ·cases h
theorem kqa {v:Value} {r:FV} {S':Nat->Prop} {w':World} (h:RF S w v r) (ha:atF r=true):RF S' w' v r:=by
 cases h with
 | atom h=>exact .atom h
 | @tup cs xs hl hr=>
  refine .tup hl fun i u x b a=>?_;have:=ql.1 ha x (qm a);cases x <;> simp at this;cases hr i u _ b a with
  | atom h=>exact .atom h
 | @agg cs xs hl h1 hr=>
  refine .agg hl h1 fun i u x b a=>?_;have:=ql.1 ha x (qm a);cases x <;> simp at this;cases hr i u _ b a with
  | atom h=>exact .atom h
 | _=>cases ha
theorem kjt {H:Nat->Option AObj} {fr:Bool} (hS:fr=false->∀ b,S b->SB b) (G:∀ id o,H id=some o->ObR ψ K S w id o/\∀ b,Blk (ψ.val id) b->SB b):∀ fuel:Nat,
  (∀ (x:AV) (y:FV),frz H fr fuel x=some y->(x.single=true->y.single=true)/\∀ v,RV ψ K S w v x->RF SB w v y) /\
  (∀ (xs:List AV) (ys:List FV),frzs H fr fuel xs=some ys->xs.length=ys.length/\∀ (i:Nat) (x:AV) (y:FV),xs[i]?=some x->ys[i]?=some y->(x.single=true->y.single=true)/\∀ v,RV ψ K S w v x->RF SB w v y)
 | 0=>⟨(fun x y h=>by unfold frz at h;cases h),fun xs ys h=>by unfold frzs at h;cases h⟩
 | f+1=>by
  obtain ⟨ih1,ih2⟩:=kjt hS G f;constructor
  ·intro x y h;unfold frz at h;split at h;rename_i h0;cases h0
   ·replace h:=kam h;obtain ⟨A,h⟩:=h;injection h with h;subst h;refine ⟨fun h=>h,fun v hv=>?_⟩;cases hf:fr with
    | false=>exact hv.inv.mono (hS hf)
    | true=>rw [hf,qbe,Bool.false_or] at A;exact kqa hv.inv A
   ·cases hf:fr with
    | true=>rw [hf] at h;cases h
    | false=>
     rw [hf] at h;injection h with h;subst h;refine ⟨fun _=>rfl,fun v hv=>?_⟩;cases hv with
     | lim h=>exact h.mono (hS hf)
   ·rename_i f' cs hf;cases hf;split at h
    ·rename_i xs k;injection h with h;subst h;obtain ⟨k1,k2⟩:=ih2 _ _ k;refine ⟨fun h=>(by cases h),fun v hv=>?_⟩;cases hv with
     | @agg vs _ q1 q2 q3=>
      refine .agg (by omega) (fun y hy=>?_) fun i u y d hy=>?_;obtain ⟨i,hi,rfl⟩:=qak.1 hy;have a:cs[i]?=some (cs[i]'(by omega)):=qa _;exact (k2 i _ _ a (qa hi)).1 (q2 _ (qo _))
      ·have hi:=(qd.1 hy).1;have a:cs[i]?=some (cs[i]'(by omega)):=qa _;exact (k2 i _ _ a hy).2 u (q3 i u _ d a)
    ·cases h
   ·rename_i f' cs hf;cases hf;split at h
    ·rename_i xs k;injection h with h;subst h;obtain ⟨k1,k2⟩:=ih2 _ _ k;refine ⟨fun h=>(by cases h),fun v hv=>?_⟩;cases hv with
     | @tup vs _ q1 q3=>
      refine .tup (by omega) fun i u y d hy=>?_;have hi:=(qd.1 hy).1;have a:cs[i]?=some (cs[i]'(by omega)):=qa _;exact (k2 i _ _ a hy).2 u (q3 i u _ d a)
    ·cases h
   ·rename_i f' id g off len cap hf;cases hf;split at h
    ·rename_i g' e sz cells ho;replace h:=kam h;obtain ⟨A,h⟩:=h;obtain rfl:=qf A;split at h
     ·rename_i xs k;split at h
      ·rename_i ys B;injection h with h;subst h;refine ⟨fun _=>rfl,fun v hv=>?_⟩;obtain ⟨C,D⟩:=G id _ ho;obtain ⟨q0,qz,b,cs,n,cap',q1,q2,q3,q4,q5,q6,q7⟩:=C;obtain ⟨hK,b',c,p,rfl,E,hm,_⟩:=kef hv q0;rw [q1] at p;simp only [kav,qb] at p;subst p;obtain ⟨k1,k2⟩:=ih2 _ _ k;have m:∀ x∈xs,x.single=true:=fun x a=>(by obtain ⟨i,hi,rfl⟩:=qak.1 a;have s:i<((cells.drop off).take (len*sz)).length:=(by omega);exact (k2 i _ _ (qa s) (qa hi)).1 (q6 _ (qaz (qa5 (qo s)))));obtain ⟨m1,m2,m3⟩:=knb m B;have t:((cells.drop off).take (len*sz)).length=len*sz:=(by omega);have I:off+len*sz<=cells.length\/len*sz=0:=(by rw [qam,qba] at t;omega);have z:∀ (i:Nat),i<len->i*sz+sz<=len*sz:=fun i hi=>(by have:=qay sz (show i+1<=len by omega);rw [qa4] at this;omega);refine .lst (fun i=>(cs.toList.drop (off+i*sz)).take sz) m1.symm E hm qz (fun i x a=>⟨b,off,rfl,D b (.of (by rw [q1];rfl)),fun j u d=>?_⟩) (fun i x a=>?_) fun i x j u y a d hy=>?_
       ·rw [qw] at d;split at d;rw [qae] at d;exact kke q2 (by simpa using d)
        ·cases d
       have hi:i<len:=(by rw [<- m1];exact (qd.1 a).1);have:=z i hi;obtain ⟨p1,p2⟩:=m3 i x a;refine ⟨by rw [qam,qba,qas];omega,p2,fun y hy=>?_⟩;rw [p1] at hy;exact m y (qaz (qa5 hy))
       ·have hi:i<len:=(by rw [<- m1];exact (qd.1 a).1);have J:=z i hi;obtain ⟨p1,p2⟩:=m3 i x a;rw [p1,qw] at hy;rw [qw] at d;split at d;rename_i L;rw [qq L,qae] at hy;rw [qae] at d;have F:i*sz+j<len*sz:=(by omega);have hc:((cells.drop off).take (len*sz))[i*sz+j]?=some (((cells.drop off).take (len*sz))[i*sz+j]'(by omega)):=qa _;refine (k2 _ _ _ hc hy).2 u (q7 (off+(i*sz+j)) u _ (by rw [<- Nat.add_assoc];simpa using d) ?_);rw [qw,qq F,qae] at hc;exact hc
        ·cases d
      ·cases h
     ·cases h
    ·cases h
   ·cases h
  ·intro xs ys h;unfold frzs at h;split at h;rename_i h0;cases h0;injection h with h;subst h;exact ⟨rfl,fun i x y h=>by simp at h⟩
   ·rename_i f' x l hf;cases hf;split at h
    ·rename_i y r hy hr;injection h with h;subst h;obtain ⟨k1,k2⟩:=ih2 _ _ hr;refine ⟨by simp [k1],fun i x' y' a q=>?_⟩;cases i with
     | zero=>simp at a q;subst a q;exact ih1 _ _ hy
     | succ i=>exact k2 i x' y' (by simpa using a) (by simpa using q)
    ·cases h
theorem kqm {f:Nat} {xs:List FV} {y:AV} {r:FV} (h:kdh P f (xs.map .fz) [] [] (.ret y) s1.heap (idsN s1.k)) (hr:frz (kab s1.heap) false 1000 y=some r):PCall P f xs r:=by
 refine ⟨h.1,fun S w vs hs hv=>?_⟩;have d:∀ {v x},RF S w v x->RF (fun b=>S b/\b<w.heap.size) w v x:=fun h=>h.bound;refine (h.2 (fun b=>b<w.heap.size) (fun b=>S b/\b<w.heap.size) w.heap.size ⟨fun _=>0,fun _ => .nilFunc⟩ (fun b=>S b/\b<w.heap.size) w vs (by simpa using hs) (fun i v x g l=>?_) ⟨fun id o h=>(by cases h),fun i i' o o' b h=>(by cases h),fun b h=>h.2,fun b h => .inl h,qt _,fun b h=>h⟩).mono ?_;rw [qr,qp] at l;obtain ⟨z,m,rfl⟩:=l;exact .fz (d (hv i v z g m))
 ·rintro e w' ⟨ψ',S',⟨v,rfl,j⟩,a,c,_⟩;refine ⟨v,rfl,((kjt (SB:=fun b=>S b\/w.heap.size<=b) (fun _ b d=>?_) (fun id o ho=>⟨(a.obj id o ho).2.1,fun b d => .inr ?_⟩) 1000).1 y r hr).2 v j,⟨c.os,c.tape,c.output,c.size,c.block⟩⟩
  ·rcases a.s0 b d with h | h;exact .inl h.1
   ·exact .inr h
  ·have:=((a.obj id o ho).2.2 b d).2.1;omega
theorem klh {u v:Value} (h:kod u v=true):u=v:=by
 unfold kod at h;split at h;simp only [qn,qbb,beq_iff_eq] at h;rw [h.1,h.2];rw [kly,MapKept.bytes_beq] at h;rw [h];simp at h;rw [h]
 all_goals first | rfl | cases h
mutual
theorem kzh:∀ {a b:FV},eqFV a b=true->a=b
 | .atom v,b,h=>by cases b <;> simp only [eqFV] at h <;> first | (rw [klh h]) | cases h
 | .agg v,b,h=>by cases b <;> simp only [eqFV] at h <;> first | (rw [kfp h]) | cases h
 | .tup v,b,h=>by cases b <;> simp only [eqFV] at h <;> first | (rw [kfp h]) | cases h
 | .lst s n v,b,h=>by
  cases b <;> simp only [eqFV] at h <;> try cases h
  simp only [qn] at h;rw [qf h.1,qf h.2.1,kfp h.2.2]
 | .fp v,b,h=>by cases b <;> simp only [eqFV] at h <;> first | (rw [kfp h]) | cases h
 | .bx v,b,h=>by cases b <;> simp only [eqFV] at h <;> first | (rw [kfp h]) | cases h
theorem kfp:∀ {a b:List FV},kfe a b=true->a=b
 | [],[],_=>rfl
 | [],_::_,h=>by simp only [kfe] at h;cases h
 | _::_,[],h=>by simp only [kfe] at h;cases h
 | a::l,b::m,h=>by simp only [kfe,qn] at h;rw [kzh h.1,kfp h.2]
end
theorem kok {l:List (Nat×List FV×FV)} (hl:∀ p∈l,PCall P p.1 p.2.1 p.2.2) {f:Nat} {xs:List FV} {r:FV} (h:kls l f xs=some r):PCall P f xs r:=by
 induction l with
 | nil=>cases h
 | cons p l ih=>
  obtain ⟨g,as_,q⟩:=p;simp only [kls] at h;cases a:(Nat.beq g f && kfe as_ xs) with
  | true=>
   rw [a] at h;simp only [qe,qb] at h;subst h;simp only [qn] at a;have:=hl _ (qv ..)
   rwa [qf a.1,kfp a.2] at this
  | false=>
   rw [a] at h;exact ih (fun p hp=>hl p (qs _ hp)) h
theorem kqb (b:CxOk P C) (a:EvOk P ih) {f:Nat} {xs:List FV} {r:FV} (hr:kn8 C ih f xs=some r):PCall P f xs r:=by
 unfold kn8 at hr;split at hr;rename_i r' hf;injection hr with hr;subst hr;exact kok b.fx hf
 ·replace hr:=kam hr;obtain ⟨_,hr⟩:=hr;split at hr;rename_i y s2 c;rw [H_eq (D:=[])] at hr;exact kqm (kix b a c).1 hr
  ·cases hr
def PNew (P:Program) (f:FuncId) (args:List FV) (r:FV):Prop:=
 (∃ fn, P.funcs[f]? = some fn /\ fn.body.isNone = false /\ (fn.name == "runtime.NumGoroutine") = false) /\
 ∀ (S:Nat->Prop) (w:World) (vs:Array Value),vs.size=args.length->(∀ (i:Nat) (v:Value) (x:FV),vs[i]?=some v->args[i]?=some x->RF S w v x) ->
  Calls P f vs w fun e w'=>∃ v,e = .returned v/\RF (fun b=>w.heap.size<=b) w' v r/\Grow w w'
theorem k2e {f:Nat} {xs:List FV} {y:AV} {r:FV} (h:kdh P f (xs.map .fz) [] [] (.ret y) s1.heap (idsN s1.k)) (hr:frz (kab s1.heap) true 1000 y=some r):PNew P f xs r:=by
 refine ⟨h.1,fun S w vs hs hv=>?_⟩;have d:∀ {v x},RF S w v x->RF (fun b=>S b/\b<w.heap.size) w v x:=fun h=>h.bound;refine (h.2 (fun b=>b<w.heap.size) (fun b=>S b/\b<w.heap.size) w.heap.size ⟨fun _=>0,fun _ => .nilFunc⟩ (fun b=>S b/\b<w.heap.size) w vs (by simpa using hs) (fun i v x g l=>?_) ⟨fun id o h=>(by cases h),fun i i' o o' b h=>(by cases h),fun b h=>h.2,fun b h => .inl h,qt _,fun b h=>h⟩).mono ?_;rw [qr,qp] at l;obtain ⟨z,m,rfl⟩:=l;exact .fz (d (hv i v z g m))
 ·rintro e w' ⟨ψ',S',⟨v,rfl,j⟩,a,c,_⟩;refine ⟨v,rfl,((kjt (fr:=true) (SB:=fun b=>w.heap.size<=b) (fun h=>by cases h) (fun id o ho=>⟨(a.obj id o ho).2.1,fun b d=>?_⟩) 1000).1 y r hr).2 v j,⟨c.os,c.tape,c.output,c.size,c.block⟩⟩;have:=((a.obj id o ho).2.2 b d).2.1;omega
theorem PNew.of_atF {f:Nat} {xs:List FV} {r:FV} (h:PCall P f xs r) (ha:atF r=true):PNew P f xs r:=
 ⟨h.1,fun S w vs hs hv=>(h.2 S w vs hs hv).mono fun e w' ⟨v,a,h1,b⟩=>⟨v,a,kqa h1 ha,b⟩⟩
theorem kqe (m:CxOk P C) (k:EvOk P ih) {H:Nat->Option AObj} (A:∀ id ob,H id=some ob->kab st.heap id=some ob) {f:Nat} {fst caps:List AV} {x:Operand} {args:Array Operand} {ts:Array TypeId} {r:FV} (ho:o.op = .call { callee := .value x,args:=args,argTypes:=ts }) (c:kfr st.eval x=some (f,fst,caps)) (hr:kn3 C ih H f (fst++(args.toList.map st.eval++caps))=some r):NStep P o st (.fz r):=by
 unfold kn3 at hr;split at hr
 ·rename_i xs d;split at hr;rename_i u cc p;injection hr with hr;subst hr;exact ib_n ho c d (m.ib f (by simpa using p))
  ·exact k0q ho c d (kqb m k hr)
 ·split at hr
  ·rename_i xs d;have h:=kqb m k hr;intro ψ S a w ht B;obtain ⟨vf,vc,q,h1,s⟩:=kgk (args:=args) ht c;have l:=(kjt (H:=fun _=>none) (fr:=false) (ψ:=ψ) (K:=(·∈st.ids)) (S:=S) (w:=w) (SB:=S) (fun _ b j=>j) (fun id o ho=>by cases ho) 1000).2 _ _ d;unfold kcv;rw [kg1 ho q h.1];refine (h.2 S w _ (by rw [<- l.1,<- h1,qas]) fun i v x hv g=>?_).mono ?_;have hi:i<(fst++(args.toList.map st.eval++caps)).length:=(by rw [l.1];exact (qd.1 g).1);exact (l.2 i _ x (qa hi) g).2 v (s i v _ (by rw [qav];exact hv) (qa hi))
   ·rintro e w' ⟨v,rfl,hv,t⟩;exact ⟨v,rfl,t, .fz hv⟩
  ·replace hr:=kam hr;obtain ⟨_,hr⟩:=hr;split at hr
   ·rename_i xs d;have h:PNew P f xs r:=by
     split at hr;rename_i r' hf;replace hr:=kam hr;obtain ⟨z,hr⟩:=hr;injection hr with hr;subst hr;exact .of_atF (kok m.fx hf) z
     ·split at hr;rename_i y s2 j;rw [H_eq (D:=[])] at hr;exact k2e (kix m k j).1 hr
      ·cases hr
    intro ψ S a w ht B;obtain ⟨vf,vc,q,h1,s⟩:=kgk (args:=args) ht c;obtain ⟨SB,n⟩:∃ SB:Nat->Prop,SB=fun b=>S b\/∃ id ob,kab st.heap id=some ob/\Blk (ψ.val id) b:=⟨_,rfl⟩;have l:=(kjt (H:=H) (fr:=false) (ψ:=ψ) (K:=(·∈st.ids)) (S:=S) (w:=w) (SB:=SB) (fun _ b j=>by rw [n];exact .inl j) (fun id o ho=>⟨B id o (A id o ho),fun b j=>by rw [n];exact .inr ⟨id,o,A id o ho,j⟩⟩) 1000).2 _ _ d;unfold kcv;rw [kg1 ho q h.1];refine (h.2 SB w _ (by rw [<- l.1,<- h1,qas]) fun i v x hv g=>?_).mono ?_;have hi:i<(fst++(args.toList.map st.eval++caps)).length:=(by rw [l.1];exact (qd.1 g).1);exact (l.2 i _ x (qa hi) g).2 v (s i v _ (by rw [qav];exact hv) (qa hi))
    ·rintro e w' ⟨v,rfl,hv,t⟩;exact ⟨v,rfl,t, .fz (hv.mono fun b j => .inr j)⟩
   ·cases hr
theorem kom {x:Operand} {as_:List Operand} (a:koe o=some (x,as_)):∃ args ts,o.op = .call { callee := .value x,args:=args,argTypes:=ts }/\as_=args.toList:=by
 unfold koe at a;split at a
 ·rename_i cl hcl;split at a;rename_i f hf;simp only [qb,qj] at a;obtain ⟨rfl,rfl⟩:=a;obtain ⟨cal,args,ts⟩:=cl;simp only at hf;exact ⟨args,ts,by rw [hcl,hf],rfl⟩
  ·cases a
 ·cases a
theorem kto (d:CxOk P C) (b:EvOk P ih) {mu:Bool} (h:opE C ih mu o s=some (c,s1)):kty P o s c s1:=by
 unfold opE at h;split at h
 ·rename_i x as_ e;obtain ⟨args,ts,ho,rfl⟩:=kom e;split at h
  ·rename_i f fst caps a;unfold kxv at h;split at h;rename_i r hr;simp only [qb,qj] at h;obtain ⟨rfl,rfl⟩:=h;refine ⟨fun D=>?_,rfl,rfl,LG.refl⟩;rw [E_eq (D:=D)] at a hr;exact (kqe d b (fun _ _ h=>by rw [H_eq (D:=D)] at h;exact h) ho a hr).step
   ·split at h;rename_i y s2 j;simp only [qb,qj] at h;obtain ⟨rfl,rfl⟩:=h;obtain ⟨i,g⟩:=kix d b j;refine ⟨fun D=>?_,rfl,rfl,g⟩;rw [E_eq (D:=D)] at a i;exact kts ho a i
    ·cases h
  ·cases h
 ·split at h;rename_i c' dl hs;simp only [qb,qj] at h;obtain ⟨rfl,rfl⟩:=h;refine k2a fun D=>?_;rw [E_eq (D:=D),H_eq (D:=D)] at hs;exact sE_ok d.T d.Z kr7 hs
  ·cases h
theorem NStep.moreH {st st':St} (h:NStep P o st c) (hn:st'.tmps=st.tmps) (hi:st'.ids=st.ids) (d:∀ id ob,kab st.heap id=some ob->kab st'.heap id=some ob):NStep P o st' c:=by
 intro ψ S a w ht b;have e:∀ t,st'.get t=st.get t:=fun t=>by unfold St.get;rw [hn]
 rw [hi] at ht b ⊢;exact h ψ S a w (fun t=>by rw [<- e];exact ht t) fun id ob ho=>b id ob (d id ob ho)
theorem kit {rf:List Nat} {id:Nat} {ob:AObj}:∀ {l:List (Nat×AObj)},kab (kgs rf l) id=some ob->id∈rf/\kab l id=some ob
 | [],h=>by cases h
 | (k,v)::l,h=>by
  simp only [kgs] at h;cases hc:rf.contains k with
  | true=>
   rw [hc] at h;simp only [qe] at h;rw [kae] at h ⊢;by_cases hk:k=id;subst hk;rw [qq rfl] at h ⊢;exact ⟨by simpa using hc,h⟩
   ·rw [qh hk] at h ⊢;exact kit h
  | false=>
   rw [hc] at h;simp only [qg] at h;obtain ⟨h1,a⟩:=kit (l:=l) h;refine ⟨h1,?_⟩;rw [kae,qh];exact a
   ·rintro rfl;have:rf.contains k=true:=(by simpa using h1);rw [this] at hc;cases hc
theorem kq0 {k:Nat} {x:AV} (h:okN0 k x=true):okA (idsN k) x=true:=by
 have a:∀ {id},Nat.blt id k=true->(idsN k).contains id=true:=fun {id} h=>by
  have:id<k:=by simpa [qbd] using h
  simpa using mem_idsN.2 this
 cases x <;> simp only [okN0] at h <;> first | rfl | exact a h | cases h
theorem k1h {k:Nat} {x:AV} (h:okN k x=true):okA (idsN k) x=true:=by
 have hl:∀ {cs:List AV},cs.all (okN0 k)=true->okAs (idsN k) cs=true:=fun {cs} h=>by rw [kfs];exact ql.2 fun x a=>kq0 (ql.1 h x a)
 cases x <;> simp only [okN] at h <;> first | exact kq0 h | exact hl h
theorem kt5 (D:List Deferred) (m:CxOk P C) (p:EvOk P ih) {mu:Bool} {os:Array Oper} {L:List Oper} {n i:Nat} {es ch cs ai rf:List Nat} {s0 hs hs1:XS} {fs:List (Nat×Option Nat×AV)} (t:∀ e,e∈es->phB L es e=true) (h:dz1 C ih mu os L n es s0 i o fs hs=some (c,hs1,rf)):
  LG hs hs1/\((∀ r,r∈rf->r∉ch)->(∀ new,hs1.lg=new++hs.lg->∀ r,r∈new->r∈cs)->(∀ id,id<hs1.k->id∈ai) ->
   (i∉es/\hs1=hs/\kil P os (kbb L n es ch ai (s0.st D) i o fs hs.heap (idsN hs.k)) o c/\(phB L es i || okA (s0.st D).ids c)=true) \/
   (i∈es/\kl0 P os L n es cs ai (s0.st D) (kbb L n es ch ai (s0.st D) i o fs hs.heap (idsN hs.k)) o c hs.heap (idsN hs.k) hs1.heap (idsN hs1.k))):=by
 unfold dz1 at h;obtain ⟨v,hv⟩:∃ v:XS,v=⟨s0.n,hadd fs (kcz o) (kdu L i n++s0.tmps),hs.heap,hs.k,hs.lg⟩:=⟨_,rfl⟩;simp only [<- hv] at h;have a:∀ b,kjw os v.E o=some b->ka8 os (kbb L n es ch ai (s0.st D) i o fs hs.heap (idsN hs.k)) o=some b:=fun b F=>by rw [E_eq (D:=D)] at F;rw [<- F,hv];rfl
 have G:(v.st D).eval=(kbb L n es ch ai (s0.st D) i o fs hs.heap (idsN hs.k)).eval:=by rw [hv];funext x;cases x <;> rfl
 have g:phB L es i=true->(v.st D)=kbb L n es ch ai (s0.st D) i o fs hs.heap (idsN hs.k):=fun hp=>by rw [hv];unfold kbb;rw [hp];rfl
 split at h
 ·rename_i j;simp only [qb,qj] at h;obtain ⟨rfl,rfl,rfl⟩:=h;refine ⟨LG.refl,fun _ _ l=>?_⟩;by_cases hi:i∈es;exact .inr ⟨hi, .inr ⟨a _ j,rfl,rfl,rfl⟩, .inr ⟨fun _ _ _ h=>h,fun id h=>l id (mem_idsN.1 h),fun _ h=>h⟩⟩
  ·exact .inl ⟨hi,rfl, .inr ⟨a _ j,rfl⟩,by simp [okA]⟩
 ·rename_i j;cases hc:es.contains i with
  | true=>
   have hi:i∈es:=(by simpa using hc);rw [hc] at h;simp only [qe] at h;split at h;rename_i c' v1 u;simp only [qb,qj] at h;obtain ⟨rfl,rfl,rfl⟩:=h;obtain ⟨k1,_,_,k5⟩:=kto m p u;have q:LG hs v1:=(by rw [hv] at k5;exact k5);refine ⟨q,fun _ s l => .inr ⟨hi, .inl ⟨a _ j,by rw [<- g (t i hi)];exact k1 D⟩, .inr ?_⟩⟩;obtain ⟨m0,new,m1,m2⟩:=q;refine ⟨fun id w ob ho=>m2 id (fun h=>w (s new m1 id h)) ob ho,fun id h=>l id (mem_idsN.1 h),fun id h=>mem_idsN.2 (by have:=mem_idsN.1 h;omega)⟩
   ·cases h
  | false=>
   have hi:i∉es:=(by simpa using hc);rw [hc] at h;simp only [qg] at h;split at h
   ·rename_i x as_ y;obtain ⟨args,ts,ho,rfl⟩:=kom y;split at h
    ·rename_i f fst caps d;split at h
     ·rename_i r hr;simp only [qb,qj] at h;obtain ⟨rfl,rfl,rfl⟩:=h;rw [E_eq (D:=D),G] at d hr;refine ⟨LG.refl,fun _ _ _ => .inl ⟨hi,rfl, .inl ⟨a _ j,kqe m p (fun id ob hi=>?_) ho d hr⟩,by simp [okA]⟩⟩;cases hp:phB L es i with
      | true=>rw [hp,qe,H_eq (D:=D),g hp] at hi;exact hi
      | false=>rw [hp] at hi;cases hi
     ·cases h
    ·cases h
   ·cases hp:phB L es i with
    | true=>
     rw [hp] at h;simp only [qe] at h;split at h;rename_i c' hn;simp only [qb,qj] at h;obtain ⟨rfl,rfl,rfl⟩:=h;rw [E_eq (D:=D),H_eq (D:=D),g hp] at hn;exact ⟨LG.refl,fun _ _ _ => .inl ⟨hi,rfl, .inl ⟨a _ j,kn9 m.T m.Z hn⟩,rfl⟩⟩
     ·cases h
    | false=>
     rw [hp] at h;simp only [qg] at h;split at h
     ·rename_i c' hn;replace h:=kam h;obtain ⟨z,h⟩:=h;simp only [qb,qj] at h;obtain ⟨rfl,rfl,rfl⟩:=h;refine ⟨LG.refl,fun A _ _ => .inl ⟨hi,rfl, .inl ⟨a _ j,?_⟩,by rw [Bool.false_or];exact k1h z⟩⟩;rw [show getO (kgs (kkb v.E o) s0.heap)=kab (kgs (kkb v.E o) s0.heap) from funext fun i=>kqc,E_eq (D:=D)] at hn;have B:NStep P o ⟨s0.n,hadd fs (kcz o) (kdu L i n++s0.tmps),kgs (kkb v.E o) s0.heap,ai,D⟩ c':=(by refine kn9 m.T m.Z ?_;have H:(v.st D).eval=St.eval ⟨s0.n,hadd fs (kcz o) (kdu L i n++s0.tmps),kgs (kkb v.E o) s0.heap,ai,D⟩:=(by rw [G];funext x;cases x <;> rfl);rw [<- H,E_eq (D:=D)];exact hn);refine B.moreH rfl ?_ fun id ob ho=>?_;show (bif phB L es i then idsN hs.k else ai)=ai;rw [hp];rfl
      ·obtain ⟨q1,q2⟩:=kit ho;show kab (bif phB L es i then hs.heap else ke5 ch s0.heap) id=some ob;rw [hp];exact kij (A id q1) q2
     ·cases h
 ·cases h
theorem kqj {D:List Deferred} (h:dstE s.n o=true):∀ t,o.dst=some t->t<(s.st D).n:=fun t ht=>by unfold dstE at h;rw [ht] at h;show t<s.n;simpa [qbd] using h
theorem kmp (b:CxOk P C) (a:EvOk P ih) {mu:Bool} {ops:Array Oper}:∀ {l:List Oper} {s s1:XS},opsE C ih mu ops l s=some s1->(∀ D,XWL P ops l (s.st D) (s1.st D))/\LG s s1/\s1.n=s.n
 | [],s,s1,h=>by have h:some s=some s1:=h;injection h with h;subst h;exact ⟨fun D=>k07,LG.refl,rfl⟩
 | o::l,s,s1,h=>by
  have h:(bif dstE s.n o then (match kjw ops s.E o with
   | some true=>match opE C ih mu o s with
    | some (c,s1)=>opsE C ih mu ops l (s1.put o.dst c)
    | none=>none
   | some false=>opsE C ih mu ops l (s.put o.dst (.fz (.tup [])))
   | none=>none) else none)=some s1:=h
  replace h:=kam h;obtain ⟨g,h⟩:=h;have i:∀ D,kjw ops s.E o=ka8 ops (s.st D) o:=fun D=>by rw [E_eq (D:=D)];rfl
  split at h
  ·rename_i d;split at h;rename_i c s2 e;obtain ⟨k1,k2,k3,k5⟩:=kto b a e;obtain ⟨j1,j2,j3⟩:=kmp b a h;obtain ⟨p1,p2,p3,p5⟩:=kir (s:=s2) (dd:=o.dst) (v:=c);exact ⟨fun D=>kzd (k1 D) ((i D).symm.trans d) (kqj g) (by show (s2.put o.dst c).n=s.n;omega) (fun t=>kmx t k3) p2 (by show idsN (s2.put o.dst c).k=_;rw [p3]) rfl (j1 D),k5.trans j2.put,by omega⟩
   ·cases h
  rename_i f;obtain ⟨j1,j2,j3⟩:=kmp b a h;obtain ⟨p1,p2,p3,p5⟩:=kir (s:=s) (dd:=o.dst) (v:=AV.fz (.tup []));exact ⟨fun D=>k0a ((i D).symm.trans f) (kqj g) p1 (fun t=>kmx (h:=s.heap) (ids:=idsN s.k) t rfl) p2 (by show idsN (s.put o.dst _).k=_;rw [p3];rfl) rfl (j1 D),j2.put,by omega⟩
  ·cases h
theorem kpd (D:List Deferred) (u:CxOk P C) (b:EvOk P ih) {mu:Bool} {os:Array Oper} {L:List Oper} {n:Nat} {es:List Nat} {s0:XS} (d:∀ e,e∈es->phB L es e=true):∀ (l:List Oper) (i:Nat) (fs:List (Nat×Option Nat×AV)) (hs:XS) (rf sl:List (Nat×List Nat)) {fsF:List (Nat×Option Nat×AV)} {a:XS} {rfF slF:List (Nat×List Nat)},
  dzE C ih mu os L n es s0 l i fs hs rf sl=some (fsF,a,rfF,slF)->L.drop i=l->i+l.length=n->∀ (c0:Nat->AV) (H0:Nat->XS),fs=fsOf L c0 i->H0 i=hs ->
  LG hs a/\(∀ r,r∈rf->r∈rfF)/\(∀ r,r∈sl->r∈slF)/\∃ (c:Nat->AV) (H:Nat->XS),(∀ j,j<i->c j=c0 j)/\(∀ j,j<=i->H j=H0 j)/\fsF=fsOf L c n/\H n=a /\
   ∀ (chi chs:Nat->List Nat) ai,(∀ p,p∈rfF->∀ r,r∈p.2->r∉chi p.1)->(∀ p,p∈slF->∀ r,r∈p.2->r∈chs p.1)->(∀ id,id<a.k->id∈ai)->∀ j o,i<=j->j<n->L[j]?=some o ->
    (j∉es/\H (j+1)=H j/\kil P os (kbb L n es (chi j) ai (s0.st D) j o (fsOf L c j) (H j).heap (idsN (H j).k)) o (c j)/\(phB L es j || okA (s0.st D).ids (c j))=true) \/
    (j∈es/\kl0 P os L n es (chs j) ai (s0.st D) (kbb L n es (chi j) ai (s0.st D) j o (fsOf L c j) (H j).heap (idsN (H j).k)) o (c j) (H j).heap (idsN (H j).k) (H (j+1)).heap (idsN (H (j+1)).k))
 | [],i,fs,hs,rf,sl,fsF,a,rfF,slF,h,hl,hn,c0,H0,hf,v=>by
  have h:some (fs,hs,rf,sl)=some (fsF,a,rfF,slF):=h;simp only [qb,qj] at h;obtain ⟨rfl,rfl,rfl,rfl⟩:=h;have w:i=n:=by simpa using hn
  subst w;exact ⟨LG.refl,fun _ h=>h,fun _ h=>h,c0,H0,fun _ _=>rfl,fun _ _=>rfl,hf,v,fun chi chs ai _ _ _ j o h1 F=>by omega⟩
 | o::l,i,fs,hs,rf,sl,fsF,a,rfF,slF,h,hl,hn,c0,H0,hf,v=>by
  simp only [dzE] at h;split at h
  ·rename_i c' hs1 r1 G;have m:L[i]?=some o:=(by have:=congrArg (·[0]?) hl;simpa using this);have x:L.drop (i+1)=l:=(by rw [<- List.drop_drop,hl];rfl);have y:dstT L i=o.dst:=(by unfold dstT;rw [m];rfl);have f:(i,o.dst,c')::fs=fsOf L (fun j=>if j=i then c' else c0 j) (i+1):=(by rw [hf];simp only [fsOf,y,if_true];rw [kcq (k:=i) (c':=fun j=>if j=i then c' else c0 j) fun j I=>by rw [qh (by omega)]]);obtain ⟨k1,k2,k2',c,H,k3,k4,k5,k6,k7⟩:=kpd D u b d l (i+1) _ hs1 _ _ h x (by simp at hn;omega) (fun j=>if j=i then c' else c0 j) (fun j=>if j=i+1 then hs1 else H0 j) f (by simp);have e1:∀ j,j<i->c j=c0 j:=fun j I=>(by rw [k3 j (by omega),qh (by omega)]);have e2:c i=c':=(by rw [k3 i (by omega),qq rfl]);have e3:H i=hs:=(by rw [k4 i (by omega),qh (by omega)];exact v);have e4:H (i+1)=hs1:=(by rw [k4 (i+1) (qt _),qq rfl]);have z:fsOf L c i=fs:=(by rw [hf];exact kcq e1);have A:=(kt5 D (ch:=[]) (cs:=[]) (ai:=[]) u b d G).1;refine ⟨A.trans k1,fun r hr=>k2 r (qs _ hr),fun r hr=>k2' r (qs _ hr),c,H,e1,fun j I=>by rw [k4 j (by omega),qh (by omega)],k5,k6,fun chi chs ai q s t j o' h1 F g=>?_⟩;obtain ⟨m2,_⟩:=k1;by_cases B:j=i;subst B;rw [m] at g;obtain rfl:=qag g;have:=(kt5 D (ch:=chi j) (cs:=chs j) (ai:=ai) u b d G).2 (q (j,r1) (k2 _ (qv ..))) (fun new E r hr=>s (j,hs1.lg.take (hs1.lg.length - hs.lg.length)) (k2' _ (qv ..)) r (by have:hs1.lg.take (hs1.lg.length - hs.lg.length)=new:=(by rw [E,List.length_append,Nat.add_sub_cancel];exact List.take_left' rfl);rw [this];exact hr)) (fun id J=>t id (by omega));rw [z,e2,e3,e4];exact this
   ·exact k7 chi chs ai q s t j o' (by omega) F g
  ·cases h
theorem ki6 {t:Nat} {base:List (Nat×AV)}:∀ {fs:List (Nat×Option Nat×AV)},look .any (khb fs base) t=look .any (hadd fs (fun _=>true) base) t
 | []=>rfl
 | (j,some d,c)::l=>by simp only [khb,hadd,qe];rw [kgt,ka5,ki6]
 | (j,none,c)::l=>by simp only [khb,hadd];exact ki6
theorem kkt (B:CxOk P C) (y:EvOk P ih) {mu:Bool} {rid:Nat} {ops:Array Oper} {es:List Nat} (h:drzA C ih mu ops s es=some s1):(∀ D,XW P (.region rid ops true) (s.st D) .normal (s1.st D))/\LG s s1/\s1.n=s.n:=by
 obtain ⟨L,rfl⟩:∃ L:List Oper,ops=L.toArray:=⟨ops.toList,by simp⟩;unfold drzA at h;simp only [List.toList_toArray] at h;replace h:=kam h;obtain ⟨A,h⟩:=h;simp only [qn] at A;split at h
 ·rename_i fs hs rf sl O;replace h:=kam h;obtain ⟨E,h⟩:=h;injection h with h;have f:∀ e,e∈es->phB L es e=true:=fun e Q=>by have:=ql.1 A.2 e Q;rw [qn] at this;exact this.2
  have k1:LG s hs:=(kpd [] B y f L 0 [] s [] [] O rfl (by simp) (fun _ => .any) (fun _=>s) rfl rfl).1;subst h;refine ⟨fun D=>?_,k1,rfl⟩;obtain ⟨k1,k2,k2',c,H,k3,k4,k5,k6,k7⟩:=kpd D B y f L 0 [] s [] [] O rfl (by simp) (fun _ => .any) (fun _=>s) rfl rfl;obtain ⟨chs,l⟩:∃ chs:Nat->List Nat,chs=fun j=>sl.flatMap fun q=>bif Nat.beq q.1 j then q.2 else []:=⟨_,rfl⟩;obtain ⟨chi,m⟩:∃ chi:Nat->List Nat,chi=fun i=>sl.flatMap fun q=>bif anc L q.1 i then [] else q.2:=⟨_,rfl⟩;have u:=k7 chi chs (idsN hs.k) (fun p hp r hr hc=>by
   rw [m] at hc;obtain ⟨q,G,b⟩:=qa2.1 hc;have:=ql.1 (ql.1 E p hp) q G;cases ha:anc L q.1 p.1 with
   | true=>rw [ha] at b;cases b
   | false=>
    rw [ha] at b this;simp only [qg] at b;rw [Bool.false_or] at this;have:=ql.1 this r hr;simp at this;exact this b) (fun p hp r hr=>by
   rw [l];exact qa2.2 ⟨p,hp,by simp only [Nat.beq_refl,qe];exact hr⟩) (fun id g=>mem_idsN.2 g)
  have I:H 0=s:=k4 0 (qt _);have R:=k1.1;intro F S0 N0 ψ S a w z;refine kux (H:=fun i=>((H i).heap,idsN (H i).k)) (c:=c) (chi:=chi) (chs:=chs) (ai:=idsN hs.k) B.mixed A.1 A.2 ?_ (by rw [I];rfl) ?_ ?_ z _ ?_
  ·exact ql.2 fun x T=>by have:=mem_idsN.1 (show x∈idsN s.k from T);simpa using mem_idsN.2 (show x<hs.k by omega)
  ·intro j i U hi ha id g;rw [l] at g;obtain ⟨q,G,b⟩:=qa2.1 g;rw [m];refine qa2.2 ⟨q,G,?_⟩;cases v:Nat.beq q.1 j with
   | false=>rw [v] at b;cases b
   | true=>
    rw [v] at b;rw [qf v,ha];exact b
  ·intro i o J K;rcases u i o (qar _) J K with ⟨q1,q2,q3,q4⟩ | ⟨q1,q2⟩;exact .inl ⟨q1,by simp only [q2],q3,q4⟩
   ·exact .inr ⟨q1,q2⟩
  ·intro ψ' S' a' w' M N d;rw [List.drop_length];refine ⟨rfl,ψ',S',M.congr rfl (fun t=>?_) (fun id=>?_) ?_ rfl,N,?_⟩;show look .any (khb fs s.tmps) t=look .any (hadd (fsOf L c L.length) (fun _=>true) s.tmps) t;rw [ki6,k5];show kab hs.heap id=kab (H L.length).heap id;rw [k6];show idsN hs.k=idsN (H L.length).k;rw [k6]
   ·have d:HistI (idsN s.k) (idsN (H L.length).k) ψ ψ' S S' w w':=d;rw [k6] at d;exact d
 ·cases h
theorem k1t (b:CxOk P C) (a:EvOk P ih) {mu:Bool} {rid:Nat} {ops:Array Oper} (h:drzE C ih mu ops s=some s1):(∀ D,XW P (.region rid ops true) (s.st D) .normal (s1.st D))/\LG s s1/\s1.n=s.n:=by
 unfold drzE at h;split at h;rename_i r hr;injection h with h;subst h;exact kkt b a hr
 ·split at h;rename_i r hr;injection h with h;subst h;exact kkt b a hr
  ·split at h;rename_i r hr;injection h with h;subst h;exact kkt b a hr
   ·exact kkt b a h
theorem XC.of {x:Code} (h:XW P x st e st1) (hl:∀ y,x ≠ .loop y):XC P x st e st1:=by
 unfold XC;split;exact absurd rfl (hl _)
 ·exact h
theorem k2h (f:CxOk P C) (a:EvOk P ih):EvOk P (evB C ih):=by
 intro mu x s e s1 h;unfold evB at h;split at h;simp only [qb,qj] at h;obtain ⟨rfl,rfl⟩:=h;exact ⟨fun D=>XC.of kyq (fun _ h=>by cases h),rfl,LG.refl,rfl⟩
 ·split at h;rename_i s2 hs;simp only [qb,qj] at h;obtain ⟨rfl,rfl⟩:=h;obtain ⟨k1,k2,k3⟩:=kmp f a hs;exact ⟨fun D=>XC.of (kuk (k1 D)) (fun _ h=>by cases h),rfl,k2,k3⟩
  ·cases h
 ·split at h;rename_i s2 hs;simp only [qb,qj] at h;obtain ⟨rfl,rfl⟩:=h;obtain ⟨k1,k2,k3⟩:=k1t f a hs;exact ⟨fun D=>XC.of (k1 D) (fun _ h=>by cases h),rfl,k2,k3⟩
  ·cases h
 ·rename_i x y;cases c:ih mu x s with
  | none=>rw [c] at h;cases h
  | some p=>
   obtain ⟨e1,s2⟩:=p;rw [c] at h;obtain ⟨k1,k2,k3,k4⟩:=a _ _ _ _ _ c;cases e1 with
   | normal=>
    obtain ⟨j1,j2,j3,j4⟩:=a _ _ _ _ _ h;exact ⟨fun D=>XC.of (k1l (k1 D).xw (j1 D).xw) (fun _ h=>by cases h),j2,k3.trans j3,j4.trans k4⟩
   | _=>
    simp only [qb,qj] at h;obtain ⟨rfl,rfl⟩:=h;exact ⟨fun D=>XC.of (kyl (k1 D).xw (fun h=>by cases h)) (fun _ h=>by cases h),k2,k3,k4⟩
 ·rename_i cc x y;split at h;rename_i b d;obtain ⟨k1,k2⟩:=a _ _ _ _ _ h;exact ⟨fun D=>XC.of (k0o (by rw [E_eq (D:=D)] at d;exact d) (k1 D).xw) (fun _ h=>by cases h),k2⟩
  ·cases h
 ·rename_i i x;cases c:ih mu x s with
  | none=>rw [c] at h;cases h
  | some p=>
   obtain ⟨e1,s2⟩:=p;rw [c] at h;obtain ⟨k1,k2,k3⟩:=a _ _ _ _ _ c;cases e1 with
   | exit j=>
    simp only at h;cases d:Nat.beq j i with
    | true=>
     rw [d] at h;simp only [qe,qb,qj] at h;obtain ⟨rfl,rfl⟩:=h;obtain rfl:=qf d;exact ⟨fun D=>XC.of (kv5 (k1 D).xw) (fun _ h=>by cases h),rfl,k3⟩
    | false=>
     rw [d] at h;simp only [qg,qb,qj] at h;obtain ⟨rfl,rfl⟩:=h;exact ⟨fun D=>XC.of (kns (k1 D).xw (fun h=>by injection h with h;subst h;simp at d)) (fun _ h=>by cases h),rfl,k3⟩
   | _=>
    simp only [qb,qj] at h;obtain ⟨rfl,rfl⟩:=h;exact ⟨fun D=>XC.of (kns (k1 D).xw (fun h=>by cases h)) (fun _ h=>by cases h),k2,k3⟩
 ·rename_i x;cases c:ih mu x s with
  | none=>rw [c] at h;cases h
  | some p=>
   obtain ⟨e1,s2⟩:=p;rw [c] at h;obtain ⟨k1,k2,k3,k4⟩:=a _ _ _ _ _ c;cases e1 with
   | normal=>
    obtain ⟨j1,j2,j3,j4⟩:=a _ _ _ _ _ h;exact ⟨fun D=>xr_go (k1 D).xw (j1 D),j2,k3.trans j3,j4.trans k4⟩
   | _=>
    simp only [qb,qj] at h;obtain ⟨rfl,rfl⟩:=h;exact ⟨fun D=>k18 (k1 D).xw (fun h=>by cases h),k2,k3,k4⟩
 simp only [qb,qj] at h;obtain ⟨rfl,rfl⟩:=h;exact ⟨fun D=>XC.of kzo (fun _ h=>by cases h),rfl,LG.refl,rfl⟩;simp only [qb,qj] at h;obtain ⟨rfl,rfl⟩:=h;exact ⟨fun D=>XC.of k04 (fun _ h=>by cases h),rfl,LG.refl,rfl⟩;obtain ⟨k1,k2,k3⟩:=a _ _ _ _ _ h;exact ⟨fun D=>XC.of (kw8 (k1 D).xw k2) (fun _ h=>by cases h),k2,k3⟩
 ·cases h
theorem kxe (a:CxOk P C):∀ n,EvOk P (ev C n)
 | 0=>fun mu c s e s1 h=>by cases h
 | n+1=>k2h a (kxe a n)
theorem kqp (a:CxOk P C) {n f:Nat} {xs:List FV} {r:FV} (h:runE C n f xs=some r):PCall P f xs r:=by
 unfold runE at h;split at h;rename_i y s1 b;rw [H_eq (D:=[])] at h;exact kqm (kix a (kxe a n) b).1 h
 ·cases h
mutual
def leFV:FV->FV->Bool
 | .atom (.slice none 0 0), .lst s n xs=>Nat.ble 1 s && (Nat.beq n 0 && xs.isEmpty)
 | .atom v, .atom u=>kod v u
 | .agg a, .agg b=>kfd a b
 | .tup a, .tup b=>kfd a b
 | .lst s n a, .lst s' n' b=>Nat.beq s s' && (Nat.beq n n' && kfd a b)
 | _,_=>false
def kfd:List FV->List FV->Bool
 | [],[]=>true
 | a::l,b::m=>leFV a b && kfd l m
 | _,_=>false
end
theorem kes:∀ {a b:List FV},kfd a b=true->a.length=b.length/\∀ (i:Nat) (x y:FV),a[i]?=some x->b[i]?=some y->leFV x y=true
 | [],[],_=>⟨rfl,fun i x y h=>by simp at h⟩
 | [],_::_,h=>by simp only [kfd] at h;cases h
 | _::_,[],h=>by simp only [kfd] at h;cases h
 | a::l,b::m,h=>by
  simp only [kfd,qn] at h;obtain ⟨h1,d⟩:=kes h.2;refine ⟨by simp [h1],fun i x y c hy=>?_⟩;cases i with
  | zero=>simp at c hy;subst c hy;exact h.1
  | succ i=>exact d i x y (by simpa using c) (by simpa using hy)
theorem kk1 {x y:FV} (h:leFV x y=true) (a:x.single=true):y.single=true:=by
 unfold leFV at h;split at h;rfl;rw [<- klh h];exact a;cases a;cases a;rfl
 ·cases h
theorem kmb {x y:FV} (h:leFV x y=true):kfd x.cells y.cells=true:=by
 have one:kfd [x] [y]=true:=by simp only [kfd,h,Bool.and_true]
 revert one
 unfold leFV at h;intro one;split at h;exact one;exact one;exact h;exact one;exact one
 ·cases h
theorem kzx {v:Value} {x:FV} (h:RF S w v x):∀ {y:FV},leFV x y=true->RF S w v y:=by
 induction h with
 | @atom v h=>
  intro y hy;unfold leFV at hy;split at hy
  ·rename_i s n xs c;cases c;simp only [qn] at hy;have hn:=qf hy.2.1;have a:xs=[]:=(by simpa using hy.2.2);subst hn a;exact .lst (fun _=>[]) rfl (qt _) (by omega) (qk hy.1) (fun i x h=>by simp at h) (fun i x h=>by simp at h) fun i x j v y h=>by simp at h
  rename_i u _ c;cases c;rw [<- klh hy];exact .atom h;rename_i c;cases c;rename_i c;cases c;rename_i c;cases c
  ·cases hy
 | @agg cs xs hl h1 hr ih=>
  intro y hy;cases y <;> simp only [leFV] at hy <;> try cases hy
  rename_i ys;obtain ⟨k1,k2⟩:=kes hy;refine .agg (by omega) (fun z b=>?_) fun i u z f b=>?_;obtain ⟨i,hi,rfl⟩:=qak.1 b;have a:xs[i]?=some (xs[i]'(by omega)):=qa _;exact kk1 (k2 i _ _ a (qa hi)) (h1 _ (qo _))
  ·have hi:=(qd.1 b).1;have a:xs[i]?=some (xs[i]'(by omega)):=qa _;exact ih i u _ f a (k2 i _ _ a b)
 | @tup cs xs hl hr ih=>
  intro y hy;cases y <;> simp only [leFV] at hy <;> try cases hy
  rename_i ys;obtain ⟨k1,k2⟩:=kes hy;refine .tup (by omega) fun i u z f b=>?_;have hi:=(qd.1 b).1;have a:xs[i]?=some (xs[i]'(by omega)):=qa _;exact ih i u _ f a (k2 i _ _ a b)
 | @lst A cap size n xs css hn hc hm hs ha hl hr ih=>
  intro y hy;cases y <;> simp only [leFV] at hy <;> try cases hy
  rename_i s' n' ys;simp only [qn] at hy;obtain ⟨e1,e2,e3⟩:=hy;have e1:=qf e1;have e2:=qf e2;subst e1 e2;obtain ⟨k1,k2⟩:=kes e3;have get:∀ (i:Nat) (y:FV),ys[i]?=some y->∃ x,xs[i]?=some x/\leFV x y=true:=fun i y hy=>by have hi:=(qd.1 hy).1;have a:xs[i]?=some (xs[i]'(by omega)):=qa _;exact ⟨_,a,k2 i _ _ a hy⟩
  refine .lst css (by omega) hc hm hs (fun i y hy=>?_) (fun i y hy=>?_) fun i y j u z hy f b=>?_;obtain ⟨x,a,_⟩:=get i y hy;exact ha i x a;obtain ⟨x,a,e⟩:=get i y hy;obtain ⟨q1,q2,q3⟩:=hl i x a;obtain ⟨r1,r2⟩:=kes (kmb e);refine ⟨q1,by omega,fun z b=>?_⟩;obtain ⟨j,g,rfl⟩:=qak.1 b;have d:x.cells[j]?=some (x.cells[j]'(by omega)):=qa _;exact kk1 (r2 j _ _ d (qa g)) (q3 _ (qo _))
  ·obtain ⟨x,a,e⟩:=get i y hy;obtain ⟨r1,r2⟩:=kes (kmb e);have g:=(qd.1 b).1;have d:x.cells[j]?=some (x.cells[j]'(by omega)):=qa _;exact ih i x j u _ a f d (r2 j _ _ d b)
 | fp=>intro y hy;cases y <;> simp only [leFV] at hy <;> cases hy
 | bx=>intro y hy;cases y <;> simp only [leFV] at hy <;> cases hy
 | bn=>intro y hy;cases y <;> simp only [leFV] at hy <;> cases hy
theorem PCall.le {f:FuncId} {xs ys:List FV} {r:FV} (h:PCall P f xs r) (a:kfd ys xs=true):PCall P f ys r:=by obtain ⟨k1,k2⟩:=kes a;refine ⟨h.1,fun S w vs hs hv=>h.2 S w vs (by omega) fun i v x b c=>?_⟩;have hi:=(qd.1 c).1;have hy:ys[i]?=some (ys[i]'(by omega)):=qa _;exact kzx (hv i v _ b hy) (k2 i _ _ hy c)
end
end Go.Proofs.YtpnnpkmjohkgiaaGreatDoor
