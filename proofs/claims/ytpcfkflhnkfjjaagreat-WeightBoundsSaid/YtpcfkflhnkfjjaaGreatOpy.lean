import Derived.Test.YtpcfkflhnkfjjaaGreatEnc
set_option linter.all false
namespace Go.Proofs.YtpcfkflhnkfjjaaGreat
open Go Go.RowKit
def iand (k:IntKind) (a b:Int):Int:=k.wrap (BitVec.ofInt k.bits a &&& BitVec.ofInt k.bits b).toNat
def ior (k:IntKind) (a b:Int):Int:=k.wrap (BitVec.ofInt k.bits a ||| BitVec.ofInt k.bits b).toNat
def imin (a b:Int):Int:=if b<a then b else a
def imax (a b:Int):Int:=if a<b then b else a
def quo (k:IntKind) (a b:Int):Option Int:=if b=0 then none else some (k.wrap (a.tdiv b))
def rem (k:IntKind) (a b:Int):Option Int:=if b=0 then none else some (a.tmod b)
def cutS (s:BA) (lo hi:Int):Option BA:=if 0<=lo/\lo<=hi/\hi<=(s.size:Int) then some (s.extract lo.toNat hi.toNat) else none
def cutL {α:Type} (xs:List α) (lo hi:Int):Option (List α):=if 0<=lo/\lo<=hi/\hi<=(xs.length:Int) then some ((xs.take hi.toNat).drop lo.toNat) else none
section
variable {P:Program} {F S0:Nat->Prop} {N0:Nat} {w w':World} {S S':Nat->Prop} {ψ:Env} {K:Nat->Prop} {T:List (TypeId×TD)} {o:Oper} {a:Act} {st:St} {t:TypeId} {d:TD}
theorem s_min {x y:Operand} {ts:Array TypeId} {k k':IntKind} {m n:Int} (ho:o.op = .call { callee := .builtin .min,args:=#[x,y],argTypes:=ts }) (c:st.eval x = .fz (.atom (.int k m))) (d:st.eval y = .fz (.atom (.int k' n))):NStep P o st (.fz (.atom (.int k (imin m n)))):=by intro ψ S a w ht _;have h1:=Sim.eval_tmps ht x;rw [c] at h1;have b:=Sim.eval_tmps ht y;rw [d] at b;refine kai (w':=w) (v := .int k (imin m n)) ?_ ⟨kaj _, .fz (.atom rfl)⟩;simp [execOp,ho,resolve,invoke,builtin,h1.atom,b.atom,Builtin.min_,Builtin.min2,imin]
theorem s_max {x y:Operand} {ts:Array TypeId} {k k':IntKind} {m n:Int} (ho:o.op = .call { callee := .builtin .max,args:=#[x,y],argTypes:=ts }) (c:st.eval x = .fz (.atom (.int k m))) (d:st.eval y = .fz (.atom (.int k' n))):NStep P o st (.fz (.atom (.int k (imax m n)))):=by intro ψ S a w ht _;have h1:=Sim.eval_tmps ht x;rw [c] at h1;have b:=Sim.eval_tmps ht y;rw [d] at b;refine kai (w':=w) (v := .int k (imax m n)) ?_ ⟨kaj _, .fz (.atom rfl)⟩;simp [execOp,ho,resolve,invoke,builtin,h1.atom,b.atom,Builtin.max_,Builtin.max2,imax]
theorem k73 {x y:Operand} {yt:TypeId} {k:IntKind} {m n r:Int} (h:quo k m n=some r) (ho:o.op = .binOp .quo t x y yt:=by kernel_rfl) (a:st.eval x = .fz (.atom (.int k m)):=by kernel_rfl) (b:st.eval y = .fz (.atom (.int k n)):=by kernel_rfl):NStep P o st (.fz (.atom (.int k r))):=by
 unfold quo at h;split at h;cases h
 ·rename_i c;injection h with h;subst h;exact k79 false (fun h=>nomatch h) ho a b (by simp [binV,intV,c])
def kmm (st:St):Option Operand->Option (Option Int)
 | none=>some none
 | some x=>match st.eval x with
  | .fz (.atom (.int _ n))=>some (some n)
  | _=>none
theorem kks {ids:List Nat} (ht:∀ t,RV ψ (·∈ids) S w (a.tmps.getD t undef) (st.get t)) {x:Option Operand} {r:Option Int} (h:kmm st x=some r):(x=none/\r=none)\/∃ y k n,x=some y/\r=some n/\a.eval y = .int k n:=by
 unfold kmm at h;split at h;injection h with h;exact .inl ⟨rfl,h.symm⟩
 ·rename_i y;split at h;rename_i k n hk;injection h with h;have h1:=Sim.eval_tmps ht y;rw [hk] at h1;exact .inr ⟨y,k,n,rfl,h.symm,h1.atom⟩
  ·cases h
theorem k3o {x:Operand} {lo hi:Option Operand} {l h:Option Int} {s r:BA} (hc:cutS s (l.getD 0) (h.getD s.size)=some r) (f:TOk P T) (ho:o.op = .slice t x lo hi none:=by kernel_rfl) (g:kak T t=some d:=by kernel_rfl) (hk:d.kind = .str:=by kernel_rfl) (i:st.eval x = .fz (.atom (.string s)):=by kernel_rfl) (hl:kmm st lo=some l:=by kernel_rfl) (j:kmm st hi=some h:=by kernel_rfl):
  NStep P o st (.fz (.atom (.string r))):=by
 intro ψ S a w ht q;have h1:=Sim.eval_tmps ht x;rw [i] at h1;have bl:=kks ht hl;have bh:=kks ht j;unfold cutS at hc;split at hc
 ·rename_i b;injection hc with hc;subst hc;refine kai (w':=w) (v := .string (s.extract (l.getD 0).toNat (h.getD s.size).toNat)) ?_ ⟨kaj _, .fz (.atom rfl)⟩;have m:=(f.get g).str hk;have e1:(Instr.sliceBounds false s.size s.size (lo.map a.eval) (hi.map a.eval) none).run P w = .ok ((l.getD 0).toNat,(h.getD s.size).toNat,s.size) w:=by
   unfold Instr.sliceBounds;rcases bh with ⟨rfl,rfl⟩ | ⟨y,k,n,rfl,rfl,e⟩
   ·rcases bl with ⟨rfl,rfl⟩ | ⟨y',k',n',rfl,rfl,c⟩;simp
    ·simp only [qw,Option.getD_none] at b ⊢;simp [Instr.sliceBound,c,asIntOf,b.1,b.2.1]
   ·rcases bl with ⟨rfl,rfl⟩ | ⟨y',k',n',rfl,rfl,c⟩;simp only [qw,Option.getD_none] at b ⊢;simp [Instr.sliceBound,e,asIntOf,b.2.1,b.2.2]
    ·simp only [qw] at b ⊢;have:0<=n:=(by omega);have p:n'<=(n.toNat:Int):=(by omega);simp [Instr.sliceBound,e,c,asIntOf,b.1,b.2.2,this,p];intro hc;exfalso;omega
  simp [execOp,ho,Instr.sliceAt,Instr.slice,run_underlying m,h1.atom,e1]
 ·cases hc
theorem RF.take {v:Value} {size n k:Nat} {A:Option Addr} {cap:Nat} {xs:List FV} (h:RF S w (.slice A n cap) (.lst size n xs)) (lo hi:Nat) (h1:lo<=hi) (g:hi<=n):∃ A',A'=(if cap=lo then A else A.map (·.add (lo*size)))/\RF S w (.slice A' (hi - lo) (cap - lo)) (.lst size (hi - lo) ((xs.take hi).drop lo)):=by
 obtain ⟨A0,cap0,css,hv,hn,hc,hm,hs,ha,hl,hr⟩:=h.lst_inv;injection hv with e1 _ e3;subst e1 e3;have c:(xs.take hi).length=hi:=by rw [qak];omega
 have get:∀ (i:Nat) (x:FV),((xs.take hi).drop lo)[i]?=some x->xs[lo+i]?=some x:=fun i x a=>by
  rw [qau,qag] at a;split at a;exact a
  ·cases a
 refine ⟨_,rfl, .lst (fun i=>css (lo+i)) (by rw [qa1,c]) (by omega) (by omega) hs (fun i x a=>?_) (fun i x a=>hl _ x (get i x a)) fun i x j v y a hv e=>hr _ x j v y (get i x a) hv e⟩;obtain ⟨b,o,hA,hS,d⟩:=ha _ x (get i x a);have f:=(qj.1 (get i x a)).1;refine ⟨b,o+lo*size,?_,hS,by rw [Nat.add_assoc,<- Nat.add_mul];exact d⟩;rw [qk (by omega),hA];simp only [qbf,kfj]
theorem kyk {α:Type} {enc:α->FV} {x:Operand} {lo hi:Option Operand} {l h:Option Int} {xs r:List α} {size:Nat} {e:TypeId} {de:TD} (hc:cutL xs (l.getD 0) (h.getD xs.length)=some r) (p:TOk P T) (ho:o.op = .slice t x lo hi none:=by kernel_rfl) (u:kak T t=some d:=by kernel_rfl) (hk:d.kind = .slice e:=by kernel_rfl) (f:kak T e=some de:=by kernel_rfl) (g:de.size=size:=by kernel_rfl) (z:st.eval x = .fz (eL size enc xs):=by kernel_rfl) (hl:kmm st lo=some l:=by kernel_rfl) (B:kmm st hi=some h:=by kernel_rfl):NStep P o st (.fz (eL size enc r)):=by
 intro ψ S a w ht H;have h1:=Sim.eval_tmps ht x;rw [z] at h1;have bl:=kks ht hl;have bh:=kks ht B;unfold cutL at hc;split at hc
 ·rename_i b;injection hc with hc;subst hc;have h1:=h1.inv;obtain ⟨A,cap,css,hv,hn,C,hm,hs,ha,D,hr⟩:=h1.lst_inv;rw [hv] at h1;obtain ⟨A',i,j⟩:=h1.take (v := .nilFunc) (k:=0) (l.getD 0).toNat (h.getD xs.length).toNat (by omega) (by omega);refine kai (w':=w) (v := .slice A' ((h.getD xs.length).toNat - (l.getD 0).toNat) (cap - (l.getD 0).toNat)) ?_ ⟨kaj _,(RV.fz ?_).here⟩
  ·have E:=(p.get u).slice hk;have e1:(Instr.sliceBounds true xs.length cap (lo.map a.eval) (hi.map a.eval) none).run P w = .ok ((l.getD 0).toNat,(h.getD xs.length).toNat,cap) w:=by
    unfold Instr.sliceBounds;have q:(xs.length:Int)<=(cap:Int):=(by omega);rcases bh with ⟨rfl,rfl⟩ | ⟨y,k,n,rfl,rfl,s⟩
    ·rcases bl with ⟨rfl,rfl⟩ | ⟨y',k',n',rfl,rfl,c⟩;simp
     ·simp only [qw,Option.getD_none] at b ⊢;simp [Instr.sliceBound,c,asIntOf,b.1,b.2.1]
    ·rcases bl with ⟨rfl,rfl⟩ | ⟨y',k',n',rfl,rfl,c⟩;simp only [qw,Option.getD_none] at b ⊢;have:n<=(cap:Int):=(by omega);simp [Instr.sliceBound,s,asIntOf,b.2.1,this]
     ·simp only [qw] at b ⊢;have:0<=n:=(by omega);have F:n'<=(n.toNat:Int):=(by omega);have G:n<=(cap:Int):=(by omega);simp [Instr.sliceBound,s,c,asIntOf,b.1,this,F,G];intro hc;exfalso;omega
   have m:(sizeOf e).run P w = .ok size w:=(by rw [(p.get f).size,g]);simp [execOp,ho,Instr.sliceAt,Instr.slice,run_underlying E,hv,e1,m,i]
  ·have:((xs.take (h.getD xs.length).toNat).drop (l.getD 0).toNat).length=(h.getD xs.length).toNat - (l.getD 0).toNat:=(by rw [qa1,qak];omega);unfold eL;rw [this,List.map_drop,List.map_take];exact j
 ·cases hc
def zipS:List (Nat×AV)->List AV->List (Nat×AV)
 | (t,_)::l,v::vs=>(t,v)::zipS l vs
 | _,_=>[]
theorem kzj {v:Nat->Value} {K:Nat->Prop}:∀ {l:List (Nat×AV)} {vs:List AV} (t:Nat),(∀ (i:Nat) (k:Nat×AV) (x:AV),l[i]?=some k->vs[i]?=some x->RV ψ K S w (v k.1) x)->RV ψ K S w (v t) (look .any (zipS l vs) t)
 | [],vs,t,h=>by cases vs <;> exact .any
 | (k,y)::l,[],t,h => .any
 | (k,y)::l,x::vs,t,h=>by
  simp only [zipS,kcd];split;rename_i hk;subst hk;exact h 0 _ x rfl rfl
  ·exact kzj t fun i k x hk a=>h (i+1) k x (by simpa using hk) (by simpa using a)
def argT:Nat->List AV->List (Nat×AV)
 | _,[]=>[]
 | i,x::l=>(i,x)::argT (i+1) l
theorem ktv:∀ (l:List AV) (i t:Nat),look .any (argT i l) t = .any\/∃ x,i<=t/\l[t - i]?=some x/\look .any (argT i l) t=x
 | [],i,t => .inl rfl
 | x::l,i,t=>by
  simp only [argT,kcd];by_cases h:i=t;subst h;exact .inr ⟨x,qx _,by simp,by simp⟩
  ·rw [qk h];rcases ktv l (i+1) t with h1 | ⟨y,h1,a,b⟩;exact .inl h1
   ·exact .inr ⟨y,by omega,by rw [show t - i=(t - (i+1))+1 by omega];simpa using a,b⟩
def inlQ (P:Program) (ops:Array Oper) (l:List Oper) (dst:Option Nat) (n:Nat) (D:List Deferred) (g:Nat) (cs:List Value) (keep:List (Nat×AV)) (rs:List ResultVar) (Q:Exit->St->Prop):Exit->St->Prop:=fun e st'=>
 (e = .normal\/e = .ret)/\st'.dfr=[]/\∃ vs r,kae st'.heap g=some (.gho cs vs)/\((rs=[]/\r = .any)\/∃ z,rs=[.tmp z]/\st'.get z=r) /\
  awpL P ops l (({ n:=n,tmps:=zipS keep vs,heap:=kci g st'.heap,ids:=st'.ids,dfr:=D }:St).put dst r) Q
theorem k6o {f:FuncId} {fn:Func} {c:Code} {ops:Array Oper} {l:List Oper} {Q:Exit->St->Prop} {x:Operand} {args:Array Operand} {ts:Array TypeId} {cap:List AV} {n g:Nat} {as_:List AV} (ho:o.op = .call { callee := .value x,args:=args,argTypes:=ts })
  (G : st.eval x = .fn f cap) (hg : kcz ops st o = some true) (hd : ∀ t, o.dst = some t -> t < st.n) (hf : P.funcs[f]? = some fn) (U : fn.body = some c) (hn : (fn.name == "runtime.NumGoroutine") = false) (V : fn.ntmps = n) (I : args.toList.map st.eval ++ cap = as_) (J : Nat.ble as_.length n = true) (j : st.ids.contains g = false)
  (h:∀ cs,awp P c { n:=n,tmps:=argT 0 as_,heap:=(g, .gho cs (st.tmps.map fun p=>st.get p.1))::st.heap,ids:=g::st.ids } (inlQ P ops l o.dst st.n st.dfr g cs st.tmps fn.results.toList Q)):
  awpL P ops (o::l) st Q:=by
 have J:=qal J;have j:g∉st.ids:=by simpa using j
 intro F S0 N0 ψ S a w hs;unfold wpList;rw [kje hs hg];refine .inl ?_;have A:=hs.eval x;rw [G] at A;obtain ⟨caps,hcx,X,Y⟩:∃ caps:Array Value,a.eval x = .func (.func f) #[] caps/\caps.size=cap.length/\∀ (i:Nat) (v:Value) (y:AV),caps[i]?=some v->cap[i]?=some y->RV ψ (·∈st.ids) S w v y:=by
  generalize a.eval x=u at A;cases A with
  | fn h hr=>exact ⟨_,rfl,h,hr⟩
 have Z:fn.body≠none:=by rw [U];simp
 simp only [qat,ne_eq] at hn;have K:(execOp a.eval o).run P w = .ok (.enter f (args.map a.eval++caps)) w:=by simp [execOp,ho,resolve,hcx,Deferred.ofValue,invoke,callFunc,hf,Z,hn]
 unfold Oper.wp;rw [K];show Calls P f (args.map a.eval++caps) w _;refine calls_of_wp hf U ?_
 -- the values of the caller's frame
 have B:=hs.core.add (n:=0) (v := .nilFunc) (w':=w) (ob := .gho (st.tmps.map fun p=>a.tmps.getD p.1 undef) (st.tmps.map fun p=>st.get p.1)) (kaj _) j (fun b U=>by cases U)
  ⟨keq _ _,by rw [kbb];rfl,by rw [kbb];rfl,fun i v x hv G=>by simp only [qp,qt] at hv G;obtain ⟨p,hp,rfl⟩:=hv;obtain ⟨q,s,rfl⟩:=G;rw [hp] at s;injection s with s;subst s;exact (hs.tmps p.1).keep (kfq j _ _) (fun _ h=>qo _ h) (fun _ h=>h) (fun _ _ _=>rfl)⟩
 have L:(args.map a.eval++caps).size=as_.length:=by rw [<- I];simp [X]
 have M:∀ (i:Nat) (v:Value) (y:AV),(args.map a.eval++caps)[i]?=some v->as_[i]?=some y->RV ψ (·∈st.ids) S w v y:=fun i v y hv H=>by
  rw [<- I] at H;by_cases hi:i<args.size;rw [Array.getElem?_append_left (by simpa using hi)] at hv;rw [q9 (by simpa using hi)] at H;simp only [Array.getElem?_map,qt,qp,qa7] at hv H;obtain ⟨p,hp,rfl⟩:=hv;obtain ⟨q,s,rfl⟩:=H;rw [hp] at s;injection s with s;subst s;exact hs.eval p
  ·rw [Array.getElem?_append_right (by simpa using hi)] at hv;rw [qai (by simpa using hi)] at H;exact Y _ v y (by simpa using hv) (by simpa using H)
 have N:Sim F S0 N0 { n:=n,tmps:=argT 0 as_,heap:=(g, .gho (st.tmps.map fun p=>a.tmps.getD p.1 undef) (st.tmps.map fun p=>st.get p.1))::st.heap,ids:=g::st.ids } (ψ.set g 0 .nilFunc) S
   { tmps:=(args.map a.eval++caps)++Array.replicate (fn.ntmps - (args.map a.eval++caps).size) undef,defers:=[] } w:=by
  refine ⟨rfl,by rw [Array.size_append,L,Array.size_replicate,V];show _=n;omega,fun t=>?_,B⟩;show RV _ _ _ w _ (look .any (argT 0 as_) t);rcases ktv as_ 0 t with h | ⟨y,_,h1,m⟩;rw [h];exact .any
  ·rw [m];have h1:as_[t]?=some y:=(by simpa using h1);have C:t<(args.map a.eval++caps).size:=(by rw [L];exact (qj.1 h1).1);have aa:((args.map a.eval++caps)++Array.replicate (fn.ntmps - (args.map a.eval++caps).size) undef).getD t undef=(args.map a.eval++caps)[t]:=(by rw [qay,Array.getElem?_append_left C,qbl C];rfl);rw [aa];exact (M t _ y (qbl C) h1).keep (kfq j _ _) (fun _ h=>qo _ h) (fun _ h=>h) (fun _ _ _=>rfl)
 refine wp_mono (h _ F S0 N0 _ S _ w N) ?_;rintro e a' w' ⟨st',ψ',S',⟨he,ab,vs,r,ac,ad,D⟩,m,h3⟩;have fin:a'.defers=[]/\∃ v,(results fn a'.tmps).run P w' = .ok v w'/\wpList P ops (PostA F S0 N0 w Q) l (a.put o.dst v) w':=by
  refine ⟨m.defers.trans ab,?_⟩;have O:∃ v,(results fn a'.tmps).run P w' = .ok v w'/\RV ψ' (·∈st'.ids) S' w' v r:=by
   rcases ad with ⟨hz,rfl⟩ | ⟨z,hz,ae⟩;refine ⟨.tuple #[],?_, .any⟩;have:fn.results=#[]:=(by apply Array.ext'; simpa using hz);simp [results,this]
   ·refine ⟨a'.tmps.getD z undef,?_,by rw [<- ae];exact m.tmps z⟩;have:fn.results=#[.tmp z]:=(by apply Array.ext'; simpa using hz);simp [results,this]
  obtain ⟨v,af,ag⟩:=O;refine ⟨v,af,?_⟩;obtain ⟨_,⟨_,_,_,ah⟩,_⟩:=m.core.obj g _ ac;have R:Core F S0 N0 (kci g st'.heap) st'.ids ψ' S' w':=by refine ⟨fun i ob ho=>m.core.obj i ob (kc5 g ho).2,fun i i' ob ob' b ho ai=>m.core.inj i i' ob ob' b (kc5 g ho).2 (kc5 g ai).2,m.core.lt,m.core.s0,m.core.n0,m.core.fr⟩
  have E:Sim F S0 N0 { n:=st.n,tmps:=zipS st.tmps vs,heap:=kci g st'.heap,ids:=st'.ids,dfr:=st.dfr } ψ' S' a w':=by refine ⟨hs.defers,hs.size,fun t=>?_,R⟩;exact kzj (v:=fun t=>a.tmps.getD t undef) t fun i k x hk G=>ah i _ x (by rw [qp,hk];rfl) G
  have T:=E.put (st':={ n:=st.n,tmps:=zipS st.tmps vs,heap:=kci g st'.heap,ids:=st'.ids,dfr:=st.dfr }) (d:=o.dst) rfl rfl rfl R ag Ext.refl (fun _ h=>h) (fun _ h=>h) (fun _ _ _=>rfl) hd;exact ken (fun e a'' w'' k=>k.pre h3) _ _ _ (D F S0 N0 ψ' S' _ w' T)
 rcases he with rfl | rfl <;> exact fin
end
end Go.Proofs.YtpcfkflhnkfjjaaGreat
