import Derived.Test.YtpnnpkmjohkgiaaGreatDoorFin
import Derived.Test.YtpnnpkmjohkgiaaGreatDoorRel
import Derived.Lib.Bytealg
set_option linter.all false
namespace Go.Proofs.YtpnnpkmjohkgiaaGreatDoor
open Go Go.RowKit
def ior (k:IntKind) (a b:Int):Int:=k.wrap (BitVec.ofInt k.bits a ||| BitVec.ofInt k.bits b).toNat
def imin (a b:Int):Int:=if b<a then b else a
def imax (a b:Int):Int:=if a<b then b else a
def quo (k:IntKind) (a b:Int):Option Int:=if b=0 then none else some (k.wrap (a.tdiv b))
def rem (k:IntKind) (a b:Int):Option Int:=if b=0 then none else some (a.tmod b)
def cutS (s:BA) (lo hi:Int):Option BA:=if 0<=lo/\lo<=hi/\hi<=(s.size:Int) then some (s.extract lo.toNat hi.toNat) else none
def cutL {α:Type} (xs:List α) (lo hi:Int):Option (List α):=if 0<=lo/\lo<=hi/\hi<=(xs.length:Int) then some ((xs.take hi.toNat).drop lo.toNat) else none
section
variable {P:Program} {F S0:Nat->Prop} {N0:Nat} {w w':World} {S S':Nat->Prop} {ψ:Env} {K:Nat->Prop} {T:List (TypeId×TD)} {o:Oper} {a:Act} {st:St} {t:TypeId} {d:TD}
theorem k3n {x y:Operand} {ts:Array TypeId} {k k':IntKind} {m n:Int} (c:o.op = .call { callee := .builtin .min,args:=#[x,y],argTypes:=ts }) (d:st.eval x = .fz (.atom (.int k m))) (hy:st.eval y = .fz (.atom (.int k' n))):NStep P o st (.fz (.atom (.int k (imin m n)))):=by intro ψ S a w ht _;have h1:=Sim.eval_tmps ht x;rw [d] at h1;have b:=Sim.eval_tmps ht y;rw [hy] at b;refine kae (w':=w) (v := .int k (imin m n)) ?_ ⟨kag _, .fz (.atom rfl)⟩;simp [execOp,c,resolve,invoke,builtin,h1.atom,b.atom,Builtin.min_,Builtin.min2,imin]
theorem k3t {x y:Operand} {ts:Array TypeId} {k k':IntKind} {m n:Int} (c:o.op = .call { callee := .builtin .max,args:=#[x,y],argTypes:=ts }) (d:st.eval x = .fz (.atom (.int k m))) (hy:st.eval y = .fz (.atom (.int k' n))):NStep P o st (.fz (.atom (.int k (imax m n)))):=by intro ψ S a w ht _;have h1:=Sim.eval_tmps ht x;rw [d] at h1;have b:=Sim.eval_tmps ht y;rw [hy] at b;refine kae (w':=w) (v := .int k (imax m n)) ?_ ⟨kag _, .fz (.atom rfl)⟩;simp [execOp,c,resolve,invoke,builtin,h1.atom,b.atom,Builtin.max_,Builtin.max2,imax]
def kl3 (st:St):Option Operand->Option (Option Int)
 | none=>some none
 | some x=>match st.eval x with
  | .fz (.atom (.int _ n))=>some (some n)
  | _=>none
theorem klf {ids:List Nat} (ht:∀ t,RV ψ (·∈ids) S w (a.tmps.getD t undef) (st.get t)) {x:Option Operand} {r:Option Int} (h:kl3 st x=some r):(x=none/\r=none)\/∃ y k n,x=some y/\r=some n/\a.eval y = .int k n:=by
 unfold kl3 at h;split at h;injection h with h;exact .inl ⟨rfl,h.symm⟩
 ·rename_i y;split at h;rename_i k n hk;injection h with h;have h1:=Sim.eval_tmps ht y;rw [hk] at h1;exact .inr ⟨y,k,n,rfl,h.symm,h1.atom⟩
  ·cases h
theorem kyv {x:Operand} {lo hi:Option Operand} {l h:Option Int} {s r:BA} (hc:cutS s (l.getD 0) (h.getD s.size)=some r) (e:TOk P T) (f:o.op = .slice t x lo hi none:=by kernel_rfl) (g:kab T t=some d:=by kernel_rfl) (hk:d.kind = .str:=by kernel_rfl) (i:st.eval x = .fz (.atom (.string s)):=by kernel_rfl) (hl:kl3 st lo=some l:=by kernel_rfl) (j:kl3 st hi=some h:=by kernel_rfl):
  NStep P o st (.fz (.atom (.string r))):=by
 intro ψ S a w ht q;have h1:=Sim.eval_tmps ht x;rw [i] at h1;have bl:=klf ht hl;have bh:=klf ht j;unfold cutS at hc;split at hc
 ·rename_i b;injection hc with hc;subst hc;refine kae (w':=w) (v := .string (s.extract (l.getD 0).toNat (h.getD s.size).toNat)) ?_ ⟨kag _, .fz (.atom rfl)⟩;have m:=(e.get g).str hk;have e1:(Instr.sliceBounds false s.size s.size (lo.map a.eval) (hi.map a.eval) none).run P w = .ok ((l.getD 0).toNat,(h.getD s.size).toNat,s.size) w:=by
   unfold Instr.sliceBounds;rcases bh with ⟨rfl,rfl⟩ | ⟨y,k,n,rfl,rfl,hy⟩
   ·rcases bl with ⟨rfl,rfl⟩ | ⟨y',k',n',rfl,rfl,c⟩;simp
    ·simp only [qaf,Option.getD_none] at b ⊢;simp [Instr.sliceBound,c,asIntOf,b.1,b.2.1]
   ·rcases bl with ⟨rfl,rfl⟩ | ⟨y',k',n',rfl,rfl,c⟩;simp only [qaf,Option.getD_none] at b ⊢;simp [Instr.sliceBound,hy,asIntOf,b.2.1,b.2.2]
    ·simp only [qaf] at b ⊢;have:0<=n:=(by omega);have p:n'<=(n.toNat:Int):=(by omega);simp [Instr.sliceBound,hy,c,asIntOf,b.1,b.2.2,this,p];intro hc;exfalso;omega
  simp [execOp,f,Instr.sliceAt,Instr.slice,run_underlying m,h1.atom,e1]
 ·cases hc
theorem RF.take {v:Value} {size n k:Nat} {A:Option Addr} {cap:Nat} {xs:List FV} (h:RF S w (.slice A n cap) (.lst size n xs)) (lo hi:Nat) (h1:lo<=hi) (f:hi<=n):∃ A',A'=(if cap=lo then A else A.map (·.add (lo*size)))/\RF S w (.slice A' (hi - lo) (cap - lo)) (.lst size (hi - lo) ((xs.take hi).drop lo)):=by
 obtain ⟨A0,cap0,css,hv,hn,hc,hm,hs,ha,hl,hr⟩:=h.lst_inv;injection hv with e1 _ e3;subst e1 e3;have c:(xs.take hi).length=hi:=by rw [qam];omega
 have get:∀ (i:Nat) (x:FV),((xs.take hi).drop lo)[i]?=some x->xs[lo+i]?=some x:=fun i x a=>by
  rw [qad,qw] at a;split at a;exact a
  ·cases a
 refine ⟨_,rfl, .lst (fun i=>css (lo+i)) (by rw [qa7,c]) (by omega) (by omega) hs (fun i x a=>?_) (fun i x a=>hl _ x (get i x a)) fun i x j v y a hv hy=>hr _ x j v y (get i x a) hv hy⟩;obtain ⟨b,o,hA,hS,d⟩:=ha _ x (get i x a);have e:=(qg.1 (get i x a)).1;refine ⟨b,o+lo*size,?_,hS,by rw [Nat.add_assoc,<- qa0];exact d⟩;rw [ql (by omega),hA];simp only [qa1,kb2]
theorem k7a {α:Type} {enc:α->FV} {x:Operand} {lo hi:Option Operand} {l h:Option Int} {xs r:List α} {size:Nat} {e:TypeId} {de:TD} (hc:cutL xs (l.getD 0) (h.getD xs.length)=some r) (p:TOk P T) (s:o.op = .slice t x lo hi none:=by kernel_rfl) (u:kab T t=some d:=by kernel_rfl) (hk:d.kind = .slice e:=by kernel_rfl) (f:kab T e=some de:=by kernel_rfl) (g:de.size=size:=by kernel_rfl) (z:st.eval x = .fz (eL size enc xs):=by kernel_rfl) (hl:kl3 st lo=some l:=by kernel_rfl) (B:kl3 st hi=some h:=by kernel_rfl):NStep P o st (.fz (eL size enc r)):=by
 intro ψ S a w ht H;have h1:=Sim.eval_tmps ht x;rw [z] at h1;have bl:=klf ht hl;have bh:=klf ht B;unfold cutL at hc;split at hc
 ·rename_i b;injection hc with hc;subst hc;have h1:=h1.inv;obtain ⟨A,cap,css,hv,hn,C,hm,hs,ha,D,hr⟩:=h1.lst_inv;rw [hv] at h1;obtain ⟨A',i,j⟩:=h1.take (v := .nilFunc) (k:=0) (l.getD 0).toNat (h.getD xs.length).toNat (by omega) (by omega);refine kae (w':=w) (v := .slice A' ((h.getD xs.length).toNat - (l.getD 0).toNat) (cap - (l.getD 0).toNat)) ?_ ⟨kag _,(RV.fz ?_).here⟩
  ·have E:=(p.get u).slice hk;have e1:(Instr.sliceBounds true xs.length cap (lo.map a.eval) (hi.map a.eval) none).run P w = .ok ((l.getD 0).toNat,(h.getD xs.length).toNat,cap) w:=by
    unfold Instr.sliceBounds;have q:(xs.length:Int)<=(cap:Int):=(by omega);rcases bh with ⟨rfl,rfl⟩ | ⟨y,k,n,rfl,rfl,hy⟩
    ·rcases bl with ⟨rfl,rfl⟩ | ⟨y',k',n',rfl,rfl,c⟩;simp
     ·simp only [qaf,Option.getD_none] at b ⊢;simp [Instr.sliceBound,c,asIntOf,b.1,b.2.1]
    ·rcases bl with ⟨rfl,rfl⟩ | ⟨y',k',n',rfl,rfl,c⟩;simp only [qaf,Option.getD_none] at b ⊢;have:n<=(cap:Int):=(by omega);simp [Instr.sliceBound,hy,asIntOf,b.2.1,this]
     ·simp only [qaf] at b ⊢;have:0<=n:=(by omega);have F:n'<=(n.toNat:Int):=(by omega);have G:n<=(cap:Int):=(by omega);simp [Instr.sliceBound,hy,c,asIntOf,b.1,this,F,G];intro hc;exfalso;omega
   have m:(sizeOf e).run P w = .ok size w:=(by rw [(p.get f).size,g]);simp [execOp,s,Instr.sliceAt,Instr.slice,run_underlying E,hv,e1,m,i]
  ·have:((xs.take (h.getD xs.length).toNat).drop (l.getD 0).toNat).length=(h.getD xs.length).toNat - (l.getD 0).toNat:=(by rw [qa7,qam];omega);unfold eL;rw [this,List.map_drop,List.map_take];exact j
 ·cases hc
def zipS:List (Nat×AV)->List AV->List (Nat×AV)
 | (t,_)::l,v::vs=>(t,v)::zipS l vs
 | _,_=>[]
theorem kug {v:Nat->Value} {K:Nat->Prop}:∀ {l:List (Nat×AV)} {vs:List AV} (t:Nat),(∀ (i:Nat) (k:Nat×AV) (x:AV),l[i]?=some k->vs[i]?=some x->RV ψ K S w (v k.1) x)->RV ψ K S w (v t) (look .any (zipS l vs) t)
 | [],vs,t,h=>by cases vs <;> exact .any
 | (k,y)::l,[],t,h => .any
 | (k,y)::l,x::vs,t,h=>by
  simp only [zipS,kbd];split;rename_i hk;subst hk;exact h 0 _ x rfl rfl
  ·exact kug t fun i k x hk a=>h (i+1) k x (by simpa using hk) (by simpa using a)
def argT:Nat->List AV->List (Nat×AV)
 | _,[]=>[]
 | i,x::l=>(i,x)::argT (i+1) l
theorem kj1:∀ (l:List AV) (i t:Nat),look .any (argT i l) t = .any\/∃ x,i<=t/\l[t - i]?=some x/\look .any (argT i l) t=x
 | [],i,t => .inl rfl
 | x::l,i,t=>by
  simp only [argT,kbd];by_cases h:i=t;subst h;exact .inr ⟨x,qy _,by simp,by simp⟩
  ·rw [ql h];rcases kj1 l (i+1) t with h1 | ⟨y,h1,a,b⟩;exact .inl h1
   ·exact .inr ⟨y,by omega,by rw [show t - i=(t - (i+1))+1 by omega];simpa using a,b⟩
def inlQ (P:Program) (ops:Array Oper) (l:List Oper) (dst:Option Nat) (n:Nat) (D:List Deferred) (g:Nat) (cs:List Value) (keep:List (Nat×AV)) (rs:List ResultVar) (Q:Exit->St->Prop):Exit->St->Prop:=fun e st'=>
 (e = .normal\/e = .ret)/\st'.dfr=[]/\∃ vs r,kaa st'.heap g=some (.gho cs vs)/\((rs=[]/\r = .any)\/∃ z,rs=[.tmp z]/\st'.get z=r) /\
  awpL P ops l (({ n:=n,tmps:=zipS keep vs,heap:=kdn g st'.heap,ids:=st'.ids,dfr:=D }:St).put dst r) Q
theorem k16 {f:FuncId} {fn:Func} {c:Code} {ops:Array Oper} {l:List Oper} {Q:Exit->St->Prop} {x:Operand} {args:Array Operand} {ts:Array TypeId} {cap:List AV} {n g:Nat} {as_:List AV} (H:o.op = .call { callee := .value x,args:=args,argTypes:=ts })
  (G : st.eval x = .fn f cap) (hg : kbm ops st o = some true) (hd : ∀ t, o.dst = some t -> t < st.n) (hf : P.funcs[f]? = some fn) (U : fn.body = some c) (hn : (fn.name == "runtime.NumGoroutine") = false) (V : fn.ntmps = n) (I : args.toList.map st.eval ++ cap = as_) (J : Nat.ble as_.length n = true) (j : st.ids.contains g = false)
  (h:∀ cs,awp P c { n:=n,tmps:=argT 0 as_,heap:=(g, .gho cs (st.tmps.map fun p=>st.get p.1))::st.heap,ids:=g::st.ids } (inlQ P ops l o.dst st.n st.dfr g cs st.tmps fn.results.toList Q)):
  awpL P ops (o::l) st Q:=by
 have J:=qn J;have j:g∉st.ids:=by simpa using j
 intro F S0 N0 ψ S a w hs;unfold wpList;rw [keb hs hg];refine .inl ?_;have A:=hs.eval x;rw [G] at A;obtain ⟨caps,hcx,X,Y⟩:∃ caps:Array Value,a.eval x = .func (.func f) #[] caps/\caps.size=cap.length/\∀ (i:Nat) (v:Value) (y:AV),caps[i]?=some v->cap[i]?=some y->RV ψ (·∈st.ids) S w v y:=by
  generalize a.eval x=u at A;cases A with
  | fn h hr=>exact ⟨_,rfl,h,hr⟩
 have Z:fn.body≠none:=by rw [U];simp
 simp only [qar,ne_eq] at hn;have K:(execOp a.eval o).run P w = .ok (.enter f (args.map a.eval++caps)) w:=by simp [execOp,H,resolve,hcx,Deferred.ofValue,invoke,callFunc,hf,Z,hn]
 unfold Oper.wp;rw [K];show Calls P f (args.map a.eval++caps) w _;refine calls_of_wp hf U ?_
 -- the values of the caller's frame
 have B:=hs.core.add (n:=0) (v := .nilFunc) (w':=w) (ob := .gho (st.tmps.map fun p=>a.tmps.getD p.1 undef) (st.tmps.map fun p=>st.get p.1)) (kag _) j (fun b U=>by cases U)
  ⟨kcs _ _,by rw [kat];rfl,by rw [kat];rfl,fun i v x hv G=>by simp only [qv,qr] at hv G;obtain ⟨p,hp,rfl⟩:=hv;obtain ⟨q,s,rfl⟩:=G;rw [hp] at s;injection s with s;subst s;exact (hs.tmps p.1).keep (kcw j _ _) (fun _ h=>qu _ h) (fun _ h=>h) (fun _ _ _=>rfl)⟩
 have L:(args.map a.eval++caps).size=as_.length:=by rw [<- I];simp [X]
 have M:∀ (i:Nat) (v:Value) (y:AV),(args.map a.eval++caps)[i]?=some v->as_[i]?=some y->RV ψ (·∈st.ids) S w v y:=fun i v y hv hy=>by
  rw [<- I] at hy;by_cases hi:i<args.size;rw [qa8 (by simpa using hi)] at hv;rw [qaa (by simpa using hi)] at hy;simp only [Array.getElem?_map,qr,qv,qai] at hv hy;obtain ⟨p,hp,rfl⟩:=hv;obtain ⟨q,s,rfl⟩:=hy;rw [hp] at s;injection s with s;subst s;exact hs.eval p
  ·rw [Array.getElem?_append_right (by simpa using hi)] at hv;rw [qae (by simpa using hi)] at hy;exact Y _ v y (by simpa using hv) (by simpa using hy)
 have N:Sim F S0 N0 { n:=n,tmps:=argT 0 as_,heap:=(g, .gho (st.tmps.map fun p=>a.tmps.getD p.1 undef) (st.tmps.map fun p=>st.get p.1))::st.heap,ids:=g::st.ids } (ψ.set g 0 .nilFunc) S
   { tmps:=(args.map a.eval++caps)++Array.replicate (fn.ntmps - (args.map a.eval++caps).size) undef,defers:=[] } w:=by
  refine ⟨rfl,by rw [Array.size_append,L,Array.size_replicate,V];show _=n;omega,fun t=>?_,B⟩;show RV _ _ _ w _ (look .any (argT 0 as_) t);rcases kj1 as_ 0 t with h | ⟨y,_,h1,m⟩;rw [h];exact .any
  ·rw [m];have h1:as_[t]?=some y:=(by simpa using h1);have C:t<(args.map a.eval++caps).size:=(by rw [L];exact (qg.1 h1).1);have aa:((args.map a.eval++caps)++Array.replicate (fn.ntmps - (args.map a.eval++caps).size) undef).getD t undef=(args.map a.eval++caps)[t]:=(by rw [qal,qa8 C,qba C];rfl);rw [aa];exact (M t _ y (qba C) h1).keep (kcw j _ _) (fun _ h=>qu _ h) (fun _ h=>h) (fun _ _ _=>rfl)
 refine wp_mono (h _ F S0 N0 _ S _ w N) ?_;rintro e a' w' ⟨st',ψ',S',⟨he,ab,vs,r,ac,ad,D⟩,m,h3⟩;have fin:a'.defers=[]/\∃ v,(results fn a'.tmps).run P w' = .ok v w'/\wpList P ops (PostA F S0 N0 w Q) l (a.put o.dst v) w':=by
  refine ⟨m.defers.trans ab,?_⟩;have O:∃ v,(results fn a'.tmps).run P w' = .ok v w'/\RV ψ' (·∈st'.ids) S' w' v r:=by
   rcases ad with ⟨hz,rfl⟩ | ⟨z,hz,ae⟩;refine ⟨.tuple #[],?_, .any⟩;have:fn.results=#[]:=(by apply qbd;simpa using hz);simp [results,this]
   ·refine ⟨a'.tmps.getD z undef,?_,by rw [<- ae];exact m.tmps z⟩;have:fn.results=#[.tmp z]:=(by apply qbd;simpa using hz);simp [results,this]
  obtain ⟨v,af,ag⟩:=O;refine ⟨v,af,?_⟩;obtain ⟨_,⟨_,_,_,ah⟩,_⟩:=m.core.obj g _ ac;have R:Core F S0 N0 (kdn g st'.heap) st'.ids ψ' S' w':=by refine ⟨fun i ob H=>m.core.obj i ob (kgc g H).2,fun i i' ob ob' b H ai=>m.core.inj i i' ob ob' b (kgc g H).2 (kgc g ai).2,m.core.lt,m.core.s0,m.core.n0,m.core.fr⟩
  have E:Sim F S0 N0 { n:=st.n,tmps:=zipS st.tmps vs,heap:=kdn g st'.heap,ids:=st'.ids,dfr:=st.dfr } ψ' S' a w':=by refine ⟨hs.defers,hs.size,fun t=>?_,R⟩;exact kug (v:=fun t=>a.tmps.getD t undef) t fun i k x hk G=>ah i _ x (by rw [qv,hk];rfl) G
  have T:=E.put (st':={ n:=st.n,tmps:=zipS st.tmps vs,heap:=kdn g st'.heap,ids:=st'.ids,dfr:=st.dfr }) (d:=o.dst) rfl rfl rfl R ag Ext.refl (fun _ h=>h) (fun _ h=>h) (fun _ _ _=>rfl) hd;exact kco (fun e a'' w'' k=>k.pre h3) _ _ _ (D F S0 N0 ψ' S' _ w' T)
 rcases he with rfl | rfl <;> exact fin
end
namespace RE
open Go Go.RowKit
structure Tr (M:Nat->Prop) (w w':World):Prop where
 os:w'.os=w.os
 tape:w'.tape=w.tape
 output:w'.output=w.output
 size:w.heap.size<=w'.heap.size
 block:∀ b,b<w.heap.size->¬ M b->w'.heap[b]?=w.heap[b]?
inductive Gd (M:Nat->Prop) where
 | det (c:Value)
 | rel (G:Value->World->Prop) (h:∀ v w w',G v w->Tr M w w'->G v w')
 | relE (G:Value->World->Prop) (h:∀ v w w',G v w->Below w.heap.size w w'->G v w')
def Gd.holds {M:Nat->Prop}:Gd M->Value->World->Prop
 | .det c,v,_=>v=c
 | .rel G _,v,w=>G v w
 | .relE G _,v,w=>G v w
section
variable {P:Program}
variable {M:Nat->Prop} {e:Nat} {D:World->Prop} {gs:List (Gd M)} {l:List Oper} {xs:Nat->Value} {a0:Act}
structure k6s {M:Nat->Prop} (e:Nat) (D:World->Prop) (gs:List (Gd M)) (l:List Oper) (C:World->Prop) (a0:Act) (listed:Array Bool) (a:Act) (w:World):Prop where
 inC:C w
 inD:listed.getD e false=false->D w
 defers:a.defers=a0.defers
 size:a.tmps.size=a0.tmps.size
 lsize:listed.size=l.length
 closed:∀ k o,listed.getD k false=true->l[k]?=some o->∀ e∈o.after,Region.binds .any e=true->listed.getD e.on false=true
 vals:∃ xs:Nat->Value,∀ j g,gs[j]?=some g->listed.getD j false=true->g.holds (xs j) w/\∀ o d,l[j]?=some o->o.dst=some d->a.tmps[d]?=some (xs j)
 rest:∀ t,(∀ j o,listed.getD j false=true->l[j]?=some o->o.dst≠some t)->a.tmps[t]?=a0.tmps[t]?
end
end RE
def khp (P:Program) (o:Oper) (st:St) (m:Nat) (om:AObj) (c:AV) (om':AObj):Prop:=
 ∀ F S0 N0 ψ S a w,(∀ t,RV ψ (·∈st.ids) S w (a.tmps.getD t undef) (st.get t))->Core F S0 N0 [(m,om)] st.ids ψ S w->kdi P o a w fun v w'=>∃ n u,Core F S0 N0 [(m,om')] st.ids (ψ.set m n u) S w'/\RV (ψ.set m n u) (·∈st.ids) S w' v c/\Fr F w w' /\
  (ψ.len m<n\/(ψ.len m=n/\u=ψ.val m))/\(∀ b,Blk u b->Blk (ψ.val m) b\/w.heap.size<=b)
section
variable {P:Program} {F S0:Nat->Prop} {N0:Nat} {w w':World} {S S':Nat->Prop} {ψ ψ':Env} {K K':Nat->Prop} {o:Oper} {a:Act} {st:St} {T:List (TypeId×TD)} {t:TypeId} {d:TD}
theorem k2h {st':St} {ids:List Nat} {ts:List (Nat×C1)} {c:AV} (h:coSt st ids ts []=some st') (hn:NStep P o st' c):NStep P o st c:=by
 unfold coSt at h;cases hi:ids.all st.ids.contains with
 | false=>rw [hi] at h;simp at h
 | true=>
  cases h1:kl7 st ids ts with
  | none=>rw [hi,h1] at h;simp at h
  | some r=>
   rw [hi,h1] at h;simp only [kl6,qc] at h;subst h;have d:∀ id,id∈ids->id∈st.ids:=fun id e=>(by simpa using qo.1 hi id e);intro ψ S a w ht g;refine kjn ?_ (hn ψ S a w (fun t=>?_) (fun id ob i=>by cases i));rintro v w' ⟨k1,k2⟩;exact ⟨k1,k2.mono d fun _ h=>h⟩
   ·show RV ψ (·∈ids) S w _ (look .any r t);rcases kmg t h1 with b | ⟨c',b,f⟩;rw [b];exact .any
    ·rw [b];rw [b] at *
     exact (klw (ht t)).sub1 f
theorem kok {e:TypeId} {size:Nat} {xs:List FV} {v:Value} {cs:List Value} (k:0<size) (d:w.ownsRow 0 e size v xs.length cs) (n:ElR size xs) (hr:RowR S w size xs cs):RF (fun b=>S b\/ka1 v=some b) w v (.lst size xs.length xs):=by
 rcases d.2 with ⟨hv,o⟩ | ⟨g,cap,cur,hv,_,r,p,l,s,q⟩;have:xs=[]:=qan o;subst this;rw [hv];exact .lst (A:=none) (cap:=0) (xs:=[]) (fun _=>[]) rfl (qy _) (by omega) k (fun i x a=>by simp at a) (fun i x a=>by simp at a) (fun i x j v y a=>by simp at a)
 ·rw [hv];have m:∀ i x,xs[i]?=some x->(i+1)*size<=cs.length:=fun i x a=>by rw [d.1];exact qay _ (qg.1 a).1
  refine .lst (fun i=>(cs.drop (i*size)).take size) rfl p (by unfold maxLen at l;exact l) k (fun i x a=>⟨g,0,rfl, .inr (by rfl),fun j u f=>?_⟩) (fun i x a=>?_) fun i x j v y a c hy=>?_
  ·rw [qw] at f;split at f
   ·rw [qad,<- q,qw] at f;split at f;simp only [World.cell?,r,Nat.zero_add];simpa using f
    ·cases f
   ·cases f
  have:=m i x a;rw [qa0] at this;exact ⟨by rw [qam,qa7];omega,n x (qt a)⟩
  ·rw [qw] at c;split at c;rw [qad] at c;exact (hr i x j v y a c hy).mono fun _ h => .inl h
   ·cases c
theorem kym {f:FuncId} {fn:Func} {ts:Array TypeId} {X Y:Operand} {s:BA} {c:Int} (e:o.op = .call { callee := .value (.func f),args:=#[X,Y],argTypes:=ts }) (g:P.funcs[f]?=some fn)
  (b : (fn.name == "runtime.NumGoroutine") = false := by kernel_rfl) (h : fn.body.isNone = true := by kernel_rfl) (hn : Extern.findNext fn = none := by kernel_rfl) (i : Extern.find fn = some Extern.BytealgIndexByte.indexByte := by kernel_rfl) (j : st.eval X = .fz (eS s) := by kernel_rfl) (hy : st.eval Y = .fz (eU8 c) := by kernel_rfl) : NStep P o st (.fz (eI (Lib.indexByte s.data.toList c.toNat.toUInt8))) := by
 intro ψ S a w ht k;have h1:=Sim.eval_tmps ht X;rw [j] at h1;have h1:=h1.atom;have d:=Sim.eval_tmps ht Y;rw [hy] at d;have d:=d.atom;refine kae (w':=w) (v := .int .i64 (Lib.indexByte s.data.toList c.toNat.toUInt8)) ?_ ⟨kag _, .fz (.atom rfl)⟩;have h0:a.eval (.func f) = .func (.func f) #[] #[]:=rfl;simp [execOp,e,resolve,h0,Deferred.ofValue,invoke,run_callFunc_extern g b h hn i,h1,d,Lib.run_indexByteString]
end
end Go.Proofs.YtpnnpkmjohkgiaaGreatDoor
