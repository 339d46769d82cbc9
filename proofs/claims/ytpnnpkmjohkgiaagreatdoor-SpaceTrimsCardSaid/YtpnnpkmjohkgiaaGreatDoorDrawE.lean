import Derived.Test.YtpnnpkmjohkgiaaGreatDoorRows
import Derived.Test.YtpnnpkmjohkgiaaGreatDoorMem
import Derived.ProofKit
import Derived.OpenShut
import Derived.JoinedCond
import Derived.Carry
import Derived.ChangeSame
import Derived.Test.YtpnnpkmjohkgiaaGreatDoorTy
import Derived.Deep.Fields
import Derived.Lib.Bytealg
set_option linter.all false
namespace Go.Proofs.YtpnnpkmjohkgiaaGreatDoor
open Go Go.RowKit Go.ChangeShapes Go.WideShapes Go.ChangeAt Go.Proofs.Tryz
theorem kvk:ownKnob prog.godebug=none:=by kernel_rfl
theorem kwl:laidOutB prog=true:=by kernel_rfl
section
variable {H:Type} {enc:TypeId×Value->H} {P:Program}
theorem kjb (hl:laidOutB P=true) {W W':World} {sp:Nat->Bool} (e:Below W.heap.size W W'):∀ {ts:List TypeId} {vs:List Value} {ds:List (DataW H)} {ps:List MemPlace},
  (∀ t∈ts,P.readableRec t=true/\t<P.types.size)->DataW.TrodAll enc P W 0 (fun _=>true) true ts vs ds ps->(∀ x∈ps,x.block<W.heap.size)->(∀ x∈ps,sp x.block=true)->DataW.TrodAll enc P W' 0 sp true ts vs ds ps
 | [],vs,ds,ps,_,h,_,_=>by obtain ⟨rfl,rfl,rfl⟩:=trodAll_nil h;exact trodAll_mk0
 | t::ts,vs,ds,ps,ht,h,b,c=>by
  obtain ⟨v,vs',d,ds',p,q,rfl,rfl,rfl,h0,h1⟩:=trodAll_cons h;exact trodAll_cons_mk (WideElems.Trod_stays hl (ht t (by simp)).1 (ht t (by simp)).2 h0 (fun x a=>e.same (b x (by simp [a]))) (fun x a=>c x (by simp [a])))
   (kjb hl e (fun t' f=>ht t' (by simp [f])) h1 (fun x a=>b x (by simp [a])) (fun x a=>c x (by simp [a])))
theorem kwh {f:Func} {s:ChangeSpec} {W W':World} {args:Array Value} {ds gs:List (DataW H)} {before:List MemPlace} {tb:TypeId}
  (hl:laidOutB P=true) (k:∀ t∈f.params.toList,P.readableRec t=true/\t<P.types.size) (a:s.vars=[]) (y:P.underlying tb=some .bool) (hr:f.resultTypes=#[tb])
  (c:s.fn H (ds++gs)={ results:=[.lit (.bool true)],args:=ds })
  (r:DataW.Whole enc P f.params.toList s.vars false W args.toList ds gs before) (u:Below W.heap.size W W'):
  s.post enc P f false true false false W args (.bool true) W':=by
 have e:=r;obtain ⟨p,q,hA,v,rfl,z,hn⟩:=r;have l:DataW.TrodVars enc P W (fun _=>true) [] gs q:=by rw [a] at v;exact v
 obtain ⟨rfl,rfl⟩:=trodVars_none l;have g:∀ x∈p,x.block<W.heap.size:=fun x d=>e.lt x (by simpa using d);have m:∀ sp:Nat->Bool,(∀ x∈p,sp x.block=true)->DataW.TrodAll enc P W' 0 sp true f.params.toList args.toList (s.fn H (ds++[])).args p:=fun sp n=>by rw [c];exact kjb hl u k hA g n
 have o:∀ sp:Nat->Bool,DataW.TrodVars enc P W' sp s.vars (s.fn H (ds++[])).vars []:=fun sp=>by rw [a,c];rfl
 have i:∀ x∈p,(fun b=>decide (b<W.heap.size)) x.block=true:=fun x d=>by simpa using g x d
 have j:∀ (b:Nat) (sp:Nat->Bool) (w:Bool),DataW.TrodAll enc P W' b sp w f.resultTypes.toList ((Value.bool true).resultList f.resultTypes.size) (s.fn H (ds++[])).results []:=fun b sp w=>by rw [c,hr];exact trodAll_cons_mk (shut_bool y true) trodAll_mk0
 refine ⟨ds,[],p++[],[],p,[],e,j _ _ _,m _ i,o _,World.keptBut_mono (fun x d=>⟨d,?_⟩) (u.frame (·∈p++[])),fun h=>by cases h⟩;simp at d ⊢;exact d
variable {w:World} {base:Nat} {spare:Nat->Bool} {held:Bool}
theorem kq1 {T:Type} {Q:Nat->T->Prop}:∀ n:Nat,(∀ i,i<n->∃ z,Q i z)->∃ xs:List T,xs.length=n/\∀ (i:Nat) (z:T),xs[i]?=some z->Q i z
 | 0,_=>⟨[],rfl,fun i z h=>by simp at h⟩
 | n+1,h=>by
  obtain ⟨xs,hl,a⟩:=kq1 (Q:=Q) n fun i hi=>h i (by omega);obtain ⟨z,b⟩:=h n (by omega);refine ⟨xs++[z],by simp [hl],fun i y hy=>?_⟩;by_cases hi:i<n;rw [qy (by omega)] at hy;exact a i y hy
  ·rw [qac (by omega)] at hy;have:i=n:=(by have:=(qd.1 hy).1;simp at this;omega);subst this;simp [hl] at hy;subst hy;exact b
end
open Go Go.RowKit Go.Proofs.Tryz
inductive Va where
 | mk (type num:Int) (text:BA) (items:List Va)
namespace Va
end Va
structure Sy where
 name:BA
 type:Int
structure Ru where
 symbol:Int
 kind:Int
 input:Int
 const:Va
 op:BA
 args:List Int
structure La where
 name:BA
 inputs:List Int
 symbols:List Sy
 rules:List Ru
def Short (s:BA):Prop:=s.size<=9223372036854775807
section
variable {S S':Nat->Prop} {w w':World}
inductive kxy (S:Nat->Prop) (w:World):List Value->Va->Prop where
 | mk (t n:Int) (s:BA) (kids:List Va) (A:Option Addr) (cap:Nat) (css:Nat->List Value) (ht:kiq t) (hn:kiq n) (hs:Short s) (hc:kids.length<=cap) (hm:cap<=9223372036854775807)
  (hA:∀ (i:Nat) (x:Va),kids[i]?=some x->∃ b o,A=some ⟨b,o,none⟩/\S b/\At w b (o+i*4) (css i))
  (hk:∀ (i:Nat) (x:Va),kids[i]?=some x->kxy S w (css i) x):kxy S w [.int .i64 t, .int .i64 n, .string s, .slice A kids.length cap] (.mk t n s kids)
section
variable {T:Type} {size:Nat} {R:(Nat->Prop)->World->List Value->T->Prop} {v:Value} {l:List T}
end
end
inductive Tm where
 | mk (rule:Int) (args:List Tm)
namespace Tm
theorem ind {P:Tm->Prop} (h:∀ r l,(∀ t∈l,P t)->P (mk r l)) (t:Tm):P t:=
 Tm.rec (motive_1:=P) (motive_2:=fun l=>∀ t∈l,P t) (fun r l ih=>h r l ih) (fun _ h=>nomatch h)
  (fun t l h1 a x b=>(qaw.1 b).elim (fun e=>e ▸ h1) (a x)) t
end Tm
section
variable {S S':Nat->Prop} {w w':World}
inductive kxm (S:Nat->Prop) (w:World):List Value->Tm->Prop where
 | mk (r:Int) (kids:List Tm) (A:Option Addr) (cap:Nat) (css:Nat->List Value) (hr:kiq r) (hc:kids.length<=cap) (hm:cap<=9223372036854775807)
  (hA:∀ (i:Nat) (x:Tm),kids[i]?=some x->∃ b o,A=some ⟨b,o,none⟩/\S b/\At w b (o+i*2) (css i))
  (hk:∀ (i:Nat) (x:Tm),kids[i]?=some x->kxm S w (css i) x):kxm S w [.int .i64 r, .slice A kids.length cap] (.mk r kids)
end
set_option maxRecDepth 100000
theorem ks0 {n:Int} (h:(Lit.int .i64 n).wf=true):kiq n:=by simpa [Lit.wf,IntKind.min,IntKind.max,IntKind.signed,IntKind.bits,kiq] using h
section
variable {H:Type} {enc:TypeId×Value->H} {w:World} {base:Nat} {spare:Nat->Bool} {held:Bool}
theorem cells_ty:prog.cellsOf 3=1/\prog.cellsOf 2=1/\prog.cellsOf 9=1/\prog.cellsOf 22=1/\prog.cellsOf 59=1/\prog.cellsOf 23=1/\prog.cellsOf 24=1 /\
  prog.cellsOf 61=4/\prog.cellsOf 113=2/\prog.cellsOf 63=9/\prog.cellsOf 26=4:=⟨by kernel_rfl,by kernel_rfl,by kernel_rfl,by kernel_rfl,by kernel_rfl,by kernel_rfl,by kernel_rfl,by kernel_rfl,by kernel_rfl,by kernel_rfl,by kernel_rfl⟩
theorem kip {fuel:Nat} {cs:List Value} {x:DataW H×List MemPlace} (h:DataW.trod enc prog w base spare held fuel 3 cs=some x):∃ n,cs=[.int .i64 n]/\kiq n:=by obtain ⟨n,hn,_,a⟩:=DataW.trod_int underlying3 h;exact ⟨n,hn,ks0 a⟩
end
section
variable {H:Type} {enc:TypeId×Value->H} {w:World} {base:Nat} {spare:Nat->Bool} {held:Bool}
end
def imin (a b:Int):Int:=if b<a then b else a
def imax (a b:Int):Int:=if a<b then b else a
def quo (k:IntKind) (a b:Int):Option Int:=if b=0 then none else some (k.wrap (a.tdiv b))
def rem (k:IntKind) (a b:Int):Option Int:=if b=0 then none else some (a.tmod b)
section
variable {P:Program} {F S0:Nat->Prop} {N0:Nat} {w w':World} {S S':Nat->Prop} {ψ:Env} {K:Nat->Prop} {T:List (TypeId×TD)} {o:Oper} {a:Act} {st:St} {t:TypeId} {d:TD}
theorem kxn {x y:Operand} {ts:Array TypeId} {k k':IntKind} {m n:Int} (ho:o.op = .call { callee := .builtin .min,args:=#[x,y],argTypes:=ts }) (c:st.eval x = .fz (.atom (.int k m))) (hy:st.eval y = .fz (.atom (.int k' n))):NStep P o st (.fz (.atom (.int k (imin m n)))):=by intro ψ S a w ht _;have h1:=Sim.eval_tmps ht x;rw [c] at h1;have b:=Sim.eval_tmps ht y;rw [hy] at b;refine kaf (w':=w) (v := .int k (imin m n)) ?_ ⟨kag _, .fz (.atom rfl)⟩;simp [execOp,ho,resolve,invoke,builtin,h1.atom,b.atom,Builtin.min_,Builtin.min2,imin]
theorem kxr {x y:Operand} {ts:Array TypeId} {k k':IntKind} {m n:Int} (ho:o.op = .call { callee := .builtin .max,args:=#[x,y],argTypes:=ts }) (c:st.eval x = .fz (.atom (.int k m))) (hy:st.eval y = .fz (.atom (.int k' n))):NStep P o st (.fz (.atom (.int k (imax m n)))):=by intro ψ S a w ht _;have h1:=Sim.eval_tmps ht x;rw [c] at h1;have b:=Sim.eval_tmps ht y;rw [hy] at b;refine kaf (w':=w) (v := .int k (imax m n)) ?_ ⟨kag _, .fz (.atom rfl)⟩;simp [execOp,ho,resolve,invoke,builtin,h1.atom,b.atom,Builtin.max_,Builtin.max2,imax]
theorem RF.take {v:Value} {size n k:Nat} {A:Option Addr} {cap:Nat} {xs:List FV} (h:RF S w (.slice A n cap) (.lst size n xs)) (lo hi:Nat) (h1:lo<=hi) (f:hi<=n):∃ A',A'=(if cap=lo then A else A.map (·.add (lo*size)))/\RF S w (.slice A' (hi - lo) (cap - lo)) (.lst size (hi - lo) ((xs.take hi).drop lo)):=by
 obtain ⟨A0,cap0,css,hv,hn,hc,hm,hs,ha,hl,hr⟩:=h.lst_inv;injection hv with e1 _ e3;subst e1 e3;have c:(xs.take hi).length=hi:=by rw [qam];omega
 have get:∀ (i:Nat) (x:FV),((xs.take hi).drop lo)[i]?=some x->xs[lo+i]?=some x:=fun i x a=>by
  rw [qae,qw] at a;split at a;exact a
  ·cases a
 refine ⟨_,rfl, .lst (fun i=>css (lo+i)) (by rw [qba,c]) (by omega) (by omega) hs (fun i x a=>?_) (fun i x a=>hl _ x (get i x a)) fun i x j v y a hv hy=>hr _ x j v y (get i x a) hv hy⟩;obtain ⟨b,o,hA,hS,d⟩:=ha _ x (get i x a);have e:=(qd.1 (get i x a)).1;refine ⟨b,o+lo*size,?_,hS,by rw [Nat.add_assoc,<- qa4];exact d⟩;rw [qh (by omega),hA];simp only [qa9,kbl]
def zipS:List (Nat×AV)->List AV->List (Nat×AV)
 | (t,_)::l,v::vs=>(t,v)::zipS l vs
 | _,_=>[]
theorem kpo {v:Nat->Value} {K:Nat->Prop}:∀ {l:List (Nat×AV)} {vs:List AV} (t:Nat),(∀ (i:Nat) (k:Nat×AV) (x:AV),l[i]?=some k->vs[i]?=some x->RV ψ K S w (v k.1) x)->RV ψ K S w (v t) (look .any (zipS l vs) t)
 | [],vs,t,h=>by cases vs <;> exact .any
 | (k,y)::l,[],t,h => .any
 | (k,y)::l,x::vs,t,h=>by
  simp only [zipS,ka5];split;rename_i hk;subst hk;exact h 0 _ x rfl rfl
  ·exact kpo t fun i k x hk a=>h (i+1) k x (by simpa using hk) (by simpa using a)
def argT:Nat->List AV->List (Nat×AV)
 | _,[]=>[]
 | i,x::l=>(i,x)::argT (i+1) l
theorem kg7:∀ (l:List AV) (i t:Nat),look .any (argT i l) t = .any\/∃ x,i<=t/\l[t - i]?=some x/\look .any (argT i l) t=x
 | [],i,t => .inl rfl
 | x::l,i,t=>by
  simp only [argT,ka5];by_cases h:i=t;subst h;exact .inr ⟨x,qt _,by simp,by simp⟩
  ·rw [qh h];rcases kg7 l (i+1) t with h1 | ⟨y,h1,a,b⟩;exact .inl h1
   ·exact .inr ⟨y,by omega,by rw [show t - i=(t - (i+1))+1 by omega];simpa using a,b⟩
def inlQ (P:Program) (ops:Array Oper) (l:List Oper) (dst:Option Nat) (n:Nat) (D:List Deferred) (g:Nat) (cs:List Value) (keep:List (Nat×AV)) (rs:List ResultVar) (Q:Exit->St->Prop):Exit->St->Prop:=fun e st'=>
 (e = .normal\/e = .ret)/\st'.dfr=[]/\∃ vs r,kab st'.heap g=some (.gho cs vs)/\((rs=[]/\r = .any)\/∃ z,rs=[.tmp z]/\st'.get z=r) /\
  awpL P ops l (({ n:=n,tmps:=zipS keep vs,heap:=kb6 g st'.heap,ids:=st'.ids,dfr:=D }:St).put dst r) Q
theorem kwa {f:FuncId} {fn:Func} {c:Code} {ops:Array Oper} {l:List Oper} {Q:Exit->St->Prop} {x:Operand} {args:Array Operand} {ts:Array TypeId} {cap:List AV} {n g:Nat} {as_:List AV} (ho:o.op = .call { callee := .value x,args:=args,argTypes:=ts })
  (G : st.eval x = .fn f cap) (hg : ka8 ops st o = some true) (hd : ∀ t, o.dst = some t -> t < st.n) (hf : P.funcs[f]? = some fn) (T : fn.body = some c) (hn : (fn.name == "runtime.NumGoroutine") = false) (U : fn.ntmps = n) (H : args.toList.map st.eval ++ cap = as_) (I : Nat.ble as_.length n = true) (j : st.ids.contains g = false)
  (h:∀ cs,awp P c { n:=n,tmps:=argT 0 as_,heap:=(g, .gho cs (st.tmps.map fun p=>st.get p.1))::st.heap,ids:=g::st.ids } (inlQ P ops l o.dst st.n st.dfr g cs st.tmps fn.results.toList Q)):
  awpL P ops (o::l) st Q:=by
 have I:=qk I;have j:g∉st.ids:=by simpa using j
 intro F S0 N0 ψ S a w hs;unfold wpList;rw [kcw hs hg];refine .inl ?_;have A:=hs.eval x;rw [G] at A;obtain ⟨caps,hcx,V,X⟩:∃ caps:Array Value,a.eval x = .func (.func f) #[] caps/\caps.size=cap.length/\∀ (i:Nat) (v:Value) (y:AV),caps[i]?=some v->cap[i]?=some y->RV ψ (·∈st.ids) S w v y:=by
  generalize a.eval x=u at A;cases A with
  | fn h hr=>exact ⟨_,rfl,h,hr⟩
 have Y:fn.body≠none:=by rw [T];simp
 simp only [beq_eq_false_iff_ne,ne_eq] at hn;have J:(execOp a.eval o).run P w = .ok (.enter f (args.map a.eval++caps)) w:=by simp [execOp,ho,resolve,hcx,Deferred.ofValue,invoke,callFunc,hf,Y,hn]
 unfold Oper.wp;rw [J];show Calls P f (args.map a.eval++caps) w _;refine calls_of_wp hf T ?_
 -- the values of the caller's frame
 have B:=hs.core.add (n:=0) (v := .nilFunc) (w':=w) (ob := .gho (st.tmps.map fun p=>a.tmps.getD p.1 undef) (st.tmps.map fun p=>st.get p.1)) (kag _) j (fun b T=>by cases T)
  ⟨kbz _ _,by rw [kar];rfl,by rw [kar];rfl,fun i v x hv G=>by simp only [qr,qp] at hv G;obtain ⟨p,hp,rfl⟩:=hv;obtain ⟨q,s,rfl⟩:=G;rw [hp] at s;injection s with s;subst s;exact (hs.tmps p.1).keep (kb2 j _ _) (fun _ h=>qs _ h) (fun _ h=>h) (fun _ _ _=>rfl)⟩
 have K:(args.map a.eval++caps).size=as_.length:=by rw [<- H];simp [V]
 have L:∀ (i:Nat) (v:Value) (y:AV),(args.map a.eval++caps)[i]?=some v->as_[i]?=some y->RV ψ (·∈st.ids) S w v y:=fun i v y hv hy=>by
  rw [<- H] at hy;by_cases hi:i<args.size;rw [qa7 (by simpa using hi)] at hv;rw [qy (by simpa using hi)] at hy;simp only [Array.getElem?_map,qp,qr,qav] at hv hy;obtain ⟨p,hp,rfl⟩:=hv;obtain ⟨q,s,rfl⟩:=hy;rw [hp] at s;injection s with s;subst s;exact hs.eval p
  ·rw [Array.getElem?_append_right (by simpa using hi)] at hv;rw [qac (by simpa using hi)] at hy;exact X _ v y (by simpa using hv) (by simpa using hy)
 have M:Sim F S0 N0 { n:=n,tmps:=argT 0 as_,heap:=(g, .gho (st.tmps.map fun p=>a.tmps.getD p.1 undef) (st.tmps.map fun p=>st.get p.1))::st.heap,ids:=g::st.ids } (ψ.set g 0 .nilFunc) S
   { tmps:=(args.map a.eval++caps)++Array.replicate (fn.ntmps - (args.map a.eval++caps).size) undef,defers:=[] } w:=by
  refine ⟨rfl,by rw [Array.size_append,K,Array.size_replicate,U];show _=n;omega,fun t=>?_,B⟩;show RV _ _ _ w _ (look .any (argT 0 as_) t);rcases kg7 as_ 0 t with h | ⟨y,_,h1,m⟩;rw [h];exact .any
  ·rw [m];have h1:as_[t]?=some y:=(by simpa using h1);have C:t<(args.map a.eval++caps).size:=(by rw [K];exact (qd.1 h1).1);have Z:((args.map a.eval++caps)++Array.replicate (fn.ntmps - (args.map a.eval++caps).size) undef).getD t undef=(args.map a.eval++caps)[t]:=(by rw [qap,qa7 C,Array.getElem?_eq_getElem C];rfl);rw [Z];exact (L t _ y (Array.getElem?_eq_getElem C) h1).keep (kb2 j _ _) (fun _ h=>qs _ h) (fun _ h=>h) (fun _ _ _=>rfl)
 refine wp_mono (h _ F S0 N0 _ S _ w M) ?_;rintro e a' w' ⟨st',ψ',S',⟨he,aa,vs,r,ab,ac,D⟩,m,h3⟩;have fin:a'.defers=[]/\∃ v,(results fn a'.tmps).run P w' = .ok v w'/\wpList P ops (PostA F S0 N0 w Q) l (a.put o.dst v) w':=by
  refine ⟨m.defers.trans aa,?_⟩;have N:∃ v,(results fn a'.tmps).run P w' = .ok v w'/\RV ψ' (·∈st'.ids) S' w' v r:=by
   rcases ac with ⟨hz,rfl⟩ | ⟨z,hz,ad⟩;refine ⟨.tuple #[],?_, .any⟩;have:fn.results=#[]:=(by apply qa8;simpa using hz);simp [results,this]
   ·refine ⟨a'.tmps.getD z undef,?_,by rw [<- ad];exact m.tmps z⟩;have:fn.results=#[.tmp z]:=(by apply qa8;simpa using hz);simp [results,this]
  obtain ⟨v,ae,af⟩:=N;refine ⟨v,ae,?_⟩;obtain ⟨_,⟨_,_,_,ag⟩,_⟩:=m.core.obj g _ ab;have O:Core F S0 N0 (kb6 g st'.heap) st'.ids ψ' S' w':=by refine ⟨fun i ob ho=>m.core.obj i ob (kda g ho).2,fun i i' ob ob' b ho ah=>m.core.inj i i' ob ob' b (kda g ho).2 (kda g ah).2,m.core.lt,m.core.s0,m.core.n0,m.core.fr⟩
  have E:Sim F S0 N0 { n:=st.n,tmps:=zipS st.tmps vs,heap:=kb6 g st'.heap,ids:=st'.ids,dfr:=st.dfr } ψ' S' a w':=by refine ⟨hs.defers,hs.size,fun t=>?_,O⟩;exact kpo (v:=fun t=>a.tmps.getD t undef) t fun i k x hk G=>ag i _ x (by rw [qr,hk];rfl) G
  have R:=E.put (st':={ n:=st.n,tmps:=zipS st.tmps vs,heap:=kb6 g st'.heap,ids:=st'.ids,dfr:=st.dfr }) (d:=o.dst) rfl rfl rfl O af Ext.refl (fun _ h=>h) (fun _ h=>h) (fun _ _ _=>rfl) hd;exact kbu (fun e a'' w'' k=>k.pre h3) _ _ _ (D F S0 N0 ψ' S' _ w' R)
 rcases he with rfl | rfl <;> exact fin
end
namespace RE
open Go Go.RowKit Go.Proofs.Tryz
structure Tr (M:Nat->Prop) (w w':World):Prop where
 os:w'.os=w.os
 tape:w'.tape=w.tape
 output:w'.output=w.output
 size:w.heap.size<=w'.heap.size
 block:∀ b,b<w.heap.size->¬ M b->w'.heap[b]?=w.heap[b]?
inductive Gd (M:Nat->Prop) where
 | det (c:Value)
 | rel (G:Value->World->Prop) (h:∀ v w w',G v w->Tr M w w'->G v w')
 | relE (G:Value->World->Prop) (h:∀ v w w',G v w->Below w.heap.size w w'->G v w')
def Gd.holds {M:Nat->Prop}:Gd M->Value->World->Prop
 | .det c,v,_=>v=c
 | .rel G _,v,w=>G v w
 | .relE G _,v,w=>G v w
section
variable {P:Program}
variable {M:Nat->Prop} {e:Nat} {D:World->Prop} {gs:List (Gd M)} {l:List Oper} {xs:Nat->Value} {a0:Act}
structure k0w {M:Nat->Prop} (e:Nat) (D:World->Prop) (gs:List (Gd M)) (l:List Oper) (C:World->Prop) (a0:Act) (listed:Array Bool) (a:Act) (w:World):Prop where
 inC:C w
 inD:listed.getD e false=false->D w
 defers:a.defers=a0.defers
 size:a.tmps.size=a0.tmps.size
 lsize:listed.size=l.length
 closed:∀ k o,listed.getD k false=true->l[k]?=some o->∀ e∈o.after,Region.binds .any e=true->listed.getD e.on false=true
 vals:∃ xs:Nat->Value,∀ j g,gs[j]?=some g->listed.getD j false=true->g.holds (xs j) w/\∀ o d,l[j]?=some o->o.dst=some d->a.tmps[d]?=some (xs j)
 rest:∀ t,(∀ j o,listed.getD j false=true->l[j]?=some o->o.dst≠some t)->a.tmps[t]?=a0.tmps[t]?
end
end RE
def kfg (P:Program) (o:Oper) (st:St) (m:Nat) (om:AObj) (c:AV) (om':AObj):Prop:=
 ∀ F S0 N0 ψ S a w,(∀ t,RV ψ (·∈st.ids) S w (a.tmps.getD t undef) (st.get t))->Core F S0 N0 [(m,om)] st.ids ψ S w->kcv P o a w fun v w'=>∃ n u,Core F S0 N0 [(m,om')] st.ids (ψ.set m n u) S w'/\RV (ψ.set m n u) (·∈st.ids) S w' v c/\Fr F w w' /\
  (ψ.len m<n\/(ψ.len m=n/\u=ψ.val m))/\(∀ b,Blk u b->Blk (ψ.val m) b\/w.heap.size<=b)
section
variable {P:Program} {F S0:Nat->Prop} {N0:Nat} {w w':World} {S S':Nat->Prop} {ψ ψ':Env} {K K':Nat->Prop} {o:Oper} {a:Act} {st:St} {T:List (TypeId×TD)} {t:TypeId} {d:TD}
theorem kkk {e:TypeId} {size:Nat} {xs:List FV} {v:Value} {cs:List Value} (k:0<size) (d:w.ownsRow 0 e size v xs.length cs) (n:ElR size xs) (hr:RowR S w size xs cs):RF (fun b=>S b\/kav v=some b) w v (.lst size xs.length xs):=by
 rcases d.2 with ⟨hv,o⟩ | ⟨g,cap,cur,hv,_,r,p,l,s,q⟩;have:xs=[]:=List.eq_nil_of_length_eq_zero o;subst this;rw [hv];exact .lst (A:=none) (cap:=0) (xs:=[]) (fun _=>[]) rfl (qt _) (by omega) k (fun i x a=>by simp at a) (fun i x a=>by simp at a) (fun i x j v y a=>by simp at a)
 ·rw [hv];have m:∀ i x,xs[i]?=some x->(i+1)*size<=cs.length:=fun i x a=>by rw [d.1];exact qay _ (qd.1 a).1
  refine .lst (fun i=>(cs.drop (i*size)).take size) rfl p (by unfold maxLen at l;exact l) k (fun i x a=>⟨g,0,rfl, .inr (by rfl),fun j u f=>?_⟩) (fun i x a=>?_) fun i x j v y a c hy=>?_
  ·rw [qw] at f;split at f
   ·rw [qae,<- q,qw] at f;split at f;simp only [World.cell?,r,Nat.zero_add];simpa using f
    ·cases f
   ·cases f
  have:=m i x a;rw [qa4] at this;exact ⟨by rw [qam,qba];omega,n x (qm a)⟩
  ·rw [qw] at c;split at c;rw [qae] at c;exact (hr i x j v y a c hy).mono fun _ h => .inl h
   ·cases c
end
end Go.Proofs.YtpnnpkmjohkgiaaGreatDoor
