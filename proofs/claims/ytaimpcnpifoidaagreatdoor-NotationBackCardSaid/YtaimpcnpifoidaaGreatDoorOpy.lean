import Derived.Test.YtaimpcnpifoidaaGreatDoorFin
set_option linter.unusedVariables false
set_option linter.unusedSimpArgs false
namespace Go.Proofs.YtaimpcnpifoidaaGreatDoor
open Go Go.RowKit
def iand (k:IntKind) (a b:Int):Int:=k.wrap (BitVec.ofInt k.bits a &&& BitVec.ofInt k.bits b).toNat
def ior (k:IntKind) (a b:Int):Int:=k.wrap (BitVec.ofInt k.bits a ||| BitVec.ofInt k.bits b).toNat
def kaim (k:IntKind) (a b:Int):Int:=k.wrap (BitVec.ofInt k.bits a &&& ~~~BitVec.ofInt k.bits b).toNat
def imin (a b:Int):Int:=if b<a then b else a
def imax (a b:Int):Int:=if a<b then b else a
def quo (k:IntKind) (a b:Int):Option Int:=if b=0 then none else some (k.wrap (a.tdiv b))
def rem (k:IntKind) (a b:Int):Option Int:=if b=0 then none else some (a.tmod b)
def cutS (s:BA) (lo hi:Int):Option BA:=if 0≤lo∧lo≤hi∧hi≤(s.size:Int) then some (s.extract lo.toNat hi.toNat) else none
def cutL {α:Type} (xs:List α) (lo hi:Int):Option (List α):=if 0≤lo∧lo≤hi∧hi≤(xs.length:Int) then some ((xs.take hi.toNat).drop lo.toNat) else none
section
variable {P:Program} {F S0:Nat→Prop} {N0:Nat} {w w':World} {S S':Nat→Prop} {ψ:Env} {K:Nat→Prop} {T:List (TypeId×TD)} {o:Oper} {a:Act} {st:St} {t:TypeId} {d:TD}
theorem s_min {x y:Operand} {ts:Array TypeId} {k k':IntKind} {m n:Int} (ho:o.op = .call { callee := .builtin .min,args:=#[x,y],argTypes:=ts }) (hx:st.eval x = .fz (.atom (.int k m))) (hy:st.eval y = .fz (.atom (.int k' n))):NStep P o st (.fz (.atom (.int k (imin m n)))):=by
 intro ψ S a w ht _
 have h1:=Sim.eval_tmps ht x
 rw [hx] at h1
 have h2:=Sim.eval_tmps ht y
 rw [hy] at h2
 refine kam (w':=w) (v := .int k (imin m n)) ?_ ⟨kaj _, .fz (.atom rfl)⟩
 simp [execOp,ho,resolve,invoke,builtin,h1.atom,h2.atom,Builtin.min_,Builtin.min2,imin]
theorem s_max {x y:Operand} {ts:Array TypeId} {k k':IntKind} {m n:Int} (ho:o.op = .call { callee := .builtin .max,args:=#[x,y],argTypes:=ts }) (hx:st.eval x = .fz (.atom (.int k m))) (hy:st.eval y = .fz (.atom (.int k' n))):NStep P o st (.fz (.atom (.int k (imax m n)))):=by
 intro ψ S a w ht _
 have h1:=Sim.eval_tmps ht x
 rw [hx] at h1
 have h2:=Sim.eval_tmps ht y
 rw [hy] at h2
 refine kam (w':=w) (v := .int k (imax m n)) ?_ ⟨kaj _, .fz (.atom rfl)⟩
 simp [execOp,ho,resolve,invoke,builtin,h1.atom,h2.atom,Builtin.max_,Builtin.max2,imax]
def kso (st:St):Option Operand→Option (Option Int)
 | none=>some none
 | some x=>match st.eval x with
  | .fz (.atom (.int _ n))=>some (some n)
  | _=>none
theorem krr {ids:List Nat} (ht:∀ t,RV ψ (·∈ids) S w (a.tmps.getD t undef) (st.get t)) {x:Option Operand} {r:Option Int} (h:kso st x=some r):(x=none∧r=none)∨∃ y k n,x=some y∧r=some n∧a.eval y = .int k n:=by
 unfold kso at h
 split at h
 ·injection h with h;exact .inl ⟨rfl,h.symm⟩
 ·rename_i y
  split at h
  ·rename_i k n hk
   injection h with h
   have h1:=Sim.eval_tmps ht y
   rw [hk] at h1
   exact .inr ⟨y,k,n,rfl,h.symm,h1.atom⟩
  ·cases h
theorem kjv {x:Operand} {lo hi:Option Operand} {l h:Option Int} {s r:BA} (hc:cutS s (l.getD 0) (h.getD s.size)=some r) (hT:TOk P T) (ho:o.op = .slice t x lo hi none:=by kernel_rfl) (hd:ka3 T t=some d:=by kernel_rfl) (hk:d.kind = .str:=by kernel_rfl) (hx:st.eval x = .fz (.atom (.string s)):=by kernel_rfl) (hl:kso st lo=some l:=by kernel_rfl) (hh:kso st hi=some h:=by kernel_rfl):
  NStep P o st (.fz (.atom (.string r))):=by
 intro ψ S a w ht hO
 have h1:=Sim.eval_tmps ht x
 rw [hx] at h1
 have bl:=krr ht hl
 have bh:=krr ht hh
 unfold cutS at hc
 split at hc
 ·rename_i hb
  injection hc with hc
  subst hc
  refine kam (w':=w) (v := .string (s.extract (l.getD 0).toNat (h.getD s.size).toNat)) ?_ ⟨kaj _, .fz (.atom rfl)⟩
  have hu:=(hT.get hd).str hk
  have e1:(Instr.sliceBounds false s.size s.size (lo.map a.eval) (hi.map a.eval) none).run P w = .ok ((l.getD 0).toNat,(h.getD s.size).toNat,s.size) w:=by
   unfold Instr.sliceBounds
   rcases bh with ⟨rfl,rfl⟩ | ⟨y,k,n,rfl,rfl,hy⟩
   ·rcases bl with ⟨rfl,rfl⟩ | ⟨y',k',n',rfl,rfl,hy'⟩
    ·simp
    ·simp only [qap,Option.getD_none] at hb ⊢
     simp [Instr.sliceBound,hy',asIntOf,hb.1,hb.2.1]
   ·rcases bl with ⟨rfl,rfl⟩ | ⟨y',k',n',rfl,rfl,hy'⟩
    ·simp only [qap,Option.getD_none] at hb ⊢
     simp [Instr.sliceBound,hy,asIntOf,hb.2.1,hb.2.2]
    ·simp only [qap] at hb ⊢
     have:0≤n:=by omega
     have h3:n'≤(n.toNat:Int):=by omega
     simp [Instr.sliceBound,hy,hy',asIntOf,hb.1,hb.2.2,this,h3]
     intro hc;exfalso;omega
  simp [execOp,ho,Instr.sliceAt,Instr.slice,run_underlying hu,h1.atom,e1]
 ·cases hc
theorem RF.take {v:Value} {size n k:Nat} {A:Option Addr} {cap:Nat} {xs:List FV} (h:RF S w (.slice A n cap) (.lst size n xs)) (lo hi:Nat) (h1:lo≤hi) (h2:hi≤n):∃ A',A'=(if cap=lo then A else A.map (·.add (lo*size)))∧RF S w (.slice A' (hi - lo) (cap - lo)) (.lst size (hi - lo) ((xs.take hi).drop lo)):=by
 obtain ⟨A0,cap0,css,hv,hn,hc,hm,hs,ha,hl,hr⟩:=h.lst_inv
 injection hv with e1 _ e3
 subst e1 e3
 have hlen:(xs.take hi).length=hi:=by rw [qai];omega
 have get:∀ (i:Nat) (x:FV),((xs.take hi).drop lo)[i]?=some x→xs[lo+i]?=some x:=fun i x hx=>by
  rw [List.getElem?_drop,List.getElem?_take] at hx
  split at hx
  ·exact hx
  ·cases hx
 refine ⟨_,rfl, .lst (fun i=>css (lo+i)) (by rw [qaq,hlen]) (by omega) (by omega) hs (fun i x hx=>?_) (fun i x hx=>hl _ x (get i x hx)) fun i x j v y hx hv hy=>hr _ x j v y (get i x hx) hv hy⟩
 obtain ⟨b,o,hA,hS,hat⟩:=ha _ x (get i x hx)
 have hlt:=(List.getElem?_eq_some_iff.1 (get i x hx)).1
 refine ⟨b,o+lo*size,?_,hS,by rw [Nat.add_assoc,← Nat.add_mul];exact hat⟩
 rw [if_neg (by omega),hA]
 simp only [qa6,kks]
theorem kabq {α:Type} {enc:α→FV} {x:Operand} {lo hi:Option Operand} {l h:Option Int} {xs r:List α} {size:Nat} {e:TypeId} {de:TD} (hc:cutL xs (l.getD 0) (h.getD xs.length)=some r) (hT:TOk P T) (ho:o.op = .slice t x lo hi none:=by kernel_rfl) (hd:ka3 T t=some d:=by kernel_rfl) (hk:d.kind = .slice e:=by kernel_rfl) (hde:ka3 T e=some de:=by kernel_rfl) (hsz:de.size=size:=by kernel_rfl) (hx:st.eval x = .fz (eL size enc xs):=by kernel_rfl) (hl:kso st lo=some l:=by kernel_rfl) (hh:kso st hi=some h:=by kernel_rfl):NStep P o st (.fz (eL size enc r)):=by
 intro ψ S a w ht hO
 have h1:=Sim.eval_tmps ht x
 rw [hx] at h1
 have bl:=krr ht hl
 have bh:=krr ht hh
 unfold cutL at hc
 split at hc
 ·rename_i hb
  injection hc with hc
  subst hc
  have h1:=h1.inv
  obtain ⟨A,cap,css,hv,hn,hcc,hm,hs,ha,hl',hr⟩:=h1.lst_inv
  rw [hv] at h1
  obtain ⟨A',hA',hr'⟩:=h1.take (v := .nilFunc) (k:=0) (l.getD 0).toNat (h.getD xs.length).toNat (by omega) (by omega)
  refine kam (w':=w) (v := .slice A' ((h.getD xs.length).toNat - (l.getD 0).toNat) (cap - (l.getD 0).toNat)) ?_ ⟨kaj _,(RV.fz ?_).here⟩
  ·have hu:=(hT.get hd).slice hk
   have e1:(Instr.sliceBounds true xs.length cap (lo.map a.eval) (hi.map a.eval) none).run P w = .ok ((l.getD 0).toNat,(h.getD xs.length).toNat,cap) w:=by
    unfold Instr.sliceBounds
    have hcap:(xs.length:Int)≤(cap:Int):=by omega
    rcases bh with ⟨rfl,rfl⟩ | ⟨y,k,n,rfl,rfl,hy⟩
    ·rcases bl with ⟨rfl,rfl⟩ | ⟨y',k',n',rfl,rfl,hy'⟩
     ·simp
     ·simp only [qap,Option.getD_none] at hb ⊢
      simp [Instr.sliceBound,hy',asIntOf,hb.1,hb.2.1]
    ·rcases bl with ⟨rfl,rfl⟩ | ⟨y',k',n',rfl,rfl,hy'⟩
     ·simp only [qap,Option.getD_none] at hb ⊢
      have:n≤(cap:Int):=by omega
      simp [Instr.sliceBound,hy,asIntOf,hb.2.1,this]
     ·simp only [qap] at hb ⊢
      have:0≤n:=by omega
      have h3:n'≤(n.toNat:Int):=by omega
      have h4:n≤(cap:Int):=by omega
      simp [Instr.sliceBound,hy,hy',asIntOf,hb.1,this,h3,h4]
      intro hc;exfalso;omega
   have hss:(sizeOf e).run P w = .ok size w:=by rw [(hT.get hde).size,hsz]
   simp [execOp,ho,Instr.sliceAt,Instr.slice,run_underlying hu,hv,e1,hss,hA']
  ·have:((xs.take (h.getD xs.length).toNat).drop (l.getD 0).toNat).length=(h.getD xs.length).toNat - (l.getD 0).toNat:=by
    rw [qaq,qai];omega
   unfold eL
   rw [this,List.map_drop,List.map_take]
   exact hr'
 ·cases hc
def zipS:List (Nat×AV)→List AV→List (Nat×AV)
 | (t,_)::l,v::vs=>(t,v)::zipS l vs
 | _,_=>[]
theorem kyq {v:Nat→Value} {K:Nat→Prop}:∀ {l:List (Nat×AV)} {vs:List AV} (t:Nat),(∀ (i:Nat) (k:Nat×AV) (x:AV),l[i]?=some k→vs[i]?=some x→RV ψ K S w (v k.1) x)→RV ψ K S w (v t) (look .any (zipS l vs) t)
 | [],vs,t,h=>by cases vs <;> exact .any
 | (k,y)::l,[],t,h => .any
 | (k,y)::l,x::vs,t,h=>by
  simp only [zipS,kdg]
  split
  ·rename_i hk
   subst hk
   exact h 0 _ x rfl rfl
  ·exact kyq t fun i k x hk hx=>h (i+1) k x (by simpa using hk) (by simpa using hx)
def argT:Nat→List AV→List (Nat×AV)
 | _,[]=>[]
 | i,x::l=>(i,x)::argT (i+1) l
theorem kqr:∀ (l:List AV) (i t:Nat),look .any (argT i l) t = .any∨∃ x,i≤t∧l[t - i]?=some x∧look .any (argT i l) t=x
 | [],i,t => .inl rfl
 | x::l,i,t=>by
  simp only [argT,kdg]
  by_cases h:i=t
  ·subst h
   exact .inr ⟨x,qw _,by simp,by simp⟩
  ·rw [if_neg h]
   rcases kqr l (i+1) t with h1 | ⟨y,h1,h2,h3⟩
   ·exact .inl h1
   ·exact .inr ⟨y,by omega,by rw [show t - i=(t - (i+1))+1 by omega];simpa using h2,h3⟩
def inlQ (P:Program) (ops:Array Oper) (l:List Oper) (dst:Option Nat) (n:Nat) (D:List Deferred) (g:Nat) (cs:List Value) (keep:List (Nat×AV)) (rs:List ResultVar) (Q:Exit→St→Prop):Exit→St→Prop:=fun e st'=>
 (e = .normal∨e = .ret)∧st'.dfr=[]∧∃ vs r,kab st'.heap g=some (.gho cs vs)∧((rs=[]∧r = .any)∨∃ z,rs=[.tmp z]∧st'.get z=r) ∧
  awpL P ops l (({ n:=n,tmps:=zipS keep vs,heap:=kc2 g st'.heap,ids:=st'.ids,dfr:=D }:St).put dst r) Q
theorem kafa {f:FuncId} {fn:Func} {c:Code} {ops:Array Oper} {l:List Oper} {Q:Exit→St→Prop} {x:Operand} {args:Array Operand} {ts:Array TypeId} {cap:List AV} {n g:Nat} {as_:List AV} (ho:o.op = .call { callee := .value x,args:=args,argTypes:=ts })
  (hx : st.eval x = .fn f cap) (hg : kdv ops st o = some true) (hd : ∀ t, o.dst = some t → t < st.n) (hf : P.funcs[f]? = some fn) (hb : fn.body = some c) (hn : (fn.name == "runtime.NumGoroutine") = false) (hnt : fn.ntmps = n) (has : args.toList.map st.eval ++ cap = as_) (hle : Nat.ble as_.length n = true) (hgi : st.ids.contains g = false)
  (h:∀ cs,awp P c { n:=n,tmps:=argT 0 as_,heap:=(g, .gho cs (st.tmps.map fun p=>st.get p.1))::st.heap,ids:=g::st.ids } (inlQ P ops l o.dst st.n st.dfr g cs st.tmps fn.results.toList Q)):
  awpL P ops (o::l) st Q:=by
 have hle:=qac hle
 have hgi:g∉st.ids:=by simpa using hgi
 intro F S0 N0 ψ S a w hs
 unfold wpList
 rw [kjw hs hg]
 refine .inl ?_
 have hvx:=hs.eval x
 rw [hx] at hvx
 obtain ⟨caps,hcx,hcs,hcr⟩:∃ caps:Array Value,a.eval x = .func (.func f) #[] caps∧caps.size=cap.length∧∀ (i:Nat) (v:Value) (y:AV),caps[i]?=some v→cap[i]?=some y→RV ψ (·∈st.ids) S w v y:=by
  generalize a.eval x=u at hvx
  cases hvx with
  | fn h hr=>exact ⟨_,rfl,h,hr⟩
 have hb':fn.body≠none:=by rw [hb];simp
 simp only [qy,ne_eq] at hn
 have hrun:(execOp a.eval o).run P w = .ok (.enter f (args.map a.eval++caps)) w:=by
  simp [execOp,ho,resolve,hcx,Deferred.ofValue,invoke,callFunc,hf,hb',hn]
 unfold Oper.wp
 rw [hrun]
 show Calls P f (args.map a.eval++caps) w _
 refine calls_of_wp hf hb ?_
 -- the values of the caller's frame
 have hcore:=hs.core.add (n:=0) (v := .nilFunc) (w':=w) (ob := .gho (st.tmps.map fun p=>a.tmps.getD p.1 undef) (st.tmps.map fun p=>st.get p.1)) (kaj _) hgi (fun b hb=>by cases hb)
  ⟨ke1 _ _,by rw [kbn];rfl,by rw [kbn];rfl,fun i v x hv hx=>by
   simp only [List.getElem?_map,qj] at hv hx
   obtain ⟨p,hp,rfl⟩:=hv
   obtain ⟨q,hq,rfl⟩:=hx
   rw [hp] at hq
   injection hq with hq
   subst hq
   exact (hs.tmps p.1).keep (keo hgi _ _) (fun _ h=>qk _ h) (fun _ h=>h) (fun _ _ _=>rfl)⟩
 have hsz:(args.map a.eval++caps).size=as_.length:=by rw [← has];simp [hcs]
 have harg:∀ (i:Nat) (v:Value) (y:AV),(args.map a.eval++caps)[i]?=some v→as_[i]?=some y→RV ψ (·∈st.ids) S w v y:=fun i v y hv hy=>by
  rw [← has] at hy
  by_cases hi:i<args.size
  ·rw [Array.getElem?_append_left (by simpa using hi)] at hv
   rw [List.getElem?_append_left (by simpa using hi)] at hy
   simp only [Array.getElem?_map,qj,List.getElem?_map,Array.getElem?_toList] at hv hy
   obtain ⟨p,hp,rfl⟩:=hv
   obtain ⟨q,hq,rfl⟩:=hy
   rw [hp] at hq
   injection hq with hq
   subst hq
   exact hs.eval p
  ·rw [Array.getElem?_append_right (by simpa using hi)] at hv
   rw [List.getElem?_append_right (by simpa using hi)] at hy
   exact hcr _ v y (by simpa using hv) (by simpa using hy)
 have hsim:Sim F S0 N0 { n:=n,tmps:=argT 0 as_,heap:=(g, .gho (st.tmps.map fun p=>a.tmps.getD p.1 undef) (st.tmps.map fun p=>st.get p.1))::st.heap,ids:=g::st.ids } (ψ.set g 0 .nilFunc) S
   { tmps:=(args.map a.eval++caps)++Array.replicate (fn.ntmps - (args.map a.eval++caps).size) undef,defers:=[] } w:=by
  refine ⟨rfl,by rw [Array.size_append,hsz,Array.size_replicate,hnt];show _=n;omega,fun t=>?_,hcore⟩
  show RV _ _ _ w _ (look .any (argT 0 as_) t)
  rcases kqr as_ 0 t with h | ⟨y,_,h1,h2⟩
  ·rw [h];exact .any
  ·rw [h2]
   have h1:as_[t]?=some y:=by simpa using h1
   have hlt:t<(args.map a.eval++caps).size:=by rw [hsz];exact (List.getElem?_eq_some_iff.1 h1).1
   have hgd:((args.map a.eval++caps)++Array.replicate (fn.ntmps - (args.map a.eval++caps).size) undef).getD t undef=(args.map a.eval++caps)[t]:=by
    rw [qaj,Array.getElem?_append_left hlt,Array.getElem?_eq_getElem hlt]
    rfl
   rw [hgd]
   exact (harg t _ y (Array.getElem?_eq_getElem hlt) h1).keep (keo hgi _ _) (fun _ h=>qk _ h) (fun _ h=>h) (fun _ _ _=>rfl)
 refine wp_mono (h _ F S0 N0 _ S _ w hsim) ?_
 rintro e a' w' ⟨st',ψ',S',⟨he,hdf,vs,r,hgo,hr1,hnext⟩,h2,h3⟩
 have fin:a'.defers=[]∧∃ v,(results fn a'.tmps).run P w' = .ok v w'∧wpList P ops (PostA F S0 N0 w Q) l (a.put o.dst v) w':=by
  refine ⟨h2.defers.trans hdf,?_⟩
  have hval:∃ v,(results fn a'.tmps).run P w' = .ok v w'∧RV ψ' (·∈st'.ids) S' w' v r:=by
   rcases hr1 with ⟨hz,rfl⟩ | ⟨z,hz,hz2⟩
   ·refine ⟨.tuple #[],?_, .any⟩
    have:fn.results=#[]:=by apply Array.ext'; simpa using hz
    simp [results,this]
   ·refine ⟨a'.tmps.getD z undef,?_,by rw [← hz2];exact h2.tmps z⟩
    have:fn.results=#[.tmp z]:=by apply Array.ext'; simpa using hz
    simp [results,this]
  obtain ⟨v,hv1,hv2⟩:=hval
  refine ⟨v,hv1,?_⟩
  obtain ⟨_,⟨_,_,_,hgr⟩,_⟩:=h2.core.obj g _ hgo
  have hcd:Core F S0 N0 (kc2 g st'.heap) st'.ids ψ' S' w':=by
   refine ⟨fun i ob ho=>h2.core.obj i ob (keg g ho).2,fun i i' ob ob' b ho ho'=>h2.core.inj i i' ob ob' b (keg g ho).2 (keg g ho').2,h2.core.lt,h2.core.s0,h2.core.n0,h2.core.fr⟩
  have hbase:Sim F S0 N0 { n:=st.n,tmps:=zipS st.tmps vs,heap:=kc2 g st'.heap,ids:=st'.ids,dfr:=st.dfr } ψ' S' a w':=by
   refine ⟨hs.defers,hs.size,fun t=>?_,hcd⟩
   exact kyq (v:=fun t=>a.tmps.getD t undef) t fun i k x hk hx=>hgr i _ x (by rw [List.getElem?_map,hk];rfl) hx
  have hput:=hbase.put (st':={ n:=st.n,tmps:=zipS st.tmps vs,heap:=kc2 g st'.heap,ids:=st'.ids,dfr:=st.dfr }) (d:=o.dst) rfl rfl rfl hcd hv2 Ext.refl (fun _ h=>h) (fun _ h=>h) (fun _ _ _=>rfl) hd
  exact kge (fun e a'' w'' k=>k.pre h3) _ _ _ (hnext F S0 N0 ψ' S' _ w' hput)
 rcases he with rfl | rfl <;> exact fin
end
end Go.Proofs.YtaimpcnpifoidaaGreatDoor
