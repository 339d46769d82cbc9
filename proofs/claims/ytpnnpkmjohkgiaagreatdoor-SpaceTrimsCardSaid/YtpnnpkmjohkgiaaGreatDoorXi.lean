import Derived.Test.YtpnnpkmjohkgiaaGreatDoorXh
import Derived.Test.YtpnnpkmjohkgiaaGreatDoorXl
set_option linter.all false
namespace Go.Proofs.YtpnnpkmjohkgiaaGreatDoor
open Go Go.RowKit
def FT.ok (P:Program):FT->Prop
 | .lf=>True
 | .nd k v l r => (P.funcs[k]? = some v /\ (v.name == "runtime.NumGoroutine") = false) /\ FT.ok P l /\ FT.ok P r
def IbOk (P : Program) (f : Nat) : Prop := ∃ fn, P.funcs[f]? = some fn /\ (fn.name == "runtime.NumGoroutine") = false /\ fn.body.isNone = true /\ Extern.findNext fn = none /\ Extern.find fn = some Extern.BytealgIndexByte.indexByte
structure CxOk (P:Program) (C:Cx):Prop where
 T:TOk P C.T
 Z:ZOk P C.Z
 fn:C.fn.ok P
 fx:∀ p∈C.fx,PCall P p.1 p.2.1 p.2.2
 ib:∀ f∈C.ib,IbOk P f
 mixed:P.follows .mixedOrders=true
def EvOk (P:Program) (ih:EvT):Prop:=∀ mu c s e s1,ih mu c s=some (e,s1)->(∀ D,XC P c (s.st D) e (s1.st D))/\okX e=true/\LG s s1/\s1.n=s.n
section
variable {P:Program} {F S0:Nat->Prop} {N0:Nat} {w w' w0:World} {S S':Nat->Prop} {ψ ψ':Env} {K:Nat->Prop} {T:List (TypeId×TD)} {Z:List (TypeId×Value)} {o:Oper} {a a':Act} {st st' st1 st2:St} {t tx:TypeId} {d:TD} {id:Nat} {c:AV} {s s1 s2:XS} {e:Exit} {C:Cx} {ih:EvT}
theorem FT.get_ok {v : Func} {f : Nat} : ∀ {tr : FT}, tr.ok P -> tr.get f = some v -> P.funcs[f]? = some v /\ (v.name == "runtime.NumGoroutine") = false
 | .lf,_,h=>by cases h
 | .nd k u l r,ho,h=>by
  obtain ⟨h0,hl,hr⟩:=ho;have hs:(FT.nd k u l r).get f=Bool.rec (motive:=fun _=>Option Func) (Bool.rec (motive:=fun _=>Option Func) (r.get f) (l.get f) (Nat.blt f k)) (some u) (Nat.beq k f):=rfl;rw [hs] at h;cases hk:Nat.beq k f with
  | true=>
   rw [hk] at h;injection h with h;rw [<- qf hk,<- h];exact h0
  | false=>
   rw [hk] at h;simp only at h;cases a:Nat.blt f k with
   | true=>rw [a] at h;exact FT.get_ok hl h
   | false=>rw [a] at h;exact FT.get_ok hr h
theorem ko1 (c:TOk P T) (hs:Sim F S0 N0 st ψ S a w):∀ {rs:List ResultVar} {ys:List AV},kkp T st.eval (kab st.heap) rs=some ys ->
  ∃ vs:List Value,(rs.mapM (kds a.tmps)).run P w = .ok vs w/\vs.length=ys.length/\∀ (i:Nat) (v:Value) (y:AV),vs[i]?=some v->ys[i]?=some y->RV ψ (·∈st.ids) S w v y
 | [],ys,h=>by simp only [kkp,qb] at h;subst h;exact ⟨[],by simp,rfl,fun i v y h=>by simp at h⟩
 | r::rs,ys,h=>by
  simp only [kkp] at h;split at h
  ·rename_i y ys' h1 e;injection h with h;subst h;obtain ⟨vs,k1,k2,k3⟩:=ko1 c hs e;have key:∃ v,(kds a.tmps r).run P w = .ok v w/\RV ψ (·∈st.ids) S w v y:=by
    unfold resE at h1;split at h1;rename_i t;injection h1 with h1;subst h1;exact ⟨_,rfl,hs.tmps t⟩
    ·rename_i x t;split at h1;rename_i d xs f g;obtain ⟨b,off,e1,hcl⟩:=knd (hs.tmps x) (fun id o ho=>(hs.core.obj id o ho).2.1) g;obtain ⟨u,e2,e3⟩:=kmk (P:=P) (c.get f) hcl h1;refine ⟨u,?_,e3⟩;simp only [kds,e1,asAddr,Sem.run_bind,Sem.run_pure,Result.andThen_ok,e2]
     ·cases h1
   obtain ⟨v,e1,e2⟩:=key;refine ⟨v::vs,?_,by simp [k2],fun i v' y' hv hy=>?_⟩;rw [List.mapM_cons];simp only [Sem.run_bind,e1,Result.andThen_ok,k1,Sem.run_pure]
   ·cases i with
    | zero=>simp at hv hy;subst hv hy;exact e2
    | succ i=>exact k3 i v' y' (by simpa using hv) (by simpa using hy)
  ·cases h
theorem kqy (d:TOk P T) (hs:Sim F S0 N0 st ψ S a w) {fn:Func} {y:AV} (h:retE T st.eval (kab st.heap) fn.results.toList=some y):∃ v,(results fn a.tmps).run P w = .ok v w/\RV ψ (·∈st.ids) S w v y:=by
 unfold retE at h;have key:∀ ys,kkp T st.eval (kab st.heap) fn.results.toList=some ys->∃ vs:List Value,(results fn a.tmps).run P w = .ok (if h:vs.length=1 then vs[0] else .tuple vs.toArray) w/\vs.length=ys.length/\∀ (i:Nat) (v:Value) (y:AV),vs[i]?=some v->ys[i]?=some y->RV ψ (·∈st.ids) S w v y:=fun ys hy=>by
  obtain ⟨vs,k1,k2,k3⟩:=ko1 d hs hy;refine ⟨vs,?_,k2,k3⟩;unfold results;rw [Array.mapM_eq_mapM_toList];have b:∀ (g:ResultVar->Sem Value),(∀ x,g x=kds a.tmps x)->(fn.results.toList.mapM g).run P w = .ok vs w:=fun g b=>by rw [show g=kds a.tmps from funext b];exact k1
  simp only [Sem.run_bind,Sem.run_map];rw [b _ fun x=>by cases x <;> rfl];simp only [Result.andThen_ok,Sem.run_pure];simp
 split at h
 ·rename_i z e;injection h with h;subst h;obtain ⟨vs,k1,k2,k3⟩:=key _ e;have hl:vs.length=1:=by simpa using k2
  rw [dif_pos hl] at k1;exact ⟨_,k1,k3 0 _ _ (qa (by omega)) rfl⟩
 ·rename_i ys c hy;injection h with h;subst h;obtain ⟨vs,k1,k2,k3⟩:=key _ hy;have hl:¬ vs.length=1:=fun hl=>by rw [k2] at hl;obtain ⟨z,rfl⟩:=List.length_eq_one_iff.1 hl;exact c z rfl
  rw [dif_neg hl] at k1;exact ⟨_,k1,RV.tupA (by simpa using k2) fun i v x hv f=>k3 i v x (by simpa using hv) f⟩
 ·cases h
theorem kg1 {f : FuncId} {fst caps : Array Value} {x : Operand} {args : Array Operand} {ts : Array TypeId} (ho : o.op = .call { callee := .value x, args := args, argTypes := ts }) (e : a.eval x = .func (.func f) fst caps) (hf : ∃ fn, P.funcs[f]? = some fn /\ fn.body.isNone = false /\ (fn.name == "runtime.NumGoroutine") = false) :
  (execOp a.eval o).run P w = .ok (.enter f ((fst++args.map a.eval)++caps)) w:=by
 obtain ⟨fn,h1,c,d⟩:=hf;have b:fn.body≠none:=by intro h;rw [h] at c;cases c
 simp only [beq_eq_false_iff_ne,ne_eq] at d;simp [execOp,ho,resolve,e,Deferred.ofValue,invoke,callFunc,h1,b,d]
def RVL (ψ:Env) (K S:Nat->Prop) (w:World) (vs:List Value) (xs:List AV):Prop:=vs.length=xs.length/\∀ (i:Nat) (v:Value) (x:AV),vs[i]?=some v->xs[i]?=some x->RV ψ K S w v x
theorem RVL.append {vs us:List Value} {xs ys:List AV} (h:RVL ψ K S w vs xs) (k:RVL ψ K S w us ys):RVL ψ K S w (vs++us) (xs++ys):=by
 refine ⟨by simp [h.1,k.1],fun i v x hv a=>?_⟩;by_cases hi:i<vs.length;rw [qy hi] at hv;rw [qy (by rw [<- h.1];exact hi)] at a;exact h.2 i v x hv a
 ·rw [qac (by omega)] at hv;rw [qac (by rw [<- h.1];omega),<- h.1] at a;exact k.2 _ v x hv a
theorem RVL.evals {ids:List Nat} (ht:∀ t,RV ψ (·∈ids) S w (a.tmps.getD t undef) (st.get t)) (l:List Operand):RVL ψ (·∈ids) S w (l.map a.eval) (l.map st.eval):=by refine ⟨by simp,fun i v x hv c=>?_⟩;rw [qr,qp] at hv c;obtain ⟨y,hy,rfl⟩:=hv;obtain ⟨z,b,rfl⟩:=c;rw [hy] at b;injection b with b;subst b;exact Sim.eval_tmps ht y
theorem kgk {f:Nat} {fst caps:List AV} {x:Operand} {args:Array Operand} {ids:List Nat} (ht:∀ t,RV ψ (·∈ids) S w (a.tmps.getD t undef) (st.get t)) (h:kfr st.eval x=some (f,fst,caps)):
  ∃ vf vc:Array Value,a.eval x = .func (.func f) vf vc/\RVL ψ (·∈ids) S w ((vf++args.map a.eval)++vc).toList (fst++(args.toList.map st.eval++caps)):=by
 have hv:=Sim.eval_tmps ht x;have fin:∀ (vf vc:Array Value),RVL ψ (·∈ids) S w vf.toList fst->RVL ψ (·∈ids) S w vc.toList caps->RVL ψ (·∈ids) S w ((vf++args.map a.eval)++vc).toList (fst++(args.toList.map st.eval++caps)):=fun vf vc h1 c=>by have:=h1.append ((RVL.evals ht args.toList).append c);simpa [List.append_assoc] using this
 unfold kfr at h;split at h
 ·rename_i g cs b;simp only [qb,qj] at h;obtain ⟨rfl,rfl,rfl⟩:=h;rw [b] at hv;generalize a.eval x=u at hv;cases hv with
  | @fn _ vc _ h1 c=>exact ⟨#[],vc,rfl,fin _ _ ⟨rfl,fun i v x h=>by simp at h⟩ ⟨by simpa using h1,fun i v x hv b=>c i v x (by simpa using hv) b⟩⟩
 ·rename_i g cs b;simp only [qb,qj] at h;obtain ⟨rfl,rfl,rfl⟩:=h;rw [b] at hv;generalize a.eval x=u at hv;cases hv with
  | @mth _ vf _ h1 c=>exact ⟨vf,#[],rfl,fin _ _ ⟨by simpa using h1,fun i v x hv b=>c i v x (by simpa using hv) b⟩ ⟨rfl,fun i v x h=>by simp at h⟩⟩
 ·cases h
theorem kts {f:Nat} {fst caps:List AV} {x:Operand} {args:Array Operand} {ts:Array TypeId} {y:AV} {b:List (Nat×AObj)} {ids':List Nat} (ho:o.op = .call { callee := .value x,args:=args,argTypes:=ts }) (hc:kfr st.eval x=some (f,fst,caps))
  (h:kdh P f (fst++(args.toList.map st.eval++caps)) st.heap st.ids (.ret y) b ids'):StepA P o st y b ids':=by
 intro F S0 N0 ψ S a w hs;obtain ⟨vf,vc,k,h1,m⟩:=kgk (args:=args) hs.tmps hc;unfold kcv;rw [kg1 ho k h.1];refine (h.2 F S0 N0 ψ S w _ (by simpa using h1) (fun i v x hv k=>m i v x (by rw [qav];exact hv) k) hs.core).mono ?_;rintro e w' ⟨ψ',S',⟨v,rfl,hv⟩,c,l,g,j,hS,d⟩;exact ⟨v,rfl,ψ',S',c,hv,l,g,j,hS,d⟩
theorem k0q {f:Nat} {fst caps:List AV} {x:Operand} {args:Array Operand} {ts:Array TypeId} {ys:List FV} {r:FV} (ho:o.op = .call { callee := .value x,args:=args,argTypes:=ts }) (hc:kfr st.eval x=some (f,fst,caps)) (d:kfz (fst++(args.toList.map st.eval++caps))=some ys)
  (h:PCall P f ys r):NStep P o st (.fz r):=by
 intro ψ S a w ht j;obtain ⟨vf,vc,b,h1,c⟩:=kgk (args:=args) ht hc;rw [kfw d] at h1 c;unfold kcv;rw [kg1 ho b h.1];refine (h.2 S w _ (by simpa using h1) fun i v x hv b=>(c i v (.fz x) (by rw [qav];exact hv) (by rw [qr,b];rfl)).inv).mono ?_;rintro e w' ⟨v,rfl,hv,g⟩;exact ⟨v,rfl,g, .fz hv⟩
theorem kpf {c:UInt8}:∀ {l:List UInt8} {i:Nat},khq c l i=if Lib.indexByte l c = -1 then -1 else Lib.indexByte l c+i
 | [],i=>by simp [khq,Lib.indexByte]
 | x::l,i=>by
  have a:∀ l:List UInt8,-1<=Lib.indexByte l c:=fun l=>by
   induction l with
   | nil=>simp [Lib.indexByte]
   | cons y l ih=>
    simp only [Lib.indexByte];split;omega
    ·split;omega
     ·omega
  by_cases h:x=c;subst h;simp [khq,Lib.indexByte]
  ·have h1:(x == c)=false:=(by simpa using h);have b:Nat.beq x.toNat c.toNat=false:=Nat.beq_eq_false fun e=>h (UInt8.toNat_inj.1 e);have d:Lib.indexByte (x::l) c=if Lib.indexByte l c = -1 then -1 else Lib.indexByte l c+1:=by
    simp only [Lib.indexByte,h1,Bool.false_eq_true,if_false];by_cases hm:Lib.indexByte l c = -1;simp [hm]
    ·have:(Lib.indexByte l c == -1)=false:=(by simpa using hm);simp [hm]
   rw [d];simp only [khq,b,qg];rw [kpf];have:=a l;by_cases hm:Lib.indexByte l c = -1;simp [hm]
   ·rw [qh hm,qh hm,qh (by omega)];omega
theorem ib_n {f:Nat} {fst caps:List AV} {x:Operand} {args:Array Operand} {ts:Array TypeId} {u:BA} {cc:Int} (ho:o.op = .call { callee := .value x,args:=args,argTypes:=ts }) (hc:kfr st.eval x=some (f,fst,caps)) (g:kfz (fst++(args.toList.map st.eval++caps))=some [.atom (.string u), .atom (.int .u8 cc)])
  (h:IbOk P f):NStep P o st (.fz (.atom (.int .i64 (khq cc.toNat.toUInt8 u.data.toList 0)))):=by
 obtain ⟨fn,hf,b,j,hn,k⟩:=h;intro ψ S a w ht p;obtain ⟨vf,vc,l,h1,c⟩:=kgk (args:=args) ht hc;rw [kfw g] at h1 c;obtain ⟨q,e⟩:∃ q,q=(vf++args.map a.eval)++vc:=⟨_,rfl⟩;rw [<- e] at h1 c;have d:q=#[.string u, .int .u8 cc]:=by
  have hl:q.size=2:=by simpa using h1
  apply Array.ext (by simpa using hl);intro i m n;have hi:i<2:=by omega
  match i,hi with
  | 0,_=>exact (c 0 q[0] _ (by simp [hl]) rfl).atom
  | 1,_=>exact (c 1 q[1] _ (by simp [hl]) rfl).atom
 have hi:khq cc.toNat.toUInt8 u.data.toList 0=Lib.indexByte u.data.toList cc.toNat.toUInt8:=by
  rw [kpf];split;rename_i h;exact h.symm
  ·simp
 rw [hi];refine kaf (w':=w) (v := .int .i64 (Lib.indexByte u.data.toList cc.toNat.toUInt8)) ?_ ⟨kag _, .fz (.atom rfl)⟩;have hr:(callFunc f q).run P w = .ok (.value (.int .i64 (Lib.indexByte u.data.toList cc.toNat.toUInt8))) w:=by rw [run_callFunc_extern hf b j hn k,d,Lib.run_indexByteString];rfl
 rw [e] at hr;simp [execOp,ho,resolve,l,Deferred.ofValue,invoke] at hr ⊢;simpa [Array.append_assoc] using hr
theorem kwk {b x c1:Code} {rid t:Nat} {o1 o2:Oper} (h:koa b=some (x,rid,o1,o2,t,c1)):b = .seq x (.seq (.region rid #[o1,o2] false) c1)/\o1.dst=some t/\o1.guard=none/\o2.dst=none/\o2.guard=none/\∃ ts,o2.op = .defer { callee := .value (.tmp t),args:=#[],argTypes:=ts }:=by
 unfold koa at h;split at h
 ·rename_i x' rid' os c;split at h
  ·rename_i p1 p2 a;split at h
   ·rename_i t' cl h1 f g i j;split at h;rename_i t2 d e;replace h:=kam h;obtain ⟨k,h⟩:=h;simp only [qb,qj] at h;obtain ⟨rfl,rfl,rfl,rfl,rfl,rfl⟩:=h;obtain rfl:=qf k;obtain ⟨cal,as_,ts⟩:=cl;simp only at d e;have e1:os=#[p1,p2]:=(by apply qa8;simpa using a);have e2:as_=#[]:=(by apply qa8;simpa using e);subst e1 e2 d;exact ⟨rfl,h1,f,i,j,ts,g⟩
    ·cases h
   ·cases h
  ·cases h
 ·cases h
theorem kp1 (h:kof e=true):e = .normal\/e = .ret:=by cases e <;> simp [kof] at h <;> simp
theorem ktf {args:List AV} {n:Nat} {heap:List (Nat×AObj)} {k:Nat} {lg:List Nat} {vs:Array Value} (b:args.length<=n) (hs:vs.size=args.length) (hr:∀ (i:Nat) (v:Value) (x:AV),vs[i]?=some v->args[i]?=some x->RV ψ (·∈idsN k) S w v x) (hc:Core F S0 N0 heap (idsN k) ψ S w):
  Sim F S0 N0 (XS.st ⟨n,argT 0 args,heap,k,lg⟩ []) ψ S { tmps:=vs++Array.replicate (n - vs.size) undef,defers:=[] } w:=by
 refine ⟨rfl,by show (vs++Array.replicate (n - vs.size) undef).size=n;simp;omega,fun t=>?_,hc⟩;show RV _ _ _ w _ (look .any (argT 0 args) t);rcases kg7 args 0 t with h | ⟨x,_,h1,c⟩;rw [h];exact .any
 ·rw [c];have h1:args[t]?=some x:=by simpa using h1
  have a:t<vs.size:=by rw [hs];exact (qd.1 h1).1
  have:(vs++Array.replicate (n - vs.size) undef).getD t undef=vs[t]:=by rw [qap,qa7 a];simp [a]
  show RV _ _ _ w ((vs++Array.replicate (n - vs.size) undef).getD t undef) x;rw [this];exact hr t _ x (by simp [a]) h1
theorem kv3 (O : CxOk P C) (p : EvOk P ih) {f : Nat} {fn : Func} {b x c1 : Code} {rid t : Nat} {o1 o2 : Oper} {args : List AV} {heap : List (Nat × AObj)} {k : Nat} {lg : List Nat} {y : AV} (hf : P.funcs[f]? = some fn) (q : (fn.name == "runtime.NumGoroutine") = false) (hb : fn.body = some b) (hd : koa b = some (x, rid, o1, o2, t, c1))
  (Q:args.length<=fn.ntmps) (ht:t<fn.ntmps) (h:kri C ih f fn x o1 t c1 ⟨fn.ntmps,argT 0 args,heap,k,lg⟩=some (y,s1)):kdh P f args heap (idsN k) (.ret y) s1.heap (idsN s1.k)/\LG ⟨fn.ntmps,argT 0 args,heap,k,lg⟩ s1:=by
 obtain ⟨rfl,d1,d2,d3,d4,ts,d5⟩:=kwk hd;unfold kri at h;split at h
 ·rename_i s2 hx;split at h
  ·rename_i f2 caps G;split at h
   ·rename_i fn2 H;obtain ⟨U,m⟩:=FT.get_ok O.fn H;split at h
    ·rename_i ta tb c2 I;split at h
     ·rename_i e s3 V;split at h
      ·rename_i e2 s4 hc2;replace hc2:=kam hc2;obtain ⟨r,hc2⟩:=hc2;simp only [qn] at r;have J:=qk r.2;have he:=kp1 r.1;split at h
       ·rename_i y' hy;replace hy:=kam hy;obtain ⟨u,hy⟩:=hy;have u:=kp1 u;simp only [qb,qj] at h;obtain ⟨rfl,rfl⟩:=h;obtain ⟨x1,_,x3,x4⟩:=p _ _ _ _ _ hx;obtain ⟨y1,_,y3,y4⟩:=p _ _ _ _ _ V;obtain ⟨z1,_,z3,z4⟩:=p _ _ _ _ _ hc2;obtain ⟨pr1,pr2,pr3,pr4⟩:=kir (s:=s2) (dd:=some t) (v:=AV.fn f2 caps);refine ⟨⟨⟨fn,hf,by rw [hb];rfl,q⟩,fun F S0 N0 ψ S w vs hs hr hc=>calls_of_wp_defers hf hb ?_⟩,?_⟩
        ·refine wp_seq (wp_mono ((x1 []).xw F S0 N0 ψ S _ w (ktf Q hs hr hc)) ?_);rintro e' a1 w1 ⟨rfl,ψ1,S1,q1,q2,q3⟩;refine wp_seq (wp_region_list ?_);have K:NStep P o1 (s2.st []) (.fn f2 caps):=kn9 O.T O.Z (by rw [E_eq (D:=[]),H_eq (D:=[])] at G;exact G);show wpList P #[o1,o2] _ [o1,o2] a1 w1;unfold wpList;rw [kcw (ops:=#[o1,o2]) (o:=o1) (g:=true) q1 (by unfold ka8;rw [d2])];refine .inl (kco ?_ (K.step F S0 N0 ψ1 S1 a1 w1 q1));rintro v w2 ⟨ψ2,S2,g1,g2,g3,g4,g5,g6,g7⟩;have hp:=q1.put (st':=s2.st []) (d:=o1.dst) rfl rfl rfl g1 g2 g4 g5 g6 g7 (fun t' j=>by rw [d1] at j;injection j with j;show t'<s2.n;rw [x4];show t'<fn.ntmps;omega);rw [d1] at hp ⊢;cases g2 with
         | @fn _ cs _ L X=>
          have Y:(a1.put (some t) (.func (.func f2) #[] cs)).eval (.tmp t) = .func (.func f2) #[] cs:=(by show (a1.put (some t) _).tmps.getD t undef=_;rw [kha (n:=fn.ntmps) (d:=some t) (t:=t) (by rw [q1.size];exact x4) (by intro t' j;injection j with j;omega),qq rfl]);have M:(execOp (a1.put (some t) (.func (.func f2) #[] cs)).eval o2).run P w2 = .ok (.defer (dfn f2 cs.toList)) w2:=(by simp [execOp,d5,resolve,Y,Deferred.ofValue,dfn]);unfold wpList;rw [kcw (ops:=#[o1,o2]) (o:=o2) (g:=true) hp (by unfold ka8;rw [d4])];refine .inl ?_;unfold Oper.wp;rw [M];simp only [Oper.upon,d3];have A:Sim F S0 N0 ((s2.put (some t) (.fn f2 caps)).st [dfn f2 cs.toList]) ψ2 S2 { (a1.put (some t) (.func (.func f2) #[] cs)) with defers:=dfn f2 cs.toList::(a1.put (some t) (.func (.func f2) #[] cs)).defers } w2:=by
           refine ⟨?_,hp.size,fun t'=>?_,hp.core⟩;show dfn f2 cs.toList::a1.defers=_;rw [q1.defers];rfl
           ·rw [kmx (D:=[dfn f2 cs.toList]) (s:=s2) (h:=s2.heap) (ids:=idsN s2.k) t' rfl];exact hp.tmps t'
          refine wp_mono ((y1 [dfn f2 cs.toList]).xw F S0 N0 ψ2 S2 _ w2 A) ?_;rintro e' a4 w4 ⟨rfl,ψ4,S4,r1,r2,r3⟩;have r3':Hist (s2.st []) (s3.st []) ψ2 ψ4 S2 S4 w2 w4:=r3;obtain ⟨_,_,_,_,_,_,_,_,_,_,n1,n2,_⟩:=kmh I;have l:Sim F S0 N0 (XS.st ⟨fn2.ntmps,argT 0 caps,s3.heap,s3.k,s3.lg⟩ []) ψ4 S4 { tmps:=cs.toList.toArray++Array.replicate (fn2.ntmps - cs.toList.toArray.size) undef,defers:=[] } w4:=
           ktf J (by simpa using L) (fun i v z hv hz=>(X i v z (by simpa using hv) hz).keep r3'.1 r3'.2.1 r3'.2.2.1 r3'.2.2.2) r1.core
          have N:=l.put (st':=XS.st ⟨fn2.ntmps,argT 0 caps,s3.heap,s3.k,s3.lg⟩ []) (d:=some ta) (v := .nilIface) (c:=nilA) rfl rfl rfl l.core (.fz (.atom rfl)) Ext.refl (fun _ h=>h) (fun _ h=>h) (fun _ _ _=>rfl) (fun t' j=>by injection j with j;show t'<fn2.ntmps;omega);have aa:=N.put (st':=(XS.st ⟨fn2.ntmps,argT 0 caps,s3.heap,s3.k,s3.lg⟩ []).put (some ta) nilA) (d:=some tb) (v := .nilIface) (c:=nilA) rfl rfl rfl N.core (.fz (.atom rfl)) Ext.refl (fun _ h=>h) (fun _ h=>h) (fun _ _ _=>rfl) (fun t' j=>by injection j with j;show t'<fn2.ntmps;omega);have B:=aa.congr (st':=XS.st ⟨fn2.ntmps,kfi (kfi (argT 0 caps) ta nilA) tb nilA,s3.heap,s3.k,s3.lg⟩ []) rfl (fun t'=>by show look .any (kfi (kfi (argT 0 caps) ta nilA) tb nilA) t'=look .any ((tb,nilA)::(ta,nilA)::argT 0 caps) t';rw [kgt,kgt,ka5,ka5]) (fun _=>rfl) rfl rfl;have fin:=ky9 (P:=P) (fn:=fn) (f:=f2) (cvals:=cs.toList) (a:=a4) (w':=w4) (R:=fun e w'=>∃ ψ' S',HEnd.is e ψ' (·∈idsN s4.k) S' w' (.ret y')/\Core F S0 N0 s4.heap (idsN s4.k) ψ' S' w'/\Fr F w w'/\Ext (·∈idsN k) ψ ψ'/\(∀ i,i∈idsN k->i∈idsN s4.k)/\(∀ b,S b->S' b)/\Same S w w') r1.defers U I m (by simp [L];omega) (by refine wp_mono ((z1 []).xw F S0 N0 ψ4 S4 _ w4 B) ?_;rintro e5 a5 w5 ⟨rfl,ψ5,S5,u1,u2,u3⟩;have u3':Hist (s3.st []) (s4.st []) ψ4 ψ5 S4 S5 w4 w5:=u3;have hR:Sim F S0 N0 (XS.st ⟨s3.n,s3.tmps,s4.heap,s4.k,s4.lg⟩ []) ψ5 S5 ⟨a4.tmps,[]⟩ w5:=⟨rfl,r1.size,fun t'=>(r1.tmps t').keep u3'.1 u3'.2.1 u3'.2.2.1 u3'.2.2.2,u1.core⟩;have ab:s3.E=(XS.st ⟨s3.n,s3.tmps,s4.heap,s4.k,s4.lg⟩ []).eval:=(by rw [E_eq (D:=[])];funext z;cases z <;> rfl);rw [ab,H_eq (D:=[])] at hy;obtain ⟨v,v1,v2⟩:=kqy O.T hR hy;obtain ⟨t1,t2,t3,t4⟩:=((q3.trans (st2:=s2.st []) ⟨g4,g5,g6,g7⟩).trans r3').trans u3';exact ⟨u,u1.defers,v,v1,ψ5,S5,⟨v,rfl,v2⟩,u1.core,((q2.trans g3).trans r2).trans u2,t1,t2,t3,t4⟩);rcases he with rfl | rfl <;> exact fin
        ·exact x3.trans ((LG.put y3).trans (by obtain ⟨m0,new,m1,m2⟩:=z3;exact ⟨m0,new,m1,m2⟩))
       ·cases h
      ·cases h
     ·cases h
    ·cases h
   ·cases h
  ·cases h
 ·cases h
theorem kix (m:CxOk P C) (g:EvOk P ih) {f:Nat} {args:List AV} {heap:List (Nat×AObj)} {k:Nat} {lg:List Nat} {y:AV} (h:kkm C ih f args heap k lg=some (y,s1)):
  kdh P f args heap (idsN k) (.ret y) s1.heap (idsN s1.k)/\k<=s1.k/\∃ new,s1.lg=new++lg/\∀ id,id∉new->∀ ob,kab heap id=some ob->kab s1.heap id=some ob:=by
 unfold kkm at h;split at h
 ·rename_i fn n;obtain ⟨hf,c⟩:=FT.get_ok m.fn n;split at h
  ·rename_i cc o;split at h;rename_i x rid o1 o2 t c1 r;replace h:=kam h;obtain ⟨a,h⟩:=h;simp only [qn] at a;exact kv3 m g hf c o r (qk a.1) (by simpa [qbd] using a.2) h;have main:∀ e s2,(bif Nat.ble args.length fn.ntmps then ih (C.mu.contains f) cc ⟨fn.ntmps,argT 0 args,heap,k,lg⟩ else none)=some (e,s2)->(e = .normal\/e = .ret)->retE C.T s2.E s2.H fn.results.toList=some y->kdh P f args heap (idsN k) (.ret y) s2.heap (idsN s2.k)/\k<=s2.k/\∃ new,s2.lg=new++lg/\∀ id,id∉new->∀ ob,kab heap id=some ob->kab s2.heap id=some ob:=by
    intro e s2 hi s hy;replace hi:=kam hi;obtain ⟨a,hi⟩:=hi;have a:=qk a;obtain ⟨p,_,q,_⟩:=g _ _ _ _ _ hi;refine ⟨⟨⟨fn,hf,by rw [o];rfl,c⟩,fun F S0 N0 ψ S w vs hs hr hc=>calls_of_wp hf o ?_⟩,q⟩;have j:Sim F S0 N0 (XS.st ⟨fn.ntmps,argT 0 args,heap,k,lg⟩ []) ψ S { tmps:=vs++Array.replicate (fn.ntmps - vs.size) undef,defers:=[] } w:=by
     refine ⟨rfl,by show (vs++Array.replicate (fn.ntmps - vs.size) undef).size=fn.ntmps;simp;omega,fun t=>?_,hc⟩;show RV _ _ _ w _ (look .any (argT 0 args) t);rcases kg7 args 0 t with h | ⟨x,_,h1,l⟩;rw [h];exact .any
     ·rw [l];have h1:args[t]?=some x:=(by simpa using h1);have d:t<vs.size:=(by rw [hs];exact (qd.1 h1).1);have:(vs++Array.replicate (fn.ntmps - vs.size) undef).getD t undef=vs[t]:=(by rw [qap,qa7 d];simp [d]);show RV _ _ _ w ((vs++Array.replicate (fn.ntmps - vs.size) undef).getD t undef) x;rw [this];exact hr t _ x (by simp [d]) h1
    refine wp_mono ((p []).xw F S0 N0 ψ S _ w j) ?_;rintro e' a' w' ⟨rfl,ψ',S',l,u,z,A,B,G⟩;rw [E_eq (D:=[]),H_eq (D:=[])] at hy;obtain ⟨v,e1,e2⟩:=kqy m.T l hy;have fin:a'.defers=[]/\∃ v,(results fn a'.tmps).run P w' = .ok v w'/\∃ ψ'' S'',HEnd.is (.returned v) ψ'' (·∈idsN s2.k) S'' w' (.ret y)/\Core F S0 N0 s2.heap (idsN s2.k) ψ'' S'' w'/\Fr F w w'/\Ext (·∈idsN k) ψ ψ''/\(∀ i,i∈idsN k->i∈idsN s2.k)/\(∀ b,S b->S'' b)/\Same S w w':=
     ⟨l.defers,v,e1,ψ',S',⟨v,rfl,e2⟩,l.core,u,z,A,B,G⟩
    rcases s with rfl | rfl <;> exact fin
   split at h
   ·rename_i e s2 hi;split at h;rename_i y' hy;simp only [qb,qj] at h;obtain ⟨rfl,rfl⟩:=h;exact main _ _ hi (.inr rfl) hy;rename_i y' hy;simp only [qb,qj] at h;obtain ⟨rfl,rfl⟩:=h;exact main _ _ hi (.inl rfl) hy
    ·cases h
   ·cases h
  ·cases h
 ·cases h
end
end Go.Proofs.YtpnnpkmjohkgiaaGreatDoor
