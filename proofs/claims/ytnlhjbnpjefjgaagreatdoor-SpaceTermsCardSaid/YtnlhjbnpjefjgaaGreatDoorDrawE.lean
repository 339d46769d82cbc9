import Derived.Test.YtnlhjbnpjefjgaaGreatDoorRows
import Derived.Test.YtnlhjbnpjefjgaaGreatDoorAv
import Derived.ProofKit
import Derived.OpenShut
import Derived.JoinedCond
import Derived.Carry
import Derived.ChangeSame
import Derived.Test.YtnlhjbnpjefjgaaGreatDoorTy
import Derived.ChangeMaps5
import Derived.Deep.Fields
import Derived.Test.YtnlhjbnpjefjgaaGreatDoorAv
import Derived.Lib.Bytealg
set_option linter.all false
namespace Go.Proofs.YtnlhjbnpjefjgaaGreatDoor
open Go Go.RowKit Go.ChangeShapes Go.WideShapes Go.ChangeAt Go.Proofs.Tryz
theorem k4y:ownKnob prog.godebug=none:=by kernel_rfl
theorem k53:laidOutB prog=true:=by kernel_rfl
variable {H:Type} {enc:TypeId×Value->H} {P:Program}
theorem kpz (hl:laidOutB P=true) {W W':World} {sp:Nat->Bool} (e:RowKit.Below W.heap.size W W'):∀ {ts:List TypeId} {vs:List Value} {ds:List (DataW H)} {ps:List MemPlace},
  (∀ t∈ts,P.readableRec t=true/\t<P.types.size)->DataW.TrodAll enc P W 0 (fun _=>true) true ts vs ds ps->(∀ x∈ps,x.block<W.heap.size)->(∀ x∈ps,sp x.block=true)->DataW.TrodAll enc P W' 0 sp true ts vs ds ps
 | [],vs,ds,ps,_,h,_,_=>by obtain ⟨rfl,rfl,rfl⟩:=trodAll_nil h;exact trodAll_mk0
 | t::ts,vs,ds,ps,ht,h,b,c=>by
  obtain ⟨v,vs',d,ds',p,q,rfl,rfl,rfl,h0,h1⟩:=trodAll_cons h;exact trodAll_cons_mk (WideElems.Trod_stays hl (ht t (by simp)).1 (ht t (by simp)).2 h0 (fun x a=>e.same (b x (by simp [a]))) (fun x a=>c x (by simp [a])))
   (kpz hl e (fun t' f=>ht t' (by simp [f])) h1 (fun x a=>b x (by simp [a])) (fun x a=>c x (by simp [a])))
theorem k5y {f:Func} {s:ChangeSpec} {W W':World} {args:Array Value} {ds gs:List (DataW H)} {before:List MemPlace} {tb:TypeId}
  (hl:laidOutB P=true) (k:∀ t∈f.params.toList,P.readableRec t=true/\t<P.types.size) (a:s.vars=[]) (y:P.underlying tb=some .bool) (hr:f.resultTypes=#[tb])
  (c:s.fn H (ds++gs)={ results:=[.lit (.bool true)],args:=ds })
  (r:DataW.Whole enc P f.params.toList s.vars false W args.toList ds gs before) (u:RowKit.Below W.heap.size W W'):
  s.post enc P f false true false false W args (.bool true) W':=by
 have e:=r;obtain ⟨p,q,hA,v,rfl,z,hn⟩:=r;have l:DataW.TrodVars enc P W (fun _=>true) [] gs q:=by rw [a] at v;exact v
 obtain ⟨rfl,rfl⟩:=trodVars_none l;have g:∀ x∈p,x.block<W.heap.size:=fun x d=>e.lt x (by simpa using d);have m:∀ sp:Nat->Bool,(∀ x∈p,sp x.block=true)->DataW.TrodAll enc P W' 0 sp true f.params.toList args.toList (s.fn H (ds++[])).args p:=fun sp n=>by rw [c];exact kpz hl u k hA g n
 have o:∀ sp:Nat->Bool,DataW.TrodVars enc P W' sp s.vars (s.fn H (ds++[])).vars []:=fun sp=>by rw [a,c];rfl
 have i:∀ x∈p,(fun b=>decide (b<W.heap.size)) x.block=true:=fun x d=>by simpa using g x d
 have j:∀ (b:Nat) (sp:Nat->Bool) (w:Bool),DataW.TrodAll enc P W' b sp w f.resultTypes.toList ((Value.bool true).resultList f.resultTypes.size) (s.fn H (ds++[])).results []:=fun b sp w=>by rw [c,hr];exact trodAll_cons_mk (shut_bool y true) trodAll_mk0
 refine ⟨ds,[],p++[],[],p,[],e,j _ _ _,m _ i,o _,World.keptBut_mono (fun x d=>⟨d,?_⟩) (u.frame (·∈p++[])),fun h=>by cases h⟩;simp at d ⊢;exact d
variable {w:World} {base:Nat} {spare:Nat->Bool} {held:Bool}
theorem ku1 {T:Type} {Q:Nat->T->Prop}:∀ n:Nat,(∀ i,i<n->∃ z,Q i z)->∃ xs:List T,xs.length=n/\∀ (i:Nat) (z:T),xs[i]?=some z->Q i z
 | 0,_=>⟨[],rfl,fun i z h=>by simp at h⟩
 | n+1,h=>by
  obtain ⟨xs,hl,a⟩:=ku1 (Q:=Q) n fun i hi=>h i (by omega);obtain ⟨z,b⟩:=h n (by omega);refine ⟨xs++[z],by simp [hl],fun i y hy=>?_⟩;by_cases hi:i<n;rw [qac (by omega)] at hy;exact a i y hy
  ·rw [qai (by omega)] at hy;have:i=n:=(by have:=(qd.1 hy).1;simp at this;omega);subst this;simp [hl] at hy;subst hy;exact b
theorem k81 {T:Type} (R:List Value->T->Prop) {t e:TypeId} (size:Nat) {fuel:Nat} {cs:List Value} {x:DataW H×List MemPlace} (ht:P.underlying t=some (.slice e)) (hC:P.cellsOf e=size) (d:0<size) (h:DataW.trod enc P w base spare held fuel t cs=some x) (p:∀ n cs' y,n<fuel->DataW.trod enc P w base spare held n e cs'=some y->∃ z,R cs' z):
  ∃ v xs,cs=[v]/\RepSl Any w size R v xs:=by
 rcases DataW.trod_slice ht h with ⟨rfl,_⟩ | ⟨a,len,cap,elems,rest,n,D,rfl,_,_,E,f,A,g,_⟩;exact ⟨_,[],rfl,RepSl.nil (by omega)⟩
 ·have each:∀ i,i<len->∃ cs' z,R cs' z/\cs'.length=size/\∀ j,j<size->w.cell? ((a.add (i*size)).add j)=cs'[j]?:=fun i hi=>by have h1:=g i hi;have q:elems[i]?=some elems[i]:=qa (by omega);rw [q,hC] at h1;obtain ⟨cs',hc,r⟩:=qg.1 h1;obtain ⟨_,hl,c⟩:=World.cells?_some hc;obtain ⟨z,m⟩:=p n cs' _ (by omega) r;exact ⟨cs',z,m,hl,c⟩
  obtain ⟨xs,s,B⟩:=ku1 (Q:=fun i z=>∃ cs',R cs' z/\cs'.length=size/\∀ j,j<size->w.cell? ((a.add (i*size)).add j)=cs'[j]?) len (fun i hi=>by obtain ⟨cs',z,h⟩:=each i hi;exact ⟨z,cs',h⟩);refine ⟨_,xs,rfl,some a,cap,by rw [s],by omega,by unfold maxLen at f;exact f,fun i z m=>?_⟩;obtain ⟨cs',hr,hl,c⟩:=B i z m;have k:a.spot=none:=by
   have h0:0<xs.length:=(by have:=(qd.1 m).1;omega);obtain ⟨cs0,_,F,l⟩:=B 0 _ (qa h0);have h1:=l 0 d;simp only [Nat.zero_mul,Addr.add,if_true] at h1;rw [qa (by omega)] at h1;unfold World.cell? at h1;split at h1
   ·split at h1;cases h1
    ·rename_i hs;simpa using hs
   ·cases h1
  obtain ⟨b,o,sp⟩:=a;simp only at k;subst k;refine ⟨b,o,cs',rfl,trivial,fun j u C=>?_,hl,hr⟩;have G:j<size:=by have:=(qd.1 C).1;omega
  rw [<- C,<- c j G];congr 1;unfold Addr.add;by_cases h1:i*size=0 <;> by_cases q:j=0 <;> simp [h1,q,Nat.add_assoc]
set_option linter.unusedSectionVars false
open Go Go.RowKit Go.Proofs.Tryz
variable [Dr]
inductive Va where
 | mk (type num:Int) (text:BA) (items:List Va)
namespace Va
end Va
structure Sy where
 name:BA
 type:Int
structure Ru where
 symbol:Int
 kind:Int
 input:Int
 const:Va
 op:BA
 args:List Int
structure La where
 name:BA
 inputs:List Int
 symbols:List Sy
 rules:List Ru
def Short (s:BA):Prop:=s.size<=9223372036854775807
section
variable {S S':Nat->Prop} {w w':World}
inductive k7e (S:Nat->Prop) (w:World):List Value->Va->Prop where
 | mk (t n:Int) (s:BA) (kids:List Va) (A:Option Addr) (cap:Nat) (css:Nat->List Value) (ht:khp t) (hn:khp n) (hs:Short s) (hc:kids.length<=cap) (hm:cap<=9223372036854775807)
  (hA:∀ (i:Nat) (x:Va),kids[i]?=some x->∃ b o,A=some ⟨b,o,none⟩/\S b/\At w b (o+i*4) (css i))
  (hk:∀ (i:Nat) (x:Va),kids[i]?=some x->k7e S w (css i) x):k7e S w [.int .i64 t, .int .i64 n, .string s, .slice A kids.length cap] (.mk t n s kids)
section
variable {T:Type} {size:Nat} {R:(Nat->Prop)->World->List Value->T->Prop} {v:Value} {l:List T}
theorem RepSl.shape {Q:List Value->T->Prop} (h:RepSl S w size Q v l):∃ A cap,v = .slice A l.length cap/\l.length<=cap/\cap<=9223372036854775807:=let ⟨A,cap,hv,h1,a,_⟩:=h;⟨A,cap,hv,h1,a⟩
theorem RepSl.get {Q:List Value->T->Prop} {A:Option Addr} {n cap:Nat} (h:RepSl S w size Q (.slice A n cap) l) {k:Nat} (hk:k<l.length):
  ∃ b o cs,A=some ⟨b,o,none⟩/\S b/\At w b (o+k*size) cs/\cs.length=size/\Q cs l[k]:=by
 obtain ⟨A0,cap0,hv,_,_,a⟩:=h;injection hv with h1 c d;subst h1;exact a k _ (qa hk)
end
end
end Go.Proofs.YtnlhjbnpjefjgaaGreatDoor
set_option linter.all false
set_option linter.unusedSectionVars false
namespace Go.Proofs.YtnlhjbnpjefjgaaGreatDoor
open Go Go.RowKit Go.Proofs.Tryz
variable [Dr]
mutual
def eTmR:Tm->FV
 | .mk r l => .agg [eI r, .lst 2 l.length (kpp l)]
def kpp:List Tm->List FV
 | []=>[]
 | x::l=>eTmR x::kpp l
end
def eTm (x:Tm):FV := .agg [eI x.rule,eL 2 eTmR x.args]
theorem kst:∀ l:List Tm,kpp l=l.map eTmR
 | []=>by simp [kpp]
 | x::l=>by simp [kpp,kst l]
theorem kj8 (x:Tm):eTmR x=eTm x:=by cases x;simp [eTmR,eTm,kst,eL,Tm.rule,Tm.args]
theorem kl4 (x:Tm):(eTmR x).cells=(eTm x).cells:=by rw [kj8]
theorem k5e (x:Tm):(eTmR x).cells.length=2:=by rw [kj8];rfl
end Go.Proofs.YtnlhjbnpjefjgaaGreatDoor
set_option linter.all false
namespace Go.Proofs.YtnlhjbnpjefjgaaGreatDoor
open Go Go.RowKit Go.ChangeShapes Go.WideShapes Go.ChangeAt Go.ChangeMaps Go.Proofs.Tryz
section
variable {T:Type} {P:Program} {H:Type} {enc:TypeId×Value->H} {w:World} {base:Nat} {spare:Nat->Bool} {held:Bool}
theorem kwq {R:List Value->T->Prop} (ec:T->FV) (size:Nat) {v:Value} {xs:List T} (h:RepSl Any w size R v xs) (f:∀ cs x,x∈xs->R cs x->(ec x).cells.length=size/\(∀ y∈(ec x).cells,y.single=true)/\∀ (j:Nat) (u:Value) (y:FV),cs[j]?=some u->(ec x).cells[j]?=some y->RF Any w u y) (g:0<size:=by omega):RF Any w v (eL size ec xs):=by
 obtain ⟨A,cap,rfl,h1,k,l⟩:=h;have e:∀ i:Nat,∃ cs:List Value,∀ x,xs[i]?=some x->∃ b o,A=some ⟨b,o,none⟩/\At w b (o+i*size) cs/\cs.length=size/\R cs x:=fun i=>by
  cases d:xs[i]? with
  | none=>exact ⟨[],fun x h=>by cases h⟩
  | some x=>
   obtain ⟨b,o,cs,e1,_,e2,e3,e4⟩:=l i x d;exact ⟨cs,fun y hy=>by injection hy with hy;subst hy;exact ⟨b,o,e1,e2,e3,e4⟩⟩
 obtain ⟨css,c⟩:=Classical.axiomOfChoice e;refine .lst css (by simp) h1 k g (fun i x d=>?_) (fun i x d=>?_) fun i x j v y d hv hy=>?_;simp only [ql,qw] at d;obtain ⟨z,a,rfl⟩:=d;obtain ⟨b,o,e1,e2,_⟩:=c i z a;exact ⟨b,o,e1,trivial,e2⟩;simp only [ql,qw] at d;obtain ⟨z,a,rfl⟩:=d;obtain ⟨b,o,e1,e2,e3,e4⟩:=c i z a;obtain ⟨g1,g2,_⟩:=f _ z (qk a) e4;exact ⟨e3,g1,g2⟩
 ·simp only [ql,qw] at d;obtain ⟨z,a,rfl⟩:=d;obtain ⟨b,o,e1,e2,e3,e4⟩:=c i z a;exact (f _ z (qk a) e4).2.2 j v y hv hy
theorem kaaw {x:Value} {cs:List Value} (a:cs=[x]) (c:x.oneCell'=true):(FV.atom x).cells.length=1/\(∀ y∈(FV.atom x).cells,y.single=true)/\∀ (j:Nat) (u:Value) (y:FV),cs[j]?=some u->(FV.atom x).cells[j]?=some y->RF Any w u y:=by
 subst a;refine ⟨rfl,fun y hy=>?_,fun j u y b hy=>?_⟩;simp [FV.cells] at hy;subst hy;exact c
 ·cases j with
  | zero=>
   simp [FV.cells] at b hy;subst b hy;exact .atom c
  | succ j=>simp at b
end
set_option maxRecDepth 100000
theorem k1v {n:Int} (h:(Lit.int .i64 n).wf=true):khp n:=by simpa [Lit.wf,IntKind.min,IntKind.max,IntKind.signed,IntKind.bits,khp] using h
variable {H:Type} {enc:TypeId×Value->H} {w:World} {base:Nat} {spare:Nat->Bool} {held:Bool}
theorem cells_ty:prog.cellsOf 3=1/\prog.cellsOf 2=1/\prog.cellsOf 9=1/\prog.cellsOf 23=1/\prog.cellsOf 78=1/\prog.cellsOf 45=1/\prog.cellsOf 46=1 /\
  prog.cellsOf 80=4/\prog.cellsOf 77=2/\prog.cellsOf 82=9/\prog.cellsOf 48=4:=⟨by kernel_rfl,by kernel_rfl,by kernel_rfl,by kernel_rfl,by kernel_rfl,by kernel_rfl,by kernel_rfl,by kernel_rfl,by kernel_rfl,by kernel_rfl,by kernel_rfl⟩
theorem ko9 {fuel:Nat} {cs:List Value} {x:DataW H×List MemPlace} (h:DataW.trod enc prog w base spare held fuel 3 cs=some x):∃ n,cs=[.int .i64 n]/\khp n:=by obtain ⟨n,hn,_,a⟩:=DataW.trod_int underlying3 h;exact ⟨n,hn,k1v a⟩
theorem k3f {n:Int} (h:(Lit.int .i64 n).wf=true):khp n:=by simpa [Lit.wf,IntKind.min,IntKind.max,IntKind.signed,IntKind.bits,khp] using h
theorem kpo:prog.cellsOf 28=2:=by kernel_rfl
theorem k36:prog.cellsOf 3=1:=by kernel_rfl
theorem ky8:prog.cellsOf 26=1:=by kernel_rfl
theorem k4e:∀ (fuel:Nat) (cs:List Value) (x:DataW H×List MemPlace),DataW.trod enc prog w base spare held fuel 28 cs=some x->∃ t,RepTm Any w cs t:=by
 intro fuel
 induction fuel using Nat.strongRecOn with
 | _ fuel ih=>
  intro cs x h;obtain ⟨xs,n,g,_,a,b,hf⟩:=DataW.trod_struct underlying28 h;rw [kpo] at a
  match cs,a with
  | [c0,c1],_=>
   have h0:=hf 0 _ rfl;have h1:=hf 1 _ rfl;have e0:xs[0]?=some (xs[0]'(by rw [b];decide)):=qa _;have e1:xs[1]?=some (xs[1]'(by rw [b];decide)):=qa _;rw [e0] at h0;rw [e1] at h1;obtain ⟨r,c,_,d⟩:=DataW.trod_int underlying3 h0;obtain ⟨v,ts,hv,hs⟩:=k81 (RepTm Any w) 2 underlying26 kpo (by omega) h1 fun m cs' y hm hy=>ih m (by omega) cs' y hy;have e:c0 = .int .i64 r:=(by simpa [k36] using c);have f:c1=v:=(by simpa [ky8] using hv);subst e f;exact ⟨.mk r ts,RepTm.of (k3f d) hs⟩
theorem k00 {r:Reach} {b0:Nat} {v:Value} {d:DataW H} {p:List MemPlace} (hv:Value.okWide prog w r b0 28 v) (h:DataW.Trod enc prog w base spare held 28 v d p):∃ t,TmV Any w v t:=by
 obtain ⟨cs,rfl,a⟩:=okWide_struct underlying28 hv;obtain ⟨fuel,hf⟩:=h;obtain ⟨t,ht⟩:=k4e fuel _ _ hf;rw [kpo] at a;obtain ⟨l⟩:=cs
 match l,a with
 | [c0,c1],_=>exact ⟨t,c0,c1,rfl,ht⟩
variable [Dr]
def imin (a b:Int):Int:=if b<a then b else a
def imax (a b:Int):Int:=if a<b then b else a
def quo (k:IntKind) (a b:Int):Option Int:=if b=0 then none else some (k.wrap (a.tdiv b))
def rem (k:IntKind) (a b:Int):Option Int:=if b=0 then none else some (a.tmod b)
def cutL {α:Type} (xs:List α) (lo hi:Int):Option (List α):=if 0<=lo/\lo<=hi/\hi<=(xs.length:Int) then some ((xs.take hi.toNat).drop lo.toNat) else none
variable {P:Program} {F S0:Nat->Prop} {N0:Nat} {w':World} {S S':Nat->Prop} {ψ:Env} {K:Nat->Prop} {T:List (TypeId×TD)} {o:Oper} {a:Act} {st:St} {t:TypeId} {d:TD}
theorem k61 {x y:Operand} {ts:Array TypeId} {k k':IntKind} {m n:Int} (ho:o.op = .call { callee := .builtin .min,args:=#[x,y],argTypes:=ts }) (c:st.eval x = .fz (.atom (.int k m))) (hy:st.eval y = .fz (.atom (.int k' n))):NStep P o st (.fz (.atom (.int k (imin m n)))):=by intro ψ S a w ht _;have h1:=Sim.eval_tmps ht x;rw [c] at h1;have b:=Sim.eval_tmps ht y;rw [hy] at b;refine kaf w (.int k (imin m n)) ?_ ⟨kai _, .fz (.atom rfl)⟩;simp [execOp,ho,resolve,invoke,builtin,h1.atom,b.atom,Builtin.min_,Builtin.min2,imin]
theorem k65 {x y:Operand} {ts:Array TypeId} {k k':IntKind} {m n:Int} (ho:o.op = .call { callee := .builtin .max,args:=#[x,y],argTypes:=ts }) (c:st.eval x = .fz (.atom (.int k m))) (hy:st.eval y = .fz (.atom (.int k' n))):NStep P o st (.fz (.atom (.int k (imax m n)))):=by intro ψ S a w ht _;have h1:=Sim.eval_tmps ht x;rw [c] at h1;have b:=Sim.eval_tmps ht y;rw [hy] at b;refine kaf w (.int k (imax m n)) ?_ ⟨kai _, .fz (.atom rfl)⟩;simp [execOp,ho,resolve,invoke,builtin,h1.atom,b.atom,Builtin.max_,Builtin.max2,imax]
def kqj (st:St):Option Operand->Option (Option Int)
 | none=>some none
 | some x=>match st.eval x with
  | .fz (.atom (.int _ n))=>some (some n)
  | _=>none
theorem kq1 {ids:List Nat} (ht:∀ t,RV ψ (·∈ids) S w (a.tmps.getD t undef) (st.get t)) {x:Option Operand} {r:Option Int} (h:kqj st x=some r):(x=none/\r=none)\/∃ y k n,x=some y/\r=some n/\a.eval y = .int k n:=by
 unfold kqj at h;split at h;injection h with h;exact .inl ⟨rfl,h.symm⟩
 ·rename_i y;split at h;rename_i k n hk;injection h with h;have h1:=Sim.eval_tmps ht y;rw [hk] at h1;exact .inr ⟨y,k,n,rfl,h.symm,h1.atom⟩
  ·cases h
theorem RF.take {v:Value} {size n k:Nat} {A:Option Addr} {cap:Nat} {xs:List FV} (h:RF S w (.slice A n cap) (.lst size n xs)) (lo hi:Nat) (h1:lo<=hi) (f:hi<=n):∃ A',A'=(if cap=lo then A else A.map (·.add (lo*size)))/\RF S w (.slice A' (hi - lo) (cap - lo)) (.lst size (hi - lo) ((xs.take hi).drop lo)):=by
 obtain ⟨A0,cap0,css,hv,hn,hc,hm,hs,ha,hl,hr⟩:=h.lst_inv;injection hv with e1 _ e3;subst e1 e3;have c:(xs.take hi).length=hi:=by rw [qav];omega
 have get:∀ (i:Nat) (x:FV),((xs.take hi).drop lo)[i]?=some x->xs[lo+i]?=some x:=fun i x a=>by
  rw [qan,qad] at a;split at a;exact a
  ·cases a
 refine ⟨_,rfl, .lst (fun i=>css (lo+i)) (by rw [qba,c]) (by omega) (by omega) hs (fun i x a=>?_) (fun i x a=>hl _ x (get i x a)) fun i x j v y a hv hy=>hr _ x j v y (get i x a) hv hy⟩;obtain ⟨b,o,hA,hS,d⟩:=ha _ x (get i x a);have e:=(qd.1 (get i x a)).1;refine ⟨b,o+lo*size,?_,hS,by rw [Nat.add_assoc,<- qbi];exact d⟩;rw [qj (by omega),hA];simp only [qaw,kbo]
theorem k2n {α:Type} (enc:α->FV) (x:Operand) (lo hi:Option Operand) (l h:Option Int) (xs:List α) {r:List α} (size:Nat) (e:TypeId) (de:TD) (hc:cutL xs (l.getD 0) (h.getD xs.length)=some r) (p:TOk P T) (ho:o.op = .slice t x lo hi none:=by kernel_rfl) (s:kad T t=some d:=by kernel_rfl) (hk:d.kind = .slice e:=by kernel_rfl) (f:kad T e=some de:=by kernel_rfl) (g:de.size=size:=by kernel_rfl) (u:st.eval x = .fz (eL size enc xs):=by kernel_rfl) (hl:kqj st lo=some l:=by kernel_rfl) (z:kqj st hi=some h:=by kernel_rfl):NStep P o st (.fz (eL size enc r)):=by
 intro ψ S a w ht G;have h1:=Sim.eval_tmps ht x;rw [u] at h1;have bl:=kq1 ht hl;have bh:=kq1 ht z;unfold cutL at hc;split at hc
 ·rename_i b;injection hc with hc;subst hc;have h1:=h1.inv;obtain ⟨A,cap,css,hv,hn,B,hm,hs,ha,C,hr⟩:=h1.lst_inv;rw [hv] at h1;obtain ⟨A',i,j⟩:=h1.take (v := .nilFunc) (k:=0) (l.getD 0).toNat (h.getD xs.length).toNat (by omega) (by omega);refine kaf w (.slice A' ((h.getD xs.length).toNat - (l.getD 0).toNat) (cap - (l.getD 0).toNat)) ?_ ⟨kai _,(RV.fz ?_).here⟩
  ·have D:=(p.get s).slice hk;have e1:(Instr.sliceBounds true xs.length cap (lo.map a.eval) (hi.map a.eval) none).run P w = .ok ((l.getD 0).toNat,(h.getD xs.length).toNat,cap) w:=by
    unfold Instr.sliceBounds;have q:(xs.length:Int)<=(cap:Int):=(by omega);rcases bh with ⟨rfl,rfl⟩ | ⟨y,k,n,rfl,rfl,hy⟩
    ·rcases bl with ⟨rfl,rfl⟩ | ⟨y',k',n',rfl,rfl,c⟩;simp
     ·simp only [qam,Option.getD_none] at b ⊢;simp [Instr.sliceBound,c,asIntOf,b.1,b.2.1]
    ·rcases bl with ⟨rfl,rfl⟩ | ⟨y',k',n',rfl,rfl,c⟩;simp only [qam,Option.getD_none] at b ⊢;have:n<=(cap:Int):=(by omega);simp [Instr.sliceBound,hy,asIntOf,b.2.1,this]
     ·simp only [qam] at b ⊢;have:0<=n:=(by omega);have E:n'<=(n.toNat:Int):=(by omega);have F:n<=(cap:Int):=(by omega);simp [Instr.sliceBound,hy,c,asIntOf,b.1,this,E,F];intro hc;exfalso;omega
   have m:(sizeOf e).run P w = .ok size w:=(by rw [(p.get f).size,g]);simp [execOp,ho,Instr.sliceAt,Instr.slice,run_underlying D,hv,e1,m,i]
  ·have:((xs.take (h.getD xs.length).toNat).drop (l.getD 0).toNat).length=(h.getD xs.length).toNat - (l.getD 0).toNat:=(by rw [qba,qav];omega);unfold eL;rw [this,List.map_drop,List.map_take];exact j
 ·cases hc
def zipS:List (Nat×AV)->List AV->List (Nat×AV)
 | (t,_)::l,v::vs=>(t,v)::zipS l vs
 | _,_=>[]
theorem kyf {v:Nat->Value} {K:Nat->Prop}:∀ {l:List (Nat×AV)} {vs:List AV} (t:Nat),(∀ (i:Nat) (k:Nat×AV) (x:AV),l[i]?=some k->vs[i]?=some x->RV ψ K S w (v k.1) x)->RV ψ K S w (v t) (look .any (zipS l vs) t)
 | [],vs,t,h=>by cases vs <;> exact .any
 | (k,y)::l,[],t,h => .any
 | (k,y)::l,x::vs,t,h=>by
  simp only [zipS,kbc];split;rename_i hk;subst hk;exact h 0 _ x rfl rfl
  ·exact kyf t fun i k x hk a=>h (i+1) k x (by simpa using hk) (by simpa using a)
def argT:Nat->List AV->List (Nat×AV)
 | _,[]=>[]
 | i,x::l=>(i,x)::argT (i+1) l
theorem kmq:∀ (l:List AV) (i t:Nat),look .any (argT i l) t = .any\/∃ x,i<=t/\l[t - i]?=some x/\look .any (argT i l) t=x
 | [],i,t => .inl rfl
 | x::l,i,t=>by
  simp only [argT,kbc];by_cases h:i=t;subst h;exact .inr ⟨x,qy _,by simp,by simp⟩
  ·rw [qj h];rcases kmq l (i+1) t with h1 | ⟨y,h1,a,b⟩;exact .inl h1
   ·exact .inr ⟨y,by omega,by rw [show t - i=(t - (i+1))+1 by omega];simpa using a,b⟩
def inlQ (P:Program) (ops:Array Oper) (l:List Oper) (dst:Option Nat) (n:Nat) (D:List Deferred) (g:Nat) (cs:List Value) (keep:List (Nat×AV)) (rs:List ResultVar) (Q:Exit->St->Prop):Exit->St->Prop:=fun e st'=>
 (e = .normal\/e = .ret)/\st'.dfr=[]/\∃ vs r,kaa st'.heap g=some (.gho cs vs)/\((rs=[]/\r = .any)\/∃ z,rs=[.tmp z]/\st'.get z=r) /\
  awpL P ops l (({ n:=n,tmps:=zipS keep vs,heap:=kcv g st'.heap,ids:=st'.ids,dfr:=D }:St).put dst r) Q
theorem k5u {f:FuncId} {fn:Func} {c:Code} {ops:Array Oper} {l:List Oper} {Q:Exit->St->Prop} {x:Operand} {args:Array Operand} {ts:Array TypeId} {cap:List AV} {n g:Nat} {as_:List AV} (ho:o.op = .call { callee := .value x,args:=args,argTypes:=ts })
  (G : st.eval x = .fn f cap) (hg : kbk ops st o = some true) (hd : ∀ t, o.dst = some t -> t < st.n) (hf : P.funcs[f]? = some fn) (T : fn.body = some c) (hn : (fn.name == "runtime.NumGoroutine") = false) (U : fn.ntmps = n) (H : args.toList.map st.eval ++ cap = as_) (I : Nat.ble as_.length n = true) (j : st.ids.contains g = false)
  (h:∀ cs,awp P c { n:=n,tmps:=argT 0 as_,heap:=(g, .gho cs (st.tmps.map fun p=>st.get p.1))::st.heap,ids:=g::st.ids } (inlQ P ops l o.dst st.n st.dfr g cs st.tmps fn.results.toList Q)):
  awpL P ops (o::l) st Q:=by
 have I:=qr I;have j:g∉st.ids:=by simpa using j
 intro F S0 N0 ψ S a w hs;unfold wpList;rw [ke5 hs hg];refine .inl ?_;have A:=hs.eval x;rw [G] at A;obtain ⟨caps,hcx,V,X⟩:∃ caps:Array Value,a.eval x = .func (.func f) #[] caps/\caps.size=cap.length/\∀ (i:Nat) (v:Value) (y:AV),caps[i]?=some v->cap[i]?=some y->RV ψ (·∈st.ids) S w v y:=by
  generalize a.eval x=u at A;cases A with
  | fn h hr=>exact ⟨_,rfl,h,hr⟩
 have Y:fn.body≠none:=by rw [T];simp
 simp only [qbu,ne_eq] at hn;have J:(execOp a.eval o).run P w = .ok (.enter f (args.map a.eval++caps)) w:=by simp [execOp,ho,resolve,hcx,Deferred.ofValue,invoke,callFunc,hf,Y,hn]
 unfold Oper.wp;rw [J];show Calls P f (args.map a.eval++caps) w _;refine calls_of_wp hf T ?_
 -- the values of the caller's frame
 have B:=hs.core.add (n:=0) (v := .nilFunc) (w':=w) (ob := .gho (st.tmps.map fun p=>a.tmps.getD p.1 undef) (st.tmps.map fun p=>st.get p.1)) (kai _) j (fun b T=>by cases T)
  ⟨kbq _ _,by rw [kap];rfl,by rw [kap];rfl,fun i v x hv G=>by simp only [ql,qw] at hv G;obtain ⟨p,hp,rfl⟩:=hv;obtain ⟨q,s,rfl⟩:=G;rw [hp] at s;injection s with s;subst s;exact (hs.tmps p.1).keep (kbs j _ _) (fun _ h=>qh _ h) (fun _ h=>h) (fun _ _ _=>rfl)⟩
 have K:(args.map a.eval++caps).size=as_.length:=by rw [<- H];simp [V]
 have L:∀ (i:Nat) (v:Value) (y:AV),(args.map a.eval++caps)[i]?=some v->as_[i]?=some y->RV ψ (·∈st.ids) S w v y:=fun i v y hv hy=>by
  rw [<- H] at hy;by_cases hi:i<args.size;rw [qbn (by simpa using hi)] at hv;rw [qac (by simpa using hi)] at hy;simp only [Array.getElem?_map,qw,ql,qaz] at hv hy;obtain ⟨p,hp,rfl⟩:=hv;obtain ⟨q,s,rfl⟩:=hy;rw [hp] at s;injection s with s;subst s;exact hs.eval p
  ·rw [Array.getElem?_append_right (by simpa using hi)] at hv;rw [qai (by simpa using hi)] at hy;exact X _ v y (by simpa using hv) (by simpa using hy)
 have M:Sim F S0 N0 { n:=n,tmps:=argT 0 as_,heap:=(g, .gho (st.tmps.map fun p=>a.tmps.getD p.1 undef) (st.tmps.map fun p=>st.get p.1))::st.heap,ids:=g::st.ids } (ψ.set g 0 .nilFunc) S
   { tmps:=(args.map a.eval++caps)++Array.replicate (fn.ntmps - (args.map a.eval++caps).size) undef,defers:=[] } w:=by
  refine ⟨rfl,by rw [Array.size_append,K,Array.size_replicate,U];show _=n;omega,fun t=>?_,B⟩;show RV _ _ _ w _ (look .any (argT 0 as_) t);rcases kmq as_ 0 t with h | ⟨y,_,h1,m⟩;rw [h];exact .any
  ·rw [m];have h1:as_[t]?=some y:=(by simpa using h1);have C:t<(args.map a.eval++caps).size:=(by rw [K];exact (qd.1 h1).1);have Z:((args.map a.eval++caps)++Array.replicate (fn.ntmps - (args.map a.eval++caps).size) undef).getD t undef=(args.map a.eval++caps)[t]:=(by rw [qa3,qbn C,qbg C];rfl);rw [Z];exact (L t _ y (qbg C) h1).keep (kbs j _ _) (fun _ h=>qh _ h) (fun _ h=>h) (fun _ _ _=>rfl)
 refine wp_mono (h _ F S0 N0 _ S _ w M) ?_;rintro e a' w' ⟨st',ψ',S',⟨he,aa,vs,r,ab,ac,D⟩,m,h3⟩;have fin:a'.defers=[]/\∃ v,(results fn a'.tmps).run P w' = .ok v w'/\wpList P ops (PostA F S0 N0 w Q) l (a.put o.dst v) w':=by
  refine ⟨m.defers.trans aa,?_⟩;have N:∃ v,(results fn a'.tmps).run P w' = .ok v w'/\RV ψ' (·∈st'.ids) S' w' v r:=by
   rcases ac with ⟨hz,rfl⟩ | ⟨z,hz,ad⟩;refine ⟨.tuple #[],?_, .any⟩;have:fn.results=#[]:=(by apply qbr;simpa using hz);simp [results,this]
   ·refine ⟨a'.tmps.getD z undef,?_,by rw [<- ad];exact m.tmps z⟩;have:fn.results=#[.tmp z]:=(by apply qbr;simpa using hz);simp [results,this]
  obtain ⟨v,ae,af⟩:=N;refine ⟨v,ae,?_⟩;obtain ⟨_,⟨_,_,_,ag⟩,_⟩:=m.core.obj g _ ab;have O:Core F S0 N0 (kcv g st'.heap) st'.ids ψ' S' w':=by refine ⟨fun i ob ho=>m.core.obj i ob (keq g ho).2,fun i i' ob ob' b ho ah=>m.core.inj i i' ob ob' b (keq g ho).2 (keq g ah).2,m.core.lt,m.core.s0,m.core.n0,m.core.fr⟩
  have E:Sim F S0 N0 { n:=st.n,tmps:=zipS st.tmps vs,heap:=kcv g st'.heap,ids:=st'.ids,dfr:=st.dfr } ψ' S' a w':=by refine ⟨hs.defers,hs.size,fun t=>?_,O⟩;exact kyf (v:=fun t=>a.tmps.getD t undef) t fun i k x hk G=>ag i _ x (by rw [ql,hk];rfl) G
  have R:=E.put (st':={ n:=st.n,tmps:=zipS st.tmps vs,heap:=kcv g st'.heap,ids:=st'.ids,dfr:=st.dfr }) (d:=o.dst) rfl rfl rfl O af Ext.refl (fun _ h=>h) (fun _ h=>h) (fun _ _ _=>rfl) hd;exact kbm (fun e a'' w'' k=>k.pre h3) _ _ _ (D F S0 N0 ψ' S' _ w' R)
 rcases he with rfl | rfl <;> exact fin
end Go.Proofs.YtnlhjbnpjefjgaaGreatDoor
set_option linter.all false
set_option linter.unusedSectionVars false
namespace Go.Proofs.YtnlhjbnpjefjgaaGreatDoor
namespace RE
open Go Go.RowKit Go.Proofs.Tryz
variable [Dr]
structure Tr (M:Nat->Prop) (w w':World):Prop where
 os:w'.os=w.os
 tape:w'.tape=w.tape
 output:w'.output=w.output
 size:w.heap.size<=w'.heap.size
 block:∀ b,b<w.heap.size->¬ M b->w'.heap[b]?=w.heap[b]?
 drawn:Dr.on=true->w.drawn<=w'.drawn
inductive Gd (M:Nat->Prop) where
 | det (c:Value)
 | rel (G:Value->World->Prop) (h:∀ v w w',G v w->Tr M w w'->G v w')
 | relE (G:Value->World->Prop) (h:∀ v w w',G v w->Below w.heap.size w w'->G v w')
def Gd.holds {M:Nat->Prop}:Gd M->Value->World->Prop
 | .det c,v,_=>v=c
 | .rel G _,v,w=>G v w
 | .relE G _,v,w=>G v w
variable {P:Program}
variable {M:Nat->Prop} {e:Nat} {D:World->Prop} {gs:List (Gd M)} {l:List Oper} {xs:Nat->Value} {a0:Act}
structure k95 {M:Nat->Prop} (e:Nat) (D:World->Prop) (gs:List (Gd M)) (l:List Oper) (C:World->Prop) (a0:Act) (listed:Array Bool) (a:Act) (w:World):Prop where
 inC:C w
 inD:listed.getD e false=false->D w
 defers:a.defers=a0.defers
 size:a.tmps.size=a0.tmps.size
 lsize:listed.size=l.length
 closed:∀ k o,listed.getD k false=true->l[k]?=some o->∀ e∈o.after,Region.binds .any e=true->listed.getD e.on false=true
 vals:∃ xs:Nat->Value,∀ j g,gs[j]?=some g->listed.getD j false=true->g.holds (xs j) w/\∀ o d,l[j]?=some o->o.dst=some d->a.tmps[d]?=some (xs j)
 rest:∀ t,(∀ j o,listed.getD j false=true->l[j]?=some o->o.dst≠some t)->a.tmps[t]?=a0.tmps[t]?
end RE
variable [Dr]
def kk7 (P:Program) (o:Oper) (st:St) (m:Nat) (om:AObj) (c:AV) (om':AObj):Prop:=
 ∀ F S0 N0 ψ S a w,(∀ t,RV ψ (·∈st.ids) S w (a.tmps.getD t undef) (st.get t))->Core F S0 N0 [(m,om)] st.ids ψ S w->kcm P o a w fun v w'=>∃ n u,Core F S0 N0 [(m,om')] st.ids (ψ.set m n u) S w'/\RV (ψ.set m n u) (·∈st.ids) S w' v c/\Fr F w w' /\
  (ψ.len m<n\/(ψ.len m=n/\u=ψ.val m))/\(∀ b,Blk u b->Blk (ψ.val m) b\/w.heap.size<=b)
variable {P:Program} {F S0:Nat->Prop} {N0:Nat} {w w':World} {S S':Nat->Prop} {ψ ψ':Env} {K K':Nat->Prop} {o:Oper} {a:Act} {st:St} {T:List (TypeId×TD)} {t:TypeId} {d:TD}
def k2i (st:St) (id n:Nat):List Nat->Prop
 | []=>True
 | t::ts=>st.get t = .row id n/\k2i st id n ts
def kwv (x:AV) (base:List (Nat×AV)):List Nat->List (Nat×AV)
 | []=>base
 | t::ts=>(t,x)::kwv x base ts
theorem kk8 (id n:Nat) (e:TypeId) (size:Nat) (xs:List FV) (ts:List Nat) (f:k2i st id n ts) (d:kaa st.heap id=some (.frow e size xs):=by kernel_rfl) (hn:n=xs.length:=by simp):
  LeSt st { st with tmps:=kwv (.fz (.lst size n xs)) st.tmps ts,heap:=kcv id st.heap }:=by
 subst hn;intro F S0 N0 ψ S a w hs;obtain ⟨c1,c2⟩:=kjo hs.core d;have c:∀ k,RV ψ (·∈st.ids) (fun b=>S b\/kar (ψ.val id)=some b) w (a.tmps.getD k undef) (st.get k):=fun k=>(hs.tmps k).mono (fun _ h=>h) fun _ h => .inl h;have h0:=(hs.core.obj id _ d).2.1.1;refine ⟨ψ,_,hs.defers,hs.size,fun k=>?_,c1⟩;show RV ψ (·∈st.ids) _ w (a.tmps.getD k undef) (look .any (kwv (.fz (.lst size xs.length xs)) st.tmps ts) k)
 induction ts with
 | nil=>exact c k
 | cons t ts ih=>
  simp only [kwv,kbc];split
  ·rename_i hk;subst hk;have hv:=c t;rw [f.1] at hv;refine .fz ?_;generalize a.tmps.getD t undef=u at hv;cases hv with
   | row hK g h1 hv=>rw [hv (by rw [h0])];exact c2
  ·exact ih f.2
theorem kk1 (st':St) (ids:List Nat) (ts:List (Nat×C1)) {c:AV} (hn:NStep P o st' c) (h:coSt st ids ts []=some st':=by kernel_rfl):NStep P o st c:=by
 unfold coSt at h;cases hi:ids.all st.ids.contains with
 | false=>rw [hi] at h;simp at h
 | true=>
  cases h1:kox st ids ts with
  | none=>rw [hi,h1] at h;simp at h
  | some r=>
   rw [hi,h1] at h;simp only [kov,qc] at h;subst h;have d:∀ id,id∈ids->id∈st.ids:=fun id e=>(by simpa using qu.1 hi id e);intro ψ S a w ht g;refine ki4 ?_ (hn ψ S a w (fun t=>?_) (fun id ob ho=>by cases ho));rintro v w' ⟨k1,k2⟩;exact ⟨k1,k2.mono d fun _ h=>h⟩
   ·show RV ψ (·∈ids) S w _ (look .any r t);rcases ko5 t h1 with b | ⟨c',b,f⟩;rw [b];exact .any
    ·rw [b];rw [b] at *
     exact (kmz _ (ht t)).sub1 f
theorem krr {e:TypeId} {size:Nat} (xs:List FV) {v:Value} {cs:List Value} (d:w.ownsRow 0 e size v xs.length cs) (n:ElR size xs) (hr:RowR S w size xs cs) (k:0<size:=by omega):RF (fun b=>S b\/kar v=some b) w v (.lst size xs.length xs):=by
 rcases d.2 with ⟨hv,o⟩ | ⟨g,cap,cur,hv,_,r,p,l,s,q⟩;have:xs=[]:=qa6 o;subst this;rw [hv];exact .lst (A:=none) (cap:=0) (xs:=[]) (fun _=>[]) rfl (qy _) (by omega) k (fun i x a=>by simp at a) (fun i x a=>by simp at a) (fun i x j v y a=>by simp at a)
 ·rw [hv];have m:∀ i x,xs[i]?=some x->(i+1)*size<=cs.length:=fun i x a=>by rw [d.1];exact qbe _ (qd.1 a).1
  refine .lst (fun i=>(cs.drop (i*size)).take size) rfl p (by unfold maxLen at l;exact l) k (fun i x a=>⟨g,0,rfl, .inr (by rfl),fun j u f=>?_⟩) (fun i x a=>?_) fun i x j v y a c hy=>?_
  ·rw [qad] at f;split at f
   ·rw [qan,<- q,qad] at f;split at f;simp only [World.cell?,r,Nat.zero_add];simpa using f
    ·cases f
   ·cases f
  have:=m i x a;rw [qbi] at this;exact ⟨by rw [qav,qba];omega,n x (qk a)⟩
  ·rw [qad] at c;split at c;rw [qan] at c;exact (hr i x j v y a c hy).mono fun _ h => .inl h
   ·cases c
end Go.Proofs.YtnlhjbnpjefjgaaGreatDoor
