import Derived.Test.YtjbonbdomgoklaaGreatDoorRows
import Derived.Test.YtjbonbdomgoklaaGreatDoorSim
import Derived.ProofKit
import Derived.OpenShut
import Derived.JoinedCond
import Derived.Carry
import Derived.ChangeSame
import Derived.Test.YtjbonbdomgoklaaGreatDoorTy
import Derived.ChangeMaps5
import Derived.Lib.Bytealg
set_option linter.all false
namespace Go.Proofs.YtjbonbdomgoklaaGreatDoor
open Go Go.RowKit Go.ChangeShapes Go.WideShapes Go.ChangeAt
theorem kaeu:ownKnob Tryz.prog.godebug=none:=by kernel_rfl
theorem kaf2:laidOutB Tryz.prog=true:=by kernel_rfl
variable {H:Type} {enc:TypeId×Value->H} {P:Program}
theorem kwi (hl:laidOutB P=true) {W W':World} {sp:Nat->Bool} (e:Below W.heap.size W W'):∀ {ts:List TypeId} {vs:List Value} {ds:List (DataW H)} {ps:List MemPlace},
  (∀ t∈ts,P.readableRec t=true/\t<P.types.size)->DataW.TrodAll enc P W 0 (fun _=>true) true ts vs ds ps->(∀ x∈ps,x.block<W.heap.size)->(∀ x∈ps,sp x.block=true)->DataW.TrodAll enc P W' 0 sp true ts vs ds ps
 | [],vs,ds,ps,_,h,_,_=>by obtain ⟨rfl,rfl,rfl⟩:=trodAll_nil h;exact trodAll_mk0
 | t::ts,vs,ds,ps,ht,h,b,c=>by
  obtain ⟨v,vs',d,ds',p,q,rfl,rfl,rfl,h0,h1⟩:=trodAll_cons h;exact trodAll_cons_mk (WideElems.Trod_stays hl (ht t (by simp)).1 (ht t (by simp)).2 h0 (fun x a=>e.same (b x (by simp [a]))) (fun x a=>c x (by simp [a])))
   (kwi hl e (fun t' f=>ht t' (by simp [f])) h1 (fun x a=>b x (by simp [a])) (fun x a=>c x (by simp [a])))
theorem kafw {f:Func} {s:ChangeSpec} {W W':World} {args:Array Value} {ds gs:List (DataW H)} {before:List MemPlace} {tb:TypeId}
  (hl:laidOutB P=true) (k:∀ t∈f.params.toList,P.readableRec t=true/\t<P.types.size) (a:s.vars=[]) (w:P.underlying tb=some .bool) (hr:f.resultTypes=#[tb])
  (c:s.fn H (ds++gs)={ results:=[.lit (.bool true)],args:=ds })
  (r:DataW.Whole enc P f.params.toList s.vars false W args.toList ds gs before) (hg:Below W.heap.size W W'):
  s.post enc P f false true false false W args (.bool true) W':=by
 have e:=r;obtain ⟨p,q,hA,u,rfl,y,hn⟩:=r;have l:DataW.TrodVars enc P W (fun _=>true) [] gs q:=by rw [a] at u;exact u
 obtain ⟨rfl,rfl⟩:=trodVars_none l;have g:∀ x∈p,x.block<W.heap.size:=fun x d=>e.lt x (by simpa using d);have m:∀ sp:Nat->Bool,(∀ x∈p,sp x.block=true)->DataW.TrodAll enc P W' 0 sp true f.params.toList args.toList (s.fn H (ds++[])).args p:=fun sp n=>by rw [c];exact kwi hl hg k hA g n
 have o:∀ sp:Nat->Bool,DataW.TrodVars enc P W' sp s.vars (s.fn H (ds++[])).vars []:=fun sp=>by rw [a,c];rfl
 have i:∀ x∈p,(fun b=>decide (b<W.heap.size)) x.block=true:=fun x d=>by simpa using g x d
 have j:∀ (b:Nat) (sp:Nat->Bool) (v:Bool),DataW.TrodAll enc P W' b sp v f.resultTypes.toList ((Value.bool true).resultList f.resultTypes.size) (s.fn H (ds++[])).results []:=fun b sp v=>by rw [c,hr];exact trodAll_cons_mk (shut_bool w true) trodAll_mk0
 refine ⟨ds,[],p++[],[],p,[],e,j _ _ _,m _ i,o _,World.keptBut_mono (fun x d=>⟨d,?_⟩) (hg.frame (·∈p++[])),fun h=>by cases h⟩;simp at d ⊢;exact d
variable {w:World} {base:Nat} {spare:Nat->Bool} {held:Bool}
theorem k9n {T:Type} {Q:Nat->T->Prop}:∀ n:Nat,(∀ i,i<n->∃ z,Q i z)->∃ xs:List T,xs.length=n/\∀ (i:Nat) (z:T),xs[i]?=some z->Q i z
 | 0,_=>⟨[],rfl,fun i z h=>by simp at h⟩
 | n+1,h=>by
  obtain ⟨xs,hl,a⟩:=k9n (Q:=Q) n fun i hi=>h i (by omega);obtain ⟨z,b⟩:=h n (by omega);refine ⟨xs++[z],by simp [hl],fun i y hy=>?_⟩;by_cases hi:i<n;rw [q9 (by omega)] at hy;exact a i y hy
  ·rw [qap (by omega)] at hy;have:i=n:=(by have:=(qh.1 hy).1;simp at this;omega);subst this;simp [hl] at hy;subst hy;exact b
theorem kyd {T:Type} (R:List Value->T->Prop) {t e:TypeId} (size:Nat) {fuel:Nat} {cs:List Value} {x:DataW H×List MemPlace} (ht:P.underlying t=some (.slice e)) (hC:P.cellsOf e=size) (h:DataW.trod enc P w base spare held fuel t cs=some x) (p:∀ n cs' y,n<fuel->DataW.trod enc P w base spare held n e cs'=some y->∃ z,R cs' z) (d:0<size:=by omega):
  ∃ v xs,cs=[v]/\RepSl Any w size R v xs:=by
 rcases DataW.trod_slice ht h with ⟨rfl,_⟩ | ⟨a,len,cap,elems,rest,n,C,rfl,_,_,D,f,A,g,_⟩;exact ⟨_,[],rfl,RepSl.nil (by omega)⟩
 ·have each:∀ i,i<len->∃ cs' z,R cs' z/\cs'.length=size/\∀ j,j<size->w.cell? ((a.add (i*size)).add j)=cs'[j]?:=fun i hi=>by have h1:=g i hi;have q:elems[i]?=some elems[i]:=qb (by omega);rw [q,hC] at h1;obtain ⟨cs',hc,r⟩:=qf.1 h1;obtain ⟨_,hl,c⟩:=World.cells?_some hc;obtain ⟨z,m⟩:=p n cs' _ (by omega) r;exact ⟨cs',z,m,hl,c⟩
  obtain ⟨xs,s,B⟩:=k9n (Q:=fun i z=>∃ cs',R cs' z/\cs'.length=size/\∀ j,j<size->w.cell? ((a.add (i*size)).add j)=cs'[j]?) len (fun i hi=>by obtain ⟨cs',z,h⟩:=each i hi;exact ⟨z,cs',h⟩);refine ⟨_,xs,rfl,some a,cap,by rw [s],by omega,by unfold maxLen at f;exact f,fun i z m=>?_⟩;obtain ⟨cs',hr,hl,c⟩:=B i z m;have k:a.spot=none:=by
   have h0:0<xs.length:=(by have:=(qh.1 m).1;omega);obtain ⟨cs0,_,E,l⟩:=B 0 _ (qb h0);have h1:=l 0 d;simp only [Nat.zero_mul,Addr.add,if_true] at h1;rw [qb (by omega)] at h1;unfold World.cell? at h1;split at h1
   ·split at h1;cases h1
    ·rename_i hs;simpa using hs
   ·cases h1
  obtain ⟨b,o,sp⟩:=a;simp only at k;subst k;refine ⟨b,o,cs',rfl,trivial,fun j u hu=>?_,hl,hr⟩;have F:j<size:=by have:=(qh.1 hu).1;omega
  rw [<- hu,<- c j F];congr 1;unfold Addr.add;by_cases h1:i*size=0 <;> by_cases q:j=0 <;> simp [h1,q,Nat.add_assoc]
open Go Go.RowKit
inductive Tm where
 | mk (rule:Int) (args:List Tm)
namespace Tm
def rule:Tm->Int | mk r _=>r
def args:Tm->List Tm | mk _ l=>l
theorem ind {P:Tm->Prop} (h:∀ r l,(∀ t∈l,P t)->P (mk r l)) (t:Tm):P t:=
 Tm.rec (motive_1:=P) (motive_2:=fun l=>∀ t∈l,P t) (fun r l ih=>h r l ih) (fun _ h=>nomatch h)
  (fun t l h1 a x b=>(qan.1 b).elim (fun e=>e ▸ h1) (a x)) t
mutual
def size:Tm->Nat
 | mk _ l=>sizeL l+1
def sizeL:List Tm->Nat
 | []=>0
 | t::l=>t.size+sizeL l
end
mutual
def pre (g:Tm->Int):Tm->List Int
 | mk r l=>g (mk r l)::preL g l
def preL (g:Tm->Int):List Tm->List Int
 | []=>[]
 | t::l=>t.pre g++preL g l
end
def nargs (t:Tm):Int:=(t.args.length:Int)
def rules (t:Tm):List Int:=t.pre rule
def arities (t:Tm):List Int:=t.pre nargs
theorem sizeL_snoc (l:List Tm) (t:Tm):sizeL (l++[t])=sizeL l+t.size:=by
 induction l with
 | nil=>simp [sizeL]
 | cons x l ih=>simp only [qb0,sizeL,ih];omega
theorem size_pos (t:Tm):1<=t.size:=by cases t;simp [size]
theorem sizeL_mem {l:List Tm} {t:Tm} (h:t∈l):t.size<=sizeL l:=by
 induction l with
 | nil=>cases h
 | cons x l ih=>
  simp only [sizeL];rcases qan.1 h with rfl | h;omega
  ·have:=ih h;omega
theorem pre_length (g:Tm->Int) (t:Tm):(t.pre g).length=t.size:=by
 induction t using Tm.ind with
 | h r l ih=>
  simp only [pre,size,qat];have:∀ m:List Tm,(∀ t∈m,(t.pre g).length=t.size)->(preL g m).length=sizeL m:=fun m=>by
   induction m with
   | nil=>simp [preL,sizeL]
   | cons x m ihm=>
    intro h;simp only [preL,sizeL,qac];rw [h x (by simp),ihm fun t ht=>h t (by simp [ht])]
  rw [this l ih]
theorem rules_length (t:Tm):t.rules.length=t.size:=pre_length _ t
theorem arities_length (t:Tm):t.arities.length=t.size:=pre_length _ t
end Tm
variable {S S':Nat->Prop} {w w':World}
inductive kag1 (S:Nat->Prop) (w:World):List Value->Tm->Prop where
 | mk (r:Int) (kids:List Tm) (A:Option Addr) (cap:Nat) (css:Nat->List Value) (hr:ki5 r) (hc:kids.length<=cap) (hm:cap<=9223372036854775807)
  (hA:∀ (i:Nat) (x:Tm),kids[i]?=some x->∃ b o,A=some ⟨b,o,none⟩/\S b/\At w b (o+i*2) (css i))
  (hk:∀ (i:Nat) (x:Tm),kids[i]?=some x->kag1 S w (css i) x):kag1 S w [.int .i64 r, .slice A kids.length cap] (.mk r kids)
mutual
def eVaR:Va->FV
 | .mk t n s l => .agg [eI t,eI n,eS s, .lst 4 l.length (kvp l)]
def kvp:List Va->List FV
 | []=>[]
 | x::l=>eVaR x::kvp l
end
def eVa (x:Va):FV := .agg [eI x.type,eI x.num,eS x.text,eL 4 eVaR x.items]
theorem kzk:∀ l:List Va,kvp l=l.map eVaR
 | []=>by simp [kvp]
 | x::l=>by simp [kvp,kzk l]
theorem k9a (x:Va):eVaR x=eVa x:=by cases x;simp [eVaR,eVa,kzk,eL,Va.type,Va.num,Va.text,Va.items]
theorem kaa4 (x:Va):(eVaR x).cells=(eVa x).cells:=by rw [k9a]
theorem kaer (x:Va):(eVaR x).cells.length=4:=by rw [k9a];rfl
mutual
def eTmR:Tm->FV
 | .mk r l => .agg [eI r, .lst 2 l.length (k06 l)]
def k06:List Tm->List FV
 | []=>[]
 | x::l=>eTmR x::k06 l
end
def eTm (x:Tm):FV := .agg [eI x.rule,eL 2 eTmR x.args]
theorem k5r:∀ l:List Tm,k06 l=l.map eTmR
 | []=>by simp [k06]
 | x::l=>by simp [k06,k5r l]
theorem ksd (x:Tm):eTmR x=eTm x:=by cases x;simp [eTmR,eTm,k5r,eL,Tm.rule,Tm.args]
theorem k96 (x:Tm):(eTmR x).cells=(eTm x).cells:=by rw [ksd]
theorem kafa (x:Tm):(eTmR x).cells.length=2:=by rw [ksd];rfl
def eSy (x:Sy):FV := .agg [eS x.name,eI x.type]
def eRu (x:Ru):FV := .agg [eI x.symbol,eI x.kind,eI x.input,eI x.const.type,eI x.const.num,eS x.const.text,eL 4 eVaR x.const.items,eS x.op,eL 1 eI x.args]
def eLa (x:La):FV := .agg [eS x.name,eL 1 eI x.inputs,eL 2 eSy x.symbols,eL 9 eRu x.rules]
open Go Go.RowKit Go.ChangeShapes Go.WideShapes Go.ChangeAt Go.ChangeMaps
section
variable {T:Type} {P:Program} {H:Type} {enc:TypeId×Value->H} {w:World} {base:Nat} {spare:Nat->Bool} {held:Bool}
theorem k1f {R:List Value->T->Prop} (ec:T->FV) (size:Nat) {v:Value} {xs:List T} (h:RepSl Any w size R v xs) (f:∀ cs x,x∈xs->R cs x->(ec x).cells.length=size/\(∀ y∈(ec x).cells,y.single=true)/\∀ (j:Nat) (u:Value) (y:FV),cs[j]?=some u->(ec x).cells[j]?=some y->RF Any w u y) (g:0<size:=by omega):RF Any w v (eL size ec xs):=by
 obtain ⟨A,cap,rfl,h1,k,l⟩:=h;have e:∀ i:Nat,∃ cs:List Value,∀ x,xs[i]?=some x->∃ b o,A=some ⟨b,o,none⟩/\At w b (o+i*size) cs/\cs.length=size/\R cs x:=fun i=>by
  cases d:xs[i]? with
  | none=>exact ⟨[],fun x h=>by cases h⟩
  | some x=>
   obtain ⟨b,o,cs,e1,_,e2,e3,e4⟩:=l i x d;exact ⟨cs,fun y hy=>by injection hy with hy;subst hy;exact ⟨b,o,e1,e2,e3,e4⟩⟩
 obtain ⟨css,c⟩:=Classical.axiomOfChoice e;refine .lst css (by simp) h1 k g (fun i x d=>?_) (fun i x d=>?_) fun i x j v y d hv hy=>?_;simp only [qq,qw] at d;obtain ⟨z,a,rfl⟩:=d;obtain ⟨b,o,e1,e2,_⟩:=c i z a;exact ⟨b,o,e1,trivial,e2⟩;simp only [qq,qw] at d;obtain ⟨z,a,rfl⟩:=d;obtain ⟨b,o,e1,e2,e3,e4⟩:=c i z a;obtain ⟨g1,g2,_⟩:=f _ z (qp a) e4;exact ⟨e3,g1,g2⟩
 ·simp only [qq,qw] at d;obtain ⟨z,a,rfl⟩:=d;obtain ⟨b,o,e1,e2,e3,e4⟩:=c i z a;exact (f _ z (qp a) e4).2.2 j v y hv hy
theorem kala {x:Value} {cs:List Value} (a:cs=[x]) (b:x.oneCell'=true):(FV.atom x).cells.length=1/\(∀ y∈(FV.atom x).cells,y.single=true)/\∀ (j:Nat) (u:Value) (y:FV),cs[j]?=some u->(FV.atom x).cells[j]?=some y->RF Any w u y:=by
 subst a;refine ⟨rfl,fun y hy=>?_,fun j u y hu hy=>?_⟩;simp [FV.cells] at hy;subst hy;exact b
 ·cases j with
  | zero=>
   simp [FV.cells] at hu hy;subst hu hy;exact .atom b
  | succ j=>simp at hu
theorem kakl {n:Int} (h:(Lit.int .i64 n).wf=true):ki5 n:=by simpa [Lit.wf,IntKind.min,IntKind.max,IntKind.signed,IntKind.bits,ki5] using h
theorem kab7 {r:Reach} {b0:Nat} {t:TypeId} {v:Value} {d:DataW H} {p:List MemPlace} (ht:P.underlying t=some (.int .i64)) (hv:Value.okWide P w r b0 t v) (h:DataW.Trod enc P w base spare held t v d p):∃ n,RF Any w v (eI n)/\ki5 n:=by obtain ⟨n,rfl,_,_,a⟩:=open_int ht hv h;exact ⟨n, .atom rfl,kakl a⟩
theorem kadg {f:FuncId} (args:List FV) {vs:Array Value} (hp:PCall P f args (eB true)) (hs:vs.size=args.length) (hr:∀ (i:Nat) (v:Value) (x:FV),vs[i]?=some v->args[i]?=some x->RF Any w v x):
  Calls P f vs w fun e w'=>e = .returned (.bool true)/\Below w.heap.size w w':=by
 refine (hp.2 Any w vs hs hr).mono ?_;rintro e w' ⟨v,rfl,h1,a⟩;rw [h1.atom_eq];exact ⟨rfl,a⟩
end
def iand (k:IntKind) (a b:Int):Int:=k.wrap (BitVec.ofInt k.bits a &&& BitVec.ofInt k.bits b).toNat
def ior (k:IntKind) (a b:Int):Int:=k.wrap (BitVec.ofInt k.bits a ||| BitVec.ofInt k.bits b).toNat
def imin (a b:Int):Int:=if b<a then b else a
def imax (a b:Int):Int:=if a<b then b else a
def quo (k:IntKind) (a b:Int):Option Int:=if b=0 then none else some (k.wrap (a.tdiv b))
def rem (k:IntKind) (a b:Int):Option Int:=if b=0 then none else some (a.tmod b)
def cutS (s:BA) (lo hi:Int):Option BA:=if 0<=lo/\lo<=hi/\hi<=(s.size:Int) then some (s.extract lo.toNat hi.toNat) else none
def cutL {α:Type} (xs:List α) (lo hi:Int):Option (List α):=if 0<=lo/\lo<=hi/\hi<=(xs.length:Int) then some ((xs.take hi.toNat).drop lo.toNat) else none
variable {P:Program} {F S0:Nat->Prop} {N0:Nat} {ψ:Env} {K:Nat->Prop} {T:List (TypeId×TD)} {o:Oper} {a:Act} {st:St} {t:TypeId} {d:TD}
theorem kag3 {x y:Operand} {ts:Array TypeId} {k k':IntKind} {m n:Int} (ho:o.op = .call { callee := .builtin .min,args:=#[x,y],argTypes:=ts }) (c:st.eval x = .fz (.atom (.int k m))) (hy:st.eval y = .fz (.atom (.int k' n))):NStep P o st (.fz (.atom (.int k (imin m n)))):=by intro ψ S a w ht _;have h1:=Sim.eval_tmps ht x;rw [c] at h1;have b:=Sim.eval_tmps ht y;rw [hy] at b;refine kah w (.int k (imin m n)) ?_ ⟨kaj _, .fz (.atom rfl)⟩;simp [execOp,ho,resolve,invoke,builtin,h1.atom,b.atom,Builtin.min_,Builtin.min2,imin]
theorem kag9 {x y:Operand} {ts:Array TypeId} {k k':IntKind} {m n:Int} (ho:o.op = .call { callee := .builtin .max,args:=#[x,y],argTypes:=ts }) (c:st.eval x = .fz (.atom (.int k m))) (hy:st.eval y = .fz (.atom (.int k' n))):NStep P o st (.fz (.atom (.int k (imax m n)))):=by intro ψ S a w ht _;have h1:=Sim.eval_tmps ht x;rw [c] at h1;have b:=Sim.eval_tmps ht y;rw [hy] at b;refine kah w (.int k (imax m n)) ?_ ⟨kaj _, .fz (.atom rfl)⟩;simp [execOp,ho,resolve,invoke,builtin,h1.atom,b.atom,Builtin.max_,Builtin.max2,imax]
theorem kahc (x y:Operand) (yt:TypeId) (k:IntKind) (m n:Int) {r:Int} (h:quo k m n=some r) (ho:o.op = .binOp .quo t x y yt:=by kernel_rfl) (a:st.eval x = .fz (.atom (.int k m)):=by kernel_rfl) (hy:st.eval y = .fz (.atom (.int k n)):=by kernel_rfl):NStep P o st (.fz (.atom (.int k r))):=by
 unfold quo at h;split at h;cases h
 ·rename_i b;injection h with h;subst h;exact kabf false (fun h=>nomatch h) ho a hy (by simp [binV,intV,b])
def kpy (st:St):Option Operand->Option (Option Int)
 | none=>some none
 | some x=>match st.eval x with
  | .fz (.atom (.int _ n))=>some (some n)
  | _=>none
theorem kny {ids:List Nat} (ht:∀ t,RV ψ (·∈ids) S w (a.tmps.getD t undef) (st.get t)) {x:Option Operand} {r:Option Int} (h:kpy st x=some r):(x=none/\r=none)\/∃ y k n,x=some y/\r=some n/\a.eval y = .int k n:=by
 unfold kpy at h;split at h;injection h with h;exact .inl ⟨rfl,h.symm⟩
 ·rename_i y;split at h;rename_i k n hk;injection h with h;have h1:=Sim.eval_tmps ht y;rw [hk] at h1;exact .inr ⟨y,k,n,rfl,h.symm,h1.atom⟩
  ·cases h
theorem kab4 (x:Operand) (lo hi:Option Operand) (l h:Option Int) (s:BA) {r:BA} (hc:cutS s (l.getD 0) (h.getD s.size)=some r) (e:TOk P T) (ho:o.op = .slice t x lo hi none:=by kernel_rfl) (f:kag T t=some d:=by kernel_rfl) (hk:d.kind = .str:=by kernel_rfl) (g:st.eval x = .fz (.atom (.string s)):=by kernel_rfl) (hl:kpy st lo=some l:=by kernel_rfl) (i:kpy st hi=some h:=by kernel_rfl):
  NStep P o st (.fz (.atom (.string r))):=by
 intro ψ S a w ht m;have h1:=Sim.eval_tmps ht x;rw [g] at h1;have bl:=kny ht hl;have bh:=kny ht i;unfold cutS at hc;split at hc
 ·rename_i b;injection hc with hc;subst hc;refine kah w (.string (s.extract (l.getD 0).toNat (h.getD s.size).toNat)) ?_ ⟨kaj _, .fz (.atom rfl)⟩;have hu:=(e.get f).str hk;have e1:(Instr.sliceBounds false s.size s.size (lo.map a.eval) (hi.map a.eval) none).run P w = .ok ((l.getD 0).toNat,(h.getD s.size).toNat,s.size) w:=by
   unfold Instr.sliceBounds;rcases bh with ⟨rfl,rfl⟩ | ⟨y,k,n,rfl,rfl,hy⟩
   ·rcases bl with ⟨rfl,rfl⟩ | ⟨y',k',n',rfl,rfl,c⟩;simp
    ·simp only [qaf,Option.getD_none] at b ⊢;simp [Instr.sliceBound,c,asIntOf,b.1,b.2.1]
   ·rcases bl with ⟨rfl,rfl⟩ | ⟨y',k',n',rfl,rfl,c⟩;simp only [qaf,Option.getD_none] at b ⊢;simp [Instr.sliceBound,hy,asIntOf,b.2.1,b.2.2]
    ·simp only [qaf] at b ⊢;have:0<=n:=(by omega);have j:n'<=(n.toNat:Int):=(by omega);simp [Instr.sliceBound,hy,c,asIntOf,b.1,b.2.2,this,j];intro hc;exfalso;omega
  simp [execOp,ho,Instr.sliceAt,Instr.slice,run_underlying hu,h1.atom,e1]
 ·cases hc
theorem RF.take {v:Value} {size n k:Nat} {A:Option Addr} {cap:Nat} {xs:List FV} (h:RF S w (.slice A n cap) (.lst size n xs)) (lo hi:Nat) (h1:lo<=hi) (f:hi<=n):∃ A',A'=(if cap=lo then A else A.map (·.add (lo*size)))/\RF S w (.slice A' (hi - lo) (cap - lo)) (.lst size (hi - lo) ((xs.take hi).drop lo)):=by
 obtain ⟨A0,cap0,css,hv,hn,hc,hm,hs,ha,hl,hr⟩:=h.lst_inv;injection hv with e1 _ e3;subst e1 e3;have c:(xs.take hi).length=hi:=by rw [qam];omega
 have get:∀ (i:Nat) (x:FV),((xs.take hi).drop lo)[i]?=some x->xs[lo+i]?=some x:=fun i x a=>by
  rw [qau,qad] at a;split at a;exact a
  ·cases a
 refine ⟨_,rfl, .lst (fun i=>css (lo+i)) (by rw [qa3,c]) (by omega) (by omega) hs (fun i x a=>?_) (fun i x a=>hl _ x (get i x a)) fun i x j v y a hv hy=>hr _ x j v y (get i x a) hv hy⟩;obtain ⟨b,o,hA,hS,d⟩:=ha _ x (get i x a);have e:=(qh.1 (get i x a)).1;refine ⟨b,o+lo*size,?_,hS,by rw [Nat.add_assoc,<- qbj];exact d⟩;rw [qi (by omega),hA];simp only [qba,kcc]
theorem kwy (t:TypeId) (d:TD) {α:Type} (enc:α->FV) (x:Operand) (lo hi:Option Operand) (l h:Option Int) (xs:List α) {r:List α} (size:Nat) (e:TypeId) (de:TD) (hc:cutL xs (l.getD 0) (h.getD xs.length)=some r) (p:TOk P T:=by exact kae) (ho:o.op = .slice t x lo hi none:=by kernel_rfl) (s:kag T t=some d:=by kernel_rfl) (hk:d.kind = .slice e:=by kernel_rfl) (f:kag T e=some de:=by kernel_rfl) (g:de.size=size:=by kernel_rfl) (u:st.eval x = .fz (eL size enc xs):=by kernel_rfl) (hl:kpy st lo=some l:=by kernel_rfl) (z:kpy st hi=some h:=by kernel_rfl):NStep P o st (.fz (eL size enc r)):=by
 intro ψ S a w ht F;have h1:=Sim.eval_tmps ht x;rw [u] at h1;have bl:=kny ht hl;have bh:=kny ht z;unfold cutL at hc;split at hc
 ·rename_i b;injection hc with hc;subst hc;have h1:=h1.inv;obtain ⟨A,cap,css,hv,hn,B,hm,hs,ha,C,hr⟩:=h1.lst_inv;rw [hv] at h1;obtain ⟨A',i,j⟩:=h1.take (v := .nilFunc) (k:=0) (l.getD 0).toNat (h.getD xs.length).toNat (by omega) (by omega);refine kah w (.slice A' ((h.getD xs.length).toNat - (l.getD 0).toNat) (cap - (l.getD 0).toNat)) ?_ ⟨kaj _,(RV.fz ?_).here⟩
  ·have hu:=(p.get s).slice hk;have e1:(Instr.sliceBounds true xs.length cap (lo.map a.eval) (hi.map a.eval) none).run P w = .ok ((l.getD 0).toNat,(h.getD xs.length).toNat,cap) w:=by
    unfold Instr.sliceBounds;have q:(xs.length:Int)<=(cap:Int):=(by omega);rcases bh with ⟨rfl,rfl⟩ | ⟨y,k,n,rfl,rfl,hy⟩
    ·rcases bl with ⟨rfl,rfl⟩ | ⟨y',k',n',rfl,rfl,c⟩;simp
     ·simp only [qaf,Option.getD_none] at b ⊢;simp [Instr.sliceBound,c,asIntOf,b.1,b.2.1]
    ·rcases bl with ⟨rfl,rfl⟩ | ⟨y',k',n',rfl,rfl,c⟩;simp only [qaf,Option.getD_none] at b ⊢;have:n<=(cap:Int):=(by omega);simp [Instr.sliceBound,hy,asIntOf,b.2.1,this]
     ·simp only [qaf] at b ⊢;have:0<=n:=(by omega);have D:n'<=(n.toNat:Int):=(by omega);have E:n<=(cap:Int):=(by omega);simp [Instr.sliceBound,hy,c,asIntOf,b.1,this,D,E];intro hc;exfalso;omega
   have m:(sizeOf e).run P w = .ok size w:=(by rw [(p.get f).size,g]);simp [execOp,ho,Instr.sliceAt,Instr.slice,run_underlying hu,hv,e1,m,i]
  ·have:((xs.take (h.getD xs.length).toNat).drop (l.getD 0).toNat).length=(h.getD xs.length).toNat - (l.getD 0).toNat:=(by rw [qa3,qam];omega);unfold eL;rw [this,List.map_drop,List.map_take];exact j
 ·cases hc
def zipS:List (Nat×AV)->List AV->List (Nat×AV)
 | (t,_)::l,v::vs=>(t,v)::zipS l vs
 | _,_=>[]
theorem kzw {v:Nat->Value} {K:Nat->Prop}:∀ {l:List (Nat×AV)} {vs:List AV} (t:Nat),(∀ (i:Nat) (k:Nat×AV) (x:AV),l[i]?=some k->vs[i]?=some x->RV ψ K S w (v k.1) x)->RV ψ K S w (v t) (look .any (zipS l vs) t)
 | [],vs,t,h=>by cases vs <;> exact .any
 | (k,y)::l,[],t,h => .any
 | (k,y)::l,x::vs,t,h=>by
  simp only [zipS,kbf];split;rename_i hk;subst hk;exact h 0 _ x rfl rfl
  ·exact kzw t fun i k x hk a=>h (i+1) k x (by simpa using hk) (by simpa using a)
def argT:Nat->List AV->List (Nat×AV)
 | _,[]=>[]
 | i,x::l=>(i,x)::argT (i+1) l
theorem ko1:∀ (l:List AV) (i t:Nat),look .any (argT i l) t = .any\/∃ x,i<=t/\l[t - i]?=some x/\look .any (argT i l) t=x
 | [],i,t => .inl rfl
 | x::l,i,t=>by
  simp only [argT,kbf];by_cases h:i=t;subst h;exact .inr ⟨x,qx _,by simp,by simp⟩
  ·rw [qi h];rcases ko1 l (i+1) t with h1 | ⟨y,h1,a,b⟩;exact .inl h1
   ·exact .inr ⟨y,by omega,by rw [show t - i=(t - (i+1))+1 by omega];simpa using a,b⟩
def inlQ (P:Program) (ops:Array Oper) (l:List Oper) (dst:Option Nat) (n:Nat) (D:List Deferred) (g:Nat) (cs:List Value) (keep:List (Nat×AV)) (rs:List ResultVar) (Q:Exit->St->Prop):Exit->St->Prop:=fun e st'=>
 (e = .normal\/e = .ret)/\st'.dfr=[]/\∃ vs r,kad st'.heap g=some (.gho cs vs)/\((rs=[]/\r = .any)\/∃ z,rs=[.tmp z]/\st'.get z=r) /\
  awpL P ops l (({ n:=n,tmps:=zipS keep vs,heap:=kdb g st'.heap,ids:=st'.ids,dfr:=D }:St).put dst r) Q
theorem kafq {f:FuncId} {fn:Func} {c:Code} {ops:Array Oper} {l:List Oper} {Q:Exit->St->Prop} {x:Operand} {args:Array Operand} {ts:Array TypeId} {cap:List AV} {n g:Nat} {as_:List AV} (ho:o.op = .call { callee := .value x,args:=args,argTypes:=ts })
  (G : st.eval x = .fn f cap) (hg : kb9 ops st o = some true) (hd : ∀ t, o.dst = some t -> t < st.n) (hf : P.funcs[f]? = some fn) (T : fn.body = some c) (hn : (fn.name == "runtime.NumGoroutine") = false) (U : fn.ntmps = n) (H : args.toList.map st.eval ++ cap = as_) (I : Nat.ble as_.length n = true) (j : st.ids.contains g = false)
  (h:∀ cs,awp P c { n:=n,tmps:=argT 0 as_,heap:=(g, .gho cs (st.tmps.map fun p=>st.get p.1))::st.heap,ids:=g::st.ids } (inlQ P ops l o.dst st.n st.dfr g cs st.tmps fn.results.toList Q)):
  awpL P ops (o::l) st Q:=by
 have I:=qu I;have j:g∉st.ids:=by simpa using j
 intro F S0 N0 ψ S a w hs;unfold wpList;rw [khg hs hg];refine .inl ?_;have A:=hs.eval x;rw [G] at A;obtain ⟨caps,hcx,V,X⟩:∃ caps:Array Value,a.eval x = .func (.func f) #[] caps/\caps.size=cap.length/\∀ (i:Nat) (v:Value) (y:AV),caps[i]?=some v->cap[i]?=some y->RV ψ (·∈st.ids) S w v y:=by
  generalize a.eval x=u at A;cases A with
  | fn h hr=>exact ⟨_,rfl,h,hr⟩
 have Y:fn.body≠none:=by rw [T];simp
 simp only [qaw,ne_eq] at hn;have J:(execOp a.eval o).run P w = .ok (.enter f (args.map a.eval++caps)) w:=by simp [execOp,ho,resolve,hcx,Deferred.ofValue,invoke,callFunc,hf,Y,hn]
 unfold Oper.wp;rw [J];show Calls P f (args.map a.eval++caps) w _;refine calls_of_wp hf T ?_
 -- the values of the caller's frame
 have B:=hs.core.add (n:=0) (v := .nilFunc) (w':=w) (ob := .gho (st.tmps.map fun p=>a.tmps.getD p.1 undef) (st.tmps.map fun p=>st.get p.1)) (kaj _) j (fun b T=>by cases T)
  ⟨kcl _ _,by rw [kap];rfl,by rw [kap];rfl,fun i v x hv G=>by simp only [qq,qw] at hv G;obtain ⟨p,hp,rfl⟩:=hv;obtain ⟨q,s,rfl⟩:=G;rw [hp] at s;injection s with s;subst s;exact (hs.tmps p.1).keep (kb5 j _ _) (fun _ h=>qk _ h) (fun _ h=>h) (fun _ _ _=>rfl)⟩
 have K:(args.map a.eval++caps).size=as_.length:=by rw [<- H];simp [V]
 have L:∀ (i:Nat) (v:Value) (y:AV),(args.map a.eval++caps)[i]?=some v->as_[i]?=some y->RV ψ (·∈st.ids) S w v y:=fun i v y hv hy=>by
  rw [<- H] at hy;by_cases hi:i<args.size;rw [qbp (by simpa using hi)] at hv;rw [q9 (by simpa using hi)] at hy;simp only [Array.getElem?_map,qw,qq,qbb] at hv hy;obtain ⟨p,hp,rfl⟩:=hv;obtain ⟨q,s,rfl⟩:=hy;rw [hp] at s;injection s with s;subst s;exact hs.eval p
  ·rw [Array.getElem?_append_right (by simpa using hi)] at hv;rw [qap (by simpa using hi)] at hy;exact X _ v y (by simpa using hv) (by simpa using hy)
 have M:Sim F S0 N0 { n:=n,tmps:=argT 0 as_,heap:=(g, .gho (st.tmps.map fun p=>a.tmps.getD p.1 undef) (st.tmps.map fun p=>st.get p.1))::st.heap,ids:=g::st.ids } (ψ.set g 0 .nilFunc) S
   { tmps:=(args.map a.eval++caps)++Array.replicate (fn.ntmps - (args.map a.eval++caps).size) undef,defers:=[] } w:=by
  refine ⟨rfl,by rw [Array.size_append,K,Array.size_replicate,U];show _=n;omega,fun t=>?_,B⟩;show RV _ _ _ w _ (look .any (argT 0 as_) t);rcases ko1 as_ 0 t with h | ⟨y,_,h1,m⟩;rw [h];exact .any
  ·rw [m];have h1:as_[t]?=some y:=(by simpa using h1);have C:t<(args.map a.eval++caps).size:=(by rw [K];exact (qh.1 h1).1);have Z:((args.map a.eval++caps)++Array.replicate (fn.ntmps - (args.map a.eval++caps).size) undef).getD t undef=(args.map a.eval++caps)[t]:=(by rw [qa7,qbp C,qb2 C];rfl);rw [Z];exact (L t _ y (qb2 C) h1).keep (kb5 j _ _) (fun _ h=>qk _ h) (fun _ h=>h) (fun _ _ _=>rfl)
 refine wp_mono (h _ F S0 N0 _ S _ w M) ?_;rintro e a' w' ⟨st',ψ',S',⟨he,aa,vs,r,ab,ac,D⟩,m,h3⟩;have fin:a'.defers=[]/\∃ v,(results fn a'.tmps).run P w' = .ok v w'/\wpList P ops (PostA F S0 N0 w Q) l (a.put o.dst v) w':=by
  refine ⟨m.defers.trans aa,?_⟩;have N:∃ v,(results fn a'.tmps).run P w' = .ok v w'/\RV ψ' (·∈st'.ids) S' w' v r:=by
   rcases ac with ⟨hz,rfl⟩ | ⟨z,hz,ad⟩;refine ⟨.tuple #[],?_, .any⟩;have:fn.results=#[]:=(by apply qbv;simpa using hz);simp [results,this]
   ·refine ⟨a'.tmps.getD z undef,?_,by rw [<- ad];exact m.tmps z⟩;have:fn.results=#[.tmp z]:=(by apply qbv;simpa using hz);simp [results,this]
  obtain ⟨v,ae,af⟩:=N;refine ⟨v,ae,?_⟩;obtain ⟨_,⟨_,_,_,ag⟩,_⟩:=m.core.obj g _ ab;have O:Core F S0 N0 (kdb g st'.heap) st'.ids ψ' S' w':=by refine ⟨fun i ob ho=>m.core.obj i ob (kds g ho).2,fun i i' ob ob' b ho ah=>m.core.inj i i' ob ob' b (kds g ho).2 (kds g ah).2,m.core.lt,m.core.s0,m.core.n0,m.core.fr⟩
  have E:Sim F S0 N0 { n:=st.n,tmps:=zipS st.tmps vs,heap:=kdb g st'.heap,ids:=st'.ids,dfr:=st.dfr } ψ' S' a w':=by refine ⟨hs.defers,hs.size,fun t=>?_,O⟩;exact kzw (v:=fun t=>a.tmps.getD t undef) t fun i k x hk G=>ag i _ x (by rw [qq,hk];rfl) G
  have R:=E.put (st':={ n:=st.n,tmps:=zipS st.tmps vs,heap:=kdb g st'.heap,ids:=st'.ids,dfr:=st.dfr }) (d:=o.dst) rfl rfl rfl O af Ext.refl (fun _ h=>h) (fun _ h=>h) (fun _ _ _=>rfl) hd;exact kdf (fun e a'' w'' k=>k.pre h3) _ _ _ (D F S0 N0 ψ' S' _ w' R)
 rcases he with rfl | rfl <;> exact fin
namespace RE
open Go Go.RowKit
structure Tr (M:Nat->Prop) (w w':World):Prop where
 os:w'.os=w.os
 tape:w'.tape=w.tape
 output:w'.output=w.output
 size:w.heap.size<=w'.heap.size
 block:∀ b,b<w.heap.size->¬ M b->w'.heap[b]?=w.heap[b]?
inductive Gd (M:Nat->Prop) where
 | det (c:Value)
 | rel (G:Value->World->Prop) (h:∀ v w w',G v w->Tr M w w'->G v w')
 | relE (G:Value->World->Prop) (h:∀ v w w',G v w->Below w.heap.size w w'->G v w')
def Gd.holds {M:Nat->Prop}:Gd M->Value->World->Prop
 | .det c,v,_=>v=c
 | .rel G _,v,w=>G v w
 | .relE G _,v,w=>G v w
variable {P:Program}
variable {M:Nat->Prop} {e:Nat} {D:World->Prop} {gs:List (Gd M)} {l:List Oper} {xs:Nat->Value} {a0:Act}
structure kaki {M:Nat->Prop} (e:Nat) (D:World->Prop) (gs:List (Gd M)) (l:List Oper) (C:World->Prop) (a0:Act) (listed:Array Bool) (a:Act) (w:World):Prop where
 inC:C w
 inD:listed.getD e false=false->D w
 defers:a.defers=a0.defers
 size:a.tmps.size=a0.tmps.size
 lsize:listed.size=l.length
 closed:∀ k o,listed.getD k false=true->l[k]?=some o->∀ e∈o.after,Region.binds .any e=true->listed.getD e.on false=true
 vals:∃ xs:Nat->Value,∀ j g,gs[j]?=some g->listed.getD j false=true->g.holds (xs j) w/\∀ o d,l[j]?=some o->o.dst=some d->a.tmps[d]?=some (xs j)
 rest:∀ t,(∀ j o,listed.getD j false=true->l[j]?=some o->o.dst≠some t)->a.tmps[t]?=a0.tmps[t]?
end RE
def kk5 (P:Program) (o:Oper) (st:St) (m:Nat) (om:AObj) (c:AV) (om':AObj):Prop:=
 ∀ F S0 N0 ψ S a w,(∀ t,RV ψ (·∈st.ids) S w (a.tmps.getD t undef) (st.get t))->Core F S0 N0 [(m,om)] st.ids ψ S w->kf9 P o a w fun v w'=>∃ n u,Core F S0 N0 [(m,om')] st.ids (ψ.set m n u) S w'/\RV (ψ.set m n u) (·∈st.ids) S w' v c/\Fr F w w' /\
  (ψ.len m<n\/(ψ.len m=n/\u=ψ.val m))/\(∀ b,Blk u b->Blk (ψ.val m) b\/w.heap.size<=b)
variable {F S0:Nat->Prop} {N0:Nat} {w w':World} {S S':Nat->Prop} {ψ ψ':Env} {K K':Nat->Prop} {o:Oper} {a:Act} {st:St} {T:List (TypeId×TD)} {t:TypeId} {d:TD}
def kabz (st:St) (id n:Nat):List Nat->Prop
 | []=>True
 | t::ts=>st.get t = .row id n/\kabz st id n ts
def kwa (x:AV) (base:List (Nat×AV)):List Nat->List (Nat×AV)
 | []=>base
 | t::ts=>(t,x)::kwa x base ts
theorem km2 (id n:Nat) (e:TypeId) (size:Nat) (xs:List FV) (ts:List Nat) (f:kabz st id n ts) (d:kad st.heap id=some (.frow e size xs):=by kernel_rfl) (hn:n=xs.length:=by simp):
  LeSt st { st with tmps:=kwa (.fz (.lst size n xs)) st.tmps ts,heap:=kdb id st.heap }:=by
 subst hn;intro F S0 N0 ψ S a w hs;obtain ⟨c1,c2⟩:=kq1 hs.core d;have c:∀ k,RV ψ (·∈st.ids) (fun b=>S b\/kau (ψ.val id)=some b) w (a.tmps.getD k undef) (st.get k):=fun k=>(hs.tmps k).mono (fun _ h=>h) fun _ h => .inl h;have h0:=(hs.core.obj id _ d).2.1.1;refine ⟨ψ,_,hs.defers,hs.size,fun k=>?_,c1⟩;show RV ψ (·∈st.ids) _ w (a.tmps.getD k undef) (look .any (kwa (.fz (.lst size xs.length xs)) st.tmps ts) k)
 induction ts with
 | nil=>exact c k
 | cons t ts ih=>
  simp only [kwa,kbf];split
  ·rename_i hk;subst hk;have hv:=c t;rw [f.1] at hv;refine .fz ?_;generalize a.tmps.getD t undef=u at hv;cases hv with
   | row hK g h1 hv=>rw [hv (by rw [h0])];exact c2
  ·exact ih f.2
theorem kqo (st':St) (ids:List Nat) (ts:List (Nat×C1)) {c:AV} (hn:NStep P o st' c) (h:coSt st ids ts []=some st':=by kernel_rfl):NStep P o st c:=by
 unfold coSt at h;cases hi:ids.all st.ids.contains with
 | false=>rw [hi] at h;simp at h
 | true=>
  cases h1:ku6 st ids ts with
  | none=>rw [hi,h1] at h;simp at h
  | some r=>
   rw [hi,h1] at h;simp only [ku4,qe] at h;subst h;have d:∀ id,id∈ids->id∈st.ids:=fun id e=>(by simpa using qr.1 hi id e);intro ψ S a w ht g;refine kpj ?_ (hn ψ S a w (fun t=>?_) (fun id ob ho=>by cases ho));rintro v w' ⟨k1,k2⟩;exact ⟨k1,k2.mono d fun _ h=>h⟩
   ·show RV ψ (·∈ids) S w _ (look .any r t);rcases kvg t h1 with b | ⟨c',b,f⟩;rw [b];exact .any
    ·rw [b];rw [b] at *
     exact (kut _ (ht t)).sub1 f
theorem kyc {e:TypeId} {size:Nat} (xs:List FV) {v:Value} {cs:List Value} (d:w.ownsRow 0 e size v xs.length cs) (m:ElR size xs) (hr:RowR S w size xs cs) (f:0<size:=by omega):RF (fun b=>S b\/kau v=some b) w v (.lst size xs.length xs):=by
 rcases d.2 with ⟨hv,n⟩ | ⟨g,cap,cur,hv,_,q,o,k,r,p⟩;have:xs=[]:=qbe n;subst this;rw [hv];exact .lst (A:=none) (cap:=0) (xs:=[]) (fun _=>[]) rfl (qx _) (by omega) f (fun i x a=>by simp at a) (fun i x a=>by simp at a) (fun i x j v y a=>by simp at a)
 ·rw [hv];have l:∀ i x,xs[i]?=some x->(i+1)*size<=cs.length:=fun i x a=>by rw [d.1];exact qa1 _ (qh.1 a).1
  refine .lst (fun i=>(cs.drop (i*size)).take size) rfl o (by unfold maxLen at k;exact k) f (fun i x a=>⟨g,0,rfl, .inr (by rfl),fun j u hu=>?_⟩) (fun i x a=>?_) fun i x j v y a c hy=>?_
  ·rw [qad] at hu;split at hu
   ·rw [qau,<- p,qad] at hu;split at hu;simp only [World.cell?,q,Nat.zero_add];simpa using hu
    ·cases hu
   ·cases hu
  have:=l i x a;rw [qbj] at this;exact ⟨by rw [qam,qa3];omega,m x (qp a)⟩
  ·rw [qad] at c;split at c;rw [qau] at c;exact (hr i x j v y a c hy).mono fun _ h => .inl h
   ·cases c
theorem kabw (f:FuncId) (fn:Func) (ts:Array TypeId) (X Y:Operand) (s:BA) (c:Int) (ho:o.op = .call { callee := .value (.func f),args:=#[X,Y],argTypes:=ts }) (hf:P.funcs[f]?=some fn) (b: (fn.name == "runtime.NumGoroutine") = false := by kernel_rfl) (e: fn.body.isNone = true := by kernel_rfl) (hn: Extern.findNext fn = none := by kernel_rfl) (g: Extern.find fn = some Extern.BytealgIndexByte.indexByte := by kernel_rfl) (h: st.eval X = .fz (eS s) := by kernel_rfl) (hy: st.eval Y = .fz (eU8 c) := by kernel_rfl): NStep P o st (.fz (eI (Lib.indexByte s.data.toList c.toNat.toUInt8))) := by
 intro ψ S a w ht i;have h1:=Sim.eval_tmps ht X;rw [h] at h1;have h1:=h1.atom;have d:=Sim.eval_tmps ht Y;rw [hy] at d;have d:=d.atom;refine kah w (.int .i64 (Lib.indexByte s.data.toList c.toNat.toUInt8)) ?_ ⟨kaj _, .fz (.atom rfl)⟩;have h0:a.eval (.func f) = .func (.func f) #[] #[]:=rfl;simp [execOp,ho,resolve,h0,Deferred.ofValue,invoke,run_callFunc_extern hf b e hn g,h1,d,Lib.run_indexByteString]
def rn:List (Nat×Nat)->Nat->Nat
 | [],i=>i
 | (k,j)::l,i=>bif Nat.beq k i then j else rn l i
mutual
def renA (r:List (Nat×Nat)):AV->AV
 | .fz x => .fz x
 | .agg cs => .agg (kqw r cs)
 | .tup vs => .tup (kqw r vs)
 | .ref id n off => .ref (rn r id) n off
 | .row id n => .row (rn r id) n
 | .lim a b c => .lim a b c
 | .mp id => .mp (rn r id)
 | .opt id => .opt (rn r id)
 | .sdp id n => .sdp (rn r id) n
 | .win id n lo hi => .win (rn r id) n lo hi
 | .irow id g j => .irow (rn r id) g j
 | .iref id g j off => .iref (rn r id) g j off
 | .bsl id g off len cap => .bsl (rn r id) g off len cap
 | .fn f cap => .fn f (kqw r cap)
 | .mth f cap => .mth f (kqw r cap)
 | .any => .any
def kqw (r:List (Nat×Nat)):List AV->List AV
 | []=>[]
 | x::l=>renA r x::kqw r l
end
mutual
def okA (ids:List Nat):AV->Bool
 | .fz _=>true
 | .agg cs=>okAs ids cs
 | .tup vs=>okAs ids vs
 | .ref id _ _=>ids.contains id
 | .row id _=>ids.contains id
 | .lim _ _ _=>true
 | .mp id=>ids.contains id
 | .opt id=>ids.contains id
 | .sdp id _=>ids.contains id
 | .win id _ _ _=>ids.contains id
 | .irow id _ _=>ids.contains id
 | .iref id _ _ _=>ids.contains id
 | .bsl id _ _ _ _=>ids.contains id
 | .fn _ cap=>okAs ids cap
 | .mth _ cap=>okAs ids cap
 | .any=>true
def okAs (ids:List Nat):List AV->Bool
 | []=>true
 | x::l=>okA ids x && okAs ids l
end
def renO (r:List (Nat×Nat)):AObj->AObj
 | .box e cs => .box e (kqw r cs)
 | .frow e s xs => .frow e s xs
 | .smap kv => .smap kv
 | .gho cs vs => .gho cs (kqw r vs)
 | .was a b c d => .was a b c d
 | .tab g ov eo ei rows => .tab g ov eo ei rows
 | .glb gs => .glb gs
 | .sit s pos => .sit s pos
 | .memo Φ h => .memo Φ h
 | .xo k => .xo k
def okO (ids:List Nat):AObj->Bool
 | .box _ cs=>okAs ids cs
 | .frow _ _ _=>true
 | .smap _=>true
 | .tab _ _ _ _ _=>true
 | .gho _ vs=>okAs ids vs
 | .glb _=>true
 | .sit _ _=>true
 | .memo _ _=>true
 | _=>false
theorem knv (r:List (Nat×Nat)):∀ l,kqw r l=l.map (renA r)
 | []=>rfl
 | x::l=>by simp [kqw,knv r l]
theorem km3 (ids:List Nat):∀ l,okAs ids l=l.all (okA ids)
 | []=>rfl
 | x::l=>by simp [okAs,km3 ids l]
theorem kyz (r:List (Nat×Nat)) (x:AV):(renA r x).single=x.single:=by cases x <;> rfl
variable {ids:List Nat}
theorem RV.ren {r:List (Nat×Nat)} {v:Value} {x:AV} (h:RV ψ K S w v x) (hr:∀ i,K i->K' (rn r i)/\ψ'.len (rn r i)=ψ.len i/\ψ'.val (rn r i)=ψ.val i):RV ψ' K' S w v (renA r x):=by
 induction h with
 | fz h=>exact .fz h
 | agg h h1 _ ih=>
  simp only [renA,knv];refine .agg (by simpa using h) (fun x a=>?_) fun i v x hv a=>?_;obtain ⟨y,hy,rfl⟩:=qaa.1 a;rw [kyz];exact h1 y hy
  ·simp only [qq,qw] at a;obtain ⟨y,hy,rfl⟩:=a;exact ih i v y hv hy
 | tup h _ ih=>
  simp only [renA,knv];refine .tup (by simpa using h) fun i v x hv a=>?_;simp only [qq,qw] at a;obtain ⟨y,hy,rfl⟩:=a;exact ih i v y hv hy
 | @ref id n off v hk hn h1 hv=>
  obtain ⟨e1,e2,e3⟩:=hr id hk;exact .ref e1 (by omega) h1 fun h=>by rw [e3];exact hv (by omega)
 | @row id n v hk hn h1 hv=>
  obtain ⟨e1,e2,e3⟩:=hr id hk;exact .row e1 (by omega) h1 fun h=>by rw [e3];exact hv (by omega)
 | lim h=>exact .lim h
 | @mp id v hk h1 hv=>
  obtain ⟨e1,e2,e3⟩:=hr id hk;exact .mp e1 h1 fun h=>by rw [e3];exact hv (by omega)
 | fn h _ ih=>
  simp only [renA,knv];refine .fn (by simpa using h) fun i v x hv a=>?_;simp only [qq,qw] at a;obtain ⟨y,hy,rfl⟩:=a;exact ih i v y hv hy
 | mth h _ ih=>
  simp only [renA,knv];refine .mth (by simpa using h) fun i v x hv a=>?_;simp only [qq,qw] at a;obtain ⟨y,hy,rfl⟩:=a;exact ih i v y hv hy
 | @opt id v hk h1 hv=>
  obtain ⟨e1,e2,e3⟩:=hr id hk;exact .opt e1 h1 fun h=>by rw [e3];exact hv (by omega)
 | @sdp id n v hk hn h1 hv=>
  obtain ⟨e1,e2,e3⟩:=hr id hk;exact .sdp e1 (by omega) h1 fun h=>by rw [e3];exact hv (by omega)
 | @win id n lo hi v hk hn h1 hv=>
  obtain ⟨e1,e2,e3⟩:=hr id hk;exact .win e1 (by omega) h1 fun h=>by rw [e3];exact hv (by omega)
 | @irow id g j v hk hn h1 hv=>
  obtain ⟨e1,e2,e3⟩:=hr id hk;exact .irow e1 (by omega) h1 fun h=>by rw [e3];exact hv (by omega)
 | @iref id g j off v hk hn h1 hv=>
  obtain ⟨e1,e2,e3⟩:=hr id hk;exact .iref e1 (by omega) h1 fun h=>by rw [e3];exact hv (by omega)
 | @bsl id g off len cap v hk hn h1 hv=>
  obtain ⟨e1,e2,e3⟩:=hr id hk;exact .bsl e1 (by omega) h1 fun h=>by rw [e3];exact hv (by omega)
 | any=>exact .any
theorem RV.subA {v:Value} {x:AV} (h:RV ψ K S w v x) (ho:okA ids x=true):RV ψ (·∈ids) S w v x:=by
 induction h with
 | fz h=>exact .fz h
 | agg h h1 _ ih=>
  rw [okA,km3] at ho;exact .agg h h1 fun i v x hv a=>ih i v x hv a (qr.1 ho x (qp a))
 | tup h _ ih=>
  rw [okA,km3] at ho;exact .tup h fun i v x hv a=>ih i v x hv a (qr.1 ho x (qp a))
 | ref hK hn h1 hv=>exact .ref (by simpa [okA] using ho) hn h1 hv
 | row hK hn h1 hv=>exact .row (by simpa [okA] using ho) hn h1 hv
 | lim h=>exact .lim h
 | mp hK h1 hv=>exact .mp (by simpa [okA] using ho) h1 hv
 | fn h _ ih=>
  rw [okA,km3] at ho;exact .fn h fun i v x hv a=>ih i v x hv a (qr.1 ho x (qp a))
 | mth h _ ih=>
  rw [okA,km3] at ho;exact .mth h fun i v x hv a=>ih i v x hv a (qr.1 ho x (qp a))
 | opt hK h1 hv=>exact .opt (by simpa [okA] using ho) h1 hv
 | sdp hK hn h1 hv=>exact .sdp (by simpa [okA] using ho) hn h1 hv
 | win hK hn h1 hv=>exact .win (by simpa [okA] using ho) hn h1 hv
 | irow hK hn h1 hv=>exact .irow (by simpa [okA] using ho) hn h1 hv
 | iref hK hn h1 hv=>exact .iref (by simpa [okA] using ho) hn h1 hv
 | bsl hK hn h1 hv=>exact .bsl (by simpa [okA] using ho) hn h1 hv
 | any=>exact .any
theorem ObR.subA {id:Nat} {ob:AObj} (h:ObR ψ K S w id ob) (ho:okO ids ob=true):ObR ψ (·∈ids) S w id ob:=by
 cases ob with
 | box e cells=>
  obtain ⟨k0,b,cs,k1,k2,k3,k4,k5⟩:=h;rw [okO,km3] at ho;exact ⟨k0,b,cs,k1,k2,k3,k4,fun i v x hv f=>(k5 i v x hv f).subA (qr.1 ho x (qp f))⟩
 | frow e s xs=>exact h
 | smap kv=>exact h
 | glb gs=>exact h
 | sit s pos=>exact h
 | memo Φ hi=>exact h
 | xo k=>cases ho
 | tab g ov eo ei rows=>exact h
 | gho cs vs=>
  obtain ⟨k0,k1,k2,k3⟩:=h;rw [okO,km3] at ho;exact ⟨k0,k1,k2,fun i v x hv f=>(k3 i v x hv f).subA (qr.1 ho x (qp f))⟩
 | was a b c d=>cases ho
theorem ObR.ren {r:List (Nat×Nat)} {id:Nat} {ob:AObj} (h:ObR ψ K S w id ob) (hr:∀ i,K i->K' (rn r i)/\ψ'.len (rn r i)=ψ.len i/\ψ'.val (rn r i)=ψ.val i) (j:K id)
  (ho:okO ids ob=true):ObR ψ' K' S w (rn r id) (renO r ob):=by
 obtain ⟨e1,e2,e3⟩:=hr id j;cases ob with
 | box e cells=>
  obtain ⟨k0,b,cs,k1,k2,k3,k4,k5⟩:=h;simp only [renO,knv];refine ⟨by omega,b,cs,by rw [e3,k1],k2,by simpa using k3,fun x f=>?_,fun i v x hv f=>?_⟩;obtain ⟨y,hy,rfl⟩:=qaa.1 f;rw [kyz];exact k4 y hy
  ·simp only [qq,qw] at f;obtain ⟨y,hy,rfl⟩:=f;exact (k5 i v y hv hy).ren hr
 | frow e s xs=>
  obtain ⟨k0,k1,cs,k2,k3⟩:=h;exact ⟨by omega,k1,cs,by rw [e3];exact k2,k3⟩
 | sit s pos=>
  obtain ⟨k0,b,k1,k2⟩:=h;exact ⟨by omega,b,by rw [e3,k1],k2⟩
 | glb gs=>
  obtain ⟨k0,k1,k2,k3⟩:=h;exact ⟨by omega,by rw [e3];exact k1,by rw [e3];exact k2,k3⟩
 | smap kv=>
  obtain ⟨k0,b,es,cl,k1,k2⟩:=h;exact ⟨by omega,b,es,cl,by rw [e3,k1],k2⟩
 | memo Φ hi=>
  obtain ⟨k0,b,es,cl,k1,k2⟩:=h;exact ⟨by omega,b,es,cl,by rw [e3,k1],k2⟩
 | xo k=>cases ho
 | tab g ov eo ei rows=>
  obtain ⟨k0,vs,k1,k2⟩:=h;exact ⟨by omega,vs,by rw [e3,k1],k2⟩
 | gho cs vs=>
  obtain ⟨k0,k1,k2,k3⟩:=h;simp only [renO,knv];refine ⟨by omega,by rw [e3];exact k1,by rw [e3];exact k2,fun i v x hv f=>?_⟩;simp only [qq,qw] at f;obtain ⟨y,hy,rfl⟩:=f;exact (k3 i v y hv hy).ren hr
 | was a b c d=>cases ho
inductive HEnd where
 | ret (res:AV)
 | pan (v:Value)
def HEnd.ok (ids:List Nat):HEnd->Bool
 | .ret x=>okA ids x
 | .pan _=>true
def HEnd.ren (r:List (Nat×Nat)):HEnd->HEnd
 | .ret x => .ret (renA r x)
 | .pan v => .pan v
def HEnd.is (e:Ending) (ψ:Env) (K S:Nat->Prop) (w:World):HEnd->Prop
 | .ret res=>∃ v,e = .returned v/\RV ψ K S w v res
 | .pan v=>e = .panicked [{ v:=v,recovered:=false }]
def ka0 (P:Program) (f:FuncId) (args:List AV) (pre:List (Nat×AObj)) (ids:List Nat) (E:HEnd) (post:List (Nat×AObj)) (ids':List Nat):Prop:=
 (∃ fn, P.funcs[f]? = some fn /\ fn.body.isNone = false /\ (fn.name == "runtime.NumGoroutine") = false) /\
 ∀ (F S0:Nat->Prop) (N0:Nat) (ψ:Env) (S:Nat->Prop) (w:World) (vs:Array Value),vs.size=args.length->(∀ (i:Nat) (v:Value) (x:AV),vs[i]?=some v->args[i]?=some x->RV ψ (·∈ids) S w v x)->Core F S0 N0 pre ids ψ S w ->
  Calls P f vs w fun e w'=>∃ ψ' S',E.is e ψ' (·∈ids') S' w'/\Core F S0 N0 post ids' ψ' S' w'/\Fr F w w'/\Ext (·∈ids) ψ ψ'/\(∀ i,i∈ids->i∈ids')/\(∀ b,S b->S' b)/\Same S w w'
def resA (T:List (TypeId×TD)) (st:St):ResultVar->Option AV
 | .tmp t=>some (st.get t)
 | .cell x t=>match kag T t,kpg st (st.get x) with
  | some d,some xs=>koy d xs
  | _,_=>none
def kxp (T:List (TypeId×TD)) (st:St):List ResultVar->Option (List AV)
 | []=>some []
 | r::rs=>match resA T st r,kxp T st rs with
  | some y,some ys=>some (y::ys)
  | _,_=>none
def k93 (T:List (TypeId×TD)) (st:St) (rs:List ResultVar):Option AV:=match kxp T st rs with
 | some [y]=>some y
 | some ys=>some (tupA ys)
 | none=>none
def retA (T:List (TypeId×TD)) (st:St) (rs:List ResultVar):Option AV:=match st.dfr with
 | []=>k93 T st rs
 | _=>none
theorem kz2 {T:List (TypeId×TD)} {st:St} {rs:List ResultVar} {y:AV} (h:retA T st rs=some y):st.dfr=[]/\k93 T st rs=some y:=by
 unfold retA  at h;split at h;rename_i a;exact ⟨a,h⟩
 ·cases h
def kpv (T:List (TypeId×TD)) (rs:List ResultVar) (g:Nat) (ids:List Nat) (E:HEnd) (post:List (Nat×AObj)) (ids':List Nat) (ψ0:Env) (S1:Nat->Prop) (w0:World) (e:Exit) (st:St):Prop:=
 st.heap=(g, .was ψ0 ids S1 w0)::post/\st.ids=g::ids'/\(match E with
  | .ret res=>(e = .normal\/e = .ret)/\retA T st rs=some res
  | .pan v=>st.dfr=[]/\e = .panic [{ v:=v,recovered:=false }])
theorem k7p (b:TOk P T) (hs:Sim F S0 N0 st ψ S a w):∀ {rs:List ResultVar} {ys:List AV},kxp T st rs=some ys ->
  ∃ vs:List Value,(rs.mapM (kkf a.tmps)).run P w = .ok vs w/\vs.length=ys.length/\∀ (i:Nat) (v:Value) (y:AV),vs[i]?=some v->ys[i]?=some y->RV ψ (·∈st.ids) S w v y
 | [],ys,h=>by simp only [kxp,qe] at h;subst h;exact ⟨[],by simp,rfl,fun i v y h=>by simp at h⟩
 | r::rs,ys,h=>by
  simp only [kxp] at h;split at h
  ·rename_i y ys' h1 c;injection h with h;subst h;obtain ⟨vs,k1,k2,k3⟩:=k7p b hs c;have key:∃ v,(kkf a.tmps r).run P w = .ok v w/\RV ψ (·∈st.ids) S w v y:=by
    unfold resA at h1;split at h1;rename_i t;injection h1 with h1;subst h1;exact ⟨_,rfl,hs.tmps t⟩
    ·rename_i x t;split at h1;rename_i d xs e f;obtain ⟨ad,u,e1,e2,e3⟩:=k9i (b.get e) (hs.tmps x) (fun id o ho=>(hs.core.obj id o ho).2.1) f h1;refine ⟨u,?_,e3⟩;simp only [kkf,e1,asAddr,Sem.run_bind,Sem.run_pure,Result.andThen_ok,e2]
     ·cases h1
   obtain ⟨v,e1,e2⟩:=key;refine ⟨v::vs,?_,by simp [k2],fun i v' y' hv hy=>?_⟩;rw [List.mapM_cons];simp only [Sem.run_bind,e1,Result.andThen_ok,k1,Sem.run_pure]
   ·cases i with
    | zero=>simp at hv hy;subst hv hy;exact e2
    | succ i=>exact k3 i v' y' (by simpa using hv) (by simpa using hy)
  ·cases h
theorem k85 (c:TOk P T) (hs:Sim F S0 N0 st ψ S a w) {fn:Func} {y:AV} (h:retA T st fn.results.toList=some y):∃ v,(results fn a.tmps).run P w = .ok v w/\RV ψ (·∈st.ids) S w v y:=by
 replace h:=(kz2 h).2;unfold k93 at h;have key:∀ ys,kxp T st fn.results.toList=some ys->∃ vs:List Value,(results fn a.tmps).run P w = .ok (if h:vs.length=1 then vs[0] else .tuple vs.toArray) w/\vs.length=ys.length/\∀ (i:Nat) (v:Value) (y:AV),vs[i]?=some v->ys[i]?=some y->RV ψ (·∈st.ids) S w v y:=fun ys hy=>by
  obtain ⟨vs,k1,k2,k3⟩:=k7p c hs hy;refine ⟨vs,?_,k2,k3⟩;unfold results;rw [Array.mapM_eq_mapM_toList];have hg:∀ (g:ResultVar->Sem Value),(∀ x,g x=kkf a.tmps x)->(fn.results.toList.mapM g).run P w = .ok vs w:=fun g hg=>by rw [show g=kkf a.tmps from funext hg];exact k1
  simp only [Sem.run_bind,Sem.run_map];rw [hg _ fun x=>by cases x <;> rfl];simp only [Result.andThen_ok,Sem.run_pure];simp
 split at h
 ·rename_i z d;injection h with h;subst h;obtain ⟨vs,k1,k2,k3⟩:=key _ d;have hl:vs.length=1:=by simpa using k2
  rw [dif_pos hl] at k1;exact ⟨_,k1,k3 0 _ _ (qb (by omega)) rfl⟩
 ·rename_i ys b hy;injection h with h;subst h;obtain ⟨vs,k1,k2,k3⟩:=key _ hy;have hl:¬ vs.length=1:=fun hl=>by rw [k2] at hl;obtain ⟨z,rfl⟩:=List.length_eq_one_iff.1 hl;exact b z rfl
  rw [dif_neg hl] at k1;exact ⟨_,k1,RV.tupA (by simpa using k2) fun i v x hv e=>k3 i v x (by simpa using hv) e⟩
 ·cases h
theorem k7z (J : TOk P T) {f : FuncId} {fn : Func} {c : Code} {args : List AV} {pre : List (Nat × AObj)} {E : HEnd} {post : List (Nat × AObj)} {ids' : List Nat} {g : Nat} (hf : P.funcs[f]? = some fn) (s : fn.body = some c) (hn : (fn.name == "runtime.NumGoroutine") = false)
  (u:Nat.ble args.length fn.ntmps=true) (hg:ids.contains g=false)
  (h:∀ ψ0 S1 w0,awp P c { n:=fn.ntmps,tmps:=argT 0 args,heap:=(g, .was ψ0 ids S1 w0)::pre,ids:=g::ids } (kpv T fn.results.toList g ids E post ids' ψ0 S1 w0)) (o:ids'.contains g=false) (A:(post.all fun p=>okO ids' p.2)=true) (K:E.ok ids'=true)
  (hk:(post.all fun p=>ids'.contains p.1)=true):ka0 P f args pre ids E post ids':=by
 have u:=qu u;have hg:g∉ids:=by simpa using hg
 have o:g∉ids':=by simpa using o
 refine ⟨⟨fn,hf,by rw [s];rfl,hn⟩,fun F S0 N0 ψ S w vs hs hr hc=>calls_of_wp hf s ?_⟩;have q:=hc.add (n:=0) (v := .nilFunc) (w':=w) (ob := .was ψ ids S w) (kaj _) hg (fun b s=>by cases s)
  ⟨kcl _ _,by rw [kap];rfl,by rw [kap];rfl,kb5 hg _ _,fun i hi=>qk _ hi,fun b s=>s,fun _ _ _=>rfl⟩
 have y:Sim F S0 N0 { n:=fn.ntmps,tmps:=argT 0 args,heap:=(g, .was ψ ids S w)::pre,ids:=g::ids } (ψ.set g 0 .nilFunc) S
   { tmps:=vs++Array.replicate (fn.ntmps - vs.size) undef,defers:=[] } w:=by
  refine ⟨rfl,by simp;omega,fun t=>?_,q⟩;show RV _ _ _ w _ (look .any (argT 0 args) t);rcases ko1 args 0 t with h | ⟨x,_,h1,d⟩;rw [h];exact .any
  ·rw [d];have h1:args[t]?=some x:=(by simpa using h1);have r:t<vs.size:=(by rw [hs];exact (qh.1 h1).1);have:(vs++Array.replicate (fn.ntmps - vs.size) undef).getD t undef=vs[t]:=(by rw [qa7,qbp r];simp [r]);rw [this];exact (hr t _ x (by simp [r]) h1).keep (kb5 hg _ _) (fun _ h=>qk _ h) (fun _ h=>h) (fun _ _ _=>rfl)
 refine wp_mono (h _ _ _ F S0 N0 _ S _ w y) ?_;rintro e a' w' ⟨st',ψ',S',⟨G,hi,H⟩,d,I⟩;have B:kad st'.heap g=some (.was ψ ids S w):=by rw [G,kai,ql rfl]
 obtain ⟨_,⟨_,_,_,k1,k2,k3,k4⟩,_⟩:=d.core.obj g _ B;have j:∀ i,i∈ids->i∈ids':=fun i z=>by
  have:=k2 i z;rw [hi] at this;rcases qan.1 this with rfl | h;exact absurd z hg
  ·exact h
 have kpv:∀ i ob,kad post i=some ob->i∈ids'/\okO ids' ob=true:=fun i ob ho=>by
  have hm:∀ {l:List (Nat×AObj)},kad l i=some ob->(i,ob)∈l:=fun {l}=>by
   induction l with
   | nil=>intro h;cases h
   | cons p l ih=>
    intro h;obtain ⟨k,v⟩:=p;rw [kai] at h;split at h;rename_i hk;subst hk;injection h with h;subst h;exact qo ..
    ·exact qk _ (ih h)
  have hm:=hm ho;exact ⟨by simpa using qr.1 hk _ hm,by simpa using qr.1 A _ hm⟩
 have hl:∀ i ob,kad post i=some ob->kad st'.heap i=some ob:=fun i ob ho=>by have C:g≠i:=fun e=>o (e ▸ (kpv i ob ho).1);rw [G,kai,qi C];exact ho
 have a:Core F S0 N0 post ids' ψ' S' w':=by refine ⟨fun i ob ho=>?_,fun i i' ob ob' b ho D=>d.core.inj i i' ob ob' b (hl i ob ho) (hl i' ob' D),d.core.lt,d.core.s0,d.core.n0,d.core.fr⟩;obtain ⟨_,m2,m3⟩:=d.core.obj i ob (hl i ob ho);exact ⟨(kpv i ob ho).1,m2.subA (kpv i ob ho).2,m3⟩
 cases E with
 | ret res=>
  obtain ⟨L,m⟩:=H;have fin:a'.defers=[]/\∃ v,(results fn a'.tmps).run P w' = .ok v w'/\∃ ψ'' S'',HEnd.is (.returned v) ψ'' (·∈ids') S'' w' (.ret res)/\Core F S0 N0 post ids' ψ'' S'' w'/\Fr F w w'/\Ext (·∈ids) ψ ψ''/\(∀ i,i∈ids->i∈ids')/\(∀ b,S b->S'' b)/\Same S w w':=by obtain ⟨v,e1,e2⟩:=k85 J d m;exact ⟨d.defers.trans (kz2 m).1,v,e1,ψ',S',⟨v,rfl,e2.subA K⟩,a,I,k1,j,k3,k4⟩
  rcases L with rfl | rfl <;> exact fin
 | pan v=>
  obtain ⟨M,rfl⟩:=H;exact ⟨d.defers.trans M,ψ',S',rfl,a,I,k1,j,k3,k4⟩
def kk4 (foot:List Nat):List (Nat×AObj)->List (Nat×AObj)
 | []=>[]
 | (k,v)::l=>bif foot.contains k then kk4 foot l else (k,v)::kk4 foot l
def renH (r:List (Nat×Nat)):List (Nat×AObj)->List (Nat×AObj)
 | []=>[]
 | (k,v)::l=>(rn r k,renO r v)::renH r l
def renI (r:List (Nat×Nat)):List Nat->List Nat
 | []=>[]
 | k::l=>rn r k::renI r l
theorem kyf (r:List (Nat×Nat)):∀ l,renI r l=l.map (rn r)
 | []=>rfl
 | x::l=>by simp [renI,kyf r l]
def k1v:List Nat->Bool
 | []=>true
 | x::l=>!l.contains x && k1v l
def preX (st:St) (r1 r2:List (Nat×Nat)) (foot:List Nat):List Nat->Option (List (Nat×AObj))
 | []=>some []
 | i::l=>match kad st.heap (rn r2 i),preX st r1 r2 foot l with
  | some ob,some r=>bif okO foot ob then some ((i,renO r1 ob)::r) else none
  | _,_=>none
def kq2 (st:St) (r1:List (Nat×Nat)) (foot:List Nat):List C1->List Operand->Option (List AV)
 | [],[]=>some []
 | c::cs,x::xs=>match kq2 st r1 foot cs xs with
  | some r=>bif okA foot (co1 c (st.eval x)) then some (renA r1 (co1 c (st.eval x))::r) else none
  | none=>none
 | _,_=>none
def kq0 (r1:List (Nat×Nat)) (foot:List Nat):List AV->Option (List AV)
 | []=>some []
 | x::xs=>match kq0 r1 foot xs with
  | some r=>bif okA foot x then some (renA r1 x::r) else none
  | none=>none
def koq (st:St) (r1 r2:List (Nat×Nat)) (keys ids0 ids1:List Nat) (post:List (Nat×AObj)):Bool:=
 ids0.all (fun i=>st.ids.contains (rn r2 i) && Nat.beq (rn r1 (rn r2 i)) i) && (ids1.all (fun i=>ids0.contains i || !st.ids.contains (rn r2 i)) && (k1v (renI r2 ids1) && ((post.all fun p=>okO ids1 p.2) && keys.all ids0.contains)))
theorem kww {f:Nat->Nat}:∀ {l:List Nat},k1v (l.map f)=true->∀ i j,i∈l->j∈l->f i=f j->i=j
 | [],_,i,j,hi,_,_=>by cases hi
 | x::l,h,i,j,hi,c,b=>by
  simp only [qa2,k1v,qv,qcb] at h;have d:∀ k,k∈l->f k≠f x:=fun k hk e=>by have:f x∈l.map f:=e ▸ List.mem_map_of_mem hk;have h1:=h.1;simp only [List.contains_eq_mem,qb1] at h1;exact h1 this
  rcases qan.1 hi with h1 | h1
  ·rcases qan.1 c with a | a;rw [h1,a]
   ·exact absurd (by rw [<- b,h1]) (d j a)
  ·rcases qan.1 c with a | a;exact absurd (by rw [b,a]) (d i h1)
   ·exact kww h.2 i j h1 a b
theorem kpw {i:Nat}:∀ {A B:List (Nat×AObj)} {ob:AObj},kad (A++B) i=some ob->kad A i=some ob\/(kad A i=none/\kad B i=some ob)
 | [],B,ob,h => .inr ⟨rfl,h⟩
 | (k,v)::A,B,ob,h=>by
  rw [qb0,kai] at h;rw [kai];by_cases hk:k=i;rw [ql hk] at h ⊢; exact .inl h
  ·rw [qi hk] at h ⊢; exact kpw h
theorem kn6 {r:List (Nat×Nat)} {j:Nat}:∀ {A:List (Nat×AObj)} {ob:AObj},kad (renH r A) j=some ob->∃ i o,kad A i=some o/\rn r i=j/\ob=renO r o
 | [],ob,h=>by cases h
 | (k,v)::A,ob,h=>by
  simp only [renH] at h;rw [kai] at h;by_cases hk:rn r k=j;rw [ql hk] at h;injection h with h;exact ⟨k,v,by rw [kai,ql rfl],hk,h.symm⟩
  ·rw [qi hk] at h;obtain ⟨i,o,h1,a,b⟩:=kn6 h;exact ⟨i,o,by rw [kai,qi (fun e=>hk (by rw [e];exact a))];exact h1,a,b⟩
theorem knu {foot:List Nat}:∀ {l:List (Nat×AObj)} {k:Nat} {ob:AObj},kad (kk4 foot l) k=some ob->k∉foot/\kad l k=some ob
 | [],k,ob,h=>by cases h
 | (j,v)::l,k,ob,h=>by
  simp only [kk4] at h;cases a:foot.contains j with
  | true=>
   rw [a] at h;obtain ⟨h1,b⟩:=knu h;refine ⟨h1,?_⟩;rw [kai,qi (fun e=>h1 (by subst e;simpa using a))];exact b
  | false=>
   rw [a] at h;simp only [qc,kai] at h;rw [kai];by_cases hk:j=k;subst hk;rw [ql rfl] at h ⊢;exact ⟨by simpa using a,h⟩
   ·rw [qi hk] at h ⊢;exact knu h
theorem kxt {r1 r2:List (Nat×Nat)} {foot:List Nat}:∀ {l:List Nat} {pre:List (Nat×AObj)},preX st r1 r2 foot l=some pre->∀ i ob,kad pre i=some ob->i∈l/\∃ ob',kad st.heap (rn r2 i)=some ob'/\okO foot ob'=true/\ob=renO r1 ob'
 | [],pre,h,i,ob,ho=>by simp only [preX,qe] at h;subst h;cases ho
 | k::l,pre,h,i,ob,ho=>by
  simp only [preX] at h;split at h
  ·rename_i ob1 r h1 b;cases a:okO foot ob1 with
   | false=>rw [a] at h;cases h
   | true=>
    rw [a] at h;simp only [qd,qe] at h;subst h;rw [kai] at ho;by_cases hk:k=i;subst hk;rw [ql rfl] at ho;injection ho with ho;exact ⟨qo ..,ob1,h1,a,ho.symm⟩
    ·rw [qi hk] at ho;exact (kxt b i ob ho).imp (qk _) id
  ·cases h
theorem k7j {r1:List (Nat×Nat)} {foot ids:List Nat} (h:∀ t,RV ψ (·∈ids) S w (a.tmps.getD t undef) (st.get t)):∀ {cs:List C1} {xs:List Operand} {ys:List AV},kq2 st r1 foot cs xs=some ys ->
  ys.length=xs.length/\∀ (i:Nat) (x:Operand) (y:AV),xs[i]?=some x->ys[i]?=some y->∃ z,y=renA r1 z/\RV ψ (·∈foot) S w (a.eval x) z
 | [],[],ys,b=>by simp only [kq2,qe] at b;subst b;exact ⟨rfl,fun i x y h=>by simp at h⟩
 | c::cs,x::xs,ys,b=>by
  simp only [kq2] at b;split at b
  ·rename_i r h1;cases d:okA foot (co1 c (st.eval x)) with
   | false=>rw [d] at b;cases b
   | true=>
    rw [d] at b;simp only [qd,qe] at b;subst b;obtain ⟨e1,e2⟩:=k7j h h1;refine ⟨by simp [e1],fun i x' y' e hy=>?_⟩;cases i with
    | zero=>
     simp at e hy;subst e hy;exact ⟨_,rfl,(kut c (Sim.eval_tmps h x)).subA d⟩
    | succ i=>exact e2 i x' y' (by simpa using e) (by simpa using hy)
  ·cases b
 | [],_::_,ys,b=>by cases b
 | _::_,[],ys,b=>by cases b
theorem k6v {r1:List (Nat×Nat)} {foot:List Nat} {cs:Array Value}:∀ {xs ys:List AV},kq0 r1 foot xs=some ys->ys.length=xs.length/\∀ (i:Nat) (y:AV),ys[i]?=some y->∃ x,xs[i]?=some x/\okA foot x=true/\y=renA r1 x
 | [],ys,a=>by simp only [kq0,qe] at a;subst a;exact ⟨rfl,fun i y h=>by simp at h⟩
 | x::xs,ys,a=>by
  simp only [kq0] at a;split at a
  ·rename_i r h1;cases b:okA foot x with
   | false=>rw [b] at a;cases a
   | true=>
    rw [b] at a;simp only [qd,qe] at a;subst a;obtain ⟨e1,e2⟩:=k6v (cs:=cs) h1;refine ⟨by simp [e1],fun i y hy=>?_⟩;cases i with
    | zero=>simp at hy;subst hy;exact ⟨x,rfl,b,rfl⟩
    | succ i=>simpa using e2 i y (by simpa using hy)
  ·cases a
theorem k71 {f:FuncId} {as_:List AV} {pre:List (Nat×AObj)} {ids0 ids1:List Nat} {E:HEnd} {post:List (Nat×AObj)} {keys:List Nat} (hc:ka0 P f as_ pre ids0 E post ids1) (r1 r2:List (Nat×Nat))
  (a:Core F S0 N0 st.heap st.ids ψ S w) (A:koq st r1 r2 keys ids0 ids1 post=true) (s:preX st r1 r2 (renI r2 ids0) keys=some pre) {vs:Array Value} (aa:vs.size=as_.length)
  (hv:∀ (i:Nat) (v:Value) (y:AV),vs[i]?=some v->as_[i]?=some y->∃ z,y=renA r1 z/\RV ψ (·∈renI r2 ids0) S w v z):
  Calls P f vs w fun e w'=>∃ ψ' S',(E.ren r2).is e ψ' (·∈renI r2 ids1++st.ids) S' w'/\Core F S0 N0 (renH r2 post++kk4 (renI r2 ids0) st.heap) (renI r2 ids1++st.ids) ψ' S' w'/\Fr F w w'/\Ext (·∈st.ids) ψ ψ'/\(∀ b,S b->S' b)/\Same S w w':=by
 simp only [koq,qv,qr,qb9,qcb,List.contains_eq_mem,qbm,qb1] at A;obtain ⟨c1,c2,c3,c4,c5⟩:=A;simp only [kyf] at s hv c3 ⊢;have inj:=kww c3;have R:∀ j,j∈ids0.map (rn r2)->∃ i,i∈ids0/\rn r2 i=j/\rn r1 j=i:=fun j u=>by obtain ⟨i,hi,rfl⟩:=qaa.1 u;exact ⟨i,hi,rfl,qm (c1 i hi).2⟩
 -- the callee's view
 let ψc:Env:=⟨fun i=>ψ.len (rn r2 i),fun i=>ψ.val (rn r2 i)⟩
 let Fc:Nat->Prop:=fun b=>F b\/∃ j ob,kad st.heap j=some ob/\j∉ids0.map (rn r2)/\Blk (ψ.val j) b
 let Sc:Nat->Prop:=fun b=>S b\/∃ j ob,kad st.heap j=some ob/\j∈ids0.map (rn r2)/\Blk (ψ.val j) b
 have T:∀ j,j∈ids0.map (rn r2)->rn r1 j∈ids0/\ψc.len (rn r1 j)=ψ.len j/\ψc.val (rn r1 j)=ψ.val j:=fun j u=>by obtain ⟨i,hi,h1,x⟩:=R j u;rw [x];exact ⟨hi,by show ψ.len (rn r2 i)=_;rw [h1],by show ψ.val (rn r2 i)=_;rw [h1]⟩
 have ab:Core Fc Sc w.heap.size pre ids0 ψc S w:=by
  refine ⟨fun i ob ho=>?_,fun i i' ob ob' b ho K H d q=>?_,a.lt,fun b d => .inl (.inl d),qx _,fun b d=>?_⟩
  ·obtain ⟨hi,ob',h1,x,rfl⟩:=kxt s i ob ho;obtain ⟨k1,k2,k3⟩:=a.obj _ _ h1;have L:=c5 i hi;have M:rn r2 i∈ids0.map (rn r2):=List.mem_map_of_mem L;have ac:=qm (c1 i L).2;have hO:=(k2.subA x).ren (ψ':=ψc) (K':=(·∈ids0)) T M x;rw [ac] at hO;refine ⟨L,hO,fun b d=>⟨(k3 b d).1,?_, .inl (.inr ⟨_,ob',h1,M,d⟩)⟩⟩;rintro (hf | ⟨j,oj,N,ad,O⟩);exact (k3 b d).2.1 hf
   ·exact a.inj _ _ _ _ b N h1 (fun e=>ad (e ▸ M)) O d
  obtain ⟨hi,ob1,h1,_,_⟩:=kxt s i ob ho;obtain ⟨ae,ob2,x,_,_⟩:=kxt s i' ob' K;refine a.inj _ _ _ _ b h1 x (fun e=>H ?_) d q;have e1:=qm (c1 i (c5 i hi)).2;have e2:=qm (c1 i' (c5 i' ae)).2;rw [<- e1,<- e2,e]
  ·rcases d with hf | ⟨j,oj,N,_,O⟩;exact a.fr b hf
   ·exact (a.obj j oj N).2.1.lt O
 refine (hc.2 Fc Sc w.heap.size ψc S w vs aa (fun i v y h1 x=>?_) ab).mono ?_;obtain ⟨z,rfl,hz⟩:=hv i v y h1 x;exact hz.ren T;rintro e w' ⟨ψc',S',hE,g,r,U,V,hS,B⟩;have C:∀ i,i∈ids1->ids1.find? (fun k=>Nat.beq (rn r2 k) (rn r2 i))=some i:=fun i hi=>by
  cases h:ids1.find? (fun k=>Nat.beq (rn r2 k) (rn r2 i)) with
  | none=>
   rw [List.find?_eq_none] at h;exact absurd (Nat.beq_refl _) (h i hi)
  | some k=>
   have h1:=List.find?_some h;rw [inj k i (List.mem_of_find?_eq_some h) hi (qm h1)]
 have D:∀ j,(∀ i,i∈ids1->rn r2 i≠j)->ids1.find? (fun k=>Nat.beq (rn r2 k) j)=none:=fun j u=>by rw [List.find?_eq_none];intro i hi h;exact u i hi (qm h)
 let ψ':Env:=⟨fun j=>match ids1.find? (fun k=>Nat.beq (rn r2 k) j) with | some i=>ψc'.len i | none=>ψ.len j,fun j=>match ids1.find? (fun k=>Nat.beq (rn r2 k) j) with | some i=>ψc'.val i | none=>ψ.val j⟩
 have t:∀ i,i∈ids1->ψ'.len (rn r2 i)=ψc'.len i/\ψ'.val (rn r2 i)=ψc'.val i:=fun i hi=>by
  constructor
  ·show (match ids1.find? (fun k=>Nat.beq (rn r2 k) (rn r2 i)) with | some i=>ψc'.len i | none=>ψ.len (rn r2 i))=_
   rw [C i hi]
  ·show (match ids1.find? (fun k=>Nat.beq (rn r2 k) (rn r2 i)) with | some i=>ψc'.val i | none=>ψ.val (rn r2 i))=_
   rw [C i hi]
 have X:∀ j,(∀ i,i∈ids1->rn r2 i≠j)->ψ'.len j=ψ.len j/\ψ'.val j=ψ.val j:=fun j u=>by
  constructor
  ·show (match ids1.find? (fun k=>Nat.beq (rn r2 k) j) with | some i=>ψc'.len i | none=>ψ.len j)=_
   rw [D j u]
  ·show (match ids1.find? (fun k=>Nat.beq (rn r2 k) j) with | some i=>ψc'.val i | none=>ψ.val j)=_
   rw [D j u]
 have m:∀ j,j∈st.ids->j∉ids0.map (rn r2)->ψ'.len j=ψ.len j/\ψ'.val j=ψ.val j:=fun j u hn=>X j fun i hi e=>by
  rcases c2 i hi with h | h;exact hn (e ▸ List.mem_map_of_mem h)
  ·exact h (e ▸ u)
 have J:Ext (·∈st.ids) ψ ψ':=fun j u=>by
  by_cases hn:j∈ids0.map (rn r2);obtain ⟨i,hi,h1,x⟩:=R j hn;obtain ⟨e1,e2⟩:=U i hi;obtain ⟨e3,e4⟩:=t i (V i hi);rw [<- h1,e3,e4];exact ⟨e1,e2⟩
  ·obtain ⟨e1,e2⟩:=m j u hn;exact ⟨by omega,fun _=>e2⟩
 have G:∀ i,i∈ids1->rn r2 i∈ids1.map (rn r2)++st.ids/\ψ'.len (rn r2 i)=ψc'.len i/\ψ'.val (rn r2 i)=ψc'.val i:=fun i hi=>
  ⟨List.mem_append_left _ (List.mem_map_of_mem hi),t i hi⟩
 have hK:∀ i,i∈st.ids->i∈ids1.map (rn r2)++st.ids:=fun i hi=>List.mem_append_right _ hi;have Y:∀ b,Sc b\/w.heap.size<=b->S0 b\/N0<=b:=fun b d=>by
  rcases d with (d | ⟨j,oj,h1,_,Q⟩) | d;exact a.s0 b d;exact ((a.obj j oj h1).2.2 b Q).2.2
  ·exact .inr (qag a.n0 d)
 have n:∀ j oj b,kad st.heap j=some oj->j∉ids0.map (rn r2)->Blk (ψ.val j) b->Fc b/\¬ (Sc b\/w.heap.size<=b):=fun j oj b h1 x Q=>by
  refine ⟨.inr ⟨j,oj,h1,x,Q⟩,?_⟩;rintro ((d | ⟨k,ok,g1,g2,g3⟩) | d);exact ((a.obj j oj h1).2.2 b Q).1 d;exact a.inj j k oj ok b h1 g1 (fun e=>x (e ▸ g2)) Q g3
  ·have:=(a.obj j oj h1).2.1.lt Q;omega
 refine ⟨ψ',S',?_,⟨fun j oj ho=>?_,fun j j' oj oj' b ho K H d q=>?_,g.lt,fun b d=>Y b (g.s0 b d),qag a.n0 r.size,fun b d=>qbn (a.fr b d) r.size⟩,
  ⟨r.os,r.tape,r.output,r.size,fun b d=>r.block b (.inl d)⟩,J,hS,B⟩
 ·cases E with
  | ret res=>
   obtain ⟨v,rfl,hv⟩:=hE;exact ⟨v,rfl,hv.ren G⟩
  | pan v=>exact hE
 ·rcases kpw ho with h | ⟨_,h⟩
  ·obtain ⟨i,ob,h1,rfl,rfl⟩:=kn6 h;obtain ⟨k1,k2,k3⟩:=g.obj i ob h1;refine ⟨(G i k1).1,k2.ren (ids:=ids1) G k1 ?_,fun b d=>?_⟩
   ·have hm:∀ {l:List (Nat×AObj)},kad l i=some ob->(i,ob)∈l:=fun {l}=>by
     induction l with
     | nil=>intro h;cases h
     | cons p l ih=>
      intro h;obtain ⟨k,v⟩:=p;rw [kai] at h;split at h;rename_i hk;cases hk;cases qas h;exact qo ..
      ·exact qk _ (ih h)
    exact c4 _ (hm h1)
   ·rw [(t i k1).2] at d;obtain ⟨m1,m2,m3⟩:=k3 b d;exact ⟨m1,fun hf=>m2 (.inl hf),Y b m3⟩
  ·obtain ⟨hn,h1⟩:=knu h;obtain ⟨k1,k2,k3⟩:=a.obj j oj h1;have Z:=m j k1 hn;refine ⟨hK j k1,k2.keep J hK hS B Z fun b d=>r.block b (n j oj b h1 hn d).1,fun b d=>?_⟩;rw [Z.2] at d;exact ⟨fun hs=>(n j oj b h1 hn d).2 (g.s0 b hs),(k3 b d).2⟩
 ·have bA:∀ {i ob},kad post i=some ob->Blk (ψ'.val (rn r2 i)) b->¬ Fc b:=fun {i ob} h1 d=>by obtain ⟨k1,_,k3⟩:=g.obj i ob h1;rw [(t i k1).2] at d;exact (k3 b d).2.1
  rcases kpw ho with h | ⟨_,h⟩ <;> rcases kpw K with h' | ⟨_,h'⟩;obtain ⟨i,ob,h1,rfl,rfl⟩:=kn6 h;obtain ⟨i',ob',o,rfl,rfl⟩:=kn6 h';obtain ⟨k1,_,_⟩:=g.obj i ob h1;obtain ⟨k1',_,_⟩:=g.obj i' ob' o;rw [(t i k1).2] at d;rw [(t i' k1').2] at q;exact g.inj i i' ob ob' b h1 o (fun e=>H (by rw [e])) d q;obtain ⟨i,ob,h1,rfl,rfl⟩:=kn6 h;obtain ⟨I,o⟩:=knu h';rw [(m j' (a.obj j' oj' o).1 I).2] at q;exact bA h1 d (n j' oj' b o I q).1;obtain ⟨i',ob',o,rfl,rfl⟩:=kn6 h';obtain ⟨hn,h1⟩:=knu h;rw [(m j (a.obj j oj h1).1 hn).2] at d;exact bA o q (n j oj b h1 hn d).1
  ·obtain ⟨hn,h1⟩:=knu h;obtain ⟨I,o⟩:=knu h';rw [(m j (a.obj j oj h1).1 hn).2] at d;rw [(m j' (a.obj j' oj' o).1 I).2] at q;exact a.inj j j' oj oj' b h1 o H d q
def fnOf (n:Nat):AV->Option (FuncId×List AV)
 | .fn f cap=>some (f,cap)
 | .mth f fst=>bif Nat.beq n 0 then some (f,fst) else none
 | _=>none
theorem kaam {f : FuncId} {fst : Array Value} {x : Operand} {args : Array Operand} {ts : Array TypeId} (ho : o.op = .call { callee := .value x, args := args, argTypes := ts }) (e : a.eval x = .func (.func f) fst #[]) (h0 : args.size = 0) (hf : ∃ fn, P.funcs[f]? = some fn /\ fn.body.isNone = false /\ (fn.name == "runtime.NumGoroutine") = false) :
  (execOp a.eval o).run P w = .ok (.enter f (args.map a.eval++fst)) w:=by
 obtain ⟨fn,h1,c,d⟩:=hf;have b:fn.body≠none:=by intro h;rw [h] at c;cases c
 simp only [qaw,ne_eq] at d;have hn:args=#[]:=Array.eq_empty_of_size_eq_zero h0;subst hn;simp [execOp,ho,resolve,e,Deferred.ofValue,invoke,callFunc,h1,b,d]
theorem kaa7 {f : FuncId} {caps : Array Value} {x : Operand} {args : Array Operand} {ts : Array TypeId} (ho : o.op = .call { callee := .value x, args := args, argTypes := ts }) (e : a.eval x = .func (.func f) #[] caps) (hf : ∃ fn, P.funcs[f]? = some fn /\ fn.body.isNone = false /\ (fn.name == "runtime.NumGoroutine") = false) :
  (execOp a.eval o).run P w = .ok (.enter f (args.map a.eval++caps)) w:=by
 obtain ⟨fn,h1,c,d⟩:=hf;have b:fn.body≠none:=by intro h;rw [h] at c;cases c
 simp only [qaw,ne_eq] at d;simp [execOp,ho,resolve,e,Deferred.ofValue,invoke,callFunc,h1,b,d]
theorem k5h {f:FuncId} {cap:List AV} {x:Operand} {args:Array Operand} {ts:Array TypeId} {cs:List C1} {as1 as2 pre:_} {ids0 ids1:List Nat} {E:HEnd} {post:List (Nat×AObj)} {keys:List Nat} (r1 r2:List (Nat×Nat)) (ho:o.op = .call { callee := .value x,args:=args,argTypes:=ts })
  (c:fnOf args.size (st.eval x)=some (f,cap)) (hc:ka0 P f (as1++as2) pre ids0 E post ids1) (g:kq2 st r1 (renI r2 ids0) cs args.toList=some as1) (k:kq0 r1 (renI r2 ids0) cap=some as2)
  (j:koq st r1 r2 keys ids0 ids1 post=true) (l:preX st r1 r2 (renI r2 ids0) keys=some pre) (hs:Sim F S0 N0 st ψ S a w):
  ∃ vs,(execOp a.eval o).run P w = .ok (.enter f vs) w/\Calls P f vs w fun e w'=>∃ ψ' S',(E.ren r2).is e ψ' (·∈renI r2 ids1++st.ids) S' w'/\Core F S0 N0 (renH r2 post++kk4 (renI r2 ids0) st.heap) (renI r2 ids1++st.ids) ψ' S' w'/\Fr F w w'/\Ext (·∈st.ids) ψ ψ'/\(∀ b,S b->S' b)/\Same S w w':=by
 have d:=hs.eval x;obtain ⟨caps,m,n,q⟩:∃ caps:Array Value,(execOp a.eval o).run P w = .ok (.enter f (args.map a.eval++caps)) w/\caps.size=cap.length/\∀ (i:Nat) (v:Value) (y:AV),caps[i]?=some v->cap[i]?=some y->RV ψ (·∈st.ids) S w v y:=by
  generalize hu:a.eval x=u at d;generalize st.eval x=y at c d;unfold fnOf at c;split at c
  ·simp only [qe,qt] at c;obtain ⟨rfl,rfl⟩:=c;cases d with
   | fn h hr=>exact ⟨_,kaa7 ho hu hc.1,h,hr⟩
  ·rename_i f' fst;cases r:Nat.beq args.size 0 with
   | false=>rw [r] at c;cases c
   | true=>
    rw [r] at c;simp only [qd,qe,qt] at c;obtain ⟨rfl,rfl⟩:=c;cases d with
    | mth h hr=>exact ⟨_,kaam ho hu (qm r) hc.1,h,hr⟩
  ·cases c
 refine ⟨_,m,?_⟩;obtain ⟨e1,e2⟩:=k7j hs.tmps g;obtain ⟨e3,e4⟩:=k6v (cs:=caps) k;refine k71 hc r1 r2 hs.core j l (by simp [e1,e3,n]) fun i v y hv hy=>?_;by_cases hi:i<args.size;rw [qbp (by simpa using hi)] at hv;rw [q9 (by rw [e1];simpa using hi)] at hy;simp only [Array.getElem?_map,qw] at hv;obtain ⟨p,hp,rfl⟩:=hv;exact e2 i p y (by simpa using hp) hy
 ·rw [Array.getElem?_append_right (by simpa using hi)] at hv;rw [qap (by rw [e1];simpa using hi)] at hy;have hl:as1.length=args.size:=by rw [e1];simp
  obtain ⟨z,h1,s,rfl⟩:=e4 _ y hy;exact ⟨z,rfl,(q _ v z (by simpa using hv) (by rw [<- h1,hl])).subA s⟩
theorem k6z {f:FuncId} {cap:List AV} {x:Operand} {args:Array Operand} {ts:Array TypeId} {cs:List C1} {as1 as2 pre:_} {ids0 ids1:List Nat} {res:AV} {post:List (Nat×AObj)} {keys:List Nat} (r1 r2:List (Nat×Nat)) (ho:o.op = .call { callee := .value x,args:=args,argTypes:=ts })
  (h:fnOf args.size (st.eval x)=some (f,cap)) (hc:ka0 P f (as1++as2) pre ids0 (.ret res) post ids1) (b:kq2 st r1 (renI r2 ids0) cs args.toList=some as1) (d:kq0 r1 (renI r2 ids0) cap=some as2)
  (c:koq st r1 r2 keys ids0 ids1 post=true) (g:preX st r1 r2 (renI r2 ids0) keys=some pre):
  StepA P o st (renA r2 res) (renH r2 post++kk4 (renI r2 ids0) st.heap) (renI r2 ids1++st.ids):=by
 intro F S0 N0 ψ S a w hs;obtain ⟨vs,h1,j⟩:=k5h r1 r2 ho h hc b d c g hs;unfold kf9;rw [h1];refine j.mono ?_;rintro e w' ⟨ψ',S',⟨v,rfl,hv⟩,k,l,m,n,p⟩;exact ⟨v,rfl,ψ',S',k,hv,l,m,fun i hi=>List.mem_append_right _ hi,n,p⟩
theorem h_pan {f:FuncId} {cap:List AV} {ops:Array Oper} {l:List Oper} {Q:Exit->St->Prop} {x:Operand} {args:Array Operand} {ts:Array TypeId} {cs:List C1} {as1 as2 pre:_} {ids0 ids1:List Nat} {v:Value} {post:List (Nat×AObj)} {keys:List Nat} (r1 r2:List (Nat×Nat)) (ho:o.op = .call { callee := .value x,args:=args,argTypes:=ts })
  (h:fnOf args.size (st.eval x)=some (f,cap)) (hc:ka0 P f (as1++as2) pre ids0 (.pan v) post ids1) (b:kq2 st r1 (renI r2 ids0) cs args.toList=some as1) (d:kq0 r1 (renI r2 ids0) cap=some as2)
  (c:koq st r1 r2 keys ids0 ids1 post=true) (g:preX st r1 r2 (renI r2 ids0) keys=some pre) (hg:kb9 ops st o=some true)
  (hn:Q (.panic [{ v:=v,recovered:=false }]) { st with heap:=renH r2 post++kk4 (renI r2 ids0) st.heap,ids:=renI r2 ids1++st.ids }):awpL P ops (o::l) st Q:=by
 intro F S0 N0 ψ S a w hs;obtain ⟨vs,h1,j⟩:=k5h r1 r2 ho h hc b d c g hs;unfold wpList;rw [khg hs hg];refine .inl ?_;unfold Oper.wp;rw [h1];show Calls P f vs w _;refine j.mono ?_;rintro e w' ⟨ψ',S',rfl,k,m,n,p,q⟩;exact ⟨_,ψ',S',hn,⟨hs.defers,hs.size,fun t=>(hs.tmps t).keep n (fun i hi=>List.mem_append_right _ hi) p q,k⟩,m⟩
def hQ (T:List (TypeId×TD)) (rs:List ResultVar) (g:Nat) (ids:List Nat) (E:HEnd) (post:List (Nat×AObj)) (ids':List Nat) (ψ0:Env) (S1:Nat->Prop) (w0:World) (e:Exit) (st:St):Prop:=
 ∃ st2,LeSt st st2/\kpv T rs g ids E post ids' ψ0 S1 w0 e st2
theorem k0i {rs:List ResultVar} {g:Nat} {ids ids':List Nat} {res:AV} {post:List (Nat×AObj)} {ψ0:Env} {S1:Nat->Prop} {w0:World} {e:Exit} {st st2:St} (hl:LeSt st st2) (a:st2.heap=(g, .was ψ0 ids S1 w0)::post) (hi:st2.ids=g::ids')
  (b:e = .normal\/e = .ret) (hr:retA T st2 rs=some res):hQ T rs g ids (.ret res) post ids' ψ0 S1 w0 e st:=⟨st2,hl,a,hi,b,hr⟩
theorem kalb {rs:List ResultVar} {g:Nat} {ids ids':List Nat} {v:Value} {post:List (Nat×AObj)} {ψ0:Env} {S1:Nat->Prop} {w0:World} {st st2:St} (hl:LeSt st st2) (a:st2.heap=(g, .was ψ0 ids S1 w0)::post) (hi:st2.ids=g::ids') (b:st2.dfr=[]):
  hQ T rs g ids (.pan v) post ids' ψ0 S1 w0 (.panic [{ v:=v,recovered:=false }]) st:=⟨st2,hl,a,hi,b,rfl⟩
theorem k6b (e : TOk P T) {f : FuncId} {fn : Func} {c : Code} {args : List AV} {pre : List (Nat × AObj)} {ids : List Nat} {E : HEnd} {post : List (Nat × AObj)} {ids' : List Nat} {g : Nat} (hf : P.funcs[f]? = some fn) (i : fn.body = some c) (hn : (fn.name == "runtime.NumGoroutine") = false)
  (a:Nat.ble args.length fn.ntmps=true) (hg:ids.contains g=false) (b:ids'.contains g=false) (d:(post.all fun p=>okO ids' p.2)=true) (j:E.ok ids'=true) (hk:(post.all fun p=>ids'.contains p.1)=true)
  (h:∀ ψ0 S1 w0,awp P c { n:=fn.ntmps,tmps:=argT 0 args,heap:=(g, .was ψ0 ids S1 w0)::pre,ids:=g::ids } (hQ T fn.results.toList g ids E post ids' ψ0 S1 w0)):ka0 P f args pre ids E post ids':=
 k7z e hf i hn a hg (fun ψ0 S1 w0=>kv3 (h ψ0 S1 w0)) b d j hk
end Go.Proofs.YtjbonbdomgoklaaGreatDoor
