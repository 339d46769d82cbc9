import Derived.Test.YtaimpcnpifoidaaGreatDoorRows
import Derived.Test.YtaimpcnpifoidaaGreatDoorLang
import Derived.ProofKit
import Derived.OpenShut
import Derived.JoinedCond
import Derived.Carry
import Derived.ChangeSame
import Derived.Test.YtaimpcnpifoidaaGreatDoorTy
import Derived.ChangeMaps5
import Derived.Lib.Bytealg
set_option linter.all false
namespace Go.Proofs.YtaimpcnpifoidaaGreatDoor
open Go Go.RowKit Go.ChangeShapes Go.WideShapes Go.ChangeAt
theorem kaht:ownKnob Tryz.prog.godebug=none:=by kernel_rfl
theorem kaf4:laidOutB Tryz.prog=true:=by kernel_rfl
section
variable {H:Type} {enc:TypeId×Value->H} {P:Program}
theorem kxc (hl:laidOutB P=true) {W W':World} {sp:Nat->Bool} (e:Below W.heap.size W W'):∀ {ts:List TypeId} {vs:List Value} {ds:List (DataW H)} {ps:List MemPlace},
  (∀ t∈ts,P.readableRec t=true/\t<P.types.size)->DataW.TrodAll enc P W 0 (fun _=>true) true ts vs ds ps->(∀ x∈ps,x.block<W.heap.size)->(∀ x∈ps,sp x.block=true)->DataW.TrodAll enc P W' 0 sp true ts vs ds ps
 | [],vs,ds,ps,_,h,_,_=>by obtain ⟨rfl,rfl,rfl⟩:=trodAll_nil h;exact trodAll_mk0
 | t::ts,vs,ds,ps,ht,h,b,c=>by
  obtain ⟨v,vs',d,ds',p,q,rfl,rfl,rfl,h0,h1⟩:=trodAll_cons h;exact trodAll_cons_mk (WideElems.Trod_stays hl (ht t (by simp)).1 (ht t (by simp)).2 h0 (fun x a=>e.same (b x (by simp [a]))) (fun x a=>c x (by simp [a])))
   (kxc hl e (fun t' f=>ht t' (by simp [f])) h1 (fun x a=>b x (by simp [a])) (fun x a=>c x (by simp [a])))
theorem kahg {f:Func} {s:ChangeSpec} {W W':World} {args:Array Value} {ds gs:List (DataW H)} {before:List MemPlace} {tb:TypeId}
  (hl:laidOutB P=true) (k:∀ t∈f.params.toList,P.readableRec t=true/\t<P.types.size) (a:s.vars=[]) (w:P.underlying tb=some .bool) (hr:f.resultTypes=#[tb])
  (c:s.fn H (ds++gs)={ results:=[.lit (.bool true)],args:=ds })
  (r:DataW.Whole enc P f.params.toList s.vars false W args.toList ds gs before) (u:Below W.heap.size W W'):
  s.post enc P f false true false false W args (.bool true) W':=by
 have e:=r;obtain ⟨p,q,hA,v,rfl,y,hn⟩:=r;have l:DataW.TrodVars enc P W (fun _=>true) [] gs q:=by rw [a] at v;exact v
 obtain ⟨rfl,rfl⟩:=trodVars_none l;have g:∀ x∈p,x.block<W.heap.size:=fun x d=>e.lt x (by simpa using d);have m:∀ sp:Nat->Bool,(∀ x∈p,sp x.block=true)->DataW.TrodAll enc P W' 0 sp true f.params.toList args.toList (s.fn H (ds++[])).args p:=fun sp n=>by rw [c];exact kxc hl u k hA g n
 have o:∀ sp:Nat->Bool,DataW.TrodVars enc P W' sp s.vars (s.fn H (ds++[])).vars []:=fun sp=>by rw [a,c];rfl
 have i:∀ x∈p,(fun b=>decide (b<W.heap.size)) x.block=true:=fun x d=>by simpa using g x d
 have j:∀ (b:Nat) (sp:Nat->Bool) (hd:Bool),DataW.TrodAll enc P W' b sp hd f.resultTypes.toList ((Value.bool true).resultList f.resultTypes.size) (s.fn H (ds++[])).results []:=fun b sp hd=>by rw [c,hr];exact trodAll_cons_mk (shut_bool w true) trodAll_mk0
 refine ⟨ds,[],p++[],[],p,[],e,j _ _ _,m _ i,o _,World.keptBut_mono (fun x d=>⟨d,?_⟩) (u.frame (·∈p++[])),fun h=>by cases h⟩;simp at d ⊢;exact d
variable {w:World} {base:Nat} {spare:Nat->Bool} {held:Bool}
theorem k9o {T:Type} {Q:Nat->T->Prop}:∀ n:Nat,(∀ i,i<n->∃ z,Q i z)->∃ xs:List T,xs.length=n/\∀ (i:Nat) (z:T),xs[i]?=some z->Q i z
 | 0,_=>⟨[],rfl,fun i z h=>by simp at h⟩
 | n+1,h=>by
  obtain ⟨xs,hl,b⟩:=k9o (Q:=Q) n fun i hi=>h i (by omega);obtain ⟨z,c⟩:=h n (by omega);refine ⟨xs++[z],by simp [hl],fun i y a=>?_⟩;by_cases hi:i<n;rw [qav (by omega)] at a;exact b i y a
  ·rw [qa5 (by omega)] at a;have:i=n:=(by have:=(qo.1 a).1;simp at this;omega);subst this;simp [hl] at a;subst a;exact c
theorem kzp {T:Type} {R:List Value->T->Prop} {t e:TypeId} {size fuel:Nat} {cs:List Value} {x:DataW H×List MemPlace} (ht:P.underlying t=some (.slice e)) (C:P.cellsOf e=size) (d:0<size)
  (h:DataW.trod enc P w base spare held fuel t cs=some x) (p:∀ n cs' y,n<fuel->DataW.trod enc P w base spare held n e cs'=some y->∃ z,R cs' z):
  ∃ v xs,cs=[v]/\RepSl Any w size R v xs:=by
 rcases DataW.trod_slice ht h with ⟨rfl,_⟩ | ⟨a,len,cap,elems,rest,n,D,rfl,_,_,E,f,s,g,_⟩;exact ⟨_,[],rfl,RepSl.nil (by omega)⟩
 ·have each:∀ i,i<len->∃ cs' z,R cs' z/\cs'.length=size/\∀ j,j<size->w.cell? ((a.add (i*size)).add j)=cs'[j]?:=fun i hi=>by have h1:=g i hi;have h2:elems[i]?=some elems[i]:=qc (by omega);rw [h2,C] at h1;obtain ⟨cs',hc,q⟩:=qk.1 h1;obtain ⟨_,hl,c⟩:=World.cells?_some hc;obtain ⟨z,m⟩:=p n cs' _ (by omega) q;exact ⟨cs',z,m,hl,c⟩
  obtain ⟨xs,r,A⟩:=k9o (Q:=fun i z=>∃ cs',R cs' z/\cs'.length=size/\∀ j,j<size->w.cell? ((a.add (i*size)).add j)=cs'[j]?) len (fun i hi=>by obtain ⟨cs',z,h⟩:=each i hi;exact ⟨z,cs',h⟩);refine ⟨_,xs,rfl,some a,cap,by rw [r],by omega,by unfold maxLen at f;exact f,fun i z m=>?_⟩;obtain ⟨cs',hr,hl,c⟩:=A i z m;have k:a.spot=none:=by
   have h0:0<xs.length:=(by have:=(qo.1 m).1;omega);obtain ⟨cs0,_,F,l⟩:=A 0 _ (qc h0);have h1:=l 0 d;simp only [Nat.zero_mul,Addr.add,qa6] at h1;rw [qc (by omega)] at h1;unfold World.cell? at h1;split at h1
   ·split at h1;cases h1
    ·rename_i hs;simpa using hs
   ·cases h1
  obtain ⟨b,o,sp⟩:=a;simp only at k;subst k;refine ⟨b,o,cs',rfl,trivial,fun j u B=>?_,hl,hr⟩;have G:j<size:=by have:=(qo.1 B).1;omega
  rw [<- B,<- c j G];congr 1;unfold Addr.add;by_cases h1:i*size=0 <;> by_cases h2:j=0 <;> simp [h1,h2,Nat.add_assoc]
end
open Go Go.RowKit
inductive Tm where
 | mk (rule:Int) (args:List Tm)
namespace Tm
def rule:Tm->Int | mk r _=>r
def args:Tm->List Tm | mk _ l=>l
theorem ind {P:Tm->Prop} (h:∀ r l,(∀ t∈l,P t)->P (mk r l)) (t:Tm):P t:=
 Tm.rec (motive_1:=P) (motive_2:=fun l=>∀ t∈l,P t) (fun r l ih=>h r l ih) (fun _ h=>nomatch h)
  (fun t l h1 h2 x a=>(qac.1 a).elim (fun e=>e ▸ h1) (h2 x)) t
mutual
def size:Tm->Nat
 | mk _ l=>sizeL l+1
def sizeL:List Tm->Nat
 | []=>0
 | t::l=>t.size+sizeL l
end
mutual
def depth:Tm->Nat
 | mk _ l=>depthL l+1
def depthL:List Tm->Nat
 | []=>0
 | t::l=>max t.depth (depthL l)
end
mutual
def pre (g:Tm->Int):Tm->List Int
 | mk r l=>g (mk r l)::preL g l
def preL (g:Tm->Int):List Tm->List Int
 | []=>[]
 | t::l=>t.pre g++preL g l
end
def nargs (t:Tm):Int:=(t.args.length:Int)
def rules (t:Tm):List Int:=t.pre rule
def arities (t:Tm):List Int:=t.pre nargs
theorem sizeL_snoc (l:List Tm) (t:Tm):sizeL (l++[t])=sizeL l+t.size:=by
 induction l with
 | nil=>simp [sizeL]
 | cons x l ih=>simp only [qam,sizeL,ih];omega
theorem depthL_snoc (l:List Tm) (t:Tm):depthL (l++[t])=max (depthL l) t.depth:=by
 induction l with
 | nil=>simp [depthL]
 | cons x l ih=>simp only [qam,depthL,ih];omega
theorem size_pos (t:Tm):1<=t.size:=by cases t;simp [size]
theorem sizeL_mem {l:List Tm} {t:Tm} (h:t∈l):t.size<=sizeL l:=by
 induction l with
 | nil=>cases h
 | cons x l ih=>
  simp only [sizeL];rcases qac.1 h with rfl | h;omega
  ·have:=ih h;omega
theorem pre_length (g:Tm->Int) (t:Tm):(t.pre g).length=t.size:=by
 induction t using Tm.ind with
 | h r l ih=>
  simp only [pre,size,qu];have:∀ m:List Tm,(∀ t∈m,(t.pre g).length=t.size)->(preL g m).length=sizeL m:=fun m=>by
   induction m with
   | nil=>simp [preL,sizeL]
   | cons x m ihm=>
    intro h;simp only [preL,sizeL,qr];rw [h x (by simp),ihm fun t ht=>h t (by simp [ht])]
  rw [this l ih]
theorem rules_length (t:Tm):t.rules.length=t.size:=pre_length _ t
theorem arities_length (t:Tm):t.arities.length=t.size:=pre_length _ t
end Tm
section
variable {S S':Nat->Prop} {w w':World}
inductive kai2 (S:Nat->Prop) (w:World):List Value->Tm->Prop where
 | mk (r:Int) (kids:List Tm) (A:Option Addr) (cap:Nat) (css:Nat->List Value) (hr:kjs r) (hc:kids.length<=cap) (hm:cap<=9223372036854775807)
  (hA:∀ (i:Nat) (x:Tm),kids[i]?=some x->∃ b o,A=some ⟨b,o,none⟩/\S b/\At w b (o+i*2) (css i))
  (hk:∀ (i:Nat) (x:Tm),kids[i]?=some x->kai2 S w (css i) x):kai2 S w [.int .i64 r, .slice A kids.length cap] (.mk r kids)
end
mutual
def eVaR:Va->FV
 | .mk t n s l => .agg [eI t,eI n,eS s, .lst 4 l.length (kv5 l)]
def kv5:List Va->List FV
 | []=>[]
 | x::l=>eVaR x::kv5 l
end
def eVa (x:Va):FV := .agg [eI x.type,eI x.num,eS x.text,eL 4 eVaR x.items]
theorem k0v:∀ l:List Va,kv5 l=l.map eVaR
 | []=>by simp [kv5]
 | x::l=>by simp [kv5,k0v l]
theorem kml (x:Va):eVaR x=eVa x:=by cases x;simp [eVaR,eVa,k0v,eL,Va.type,Va.num,Va.text,Va.items]
theorem k2x (x:Va):(eVaR x).cells=(eVa x).cells:=by rw [kml]
theorem k66 (x:Va):(eVaR x).cells.length=4:=by rw [kml];rfl
mutual
def eTmR:Tm->FV
 | .mk r l => .agg [eI r, .lst 2 l.length (k2k l)]
def k2k:List Tm->List FV
 | []=>[]
 | x::l=>eTmR x::k2k l
end
def eTm (x:Tm):FV := .agg [eI x.rule,eL 2 eTmR x.args]
theorem k51:∀ l:List Tm,k2k l=l.map eTmR
 | []=>by simp [k2k]
 | x::l=>by simp [k2k,k51 l]
theorem kqg (x:Tm):eTmR x=eTm x:=by cases x;simp [eTmR,eTm,k51,eL,Tm.rule,Tm.args]
theorem kab5 (x:Tm):(eTmR x).cells=(eTm x).cells:=by rw [kqg]
theorem kah7 (x:Tm):(eTmR x).cells.length=2:=by rw [kqg];rfl
def eSy (x:Sy):FV := .agg [eS x.name,eI x.type]
def eRu (x:Ru):FV := .agg [eI x.symbol,eI x.kind,eI x.input,eI x.const.type,eI x.const.num,eS x.const.text,eL 4 eVaR x.const.items,eS x.op,eL 1 eI x.args]
def eLa (x:La):FV := .agg [eS x.name,eL 1 eI x.inputs,eL 2 eSy x.symbols,eL 9 eRu x.rules]
open Go Go.RowKit Go.ChangeShapes Go.WideShapes Go.ChangeAt Go.ChangeMaps
section
variable {T:Type} {P:Program} {H:Type} {enc:TypeId×Value->H} {w:World} {base:Nat} {spare:Nat->Bool} {held:Bool}
theorem k1v {R:List Value->T->Prop} {ec:T->FV} {size:Nat} {v:Value} {xs:List T} (k:0<size) (h:RepSl Any w size R v xs)
  (g:∀ cs x,x∈xs->R cs x->(ec x).cells.length=size/\(∀ y∈(ec x).cells,y.single=true)/\∀ (j:Nat) (u:Value) (y:FV),cs[j]?=some u->(ec x).cells[j]?=some y->RF Any w u y):RF Any w v (eL size ec xs):=by
 obtain ⟨A,cap,rfl,h1,h2,h3⟩:=h;have f:∀ i:Nat,∃ cs:List Value,∀ x,xs[i]?=some x->∃ b o,A=some ⟨b,o,none⟩/\At w b (o+i*size) cs/\cs.length=size/\R cs x:=fun i=>by
  cases d:xs[i]? with
  | none=>exact ⟨[],fun x h=>by cases h⟩
  | some x=>
   obtain ⟨b,o,cs,e1,_,e2,e3,e4⟩:=h3 i x d;exact ⟨cs,fun y e=>by injection e with e;subst e;exact ⟨b,o,e1,e2,e3,e4⟩⟩
 obtain ⟨css,c⟩:=Classical.axiomOfChoice f;refine .lst css (by simp) h1 h2 k (fun i x d=>?_) (fun i x d=>?_) fun i x j v y d hv e=>?_;simp only [qp,qm] at d;obtain ⟨z,a,rfl⟩:=d;obtain ⟨b,o,e1,e2,_⟩:=c i z a;exact ⟨b,o,e1,trivial,e2⟩;simp only [qp,qm] at d;obtain ⟨z,a,rfl⟩:=d;obtain ⟨b,o,e1,e2,e3,e4⟩:=c i z a;obtain ⟨g1,g2,_⟩:=g _ z (qw a) e4;exact ⟨e3,g1,g2⟩
 ·simp only [qp,qm] at d;obtain ⟨z,a,rfl⟩:=d;obtain ⟨b,o,e1,e2,e3,e4⟩:=c i z a;exact (g _ z (qw a) e4).2.2 j v y hv e
theorem kanp {x:Value} {cs:List Value} (b:cs=[x]) (d:x.oneCell'=true):(FV.atom x).cells.length=1/\(∀ y∈(FV.atom x).cells,y.single=true)/\∀ (j:Nat) (u:Value) (y:FV),cs[j]?=some u->(FV.atom x).cells[j]?=some y->RF Any w u y:=by
 subst b;refine ⟨rfl,fun y a=>?_,fun j u y c a=>?_⟩;simp [FV.cells] at a;subst a;exact d
 ·cases j with
  | zero=>
   simp [FV.cells] at c a;subst c a;exact .atom d
  | succ j=>simp at c
theorem kanl {n:Int} (h:(Lit.int .i64 n).wf=true):kjs n:=by simpa [Lit.wf,IntKind.min,IntKind.max,IntKind.signed,IntKind.bits,kjs] using h
theorem kamh {r:Reach} {b0:Nat} {t:TypeId} {v:Value} {d:DataW H} {p:List MemPlace} (ht:P.underlying t=some (.int .i64)) (hv:Value.okWide P w r b0 t v) (h:DataW.Trod enc P w base spare held t v d p):∃ n,RF Any w v (eI n)/\kjs n:=by obtain ⟨n,rfl,_,_,a⟩:=open_int ht hv h;exact ⟨n, .atom rfl,kanl a⟩
theorem kanb {r:Reach} {b0:Nat} {t:TypeId} {v:Value} {d:DataW H} {p:List MemPlace} (ht:P.underlying t=some .string) (hv:Value.okWide P w r b0 t v) (h:DataW.Trod enc P w base spare held t v d p):∃ s,RF Any w v (eS s)/\s.size<=9223372036854775807:=by obtain ⟨s,rfl,_,_,hl⟩:=open_string ht hv h;exact ⟨s, .atom rfl,by unfold maxLen at hl;exact hl⟩
end
def iand (k:IntKind) (a b:Int):Int:=k.wrap (BitVec.ofInt k.bits a &&& BitVec.ofInt k.bits b).toNat
def ior (k:IntKind) (a b:Int):Int:=k.wrap (BitVec.ofInt k.bits a ||| BitVec.ofInt k.bits b).toNat
def kalq (k:IntKind) (a b:Int):Int:=k.wrap (BitVec.ofInt k.bits a &&& ~~~BitVec.ofInt k.bits b).toNat
def imin (a b:Int):Int:=if b<a then b else a
def imax (a b:Int):Int:=if a<b then b else a
def quo (k:IntKind) (a b:Int):Option Int:=if b=0 then none else some (k.wrap (a.tdiv b))
def rem (k:IntKind) (a b:Int):Option Int:=if b=0 then none else some (a.tmod b)
def cutS (s:BA) (lo hi:Int):Option BA:=if 0<=lo/\lo<=hi/\hi<=(s.size:Int) then some (s.extract lo.toNat hi.toNat) else none
def cutL {α:Type} (xs:List α) (lo hi:Int):Option (List α):=if 0<=lo/\lo<=hi/\hi<=(xs.length:Int) then some ((xs.take hi.toNat).drop lo.toNat) else none
section
variable {P:Program} {F S0:Nat->Prop} {N0:Nat} {w w':World} {S S':Nat->Prop} {ψ:Env} {K:Nat->Prop} {T:List (TypeId×TD)} {o:Oper} {a:Act} {st:St} {t:TypeId} {d:TD}
theorem s_min {x y:Operand} {ts:Array TypeId} {k k':IntKind} {m n:Int} (ho:o.op = .call { callee := .builtin .min,args:=#[x,y],argTypes:=ts }) (b:st.eval x = .fz (.atom (.int k m))) (c:st.eval y = .fz (.atom (.int k' n))):NStep P o st (.fz (.atom (.int k (imin m n)))):=by intro ψ S a w ht _;have h1:=Sim.eval_tmps ht x;rw [b] at h1;have h2:=Sim.eval_tmps ht y;rw [c] at h2;refine kaj (w':=w) (v := .int k (imin m n)) ?_ ⟨kai _, .fz (.atom rfl)⟩;simp [execOp,ho,resolve,invoke,builtin,h1.atom,h2.atom,Builtin.min_,Builtin.min2,imin]
theorem s_max {x y:Operand} {ts:Array TypeId} {k k':IntKind} {m n:Int} (ho:o.op = .call { callee := .builtin .max,args:=#[x,y],argTypes:=ts }) (b:st.eval x = .fz (.atom (.int k m))) (c:st.eval y = .fz (.atom (.int k' n))):NStep P o st (.fz (.atom (.int k (imax m n)))):=by intro ψ S a w ht _;have h1:=Sim.eval_tmps ht x;rw [b] at h1;have h2:=Sim.eval_tmps ht y;rw [c] at h2;refine kaj (w':=w) (v := .int k (imax m n)) ?_ ⟨kai _, .fz (.atom rfl)⟩;simp [execOp,ho,resolve,invoke,builtin,h1.atom,h2.atom,Builtin.max_,Builtin.max2,imax]
def kvu (st:St):Option Operand->Option (Option Int)
 | none=>some none
 | some x=>match st.eval x with
  | .fz (.atom (.int _ n))=>some (some n)
  | _=>none
theorem ktv {ids:List Nat} (ht:∀ t,RV ψ (·∈ids) S w (a.tmps.getD t undef) (st.get t)) {x:Option Operand} {r:Option Int} (h:kvu st x=some r):(x=none/\r=none)\/∃ y k n,x=some y/\r=some n/\a.eval y = .int k n:=by
 unfold kvu at h;split at h;injection h with h;exact .inl ⟨rfl,h.symm⟩
 ·rename_i y;split at h;rename_i k n hk;injection h with h;have h1:=Sim.eval_tmps ht y;rw [hk] at h1;exact .inr ⟨y,k,n,rfl,h.symm,h1.atom⟩
  ·cases h
theorem khe {x:Operand} {lo hi:Option Operand} {l h:Option Int} {s r:BA} (hc:cutS s (l.getD 0) (h.getD s.size)=some r) (f:TOk P T) (ho:o.op = .slice t x lo hi none:=by kernel_rfl) (hd:kat T t=some d:=by kernel_rfl) (hk:d.kind = .str:=by kernel_rfl) (g:st.eval x = .fz (.atom (.string s)):=by kernel_rfl) (hl:kvu st lo=some l:=by kernel_rfl) (i:kvu st hi=some h:=by kernel_rfl):
  NStep P o st (.fz (.atom (.string r))):=by
 intro ψ S a w ht m;have h1:=Sim.eval_tmps ht x;rw [g] at h1;have bl:=ktv ht hl;have bh:=ktv ht i;unfold cutS at hc;split at hc
 ·rename_i b;injection hc with hc;subst hc;refine kaj (w':=w) (v := .string (s.extract (l.getD 0).toNat (h.getD s.size).toNat)) ?_ ⟨kai _, .fz (.atom rfl)⟩;have j:=(f.get hd).str hk;have e1:(Instr.sliceBounds false s.size s.size (lo.map a.eval) (hi.map a.eval) none).run P w = .ok ((l.getD 0).toNat,(h.getD s.size).toNat,s.size) w:=by
   unfold Instr.sliceBounds;rcases bh with ⟨rfl,rfl⟩ | ⟨y,k,n,rfl,rfl,e⟩
   ·rcases bl with ⟨rfl,rfl⟩ | ⟨y',k',n',rfl,rfl,c⟩;simp
    ·simp only [qa2,Option.getD_none] at b ⊢;simp [Instr.sliceBound,c,asIntOf,b.1,b.2.1]
   ·rcases bl with ⟨rfl,rfl⟩ | ⟨y',k',n',rfl,rfl,c⟩;simp only [qa2,Option.getD_none] at b ⊢;simp [Instr.sliceBound,e,asIntOf,b.2.1,b.2.2]
    ·simp only [qa2] at b ⊢;have:0<=n:=(by omega);have h3:n'<=(n.toNat:Int):=(by omega);simp [Instr.sliceBound,e,c,asIntOf,b.1,b.2.2,this,h3];intro hc;exfalso;omega
  simp [execOp,ho,Instr.sliceAt,Instr.slice,run_underlying j,h1.atom,e1]
 ·cases hc
theorem RF.take {v:Value} {size n k:Nat} {A:Option Addr} {cap:Nat} {xs:List FV} (h:RF S w (.slice A n cap) (.lst size n xs)) (lo hi:Nat) (h1:lo<=hi) (h2:hi<=n):∃ A',A'=(if cap=lo then A else A.map (·.add (lo*size)))/\RF S w (.slice A' (hi - lo) (cap - lo)) (.lst size (hi - lo) ((xs.take hi).drop lo)):=by
 obtain ⟨A0,cap0,css,hv,hn,hc,hm,hs,ha,hl,hr⟩:=h.lst_inv;injection hv with e1 _ e3;subst e1 e3;have c:(xs.take hi).length=hi:=by rw [qah];omega
 have get:∀ (i:Nat) (x:FV),((xs.take hi).drop lo)[i]?=some x->xs[lo+i]?=some x:=fun i x a=>by
  rw [qat,qaj] at a;split at a;exact a
  ·cases a
 refine ⟨_,rfl, .lst (fun i=>css (lo+i)) (by rw [qau,c]) (by omega) (by omega) hs (fun i x a=>?_) (fun i x a=>hl _ x (get i x a)) fun i x j v y a hv e=>hr _ x j v y (get i x a) hv e⟩;obtain ⟨b,o,hA,hS,d⟩:=ha _ x (get i x a);have f:=(qo.1 (get i x a)).1;refine ⟨b,o+lo*size,?_,hS,by rw [Nat.add_assoc,<- qbn];exact d⟩;rw [qg (by omega),hA];simp only [qbk,kjj]
theorem kad4 {α:Type} {enc:α->FV} {x:Operand} {lo hi:Option Operand} {l h:Option Int} {xs r:List α} {size:Nat} {e:TypeId} {de:TD} (hc:cutL xs (l.getD 0) (h.getD xs.length)=some r) (p:TOk P T) (ho:o.op = .slice t x lo hi none:=by kernel_rfl) (hd:kat T t=some d:=by kernel_rfl) (hk:d.kind = .slice e:=by kernel_rfl) (f:kat T e=some de:=by kernel_rfl) (g:de.size=size:=by kernel_rfl) (u:st.eval x = .fz (eL size enc xs):=by kernel_rfl) (hl:kvu st lo=some l:=by kernel_rfl) (z:kvu st hi=some h:=by kernel_rfl):NStep P o st (.fz (eL size enc r)):=by
 intro ψ S a w ht F;have h1:=Sim.eval_tmps ht x;rw [u] at h1;have bl:=ktv ht hl;have bh:=ktv ht z;unfold cutL at hc;split at hc
 ·rename_i b;injection hc with hc;subst hc;have h1:=h1.inv;obtain ⟨A,cap,css,hv,hn,B,hm,hs,ha,C,hr⟩:=h1.lst_inv;rw [hv] at h1;obtain ⟨A',i,j⟩:=h1.take (v := .nilFunc) (k:=0) (l.getD 0).toNat (h.getD xs.length).toNat (by omega) (by omega);refine kaj (w':=w) (v := .slice A' ((h.getD xs.length).toNat - (l.getD 0).toNat) (cap - (l.getD 0).toNat)) ?_ ⟨kai _,(RV.fz ?_).here⟩
  ·have D:=(p.get hd).slice hk;have e1:(Instr.sliceBounds true xs.length cap (lo.map a.eval) (hi.map a.eval) none).run P w = .ok ((l.getD 0).toNat,(h.getD xs.length).toNat,cap) w:=by
    unfold Instr.sliceBounds;have q:(xs.length:Int)<=(cap:Int):=(by omega);rcases bh with ⟨rfl,rfl⟩ | ⟨y,k,n,rfl,rfl,s⟩
    ·rcases bl with ⟨rfl,rfl⟩ | ⟨y',k',n',rfl,rfl,c⟩;simp
     ·simp only [qa2,Option.getD_none] at b ⊢;simp [Instr.sliceBound,c,asIntOf,b.1,b.2.1]
    ·rcases bl with ⟨rfl,rfl⟩ | ⟨y',k',n',rfl,rfl,c⟩;simp only [qa2,Option.getD_none] at b ⊢;have:n<=(cap:Int):=(by omega);simp [Instr.sliceBound,s,asIntOf,b.2.1,this]
     ·simp only [qa2] at b ⊢;have:0<=n:=(by omega);have h3:n'<=(n.toNat:Int):=(by omega);have E:n<=(cap:Int):=(by omega);simp [Instr.sliceBound,s,c,asIntOf,b.1,this,h3,E];intro hc;exfalso;omega
   have m:(sizeOf e).run P w = .ok size w:=(by rw [(p.get f).size,g]);simp [execOp,ho,Instr.sliceAt,Instr.slice,run_underlying D,hv,e1,m,i]
  ·have:((xs.take (h.getD xs.length).toNat).drop (l.getD 0).toNat).length=(h.getD xs.length).toNat - (l.getD 0).toNat:=(by rw [qau,qah];omega);unfold eL;rw [this,List.map_drop,List.map_take];exact j
 ·cases hc
def zipS:List (Nat×AV)->List AV->List (Nat×AV)
 | (t,_)::l,v::vs=>(t,v)::zipS l vs
 | _,_=>[]
theorem k0n {v:Nat->Value} {K:Nat->Prop}:∀ {l:List (Nat×AV)} {vs:List AV} (t:Nat),(∀ (i:Nat) (k:Nat×AV) (x:AV),l[i]?=some k->vs[i]?=some x->RV ψ K S w (v k.1) x)->RV ψ K S w (v t) (look .any (zipS l vs) t)
 | [],vs,t,h=>by cases vs <;> exact .any
 | (k,y)::l,[],t,h => .any
 | (k,y)::l,x::vs,t,h=>by
  simp only [zipS,kdt];split;rename_i hk;subst hk;exact h 0 _ x rfl rfl
  ·exact k0n t fun i k x hk a=>h (i+1) k x (by simpa using hk) (by simpa using a)
def argT:Nat->List AV->List (Nat×AV)
 | _,[]=>[]
 | i,x::l=>(i,x)::argT (i+1) l
theorem ktg:∀ (l:List AV) (i t:Nat),look .any (argT i l) t = .any\/∃ x,i<=t/\l[t - i]?=some x/\look .any (argT i l) t=x
 | [],i,t => .inl rfl
 | x::l,i,t=>by
  simp only [argT,kdt];by_cases h:i=t;subst h;exact .inr ⟨x,qy _,by simp,by simp⟩
  ·rw [qg h];rcases ktg l (i+1) t with h1 | ⟨y,h1,h2,h3⟩;exact .inl h1
   ·exact .inr ⟨y,by omega,by rw [show t - i=(t - (i+1))+1 by omega];simpa using h2,h3⟩
def inlQ (P:Program) (ops:Array Oper) (l:List Oper) (dst:Option Nat) (n:Nat) (D:List Deferred) (g:Nat) (cs:List Value) (keep:List (Nat×AV)) (rs:List ResultVar) (Q:Exit->St->Prop):Exit->St->Prop:=fun e st'=>
 (e = .normal\/e = .ret)/\st'.dfr=[]/\∃ vs r,kab st'.heap g=some (.gho cs vs)/\((rs=[]/\r = .any)\/∃ z,rs=[.tmp z]/\st'.get z=r) /\
  awpL P ops l (({ n:=n,tmps:=zipS keep vs,heap:=kde g st'.heap,ids:=st'.ids,dfr:=D }:St).put dst r) Q
theorem kagr {f:FuncId} {fn:Func} {c:Code} {ops:Array Oper} {l:List Oper} {Q:Exit->St->Prop} {x:Operand} {args:Array Operand} {ts:Array TypeId} {cap:List AV} {n g:Nat} {as_:List AV} (ho:o.op = .call { callee := .value x,args:=args,argTypes:=ts })
  (E : st.eval x = .fn f cap) (hg : kdi ops st o = some true) (hd : ∀ t, o.dst = some t -> t < st.n) (hf : P.funcs[f]? = some fn) (T : fn.body = some c) (hn : (fn.name == "runtime.NumGoroutine") = false) (U : fn.ntmps = n) (H : args.toList.map st.eval ++ cap = as_) (I : Nat.ble as_.length n = true) (j : st.ids.contains g = false)
  (h:∀ cs,awp P c { n:=n,tmps:=argT 0 as_,heap:=(g, .gho cs (st.tmps.map fun p=>st.get p.1))::st.heap,ids:=g::st.ids } (inlQ P ops l o.dst st.n st.dfr g cs st.tmps fn.results.toList Q)):
  awpL P ops (o::l) st Q:=by
 have I:=qai I;have j:g∉st.ids:=by simpa using j
 intro F S0 N0 ψ S a w hs;unfold wpList;rw [kks hs hg];refine .inl ?_;have s:=hs.eval x;rw [E] at s;obtain ⟨caps,hcx,V,X⟩:∃ caps:Array Value,a.eval x = .func (.func f) #[] caps/\caps.size=cap.length/\∀ (i:Nat) (v:Value) (y:AV),caps[i]?=some v->cap[i]?=some y->RV ψ (·∈st.ids) S w v y:=by
  generalize a.eval x=u at s;cases s with
  | fn h hr=>exact ⟨_,rfl,h,hr⟩
 have Y:fn.body≠none:=by rw [T];simp
 simp only [qae,ne_eq] at hn;have J:(execOp a.eval o).run P w = .ok (.enter f (args.map a.eval++caps)) w:=by simp [execOp,ho,resolve,hcx,Deferred.ofValue,invoke,callFunc,hf,Y,hn]
 unfold Oper.wp;rw [J];show Calls P f (args.map a.eval++caps) w _;refine calls_of_wp hf T ?_
 -- the values of the caller's frame
 have A:=hs.core.add (n:=0) (v := .nilFunc) (w':=w) (ob := .gho (st.tmps.map fun p=>a.tmps.getD p.1 undef) (st.tmps.map fun p=>st.get p.1)) (kai _) j (fun b T=>by cases T)
  ⟨kes _ _,by rw [kbp];rfl,by rw [kbp];rfl,fun i v x hv E=>by simp only [qp,qm] at hv E;obtain ⟨p,hp,rfl⟩:=hv;obtain ⟨q,m,rfl⟩:=E;rw [hp] at m;injection m with m;subst m;exact (hs.tmps p.1).keep (ker j _ _) (fun _ h=>qn _ h) (fun _ h=>h) (fun _ _ _=>rfl)⟩
 have K:(args.map a.eval++caps).size=as_.length:=by rw [<- H];simp [V]
 have L:∀ (i:Nat) (v:Value) (y:AV),(args.map a.eval++caps)[i]?=some v->as_[i]?=some y->RV ψ (·∈st.ids) S w v y:=fun i v y hv G=>by
  rw [<- H] at G;by_cases hi:i<args.size;rw [qbh (by simpa using hi)] at hv;rw [qav (by simpa using hi)] at G;simp only [Array.getElem?_map,qm,qp,qay] at hv G;obtain ⟨p,hp,rfl⟩:=hv;obtain ⟨q,m,rfl⟩:=G;rw [hp] at m;injection m with m;subst m;exact hs.eval p
  ·rw [Array.getElem?_append_right (by simpa using hi)] at hv;rw [qa5 (by simpa using hi)] at G;exact X _ v y (by simpa using hv) (by simpa using G)
 have M:Sim F S0 N0 { n:=n,tmps:=argT 0 as_,heap:=(g, .gho (st.tmps.map fun p=>a.tmps.getD p.1 undef) (st.tmps.map fun p=>st.get p.1))::st.heap,ids:=g::st.ids } (ψ.set g 0 .nilFunc) S
   { tmps:=(args.map a.eval++caps)++Array.replicate (fn.ntmps - (args.map a.eval++caps).size) undef,defers:=[] } w:=by
  refine ⟨rfl,by rw [Array.size_append,K,Array.size_replicate,U];show _=n;omega,fun t=>?_,A⟩;show RV _ _ _ w _ (look .any (argT 0 as_) t);rcases ktg as_ 0 t with h | ⟨y,_,h1,h2⟩;rw [h];exact .any
  ·rw [h2];have h1:as_[t]?=some y:=(by simpa using h1);have B:t<(args.map a.eval++caps).size:=(by rw [K];exact (qo.1 h1).1);have Z:((args.map a.eval++caps)++Array.replicate (fn.ntmps - (args.map a.eval++caps).size) undef).getD t undef=(args.map a.eval++caps)[t]:=(by rw [qax,qbh B,qaw B];rfl);rw [Z];exact (L t _ y (qaw B) h1).keep (ker j _ _) (fun _ h=>qn _ h) (fun _ h=>h) (fun _ _ _=>rfl)
 refine wp_mono (h _ F S0 N0 _ S _ w M) ?_;rintro e a' w' ⟨st',ψ',S',⟨he,aa,vs,r,ab,ac,C⟩,h2,h3⟩;have fin:a'.defers=[]/\∃ v,(results fn a'.tmps).run P w' = .ok v w'/\wpList P ops (PostA F S0 N0 w Q) l (a.put o.dst v) w':=by
  refine ⟨h2.defers.trans aa,?_⟩;have N:∃ v,(results fn a'.tmps).run P w' = .ok v w'/\RV ψ' (·∈st'.ids) S' w' v r:=by
   rcases ac with ⟨hz,rfl⟩ | ⟨z,hz,ad⟩;refine ⟨.tuple #[],?_, .any⟩;have:fn.results=#[]:=(by apply Array.ext'; simpa using hz);simp [results,this]
   ·refine ⟨a'.tmps.getD z undef,?_,by rw [<- ad];exact h2.tmps z⟩;have:fn.results=#[.tmp z]:=(by apply Array.ext'; simpa using hz);simp [results,this]
  obtain ⟨v,ae,af⟩:=N;refine ⟨v,ae,?_⟩;obtain ⟨_,⟨_,_,_,ag⟩,_⟩:=h2.core.obj g _ ab;have O:Core F S0 N0 (kde g st'.heap) st'.ids ψ' S' w':=by refine ⟨fun i ob ho=>h2.core.obj i ob (ke4 g ho).2,fun i i' ob ob' b ho ah=>h2.core.inj i i' ob ob' b (ke4 g ho).2 (ke4 g ah).2,h2.core.lt,h2.core.s0,h2.core.n0,h2.core.fr⟩
  have D:Sim F S0 N0 { n:=st.n,tmps:=zipS st.tmps vs,heap:=kde g st'.heap,ids:=st'.ids,dfr:=st.dfr } ψ' S' a w':=by refine ⟨hs.defers,hs.size,fun t=>?_,O⟩;exact k0n (v:=fun t=>a.tmps.getD t undef) t fun i k x hk E=>ag i _ x (by rw [qp,hk];rfl) E
  have R:=D.put (st':={ n:=st.n,tmps:=zipS st.tmps vs,heap:=kde g st'.heap,ids:=st'.ids,dfr:=st.dfr }) (d:=o.dst) rfl rfl rfl O af Ext.refl (fun _ h=>h) (fun _ h=>h) (fun _ _ _=>rfl) hd;exact kgh (fun e a'' w'' k=>k.pre h3) _ _ _ (C F S0 N0 ψ' S' _ w' R)
 rcases he with rfl | rfl <;> exact fin
end
namespace RE
open Go Go.RowKit
structure Tr (M:Nat->Prop) (w w':World):Prop where
 os:w'.os=w.os
 tape:w'.tape=w.tape
 output:w'.output=w.output
 size:w.heap.size<=w'.heap.size
 block:∀ b,b<w.heap.size->¬ M b->w'.heap[b]?=w.heap[b]?
inductive Gd (M:Nat->Prop) where
 | det (c:Value)
 | rel (G:Value->World->Prop) (h:∀ v w w',G v w->Tr M w w'->G v w')
 | relE (G:Value->World->Prop) (h:∀ v w w',G v w->Below w.heap.size w w'->G v w')
def Gd.holds {M:Nat->Prop}:Gd M->Value->World->Prop
 | .det c,v,_=>v=c
 | .rel G _,v,w=>G v w
 | .relE G _,v,w=>G v w
section
variable {P:Program}
variable {M:Nat->Prop} {e:Nat} {D:World->Prop} {gs:List (Gd M)} {l:List Oper} {xs:Nat->Value} {a0:Act}
structure kamo {M:Nat->Prop} (e:Nat) (D:World->Prop) (gs:List (Gd M)) (l:List Oper) (C:World->Prop) (a0:Act) (listed:Array Bool) (a:Act) (w:World):Prop where
 inC:C w
 inD:listed.getD e false=false->D w
 defers:a.defers=a0.defers
 size:a.tmps.size=a0.tmps.size
 lsize:listed.size=l.length
 closed:∀ k o,listed.getD k false=true->l[k]?=some o->∀ e∈o.after,Region.binds .any e=true->listed.getD e.on false=true
 vals:∃ xs:Nat->Value,∀ j g,gs[j]?=some g->listed.getD j false=true->g.holds (xs j) w/\∀ o d,l[j]?=some o->o.dst=some d->a.tmps[d]?=some (xs j)
 rest:∀ t,(∀ j o,listed.getD j false=true->l[j]?=some o->o.dst≠some t)->a.tmps[t]?=a0.tmps[t]?
end
end RE
def kos (P:Program) (o:Oper) (st:St) (m:Nat) (om:AObj) (c:AV) (om':AObj):Prop:=
 ∀ F S0 N0 ψ S a w,(∀ t,RV ψ (·∈st.ids) S w (a.tmps.getD t undef) (st.get t))->Core F S0 N0 [(m,om)] st.ids ψ S w->kis P o a w fun v w'=>∃ n u,Core F S0 N0 [(m,om')] st.ids (ψ.set m n u) S w'/\RV (ψ.set m n u) (·∈st.ids) S w' v c/\Fr F w w' /\
  (ψ.len m<n\/(ψ.len m=n/\u=ψ.val m))/\(∀ b,Blk u b->Blk (ψ.val m) b\/w.heap.size<=b)
section
variable {P:Program} {F S0:Nat->Prop} {N0:Nat} {w w':World} {S S':Nat->Prop} {ψ ψ':Env} {K K':Nat->Prop} {o:Oper} {a:Act} {st:St} {T:List (TypeId×TD)} {t:TypeId} {d:TD}
def kaen (st:St) (id n:Nat):List Nat->Prop
 | []=>True
 | t::ts=>st.get t = .row id n/\kaen st id n ts
def k5u (x:AV) (base:List (Nat×AV)):List Nat->List (Nat×AV)
 | []=>base
 | t::ts=>(t,x)::k5u x base ts
theorem kqt {id n:Nat} {e:TypeId} {size:Nat} {xs:List FV} (ts:List Nat) (f:kaen st id n ts) (d:kab st.heap id=some (.frow e size xs)) (hn:n=xs.length):
  LeSt st { st with tmps:=k5u (.fz (.lst size n xs)) st.tmps ts,heap:=kde id st.heap }:=by
 subst hn;intro F S0 N0 ψ S a w hs;obtain ⟨c1,c2⟩:=kqx hs.core d;have c:∀ k,RV ψ (·∈st.ids) (fun b=>S b\/kby (ψ.val id)=some b) w (a.tmps.getD k undef) (st.get k):=fun k=>(hs.tmps k).mono (fun _ h=>h) fun _ h => .inl h;have h0:=(hs.core.obj id _ d).2.1.1;refine ⟨ψ,_,hs.defers,hs.size,fun k=>?_,c1⟩;show RV ψ (·∈st.ids) _ w (a.tmps.getD k undef) (look .any (k5u (.fz (.lst size xs.length xs)) st.tmps ts) k)
 induction ts with
 | nil=>exact c k
 | cons t ts ih=>
  simp only [k5u,kdt];split
  ·rename_i hk;subst hk;have hv:=c t;rw [f.1] at hv;refine .fz ?_;generalize a.tmps.getD t undef=u at hv;cases hv with
   | row hK g h1 hv=>rw [hv (by rw [h0])];exact c2
  ·exact ih f.2
theorem k5w {st':St} {ids:List Nat} {ts:List (Nat×C1)} {c:AV} (h:coSt st ids ts []=some st') (hn:NStep P o st' c):NStep P o st c:=by
 unfold coSt at h;cases hi:ids.all st.ids.contains with
 | false=>rw [hi] at h;simp at h
 | true=>
  cases h1:kvt st ids ts with
  | none=>rw [hi,h1] at h;simp at h
  | some r=>
   rw [hi,h1] at h;simp only [kvp,ql] at h;subst h;have d:∀ id,id∈ids->id∈st.ids:=fun id hid=>(by simpa using qs.1 hi id hid);intro ψ S a w ht f;refine kw7 ?_ (hn ψ S a w (fun t=>?_) (fun id ob ho=>by cases ho));rintro v w' ⟨k1,k2⟩;exact ⟨k1,k2.mono d fun _ h=>h⟩
   ·show RV ψ (·∈ids) S w _ (look .any r t);rcases kv6 t h1 with b | ⟨c',b,e⟩;rw [b];exact .any
    ·rw [b];rw [b] at *
     exact (ku6 (ht t)).sub1 e
theorem kyr {e:TypeId} {size:Nat} {xs:List FV} {v:Value} {cs:List Value} (k:0<size) (d:w.ownsRow 0 e size v xs.length cs) (n:ElR size xs) (hr:RowR S w size xs cs):RF (fun b=>S b\/kby v=some b) w v (.lst size xs.length xs):=by
 rcases d.2 with ⟨hv,o⟩ | ⟨g,cap,cur,hv,_,r,p,l,s,q⟩;have:xs=[]:=qar o;subst this;rw [hv];exact .lst (A:=none) (cap:=0) (xs:=[]) (fun _=>[]) rfl (qy _) (by omega) k (fun i x a=>by simp at a) (fun i x a=>by simp at a) (fun i x j v y a=>by simp at a)
 ·rw [hv];have m:∀ i x,xs[i]?=some x->(i+1)*size<=cs.length:=fun i x a=>by rw [d.1];exact qa7 _ (qo.1 a).1
  refine .lst (fun i=>(cs.drop (i*size)).take size) rfl p (by unfold maxLen at l;exact l) k (fun i x a=>⟨g,0,rfl, .inr (by rfl),fun j u f=>?_⟩) (fun i x a=>?_) fun i x j v y a c t=>?_
  ·rw [qaj] at f;split at f
   ·rw [qat,<- q,qaj] at f;split at f;simp only [World.cell?,r,Nat.zero_add];simpa using f
    ·cases f
   ·cases f
  have:=m i x a;rw [qbn] at this;exact ⟨by rw [qah,qau];omega,n x (qw a)⟩
  ·rw [qaj] at c;split at c;rw [qat] at c;exact (hr i x j v y a c t).mono fun _ h => .inl h
   ·cases c
theorem kaem {f:FuncId} {fn:Func} {ts:Array TypeId} {X Y:Operand} {s:BA} {c:Int} (ho:o.op = .call { callee := .value (.func f),args:=#[X,Y],argTypes:=ts }) (d:P.funcs[f]?=some fn)
  (b : (fn.name == "runtime.NumGoroutine") = false := by kernel_rfl) (e : fn.body.isNone = true := by kernel_rfl) (hn : Extern.findNext fn = none := by kernel_rfl) (g : Extern.find fn = some Extern.BytealgIndexByte.indexByte := by kernel_rfl) (h : st.eval X = .fz (eS s) := by kernel_rfl) (i : st.eval Y = .fz (eU8 c) := by kernel_rfl) : NStep P o st (.fz (eI (Lib.indexByte s.data.toList c.toNat.toUInt8))) := by
 intro ψ S a w ht j;have h1:=Sim.eval_tmps ht X;rw [h] at h1;have h1:=h1.atom;have h2:=Sim.eval_tmps ht Y;rw [i] at h2;have h2:=h2.atom;refine kaj (w':=w) (v := .int .i64 (Lib.indexByte s.data.toList c.toNat.toUInt8)) ?_ ⟨kai _, .fz (.atom rfl)⟩;have h0:a.eval (.func f) = .func (.func f) #[] #[]:=rfl;simp [execOp,ho,resolve,h0,Deferred.ofValue,invoke,run_callFunc_extern d b e hn g,h1,h2,Lib.run_indexByteString]
end
end Go.Proofs.YtaimpcnpifoidaaGreatDoor
