import Derived.Test.YtdnfbjahbkpibaaGreatDoorRows
import Derived.Test.YtdnfbjahbkpibaaGreatDoorSim
import Derived.ProofKit
import Derived.OpenShut
import Derived.JoinedCond
import Derived.Carry
import Derived.ChangeSame
import Derived.Test.YtdnfbjahbkpibaaGreatDoorTy
import Derived.ChangeMaps5
import Derived.Test.YtdnfbjahbkpibaaGreatDoorSim
import Derived.Lib.Bytealg
set_option linter.all false
namespace Go.Proofs.YtdnfbjahbkpibaaGreatDoor
open Go Go.RowKit Go.ChangeShapes Go.WideShapes Go.ChangeAt
theorem kad9:ownKnob Tryz.prog.godebug=none:=by kernel_rfl
theorem kafb:laidOutB Tryz.prog=true:=by kernel_rfl
variable {H:Type} {enc:TypeId×Value->H} {P:Program}
theorem kug (hl:laidOutB P=true) {W W':World} {sp:Nat->Bool} (c:RowKit.Below W.heap.size W W'):∀ {ts:List TypeId} {vs:List Value} {ds:List (DataW H)} {ps:List MemPlace},
  (∀ t∈ts,P.readableRec t=true/\t<P.types.size)->DataW.TrodAll enc P W 0 (fun _=>true) true ts vs ds ps->(∀ x∈ps,x.block<W.heap.size)->(∀ x∈ps,sp x.block=true)->DataW.TrodAll enc P W' 0 sp true ts vs ds ps
 | [],vs,ds,ps,_,h,_,_=>by obtain ⟨rfl,rfl,rfl⟩:=trodAll_nil h;exact trodAll_mk0
 | t::ts,vs,ds,ps,ht,h,a,b=>by
  obtain ⟨v,vs',d,ds',p,q,rfl,rfl,rfl,h0,h1⟩:=trodAll_cons h;exact trodAll_cons_mk (WideElems.Trod_stays hl (ht t (by simp)).1 (ht t (by simp)).2 h0 (fun x hx=>c.same (a x (by simp [hx]))) (fun x hx=>b x (by simp [hx])))
   (kug hl c (fun t' e=>ht t' (by simp [e])) h1 (fun x hx=>a x (by simp [hx])) (fun x hx=>b x (by simp [hx])))
theorem kae7 {f:Func} {s:ChangeSpec} {W W':World} {args:Array Value} {ds gs:List (DataW H)} {before:List MemPlace} {tb:TypeId}
  (hl:laidOutB P=true) (j:∀ t∈f.params.toList,P.readableRec t=true/\t<P.types.size) (a:s.vars=[]) (v:P.underlying tb=some .bool) (hr:f.resultTypes=#[tb])
  (c:s.fn H (ds++gs)={ results:=[.lit (.bool true)],args:=ds })
  (o:DataW.Whole enc P f.params.toList s.vars false W args.toList ds gs before) (r:RowKit.Below W.heap.size W W'):
  s.post enc P f false true false false W args (.bool true) W':=by
 have d:=o;obtain ⟨p,q,hA,u,rfl,w,hn⟩:=o;have k:DataW.TrodVars enc P W (fun _=>true) [] gs q:=by rw [a] at u;exact u
 obtain ⟨rfl,rfl⟩:=trodVars_none k;have e:∀ x∈p,x.block<W.heap.size:=fun x hx=>d.lt x (by simpa using hx);have l:∀ sp:Nat->Bool,(∀ x∈p,sp x.block=true)->DataW.TrodAll enc P W' 0 sp true f.params.toList args.toList (s.fn H (ds++[])).args p:=fun sp m=>by rw [c];exact kug hl r j hA e m
 have n:∀ sp:Nat->Bool,DataW.TrodVars enc P W' sp s.vars (s.fn H (ds++[])).vars []:=fun sp=>by rw [a,c];rfl
 have g:∀ x∈p,(fun b=>decide (b<W.heap.size)) x.block=true:=fun x hx=>by simpa using e x hx
 have i:∀ (b:Nat) (sp:Nat->Bool) (hd:Bool),DataW.TrodAll enc P W' b sp hd f.resultTypes.toList ((Value.bool true).resultList f.resultTypes.size) (s.fn H (ds++[])).results []:=fun b sp hd=>by rw [c,hr];exact trodAll_cons_mk (shut_bool v true) trodAll_mk0
 refine ⟨ds,[],p++[],[],p,[],d,i _ _ _,l _ g,n _,World.keptBut_mono (fun x hx=>⟨hx,?_⟩) (r.frame (·∈p++[])),fun h=>by cases h⟩;simp at hx ⊢;exact hx
variable {w:World} {base:Nat} {spare:Nat->Bool} {held:Bool}
theorem k8e {T:Type} {Q:Nat->T->Prop}:∀ n:Nat,(∀ i,i<n->∃ z,Q i z)->∃ xs:List T,xs.length=n/\∀ (i:Nat) (z:T),xs[i]?=some z->Q i z
 | 0,_=>⟨[],rfl,fun i z h=>by simp at h⟩
 | n+1,h=>by
  obtain ⟨xs,hl,a⟩:=k8e (Q:=Q) n fun i hi=>h i (by omega);obtain ⟨z,b⟩:=h n (by omega);refine ⟨xs++[z],by simp [hl],fun i y hy=>?_⟩;by_cases hi:i<n;rw [qac (by omega)] at hy;exact a i y hy
  ·rw [qab (by omega)] at hy;have:i=n:=(by have:=(qf.1 hy).1;simp at this;omega);subst this;simp [hl] at hy;subst hy;exact b
theorem ksh {T:Type} (R:List Value->T->Prop) {t e:TypeId} (size:Nat) {fuel:Nat} {cs:List Value} {x:DataW H×List MemPlace} (ht:P.underlying t=some (.slice e)) (C:P.cellsOf e=size) (h:DataW.trod enc P w base spare held fuel t cs=some x) (p:∀ n cs' y,n<fuel->DataW.trod enc P w base spare held n e cs'=some y->∃ z,R cs' z) (d:0<size:=by omega):
  ∃ v xs,cs=[v]/\RepSl Any w size R v xs:=by
 rcases DataW.trod_slice ht h with ⟨rfl,_⟩ | ⟨a,len,cap,elems,rest,n,D,rfl,_,_,E,f,A,g,_⟩;exact ⟨_,[],rfl,RepSl.nil (by omega)⟩
 ·have each:∀ i,i<len->∃ cs' z,R cs' z/\cs'.length=size/\∀ j,j<size->w.cell? ((a.add (i*size)).add j)=cs'[j]?:=fun i hi=>by have h1:=g i hi;have q:elems[i]?=some elems[i]:=qb (by omega);rw [q,C] at h1;obtain ⟨cs',hc,r⟩:=qm.1 h1;obtain ⟨_,hl,c⟩:=World.cells?_some hc;obtain ⟨z,m⟩:=p n cs' _ (by omega) r;exact ⟨cs',z,m,hl,c⟩
  obtain ⟨xs,s,hx⟩:=k8e (Q:=fun i z=>∃ cs',R cs' z/\cs'.length=size/\∀ j,j<size->w.cell? ((a.add (i*size)).add j)=cs'[j]?) len (fun i hi=>by obtain ⟨cs',z,h⟩:=each i hi;exact ⟨z,cs',h⟩);refine ⟨_,xs,rfl,some a,cap,by rw [s],by omega,by unfold maxLen at f;exact f,fun i z m=>?_⟩;obtain ⟨cs',hr,hl,c⟩:=hx i z m;have k:a.spot=none:=by
   have h0:0<xs.length:=(by have:=(qf.1 m).1;omega);obtain ⟨cs0,_,F,l⟩:=hx 0 _ (qb h0);have h1:=l 0 d;simp only [Nat.zero_mul,Addr.add,if_true] at h1;rw [qb (by omega)] at h1;unfold World.cell? at h1;split at h1
   ·split at h1;cases h1
    ·rename_i hs;simpa using hs
   ·cases h1
  obtain ⟨b,o,sp⟩:=a;simp only at k;subst k;refine ⟨b,o,cs',rfl,trivial,fun j u B=>?_,hl,hr⟩;have G:j<size:=by have:=(qf.1 B).1;omega
  rw [<- B,<- c j G];congr 1;unfold Addr.add;by_cases h1:i*size=0 <;> by_cases q:j=0 <;> simp [h1,q,Nat.add_assoc]
set_option linter.unusedSectionVars false
open Go Go.RowKit
variable [Dr]
inductive Va where
 | mk (type num:Int) (text:BA) (items:List Va)
namespace Va
def type:Va->Int | mk t _ _ _=>t
def num:Va->Int | mk _ n _ _=>n
def text:Va->BA | mk _ _ s _=>s
def items:Va->List Va | mk _ _ _ l=>l
theorem ind {P:Va->Prop} (h:∀ t n s l,(∀ v∈l,P v)->P (mk t n s l)) (v:Va):P v:=
 Va.rec (motive_1:=P) (motive_2:=fun l=>∀ t∈l,P t) (fun t n s l ih=>h t n s l ih) (fun _ h=>nomatch h)
  (fun t l h1 a x hx=>(qae.1 hx).elim (fun e=>e ▸ h1) (a x)) v
end Va
structure Sy where
 name:BA
 type:Int
structure Ru where
 symbol:Int
 kind:Int
 input:Int
 const:Va
 op:BA
 args:List Int
structure La where
 name:BA
 inputs:List Int
 symbols:List Sy
 rules:List Ru
def ksv (s:BA):Prop:=s.size<=9223372036854775807
section
variable {S S':Nat->Prop} {w w':World}
inductive RepVa (S:Nat->Prop) (w:World):List Value->Va->Prop where
 | mk (t n:Int) (s:BA) (kids:List Va) (A:Option Addr) (cap:Nat) (css:Nat->List Value) (ht:kgo t) (hn:kgo n) (hs:ksv s) (hc:kids.length<=cap) (hm:cap<=9223372036854775807)
  (hA:∀ (i:Nat) (x:Va),kids[i]?=some x->∃ b o,A=some ⟨b,o,none⟩/\S b/\At w b (o+i*4) (css i))
  (hk:∀ (i:Nat) (x:Va),kids[i]?=some x->RepVa S w (css i) x):RepVa S w [.int .i64 t, .int .i64 n, .string s, .slice A kids.length cap] (.mk t n s kids)
abbrev Vas (S:Nat->Prop) (w:World) (v:Value) (l:List Va):Prop:=RepSl S w 4 (RepVa S w) v l
theorem RepVa.len {cs:List Value} {t:Va} (h:RepVa S w cs t):cs.length=4:=by cases h;rfl
theorem RepVa.form {cs:List Value} {t n:Int} {s:BA} {l:List Va} (h:RepVa S w cs (.mk t n s l)):∃ v,cs=[.int .i64 t, .int .i64 n, .string s,v]/\kgo t/\kgo n/\ksv s/\Vas S w v l:=by
 cases h with
 | mk _ _ _ _ A cap css ht hn hs hc hm hA hk=>
  refine ⟨_,rfl,ht,hn,hs,A,cap,rfl,hc,hm,fun i x hx=>?_⟩;obtain ⟨b,o,h1,a,c⟩:=hA i x hx;exact ⟨b,o,css i,h1,a,c,(hk i x hx).len,hk i x hx⟩
theorem RepVa.of {v:Value} {t n:Int} {s:BA} {l:List Va} (ht:kgo t) (hn:kgo n) (hs:ksv s) (h:Vas S w v l):RepVa S w [.int .i64 t, .int .i64 n, .string s,v] (.mk t n s l):=by
 obtain ⟨A,cap,rfl,hc,hm,hx⟩:=h;have:∀ i:Nat,∃ cs:List Value,∀ x:Va,l[i]?=some x->(∃ b o,A=some ⟨b,o,none⟩/\S b/\At w b (o+i*4) cs)/\RepVa S w cs x:=fun i=>by
  cases hi:l[i]? with
  | none=>exact ⟨[],fun x h=>by cases h⟩
  | some x=>
   obtain ⟨b,o,cs,h1,c,d,_,e⟩:=hx i x hi;exact ⟨cs,fun y hy=>by cases hy;exact ⟨⟨b,o,h1,c,d⟩,e⟩⟩
 obtain ⟨css,a⟩:=Classical.axiomOfChoice this;exact .mk t n s l A cap css ht hn hs hc hm (fun i x hi=>(a i x hi).1) (fun i x hi=>(a i x hi).2)
section
variable {T:Type} {size:Nat} {R:(Nat->Prop)->World->List Value->T->Prop} {v:Value} {l:List T}
end
def k3o (S:Nat->Prop) (w:World) (cs:List Value) (x:Sy):Prop:=cs=[.string x.name, .int .i64 x.type]/\ksv x.name/\kgo x.type
def k3i (S:Nat->Prop) (w:World) (cs:List Value) (x:Ru):Prop:=
 ∃ c0 c1 c2 c3 v,cs=[.int .i64 x.symbol, .int .i64 x.kind, .int .i64 x.input,c0,c1,c2,c3, .string x.op,v]/\kgo x.symbol/\kgo x.kind/\kgo x.input/\ksv x.op/\RepVa S w [c0,c1,c2,c3] x.const/\Ints S w v x.args
abbrev Sys (S:Nat->Prop) (w:World) (v:Value) (l:List Sy):Prop:=RepSl S w 2 (k3o S w) v l
abbrev Rus (S:Nat->Prop) (w:World) (v:Value) (l:List Ru):Prop:=RepSl S w 9 (k3i S w) v l
def kagy (S:Nat->Prop) (w:World) (cs:List Value) (x:La):Prop:=
 ∃ v1 v2 v3,cs=[.string x.name,v1,v2,v3]/\ksv x.name/\Ints S w v1 x.inputs/\Sys S w v2 x.symbols/\Rus S w v3 x.rules
def LaV (S:Nat->Prop) (w:World) (v:Value) (x:La):Prop:=∃ cs:List Value,v = .agg cs.toArray/\kagy S w cs x
end
end Go.Proofs.YtdnfbjahbkpibaaGreatDoor
set_option linter.all false
set_option linter.unusedSectionVars false
namespace Go.Proofs.YtdnfbjahbkpibaaGreatDoor
open Go Go.RowKit
variable [Dr]
mutual
def eVaR:Va->FV
 | .mk t n s l => .agg [eI t,eI n,eS s, .lst 4 l.length (ktc l)]
def ktc:List Va->List FV
 | []=>[]
 | x::l=>eVaR x::ktc l
end
def eVa (x:Va):FV := .agg [eI x.type,eI x.num,eS x.text,eL 4 eVaR x.items]
theorem kx5:∀ l:List Va,ktc l=l.map eVaR
 | []=>by simp [ktc]
 | x::l=>by simp [ktc,kx5 l]
theorem k7z (x:Va):eVaR x=eVa x:=by cases x;simp [eVaR,eVa,kx5,eL,Va.type,Va.num,Va.text,Va.items]
theorem k96 (x:Va):(eVaR x).cells=(eVa x).cells:=by rw [k7z]
theorem kad6 (x:Va):(eVaR x).cells.length=4:=by rw [k7z];rfl
mutual
def eTmR:Tm->FV
 | .mk r l => .agg [eI r, .lst 2 l.length (ktq l)]
def ktq:List Tm->List FV
 | []=>[]
 | x::l=>eTmR x::ktq l
end
def eTm (x:Tm):FV := .agg [eI x.rule,eL 2 eTmR x.args]
theorem kxw:∀ l:List Tm,ktq l=l.map eTmR
 | []=>by simp [ktq]
 | x::l=>by simp [ktq,kxw l]
theorem kf7 (x:Tm):eTmR x=eTm x:=by cases x;simp [eTmR,eTm,kxw,eL,Tm.rule,Tm.args]
theorem kpi (x:Tm):(eTmR x).cells=(eTm x).cells:=by rw [kf7]
theorem kaeo (x:Tm):(eTmR x).cells.length=2:=by rw [kf7];rfl
def eSy (x:Sy):FV := .agg [eS x.name,eI x.type]
def eRu (x:Ru):FV := .agg [eI x.symbol,eI x.kind,eI x.input,eI x.const.type,eI x.const.num,eS x.const.text,eL 4 eVaR x.const.items,eS x.op,eL 1 eI x.args]
def eLa (x:La):FV := .agg [eS x.name,eL 1 eI x.inputs,eL 2 eSy x.symbols,eL 9 eRu x.rules]
end Go.Proofs.YtdnfbjahbkpibaaGreatDoor
set_option linter.all false
namespace Go.Proofs.YtdnfbjahbkpibaaGreatDoor
open Go Go.RowKit Go.ChangeShapes Go.WideShapes Go.ChangeAt Go.ChangeMaps
section
variable {T:Type} {P:Program} {H:Type} {enc:TypeId×Value->H} {w:World} {base:Nat} {spare:Nat->Bool} {held:Bool}
theorem kwm {R:List Value->T->Prop} (ec:T->FV) (size:Nat) {v:Value} {xs:List T} (h:RepSl Any w size R v xs) (e:∀ cs x,x∈xs->R cs x->(ec x).cells.length=size/\(∀ y∈(ec x).cells,y.single=true)/\∀ (j:Nat) (u:Value) (y:FV),cs[j]?=some u->(ec x).cells[j]?=some y->RF Any w u y) (f:0<size:=by omega):RF Any w v (eL size ec xs):=by
 obtain ⟨A,cap,rfl,h1,g,k⟩:=h;have d:∀ i:Nat,∃ cs:List Value,∀ x,xs[i]?=some x->∃ b o,A=some ⟨b,o,none⟩/\At w b (o+i*size) cs/\cs.length=size/\R cs x:=fun i=>by
  cases hx:xs[i]? with
  | none=>exact ⟨[],fun x h=>by cases h⟩
  | some x=>
   obtain ⟨b,o,cs,e1,_,e2,e3,e4⟩:=k i x hx;exact ⟨cs,fun y hy=>by injection hy with hy;subst hy;exact ⟨b,o,e1,e2,e3,e4⟩⟩
 obtain ⟨css,c⟩:=Classical.axiomOfChoice d;refine .lst css (by simp) h1 g f (fun i x hx=>?_) (fun i x hx=>?_) fun i x j v y hx hv hy=>?_;simp only [qn,qq] at hx;obtain ⟨z,a,rfl⟩:=hx;obtain ⟨b,o,e1,e2,_⟩:=c i z a;exact ⟨b,o,e1,trivial,e2⟩;simp only [qn,qq] at hx;obtain ⟨z,a,rfl⟩:=hx;obtain ⟨b,o,e1,e2,e3,e4⟩:=c i z a;obtain ⟨g1,g2,_⟩:=e _ z (qj a) e4;exact ⟨e3,g1,g2⟩
 ·simp only [qn,qq] at hx;obtain ⟨z,a,rfl⟩:=hx;obtain ⟨b,o,e1,e2,e3,e4⟩:=c i z a;exact (e _ z (qj a) e4).2.2 j v y hv hy
theorem kakl {x:Value} {cs:List Value} (a:cs=[x]) (hx:x.oneCell'=true):(FV.atom x).cells.length=1/\(∀ y∈(FV.atom x).cells,y.single=true)/\∀ (j:Nat) (u:Value) (y:FV),cs[j]?=some u->(FV.atom x).cells[j]?=some y->RF Any w u y:=by
 subst a;refine ⟨rfl,fun y hy=>?_,fun j u y b hy=>?_⟩;simp [FV.cells] at hy;subst hy;exact hx
 ·cases j with
  | zero=>
   simp [FV.cells] at b hy;subst b hy;exact .atom hx
  | succ j=>simp at b
theorem kacy {f:FuncId} (args:List FV) {vs:Array Value} (hp:PCall P f args (eB true)) (hs:vs.size=args.length) (hr:∀ (i:Nat) (v:Value) (x:FV),vs[i]?=some v->args[i]?=some x->RF Any w v x):
  Calls P f vs w fun e w'=>e = .returned (.bool true)/\RowKit.Below w.heap.size w w':=by
 refine (hp.2 Any w vs hs hr).mono ?_;rintro e w' ⟨v,rfl,h1,a⟩;rw [h1.atom_eq];exact ⟨rfl,a.toBelow⟩
end
variable [Dr]
def ior (k:IntKind) (a b:Int):Int:=k.wrap (BitVec.ofInt k.bits a ||| BitVec.ofInt k.bits b).toNat
def imin (a b:Int):Int:=if b<a then b else a
def imax (a b:Int):Int:=if a<b then b else a
def quo (k:IntKind) (a b:Int):Option Int:=if b=0 then none else some (k.wrap (a.tdiv b))
def rem (k:IntKind) (a b:Int):Option Int:=if b=0 then none else some (a.tmod b)
def cutS (s:BA) (lo hi:Int):Option BA:=if 0<=lo/\lo<=hi/\hi<=(s.size:Int) then some (s.extract lo.toNat hi.toNat) else none
def cutL {α:Type} (xs:List α) (lo hi:Int):Option (List α):=if 0<=lo/\lo<=hi/\hi<=(xs.length:Int) then some ((xs.take hi.toNat).drop lo.toNat) else none
variable {P:Program} {F S0:Nat->Prop} {N0:Nat} {w w':World} {S S':Nat->Prop} {ψ:Env} {K:Nat->Prop} {T:List (TypeId×TD)} {o:Oper} {a:Act} {st:St} {t:TypeId} {d:TD}
theorem kagl {x y:Operand} {ts:Array TypeId} {k k':IntKind} {m n:Int} (c:o.op = .call { callee := .builtin .min,args:=#[x,y],argTypes:=ts }) (hx:st.eval x = .fz (.atom (.int k m))) (hy:st.eval y = .fz (.atom (.int k' n))):NStep P o st (.fz (.atom (.int k (imin m n)))):=by intro ψ S a w ht _;have h1:=Sim.eval_tmps ht x;rw [hx] at h1;have b:=Sim.eval_tmps ht y;rw [hy] at b;refine kae w (.int k (imin m n)) ?_ ⟨kaf _, .fz (.atom rfl)⟩;simp [execOp,c,resolve,invoke,builtin,h1.atom,b.atom,Builtin.min_,Builtin.min2,imin]
theorem kags {x y:Operand} {ts:Array TypeId} {k k':IntKind} {m n:Int} (c:o.op = .call { callee := .builtin .max,args:=#[x,y],argTypes:=ts }) (hx:st.eval x = .fz (.atom (.int k m))) (hy:st.eval y = .fz (.atom (.int k' n))):NStep P o st (.fz (.atom (.int k (imax m n)))):=by intro ψ S a w ht _;have h1:=Sim.eval_tmps ht x;rw [hx] at h1;have b:=Sim.eval_tmps ht y;rw [hy] at b;refine kae w (.int k (imax m n)) ?_ ⟨kaf _, .fz (.atom rfl)⟩;simp [execOp,c,resolve,invoke,builtin,h1.atom,b.atom,Builtin.max_,Builtin.max2,imax]
theorem kagw (x y:Operand) (yt:TypeId) (k:IntKind) (m n:Int) {r:Int} (h:quo k m n=some r) (a:o.op = .binOp .quo t x y yt:=by kernel_rfl) (hx:st.eval x = .fz (.atom (.int k m)):=by kernel_rfl) (hy:st.eval y = .fz (.atom (.int k n)):=by kernel_rfl):NStep P o st (.fz (.atom (.int k r))):=by
 unfold quo at h;split at h;cases h
 ·rename_i b;injection h with h;subst h;exact kaai false (fun h=>nomatch h) a hx hy (by simp [binV,intV,b])
def km9 (st:St):Option Operand->Option (Option Int)
 | none=>some none
 | some x=>match st.eval x with
  | .fz (.atom (.int _ n))=>some (some n)
  | _=>none
theorem kk3 {ids:List Nat} (ht:∀ t,RV ψ (·∈ids) S w (a.tmps.getD t undef) (st.get t)) {x:Option Operand} {r:Option Int} (h:km9 st x=some r):(x=none/\r=none)\/∃ y k n,x=some y/\r=some n/\a.eval y = .int k n:=by
 unfold km9 at h;split at h;injection h with h;exact .inl ⟨rfl,h.symm⟩
 ·rename_i y;split at h;rename_i k n hk;injection h with h;have h1:=Sim.eval_tmps ht y;rw [hk] at h1;exact .inr ⟨y,k,n,rfl,h.symm,h1.atom⟩
  ·cases h
theorem kabf (x:Operand) (lo hi:Option Operand) (l h:Option Int) (s:BA) {r:BA} (hc:cutS s (l.getD 0) (h.getD s.size)=some r) (e:TOk P T) (f:o.op = .slice t x lo hi none:=by kernel_rfl) (hd:kad T t=some d:=by kernel_rfl) (hk:d.kind = .str:=by kernel_rfl) (hx:st.eval x = .fz (.atom (.string s)):=by kernel_rfl) (hl:km9 st lo=some l:=by kernel_rfl) (hh:km9 st hi=some h:=by kernel_rfl):
  NStep P o st (.fz (.atom (.string r))):=by
 intro ψ S a w ht j;have h1:=Sim.eval_tmps ht x;rw [hx] at h1;have bl:=kk3 ht hl;have bh:=kk3 ht hh;unfold cutS at hc;split at hc
 ·rename_i b;injection hc with hc;subst hc;refine kae w (.string (s.extract (l.getD 0).toNat (h.getD s.size).toNat)) ?_ ⟨kaf _, .fz (.atom rfl)⟩;have g:=(e.get hd).str hk;have e1:(Instr.sliceBounds false s.size s.size (lo.map a.eval) (hi.map a.eval) none).run P w = .ok ((l.getD 0).toNat,(h.getD s.size).toNat,s.size) w:=by
   unfold Instr.sliceBounds;rcases bh with ⟨rfl,rfl⟩ | ⟨y,k,n,rfl,rfl,hy⟩
   ·rcases bl with ⟨rfl,rfl⟩ | ⟨y',k',n',rfl,rfl,c⟩;simp
    ·simp only [qbe,Option.getD_none] at b ⊢;simp [Instr.sliceBound,c,asIntOf,b.1,b.2.1]
   ·rcases bl with ⟨rfl,rfl⟩ | ⟨y',k',n',rfl,rfl,c⟩;simp only [qbe,Option.getD_none] at b ⊢;simp [Instr.sliceBound,hy,asIntOf,b.2.1,b.2.2]
    ·simp only [qbe] at b ⊢;have:0<=n:=(by omega);have i:n'<=(n.toNat:Int):=(by omega);simp [Instr.sliceBound,hy,c,asIntOf,b.1,b.2.2,this,i];intro hc;exfalso;omega
  simp [execOp,f,Instr.sliceAt,Instr.slice,run_underlying g,h1.atom,e1]
 ·cases hc
theorem RF.take {v:Value} {size n k:Nat} {A:Option Addr} {cap:Nat} {xs:List FV} (h:RF S w (.slice A n cap) (.lst size n xs)) (lo hi:Nat) (h1:lo<=hi) (e:hi<=n):∃ A',A'=(if cap=lo then A else A.map (·.add (lo*size)))/\RF S w (.slice A' (hi - lo) (cap - lo)) (.lst size (hi - lo) ((xs.take hi).drop lo)):=by
 obtain ⟨A0,cap0,css,hv,hn,hc,hm,hs,ha,hl,hr⟩:=h.lst_inv;injection hv with e1 _ e3;subst e1 e3;have a:(xs.take hi).length=hi:=by rw [qad];omega
 have get:∀ (i:Nat) (x:FV),((xs.take hi).drop lo)[i]?=some x->xs[lo+i]?=some x:=fun i x hx=>by
  rw [qam,qaa] at hx;split at hx;exact hx
  ·cases hx
 refine ⟨_,rfl, .lst (fun i=>css (lo+i)) (by rw [qa2,a]) (by omega) (by omega) hs (fun i x hx=>?_) (fun i x hx=>hl _ x (get i x hx)) fun i x j v y hx hv hy=>hr _ x j v y (get i x hx) hv hy⟩;obtain ⟨b,o,hA,hS,c⟩:=ha _ x (get i x hx);have d:=(qf.1 (get i x hx)).1;refine ⟨b,o+lo*size,?_,hS,by rw [Nat.add_assoc,<- qa7];exact c⟩;rw [qi (by omega),hA];simp only [qa3,kbg]
theorem km2 (t:TypeId) (d:TD) {α:Type} (enc:α->FV) (x:Operand) (lo hi:Option Operand) (l h:Option Int) (xs:List α) {r:List α} (size:Nat) (e:TypeId) (de:TD) (hc:cutL xs (l.getD 0) (h.getD xs.length)=some r) (p:TOk P T:=by exact tt_ok) (s:o.op = .slice t x lo hi none:=by kernel_rfl) (hd:kad T t=some d:=by kernel_rfl) (hk:d.kind = .slice e:=by kernel_rfl) (f:kad T e=some de:=by kernel_rfl) (g:de.size=size:=by kernel_rfl) (hx:st.eval x = .fz (eL size enc xs):=by kernel_rfl) (hl:km9 st lo=some l:=by kernel_rfl) (hh:km9 st hi=some h:=by kernel_rfl):NStep P o st (.fz (eL size enc r)):=by
 intro ψ S a w ht E;have h1:=Sim.eval_tmps ht x;rw [hx] at h1;have bl:=kk3 ht hl;have bh:=kk3 ht hh;unfold cutL at hc;split at hc
 ·rename_i b;injection hc with hc;subst hc;have h1:=h1.inv;obtain ⟨A,cap,css,hv,hn,u,hm,hs,ha,z,hr⟩:=h1.lst_inv;rw [hv] at h1;obtain ⟨A',i,j⟩:=h1.take (v := .nilFunc) (k:=0) (l.getD 0).toNat (h.getD xs.length).toNat (by omega) (by omega);refine kae w (.slice A' ((h.getD xs.length).toNat - (l.getD 0).toNat) (cap - (l.getD 0).toNat)) ?_ ⟨kaf _,(RV.fz ?_).here⟩
  ·have B:=(p.get hd).slice hk;have e1:(Instr.sliceBounds true xs.length cap (lo.map a.eval) (hi.map a.eval) none).run P w = .ok ((l.getD 0).toNat,(h.getD xs.length).toNat,cap) w:=by
    unfold Instr.sliceBounds;have q:(xs.length:Int)<=(cap:Int):=(by omega);rcases bh with ⟨rfl,rfl⟩ | ⟨y,k,n,rfl,rfl,hy⟩
    ·rcases bl with ⟨rfl,rfl⟩ | ⟨y',k',n',rfl,rfl,c⟩;simp
     ·simp only [qbe,Option.getD_none] at b ⊢;simp [Instr.sliceBound,c,asIntOf,b.1,b.2.1]
    ·rcases bl with ⟨rfl,rfl⟩ | ⟨y',k',n',rfl,rfl,c⟩;simp only [qbe,Option.getD_none] at b ⊢;have:n<=(cap:Int):=(by omega);simp [Instr.sliceBound,hy,asIntOf,b.2.1,this]
     ·simp only [qbe] at b ⊢;have:0<=n:=(by omega);have C:n'<=(n.toNat:Int):=(by omega);have D:n<=(cap:Int):=(by omega);simp [Instr.sliceBound,hy,c,asIntOf,b.1,this,C,D];intro hc;exfalso;omega
   have m:(sizeOf e).run P w = .ok size w:=(by rw [(p.get f).size,g]);simp [execOp,s,Instr.sliceAt,Instr.slice,run_underlying B,hv,e1,m,i]
  ·have:((xs.take (h.getD xs.length).toNat).drop (l.getD 0).toNat).length=(h.getD xs.length).toNat - (l.getD 0).toNat:=(by rw [qa2,qad];omega);unfold eL;rw [this,List.map_drop,List.map_take];exact j
 ·cases hc
def zipS:List (Nat×AV)->List AV->List (Nat×AV)
 | (t,_)::l,v::vs=>(t,v)::zipS l vs
 | _,_=>[]
theorem kyj {v:Nat->Value} {K:Nat->Prop}:∀ {l:List (Nat×AV)} {vs:List AV} (t:Nat),(∀ (i:Nat) (k:Nat×AV) (x:AV),l[i]?=some k->vs[i]?=some x->RV ψ K S w (v k.1) x)->RV ψ K S w (v t) (look .any (zipS l vs) t)
 | [],vs,t,h=>by cases vs <;> exact .any
 | (k,y)::l,[],t,h => .any
 | (k,y)::l,x::vs,t,h=>by
  simp only [zipS,kas];split;rename_i hk;subst hk;exact h 0 _ x rfl rfl
  ·exact kyj t fun i k x hk hx=>h (i+1) k x (by simpa using hk) (by simpa using hx)
def argT:Nat->List AV->List (Nat×AV)
 | _,[]=>[]
 | i,x::l=>(i,x)::argT (i+1) l
theorem kkq:∀ (l:List AV) (i t:Nat),look .any (argT i l) t = .any\/∃ x,i<=t/\l[t - i]?=some x/\look .any (argT i l) t=x
 | [],i,t => .inl rfl
 | x::l,i,t=>by
  simp only [argT,kas];by_cases h:i=t;subst h;exact .inr ⟨x,qx _,by simp,by simp⟩
  ·rw [qi h];rcases kkq l (i+1) t with h1 | ⟨y,h1,a,b⟩;exact .inl h1
   ·exact .inr ⟨y,by omega,by rw [show t - i=(t - (i+1))+1 by omega];simpa using a,b⟩
def inlQ (P:Program) (ops:Array Oper) (l:List Oper) (dst:Option Nat) (n:Nat) (D:List Deferred) (g:Nat) (cs:List Value) (keep:List (Nat×AV)) (rs:List ResultVar) (Q:Exit->St->Prop):Exit->St->Prop:=fun e st'=>
 (e = .normal\/e = .ret)/\st'.dfr=[]/\∃ vs r,kaa st'.heap g=some (.gho cs vs)/\((rs=[]/\r = .any)\/∃ z,rs=[.tmp z]/\st'.get z=r) /\
  awpL P ops l (({ n:=n,tmps:=zipS keep vs,heap:=ka6 g st'.heap,ids:=st'.ids,dfr:=D }:St).put dst r) Q
theorem kae3 {f:FuncId} {fn:Func} {c:Code} {ops:Array Oper} {l:List Oper} {Q:Exit->St->Prop} {x:Operand} {args:Array Operand} {ts:Array TypeId} {cap:List AV} {n g:Nat} {as_:List AV} (G:o.op = .call { callee := .value x,args:=args,argTypes:=ts })
  (hx : st.eval x = .fn f cap) (hg : kbr ops st o = some true) (hd : ∀ t, o.dst = some t -> t < st.n) (hf : P.funcs[f]? = some fn) (T : fn.body = some c) (hn : (fn.name == "runtime.NumGoroutine") = false) (U : fn.ntmps = n) (H : args.toList.map st.eval ++ cap = as_) (I : Nat.ble as_.length n = true) (j : st.ids.contains g = false)
  (h:∀ cs,awp P c { n:=n,tmps:=argT 0 as_,heap:=(g, .gho cs (st.tmps.map fun p=>st.get p.1))::st.heap,ids:=g::st.ids } (inlQ P ops l o.dst st.n st.dfr g cs st.tmps fn.results.toList Q)):
  awpL P ops (o::l) st Q:=by
 have I:=qp I;have j:g∉st.ids:=by simpa using j
 intro F S0 N0 ψ S a w hs;unfold kba;rw [keg hs hg];have A:=hs.eval x;rw [hx] at A;obtain ⟨caps,hcx,V,X⟩:∃ caps:Array Value,a.eval x = .func (.func f) #[] caps/\caps.size=cap.length/\∀ (i:Nat) (v:Value) (y:AV),caps[i]?=some v->cap[i]?=some y->RV ψ (·∈st.ids) S w v y:=by
  generalize a.eval x=u at A;cases A with
  | fn h hr=>exact ⟨_,rfl,h,hr⟩
 have Y:fn.body≠none:=by rw [T];simp
 simp only [qas,ne_eq] at hn;have J:(execOp a.eval o).run P w = .ok (.enter f (args.map a.eval++caps)) w:=by simp [execOp,G,resolve,hcx,Deferred.ofValue,invoke,callFunc,hf,Y,hn]
 refine k38 (fun c h=>by rw [G] at h;cases h) J ?_;refine calls_of_wp hf T (wp_wide.1 ?_)
 -- the values of the caller's frame
 have B:=hs.core.add (n:=0) (v := .nilFunc) (w':=w) (ob := .gho (st.tmps.map fun p=>a.tmps.getD p.1 undef) (st.tmps.map fun p=>st.get p.1)) (kaf _) j (fun b T=>by cases T)
  ⟨kbh _ _,by rw [kaj];rfl,by rw [kaj];rfl,fun i v x hv hx=>by simp only [qn,qq] at hv hx;obtain ⟨p,hp,rfl⟩:=hv;obtain ⟨q,s,rfl⟩:=hx;rw [hp] at s;injection s with s;subst s;exact (hs.tmps p.1).keep (ka4 j _ _) (fun _ h=>qh _ h) (fun _ h=>h) (fun _ _ _=>rfl)⟩
 have K:(args.map a.eval++caps).size=as_.length:=by rw [<- H];simp [V]
 have L:∀ (i:Nat) (v:Value) (y:AV),(args.map a.eval++caps)[i]?=some v->as_[i]?=some y->RV ψ (·∈st.ids) S w v y:=fun i v y hv hy=>by
  rw [<- H] at hy;by_cases hi:i<args.size;rw [qa9 (by simpa using hi)] at hv;rw [qac (by simpa using hi)] at hy;simp only [Array.getElem?_map,qq,qn,qal] at hv hy;obtain ⟨p,hp,rfl⟩:=hv;obtain ⟨q,s,rfl⟩:=hy;rw [hp] at s;injection s with s;subst s;exact hs.eval p
  ·rw [Array.getElem?_append_right (by simpa using hi)] at hv;rw [qab (by simpa using hi)] at hy;exact X _ v y (by simpa using hv) (by simpa using hy)
 have M:Sim F S0 N0 { n:=n,tmps:=argT 0 as_,heap:=(g, .gho (st.tmps.map fun p=>a.tmps.getD p.1 undef) (st.tmps.map fun p=>st.get p.1))::st.heap,ids:=g::st.ids } (ψ.set g 0 .nilFunc) S
   { tmps:=(args.map a.eval++caps)++Array.replicate (fn.ntmps - (args.map a.eval++caps).size) undef,defers:=[] } w:=by
  refine ⟨rfl,by rw [Array.size_append,K,Array.size_replicate,U];show _=n;omega,fun t=>?_,B⟩;show RV _ _ _ w _ (look .any (argT 0 as_) t);rcases kkq as_ 0 t with h | ⟨y,_,h1,m⟩;rw [h];exact .any
  ·rw [m];have h1:as_[t]?=some y:=(by simpa using h1);have C:t<(args.map a.eval++caps).size:=(by rw [K];exact (qf.1 h1).1);have Z:((args.map a.eval++caps)++Array.replicate (fn.ntmps - (args.map a.eval++caps).size) undef).getD t undef=(args.map a.eval++caps)[t]:=(by rw [qaq,qa9 C,qa6 C];rfl);rw [Z];exact (L t _ y (qa6 C) h1).keep (ka4 j _ _) (fun _ h=>qh _ h) (fun _ h=>h) (fun _ _ _=>rfl)
 refine kb8 (h _ F S0 N0 _ S _ w M) ?_;rintro e a' w' ⟨st',ψ',S',⟨he,aa,vs,r,ab,ac,D⟩,m,h3⟩;have fin:a'.defers=[]/\∃ v,(results fn a'.tmps).run P w' = .ok v w'/\kba P ops (PostA F S0 N0 w Q) l (a.put o.dst v) w':=by
  refine ⟨m.defers.trans aa,?_⟩;have N:∃ v,(results fn a'.tmps).run P w' = .ok v w'/\RV ψ' (·∈st'.ids) S' w' v r:=by
   rcases ac with ⟨hz,rfl⟩ | ⟨z,hz,ad⟩;refine ⟨.tuple #[],?_, .any⟩;have:fn.results=#[]:=(by apply qbx;simpa using hz);simp [results,this]
   ·refine ⟨a'.tmps.getD z undef,?_,by rw [<- ad];exact m.tmps z⟩;have:fn.results=#[.tmp z]:=(by apply qbx;simpa using hz);simp [results,this]
  obtain ⟨v,ae,af⟩:=N;refine ⟨v,ae,?_⟩;obtain ⟨_,⟨_,_,_,ag⟩,_⟩:=m.core.obj g _ ab;have O:Core F S0 N0 (ka6 g st'.heap) st'.ids ψ' S' w':=by refine ⟨fun i ob G=>m.core.obj i ob (kbu g G).2,fun i i' ob ob' b G ah=>m.core.inj i i' ob ob' b (kbu g G).2 (kbu g ah).2,m.core.lt,m.core.s0,m.core.n0,m.core.fr⟩
  have E:Sim F S0 N0 { n:=st.n,tmps:=zipS st.tmps vs,heap:=ka6 g st'.heap,ids:=st'.ids,dfr:=st.dfr } ψ' S' a w':=by refine ⟨hs.defers,hs.size,fun t=>?_,O⟩;exact kyj (v:=fun t=>a.tmps.getD t undef) t fun i k x hk hx=>ag i _ x (by rw [qn,hk];rfl) hx
  have R:=E.put (st':={ n:=st.n,tmps:=zipS st.tmps vs,heap:=ka6 g st'.heap,ids:=st'.ids,dfr:=st.dfr }) (d:=o.dst) rfl rfl rfl O af Ext.refl (fun _ h=>h) (fun _ h=>h) (fun _ _ _=>rfl) hd;exact kdh (fun e a'' w'' k=>k.pre h3) _ _ _ (D F S0 N0 ψ' S' _ w' R)
 rcases he with rfl | rfl <;> exact fin
end Go.Proofs.YtdnfbjahbkpibaaGreatDoor
set_option linter.all false
set_option linter.unusedSectionVars false
namespace Go.Proofs.YtdnfbjahbkpibaaGreatDoor
namespace RE
open Go Go.RowKit
variable [Dr]
structure Tr (M:Nat->Prop) (w w':World):Prop where
 os:w'.os=w.os
 tape:w'.tape=w.tape
 output:w'.output=w.output
 size:w.heap.size<=w'.heap.size
 block:∀ b,b<w.heap.size->¬ M b->w'.heap[b]?=w.heap[b]?
 drawn:Dr.on=true->w.drawn<=w'.drawn
inductive Gd (M:Nat->Prop) where
 | det (c:Value)
 | rel (G:Value->World->Prop) (h:∀ v w w',G v w->Tr M w w'->G v w')
 | relE (G:Value->World->Prop) (h:∀ v w w',G v w->Below w.heap.size w w'->G v w')
def Gd.holds {M:Nat->Prop}:Gd M->Value->World->Prop
 | .det c,v,_=>v=c
 | .rel G _,v,w=>G v w
 | .relE G _,v,w=>G v w
variable {P:Program}
variable {M:Nat->Prop} {e:Nat} {D:World->Prop} {gs:List (Gd M)} {l:List Oper} {xs:Nat->Value} {a0:Act}
structure kajv {M:Nat->Prop} (e:Nat) (D:World->Prop) (gs:List (Gd M)) (l:List Oper) (C:World->Prop) (a0:Act) (listed:Array Bool) (a:Act) (w:World):Prop where
 inC:C w
 inD:listed.getD e false=false->D w
 defers:a.defers=a0.defers
 size:a.tmps.size=a0.tmps.size
 lsize:listed.size=l.length
 closed:∀ k o,listed.getD k false=true->l[k]?=some o->∀ e∈o.after,Region.binds .any e=true->listed.getD e.on false=true
 vals:∃ xs:Nat->Value,∀ j g,gs[j]?=some g->listed.getD j false=true->g.holds (xs j) w/\∀ o d,l[j]?=some o->o.dst=some d->a.tmps[d]?=some (xs j)
 rest:∀ t,(∀ j o,listed.getD j false=true->l[j]?=some o->o.dst≠some t)->a.tmps[t]?=a0.tmps[t]?
end RE
variable [Dr]
def kiq (P:Program) (o:Oper) (st:St) (m:Nat) (om:AObj) (c:AV) (om':AObj):Prop:=
 ∀ F S0 N0 ψ S a w,(∀ t,RV ψ (·∈st.ids) S w (a.tmps.getD t undef) (st.get t))->Core F S0 N0 [(m,om)] st.ids ψ S w->kdf P o a w fun v w'=>∃ n u,Core F S0 N0 [(m,om')] st.ids (ψ.set m n u) S w'/\RV (ψ.set m n u) (·∈st.ids) S w' v c/\Fr F w w' /\
  (ψ.len m<n\/(ψ.len m=n/\u=ψ.val m))/\(∀ b,Blk u b->Blk (ψ.val m) b\/w.heap.size<=b)
variable {P:Program} {F S0:Nat->Prop} {N0:Nat} {w w':World} {S S':Nat->Prop} {ψ ψ':Env} {K K':Nat->Prop} {o:Oper} {a:Act} {st:St} {T:List (TypeId×TD)} {t:TypeId} {d:TD}
def kaa9 (st:St) (id n:Nat):List Nat->Prop
 | []=>True
 | t::ts=>st.get t = .row id n/\kaa9 st id n ts
def k31 (x:AV) (base:List (Nat×AV)):List Nat->List (Nat×AV)
 | []=>base
 | t::ts=>(t,x)::k31 x base ts
theorem ke9 (id n:Nat) (e:TypeId) (size:Nat) (xs:List FV) (ts:List Nat) (hx:kaa9 st id n ts) (d:kaa st.heap id=some (.frow e size xs):=by kernel_rfl) (hn:n=xs.length:=by simp):
  LeSt st { st with tmps:=k31 (.fz (.lst size n xs)) st.tmps ts,heap:=ka6 id st.heap }:=by
 subst hn;intro F S0 N0 ψ S a w hs;obtain ⟨c1,c2⟩:=klz hs.core d;have c:∀ k,RV ψ (·∈st.ids) (fun b=>S b\/kak (ψ.val id)=some b) w (a.tmps.getD k undef) (st.get k):=fun k=>(hs.tmps k).mono (fun _ h=>h) fun _ h => .inl h;have h0:=(hs.core.obj id _ d).2.1.1;refine ⟨ψ,_,hs.defers,hs.size,fun k=>?_,c1⟩;show RV ψ (·∈st.ids) _ w (a.tmps.getD k undef) (look .any (k31 (.fz (.lst size xs.length xs)) st.tmps ts) k)
 induction ts with
 | nil=>exact c k
 | cons t ts ih=>
  simp only [k31,kas];split
  ·rename_i hk;subst hk;have hv:=c t;rw [hx.1] at hv;refine .fz ?_;generalize a.tmps.getD t undef=u at hv;cases hv with
   | row hK f h1 hv=>rw [hv (by rw [h0])];exact c2
  ·exact ih hx.2
theorem kqs (st':St) (ids:List Nat) (ts:List (Nat×C1)) {c:AV} (hn:NStep P o st' c) (h:coSt st ids ts []=some st':=by kernel_rfl):NStep P o st c:=by
 unfold coSt at h;cases hi:ids.all st.ids.contains with
 | false=>rw [hi] at h;simp at h
 | true=>
  cases h1:kss st ids ts with
  | none=>rw [hi,h1] at h;simp at h
  | some r=>
   rw [hi,h1] at h;simp only [ksr,qc] at h;subst h;have d:∀ id,id∈ids->id∈st.ids:=fun id e=>(by simpa using qu.1 hi id e);intro ψ S a w ht g;refine kjv ?_ (hn ψ S a w (fun t=>?_) (fun id ob i=>by cases i));rintro v w' ⟨k1,k2⟩;exact ⟨k1,k2.mono d fun _ h=>h⟩
   ·show RV ψ (·∈ids) S w _ (look .any r t);rcases ks0 t h1 with b | ⟨c',b,f⟩;rw [b];exact .any
    ·rw [b];rw [b] at *
     exact (kov _ (ht t)).sub1 f
theorem kwg {e:TypeId} {size:Nat} (xs:List FV) {v:Value} {cs:List Value} (c:w.ownsRow 0 e size v xs.length cs) (m:ElR size xs) (hr:RowR S w size xs cs) (f:0<size:=by omega):RF (fun b=>S b\/kak v=some b) w v (.lst size xs.length xs):=by
 rcases c.2 with ⟨hv,n⟩ | ⟨g,cap,cur,hv,_,hh,o,k,q,p⟩;have:xs=[]:=qax n;subst this;rw [hv];exact .lst (A:=none) (cap:=0) (xs:=[]) (fun _=>[]) rfl (qx _) (by omega) f (fun i x hx=>by simp at hx) (fun i x hx=>by simp at hx) (fun i x j v y hx=>by simp at hx)
 ·rw [hv];have l:∀ i x,xs[i]?=some x->(i+1)*size<=cs.length:=fun i x hx=>by rw [c.1];exact qau _ (qf.1 hx).1
  refine .lst (fun i=>(cs.drop (i*size)).take size) rfl o (by unfold maxLen at k;exact k) f (fun i x hx=>⟨g,0,rfl, .inr (by rfl),fun j u d=>?_⟩) (fun i x hx=>?_) fun i x j v y hx a hy=>?_
  ·rw [qaa] at d;split at d
   ·rw [qam,<- p,qaa] at d;split at d;simp only [World.cell?,hh,qb4];simpa using d
    ·cases d
   ·cases d
  have:=l i x hx;rw [qa7] at this;exact ⟨by rw [qad,qa2];omega,m x (qj hx)⟩
  ·rw [qaa] at a;split at a;rw [qam] at a;exact (hr i x j v y hx a hy).mono fun _ h => .inl h
   ·cases a
theorem kaa4 (f:FuncId) (fn:Func) (ts:Array TypeId) (X Y:Operand) (s:BA) (c:Int) (e:o.op = .call { callee := .value (.func f),args:=#[X,Y],argTypes:=ts }) (g:P.funcs[f]?=some fn) (b: (fn.name == "runtime.NumGoroutine") = false := by kernel_rfl) (h: fn.body.isNone = true := by kernel_rfl) (hn: Extern.findNext fn = none := by kernel_rfl) (i: Extern.find fn = some Extern.BytealgIndexByte.indexByte := by kernel_rfl) (hx: st.eval X = .fz (eS s) := by kernel_rfl) (hy: st.eval Y = .fz (eU8 c) := by kernel_rfl): NStep P o st (.fz (eI (Lib.indexByte s.data.toList c.toNat.toUInt8))) := by
 intro ψ S a w ht j;have h1:=Sim.eval_tmps ht X;rw [hx] at h1;have h1:=h1.atom;have d:=Sim.eval_tmps ht Y;rw [hy] at d;have d:=d.atom;refine kae w (.int .i64 (Lib.indexByte s.data.toList c.toNat.toUInt8)) ?_ ⟨kaf _, .fz (.atom rfl)⟩;have h0:a.eval (.func f) = .func (.func f) #[] #[]:=rfl;simp [execOp,e,resolve,h0,Deferred.ofValue,invoke,run_callFunc_extern g b h hn i,h1,d,Lib.run_indexByteString]
end Go.Proofs.YtdnfbjahbkpibaaGreatDoor
set_option linter.all false
set_option linter.unusedSectionVars false
namespace Go.Proofs.YtdnfbjahbkpibaaGreatDoor
open Go Go.RowKit
variable [Dr]
def rn:List (Nat×Nat)->Nat->Nat
 | [],i=>i
 | (k,j)::l,i=>bif Nat.beq k i then j else rn l i
mutual
def renA (r:List (Nat×Nat)):AV->AV
 | .fz x => .fz x
 | .agg cs => .agg (koe r cs)
 | .tup vs => .tup (koe r vs)
 | .ref id n off => .ref (rn r id) n off
 | .row id n => .row (rn r id) n
 | .lim a b c => .lim a b c
 | .mp id => .mp (rn r id)
 | .opt id => .opt (rn r id)
 | .sdp id n => .sdp (rn r id) n
 | .win id n lo hi sz => .win (rn r id) n lo hi sz
 | .irow id g j => .irow (rn r id) g j
 | .iref id g j off => .iref (rn r id) g j off
 | .bsl id g off len cap => .bsl (rn r id) g off len cap
 | .fn f cap => .fn f (koe r cap)
 | .mth f cap => .mth f (koe r cap)
 | .any => .any
def koe (r:List (Nat×Nat)):List AV->List AV
 | []=>[]
 | x::l=>renA r x::koe r l
end
mutual
def okA (ids:List Nat):AV->Bool
 | .fz _=>true
 | .agg cs=>okAs ids cs
 | .tup vs=>okAs ids vs
 | .ref id _ _=>ids.contains id
 | .row id _=>ids.contains id
 | .lim _ _ _=>true
 | .mp id=>ids.contains id
 | .opt id=>ids.contains id
 | .sdp id _=>ids.contains id
 | .win id _ _ _ _=>ids.contains id
 | .irow id _ _=>ids.contains id
 | .iref id _ _ _=>ids.contains id
 | .bsl id _ _ _ _=>ids.contains id
 | .fn _ cap=>okAs ids cap
 | .mth _ cap=>okAs ids cap
 | .any=>true
def okAs (ids:List Nat):List AV->Bool
 | []=>true
 | x::l=>okA ids x && okAs ids l
end
def renO (r:List (Nat×Nat)):AObj->AObj
 | .box e cs => .box e (koe r cs)
 | .frow e s xs => .frow e s xs
 | .smap kv => .smap kv
 | .gho cs vs => .gho cs (koe r vs)
 | .was a b c d => .was a b c d
 | .tab g ov eo ei rows => .tab g ov eo ei rows
 | .glb gs => .glb gs
 | .sit s pos => .sit s pos
 | .memo Φ h => .memo Φ h
 | .xo k => .xo k
def okO (ids:List Nat):AObj->Bool
 | .box _ cs=>okAs ids cs
 | .frow _ _ _=>true
 | .smap _=>true
 | .tab _ _ _ _ _=>true
 | .gho _ vs=>okAs ids vs
 | .glb _=>true
 | .sit _ _=>true
 | .memo _ _=>true
 | .xo (.imap _)=>true
 | .xo (.opq _)=>true
 | _=>false
theorem kk0 (r:List (Nat×Nat)):∀ l,koe r l=l.map (renA r)
 | []=>rfl
 | x::l=>by simp [koe,kk0 r l]
theorem kmg (ids:List Nat):∀ l,okAs ids l=l.all (okA ids)
 | []=>rfl
 | x::l=>by simp [okAs,kmg ids l]
theorem kxe (r:List (Nat×Nat)) (x:AV):(renA r x).single=x.single:=by cases x <;> rfl
variable {P:Program} {F S0:Nat->Prop} {N0:Nat} {w w':World} {S S':Nat->Prop} {ψ ψ':Env} {K K':Nat->Prop} {T:List (TypeId×TD)} {o:Oper} {a:Act} {st:St} {t:TypeId} {d:TD} {ids:List Nat}
theorem RV.ren {r:List (Nat×Nat)} {v:Value} {x:AV} (h:RV ψ K S w v x) (hr:∀ i,K i->K' (rn r i)/\ψ'.len (rn r i)=ψ.len i/\ψ'.val (rn r i)=ψ.val i):RV ψ' K' S w v (renA r x):=by
 induction h with
 | fz h=>exact .fz h
 | agg h h1 _ ih=>
  simp only [renA,kk0];refine .agg (by simpa using h) (fun x hx=>?_) fun i v x hv hx=>?_;obtain ⟨y,hy,rfl⟩:=qai.1 hx;rw [kxe];exact h1 y hy
  ·simp only [qn,qq] at hx;obtain ⟨y,hy,rfl⟩:=hx;exact ih i v y hv hy
 | tup h _ ih=>
  simp only [renA,kk0];refine .tup (by simpa using h) fun i v x hv hx=>?_;simp only [qn,qq] at hx;obtain ⟨y,hy,rfl⟩:=hx;exact ih i v y hv hy
 | @ref id n off v hk hn h1 hv=>
  obtain ⟨e1,e2,e3⟩:=hr id hk;exact .ref e1 (by omega) h1 fun h=>by rw [e3];exact hv (by omega)
 | @row id n v hk hn h1 hv=>
  obtain ⟨e1,e2,e3⟩:=hr id hk;exact .row e1 (by omega) h1 fun h=>by rw [e3];exact hv (by omega)
 | lim h=>exact .lim h
 | @mp id v hk h1 hv=>
  obtain ⟨e1,e2,e3⟩:=hr id hk;exact .mp e1 h1 fun h=>by rw [e3];exact hv (by omega)
 | fn h _ ih=>
  simp only [renA,kk0];refine .fn (by simpa using h) fun i v x hv hx=>?_;simp only [qn,qq] at hx;obtain ⟨y,hy,rfl⟩:=hx;exact ih i v y hv hy
 | mth h _ ih=>
  simp only [renA,kk0];refine .mth (by simpa using h) fun i v x hv hx=>?_;simp only [qn,qq] at hx;obtain ⟨y,hy,rfl⟩:=hx;exact ih i v y hv hy
 | @opt id v hk h1 hv=>
  obtain ⟨e1,e2,e3⟩:=hr id hk;exact .opt e1 h1 fun h=>by rw [e3];exact hv (by omega)
 | @sdp id n v hk hn h1 hv=>
  obtain ⟨e1,e2,e3⟩:=hr id hk;exact .sdp e1 (by omega) h1 fun h=>by rw [e3];exact hv (by omega)
 | @win id n lo hi sz v hk hn h1 hv=>
  obtain ⟨e1,e2,e3⟩:=hr id hk;exact .win e1 (by omega) h1 fun h=>by rw [e3];exact hv (by omega)
 | @irow id g j v hk hn h1 hv=>
  obtain ⟨e1,e2,e3⟩:=hr id hk;exact .irow e1 (by omega) h1 fun h=>by rw [e3];exact hv (by omega)
 | @iref id g j off v hk hn h1 hv=>
  obtain ⟨e1,e2,e3⟩:=hr id hk;exact .iref e1 (by omega) h1 fun h=>by rw [e3];exact hv (by omega)
 | @bsl id g off len cap v hk hn h1 hv=>
  obtain ⟨e1,e2,e3⟩:=hr id hk;exact .bsl e1 (by omega) h1 fun h=>by rw [e3];exact hv (by omega)
 | any=>exact .any
theorem RV.subA {v:Value} {x:AV} (h:RV ψ K S w v x) (a:okA ids x=true):RV ψ (·∈ids) S w v x:=by
 induction h with
 | fz h=>exact .fz h
 | agg h h1 _ ih=>
  rw [okA,kmg] at a;exact .agg h h1 fun i v x hv hx=>ih i v x hv hx (qu.1 a x (qj hx))
 | tup h _ ih=>
  rw [okA,kmg] at a;exact .tup h fun i v x hv hx=>ih i v x hv hx (qu.1 a x (qj hx))
 | ref hK hn h1 hv=>exact .ref (by simpa [okA] using a) hn h1 hv
 | row hK hn h1 hv=>exact .row (by simpa [okA] using a) hn h1 hv
 | lim h=>exact .lim h
 | mp hK h1 hv=>exact .mp (by simpa [okA] using a) h1 hv
 | fn h _ ih=>
  rw [okA,kmg] at a;exact .fn h fun i v x hv hx=>ih i v x hv hx (qu.1 a x (qj hx))
 | mth h _ ih=>
  rw [okA,kmg] at a;exact .mth h fun i v x hv hx=>ih i v x hv hx (qu.1 a x (qj hx))
 | opt hK h1 hv=>exact .opt (by simpa [okA] using a) h1 hv
 | sdp hK hn h1 hv=>exact .sdp (by simpa [okA] using a) hn h1 hv
 | win hK hn h1 hv=>exact .win (by simpa [okA] using a) hn h1 hv
 | irow hK hn h1 hv=>exact .irow (by simpa [okA] using a) hn h1 hv
 | iref hK hn h1 hv=>exact .iref (by simpa [okA] using a) hn h1 hv
 | bsl hK hn h1 hv=>exact .bsl (by simpa [okA] using a) hn h1 hv
 | any=>exact .any
theorem ObR.subA {id:Nat} {ob:AObj} (h:ObR ψ K S w id ob) (f:okO ids ob=true):ObR ψ (·∈ids) S w id ob:=by
 cases ob with
 | box e cells=>
  obtain ⟨k0,b,cs,k1,k2,k3,k4,k5⟩:=h;rw [okO,kmg] at f;exact ⟨k0,b,cs,k1,k2,k3,k4,fun i v x hv hx=>(k5 i v x hv hx).subA (qu.1 f x (qj hx))⟩
 | frow e s xs=>exact h
 | smap kv=>exact h
 | glb gs=>exact h
 | sit s pos=>exact h
 | memo Φ hi=>exact h
 | xo k=>cases k with
  | imap kv=>exact h
  | opq J=>exact h
  | _=>cases f
 | tab g ov eo ei rows=>exact h
 | gho cs vs=>
  obtain ⟨k0,k1,k2,k3⟩:=h;rw [okO,kmg] at f;exact ⟨k0,k1,k2,fun i v x hv hx=>(k3 i v x hv hx).subA (qu.1 f x (qj hx))⟩
 | was a b c d=>cases f
theorem ObR.ren {r:List (Nat×Nat)} {id:Nat} {ob:AObj} (h:ObR ψ K S w id ob) (hr:∀ i,K i->K' (rn r i)/\ψ'.len (rn r i)=ψ.len i/\ψ'.val (rn r i)=ψ.val i) (f:K id)
  (j:okO ids ob=true):ObR ψ' K' S w (rn r id) (renO r ob):=by
 obtain ⟨e1,e2,e3⟩:=hr id f;cases ob with
 | box e cells=>
  obtain ⟨k0,b,cs,k1,k2,k3,k4,k5⟩:=h;simp only [renO,kk0];refine ⟨by omega,b,cs,by rw [e3,k1],k2,by simpa using k3,fun x hx=>?_,fun i v x hv hx=>?_⟩;obtain ⟨y,hy,rfl⟩:=qai.1 hx;rw [kxe];exact k4 y hy
  ·simp only [qn,qq] at hx;obtain ⟨y,hy,rfl⟩:=hx;exact (k5 i v y hv hy).ren hr
 | frow e s xs=>
  obtain ⟨k0,k1,cs,k2,k3⟩:=h;exact ⟨by omega,k1,cs,by rw [e3];exact k2,k3⟩
 | sit s pos=>
  obtain ⟨k0,b,k1,k2⟩:=h;exact ⟨by omega,b,by rw [e3,k1],k2⟩
 | glb gs=>
  obtain ⟨k0,k1,k2,k3⟩:=h;exact ⟨by omega,by rw [e3];exact k1,by rw [e3];exact k2,k3⟩
 | smap kv=>
  obtain ⟨k0,b,es,cl,k1,k2⟩:=h;exact ⟨by omega,b,es,cl,by rw [e3,k1],k2⟩
 | memo Φ hi=>
  obtain ⟨k0,b,es,cl,k1,k2⟩:=h;exact ⟨by omega,b,es,cl,by rw [e3,k1],k2⟩
 | xo k=>cases k with
  | imap kv=>
   obtain ⟨k0,b,es,k1,k2⟩:=h;exact ⟨by omega,b,es,by rw [e3,k1],k2⟩
  | opq J=>
   obtain ⟨bs,k1,k2⟩:=h;exact ⟨bs,by rw [e3,k1],k2⟩
  | _=>cases j
 | tab g ov eo ei rows=>
  obtain ⟨k0,vs,k1,k2⟩:=h;exact ⟨by omega,vs,by rw [e3,k1],k2⟩
 | gho cs vs=>
  obtain ⟨k0,k1,k2,k3⟩:=h;simp only [renO,kk0];refine ⟨by omega,by rw [e3];exact k1,by rw [e3];exact k2,fun i v x hv hx=>?_⟩;simp only [qn,qq] at hx;obtain ⟨y,hy,rfl⟩:=hx;exact (k3 i v y hv hy).ren hr
 | was a b c d=>cases j
inductive HEnd where
 | ret (res:AV)
 | pan (v:Value)
def HEnd.ok (ids:List Nat):HEnd->Bool
 | .ret x=>okA ids x
 | .pan _=>true
def HEnd.ren (r:List (Nat×Nat)):HEnd->HEnd
 | .ret x => .ret (renA r x)
 | .pan v => .pan v
def HEnd.is (e:Ending) (ψ:Env) (K S:Nat->Prop) (w:World):HEnd->Prop
 | .ret res=>∃ v,e = .returned v/\RV ψ K S w v res
 | .pan v=>e = .panicked [{ v:=v,recovered:=false }]
def HCall (P:Program) (f:FuncId) (args:List AV) (pre:List (Nat×AObj)) (ids:List Nat) (E:HEnd) (post:List (Nat×AObj)) (ids':List Nat):Prop:=
 (∃ fn, P.funcs[f]? = some fn /\ fn.body.isNone = false /\ (fn.name == "runtime.NumGoroutine") = false) /\
 ∀ (F S0:Nat->Prop) (N0:Nat) (ψ:Env) (S:Nat->Prop) (w:World) (vs:Array Value),vs.size=args.length->(∀ (i:Nat) (v:Value) (x:AV),vs[i]?=some v->args[i]?=some x->RV ψ (·∈ids) S w v x)->Core F S0 N0 pre ids ψ S w ->
  Calls P f vs w fun e w'=>∃ ψ' S',E.is e ψ' (·∈ids') S' w'/\Core F S0 N0 post ids' ψ' S' w'/\Fr F w w'/\Ext (·∈ids) ψ ψ'/\(∀ i,i∈ids->i∈ids')/\(∀ b,S b->S' b)/\Same S w w'
def resA (T:List (TypeId×TD)) (st:St):ResultVar->Option AV
 | .tmp t=>some (st.get t)
 | .cell x t=>match kad T t,kml st (st.get x) with
  | some d,some xs=>kl5 d xs
  | _,_=>none
def kvt (T:List (TypeId×TD)) (st:St):List ResultVar->Option (List AV)
 | []=>some []
 | r::rs=>match resA T st r,kvt T st rs with
  | some y,some ys=>some (y::ys)
  | _,_=>none
def k8q (T:List (TypeId×TD)) (st:St) (rs:List ResultVar):Option AV:=match kvt T st rs with
 | some [y]=>some y
 | some ys=>some (tupA ys)
 | none=>none
def retA (T:List (TypeId×TD)) (st:St) (rs:List ResultVar):Option AV:=match st.dfr with
 | []=>k8q T st rs
 | _=>none
theorem kyp {T:List (TypeId×TD)} {st:St} {rs:List ResultVar} {y:AV} (h:retA T st rs=some y):st.dfr=[]/\k8q T st rs=some y:=by
 unfold retA  at h;split at h;rename_i hd;exact ⟨hd,h⟩
 ·cases h
def kgr (T:List (TypeId×TD)) (rs:List ResultVar) (g:Nat) (ids:List Nat) (E:HEnd) (post:List (Nat×AObj)) (ids':List Nat) (ψ0:Env) (S1:Nat->Prop) (w0:World) (e:Exit) (st:St):Prop:=
 st.heap=(g, .was ψ0 ids S1 w0)::post/\st.ids=g::ids'/\(match E with
  | .ret res=>(e = .normal\/e = .ret)/\retA T st rs=some res
  | .pan v=>st.dfr=[]/\e = .panic [{ v:=v,recovered:=false }])
theorem k6j (b:TOk P T) (hs:Sim F S0 N0 st ψ S a w):∀ {rs:List ResultVar} {ys:List AV},kvt T st rs=some ys ->
  ∃ vs:List Value,(rs.mapM (khr a.tmps)).run P w = .ok vs w/\vs.length=ys.length/\∀ (i:Nat) (v:Value) (y:AV),vs[i]?=some v->ys[i]?=some y->RV ψ (·∈st.ids) S w v y
 | [],ys,h=>by simp only [kvt,qc] at h;subst h;exact ⟨[],by simp,rfl,fun i v y h=>by simp at h⟩
 | r::rs,ys,h=>by
  simp only [kvt] at h;split at h
  ·rename_i y ys' h1 c;injection h with h;subst h;obtain ⟨vs,k1,k2,k3⟩:=k6j b hs c;have key:∃ v,(khr a.tmps r).run P w = .ok v w/\RV ψ (·∈st.ids) S w v y:=by
    unfold resA at h1;split at h1;rename_i t;injection h1 with h1;subst h1;exact ⟨_,rfl,hs.tmps t⟩
    ·rename_i x t;split at h1;rename_i d xs hd hx;obtain ⟨ad,u,e1,e2,e3⟩:=k76 (b.get hd) (hs.tmps x) (fun id o e=>(hs.core.obj id o e).2.1) hx h1;refine ⟨u,?_,e3⟩;simp only [khr,e1,asAddr,Sem.run_bind,Sem.run_pure,Result.andThen_ok,e2]
     ·cases h1
   obtain ⟨v,e1,e2⟩:=key;refine ⟨v::vs,?_,by simp [k2],fun i v' y' hv hy=>?_⟩;rw [List.mapM_cons];simp only [Sem.run_bind,e1,Result.andThen_ok,k1,Sem.run_pure]
   ·cases i with
    | zero=>simp at hv hy;subst hv hy;exact e2
    | succ i=>exact k3 i v' y' (by simpa using hv) (by simpa using hy)
  ·cases h
theorem k0y (d:TOk P T) (hs:Sim F S0 N0 st ψ S a w) {fn:Func} {y:AV} (h:retA T st fn.results.toList=some y):∃ v,(results fn a.tmps).run P w = .ok v w/\RV ψ (·∈st.ids) S w v y:=by
 replace h:=(kyp h).2;unfold k8q at h;have key:∀ ys,kvt T st fn.results.toList=some ys->∃ vs:List Value,(results fn a.tmps).run P w = .ok (if h:vs.length=1 then vs[0] else .tuple vs.toArray) w/\vs.length=ys.length/\∀ (i:Nat) (v:Value) (y:AV),vs[i]?=some v->ys[i]?=some y->RV ψ (·∈st.ids) S w v y:=fun ys hy=>by
  obtain ⟨vs,k1,k2,k3⟩:=k6j d hs hy;refine ⟨vs,?_,k2,k3⟩;unfold results;rw [Array.mapM_eq_mapM_toList];have b:∀ (g:ResultVar->Sem Value),(∀ x,g x=khr a.tmps x)->(fn.results.toList.mapM g).run P w = .ok vs w:=fun g b=>by rw [show g=khr a.tmps from funext b];exact k1
  simp only [Sem.run_bind,Sem.run_map];rw [b _ fun x=>by cases x <;> rfl];simp only [Result.andThen_ok,Sem.run_pure];simp
 split at h
 ·rename_i z e;injection h with h;subst h;obtain ⟨vs,k1,k2,k3⟩:=key _ e;have hl:vs.length=1:=by simpa using k2
  rw [dif_pos hl] at k1;exact ⟨_,k1,k3 0 _ _ (qb (by omega)) rfl⟩
 ·rename_i ys c hy;injection h with h;subst h;obtain ⟨vs,k1,k2,k3⟩:=key _ hy;have hl:¬ vs.length=1:=fun hl=>by rw [k2] at hl;obtain ⟨z,rfl⟩:=List.length_eq_one_iff.1 hl;exact c z rfl
  rw [dif_neg hl] at k1;exact ⟨_,k1,RV.tupA (by simpa using k2) fun i v x hv hx=>k3 i v x (by simpa using hv) hx⟩
 ·cases h
theorem k6w (L : TOk P T) {f : FuncId} {fn : Func} {c : Code} {args : List AV} {pre : List (Nat × AObj)} {E : HEnd} {post : List (Nat × AObj)} {ids' : List Nat} {g : Nat} (I : P.funcs[f]? = some fn) (u : fn.body = some c) (hn : (fn.name == "runtime.NumGoroutine") = false)
  (z:Nat.ble args.length fn.ntmps=true) (y:ids.contains g=false)
  (h:∀ ψ0 S1 w0,awp P c { n:=fn.ntmps,tmps:=argT 0 args,heap:=(g, .was ψ0 ids S1 w0)::pre,ids:=g::ids } (kgr T fn.results.toList g ids E post ids' ψ0 S1 w0)) (q:ids'.contains g=false) (C:(post.all fun p=>okO ids' p.2)=true) (M:E.ok ids'=true)
  (hk:(post.all fun p=>ids'.contains p.1)=true):HCall P f args pre ids E post ids':=by
 have z:=qp z;have y:g∉ids:=by simpa using y
 have q:g∉ids':=by simpa using q
 refine ⟨⟨fn,I,by rw [u];rfl,hn⟩,fun F S0 N0 ψ S w vs hs hr hc=>calls_of_wp I u (wp_wide.1 ?_)⟩;have r:=hc.add (n:=0) (v := .nilFunc) (w':=w) (ob := .was ψ ids S w) (kaf _) y (fun b u=>by cases u)
  ⟨kbh _ _,by rw [kaj];rfl,by rw [kaj];rfl,ka4 y _ _,fun i hi=>qh _ hi,fun b u=>u,fun _ _ _=>rfl⟩
 have A:Sim F S0 N0 { n:=fn.ntmps,tmps:=argT 0 args,heap:=(g, .was ψ ids S w)::pre,ids:=g::ids } (ψ.set g 0 .nilFunc) S
   { tmps:=vs++Array.replicate (fn.ntmps - vs.size) undef,defers:=[] } w:=by
  refine ⟨rfl,by simp;omega,fun t=>?_,r⟩;show RV _ _ _ w _ (look .any (argT 0 args) t);rcases kkq args 0 t with h | ⟨x,_,h1,d⟩;rw [h];exact .any
  ·rw [d];have h1:args[t]?=some x:=(by simpa using h1);have s:t<vs.size:=(by rw [hs];exact (qf.1 h1).1);have:(vs++Array.replicate (fn.ntmps - vs.size) undef).getD t undef=vs[t]:=(by rw [qaq,qa9 s];simp [s]);rw [this];exact (hr t _ x (by simp [s]) h1).keep (ka4 y _ _) (fun _ h=>qh _ h) (fun _ h=>h) (fun _ _ _=>rfl)
 refine kb8 (h _ _ _ F S0 N0 _ S _ w A) ?_;rintro e a' w' ⟨st',ψ',S',⟨hh,hi,J⟩,d,K⟩;have D:kaa st'.heap g=some (.was ψ ids S w):=by rw [hh,kac,qo rfl]
 obtain ⟨_,⟨_,_,_,k1,k2,k3,k4⟩,_⟩:=d.core.obj g _ D;have m:∀ i,i∈ids->i∈ids':=fun i B=>by
  have:=k2 i B;rw [hi] at this;rcases qae.1 this with rfl | h;exact absurd B y
  ·exact h
 have kgr:∀ i ob,kaa post i=some ob->i∈ids'/\okO ids' ob=true:=fun i ob j=>by
  have hm:∀ {l:List (Nat×AObj)},kaa l i=some ob->(i,ob)∈l:=fun {l}=>by
   induction l with
   | nil=>intro h;cases h
   | cons p l ih=>
    intro h;obtain ⟨k,v⟩:=p;rw [kac] at h;split at h;rename_i hk;subst hk;injection h with h;subst h;exact qv ..
    ·exact qh _ (ih h)
  have hm:=hm j;exact ⟨by simpa using qu.1 hk _ hm,by simpa using qu.1 C _ hm⟩
 have hl:∀ i ob,kaa post i=some ob->kaa st'.heap i=some ob:=fun i ob j=>by have G:g≠i:=fun e=>q (e ▸ (kgr i ob j).1);rw [hh,kac,qi G];exact j
 have a:Core F S0 N0 post ids' ψ' S' w':=by refine ⟨fun i ob j=>?_,fun i i' ob ob' b j H=>d.core.inj i i' ob ob' b (hl i ob j) (hl i' ob' H),d.core.lt,d.core.s0,d.core.n0,d.core.fr⟩;obtain ⟨_,m2,m3⟩:=d.core.obj i ob (hl i ob j);exact ⟨(kgr i ob j).1,m2.subA (kgr i ob j).2,m3⟩
 cases E with
 | ret res=>
  obtain ⟨N,o⟩:=J;have fin:a'.defers=[]/\∃ v,(results fn a'.tmps).run P w' = .ok v w'/\∃ ψ'' S'',HEnd.is (.returned v) ψ'' (·∈ids') S'' w' (.ret res)/\Core F S0 N0 post ids' ψ'' S'' w'/\Fr F w w'/\Ext (·∈ids) ψ ψ''/\(∀ i,i∈ids->i∈ids')/\(∀ b,S b->S'' b)/\Same S w w':=by obtain ⟨v,e1,e2⟩:=k0y L d o;exact ⟨d.defers.trans (kyp o).1,v,e1,ψ',S',⟨v,rfl,e2.subA M⟩,a,K,k1,m,k3,k4⟩
  rcases N with rfl | rfl <;> exact fin
 | pan v=>
  obtain ⟨hd,rfl⟩:=J;exact ⟨d.defers.trans hd,ψ',S',rfl,a,K,k1,m,k3,k4⟩
end Go.Proofs.YtdnfbjahbkpibaaGreatDoor
set_option linter.all false
namespace Go.Proofs.YtdnfbjahbkpibaaGreatDoor
open Go Go.RowKit
variable [Dr]
def khs (foot:List Nat):List (Nat×AObj)->List (Nat×AObj)
 | []=>[]
 | (k,v)::l=>bif foot.contains k then khs foot l else (k,v)::khs foot l
def renH (r:List (Nat×Nat)):List (Nat×AObj)->List (Nat×AObj)
 | []=>[]
 | (k,v)::l=>(rn r k,renO r v)::renH r l
def renI (r:List (Nat×Nat)):List Nat->List Nat
 | []=>[]
 | k::l=>rn r k::renI r l
theorem kwi (r:List (Nat×Nat)):∀ l,renI r l=l.map (rn r)
 | []=>rfl
 | x::l=>by simp [renI,kwi r l]
def k0b:List Nat->Bool
 | []=>true
 | x::l=>!l.contains x && k0b l
def preX (st:St) (r1 r2:List (Nat×Nat)) (foot:List Nat):List Nat->Option (List (Nat×AObj))
 | []=>some []
 | i::l=>match kaa st.heap (rn r2 i),preX st r1 r2 foot l with
  | some ob,some r=>bif okO foot ob then some ((i,renO r1 ob)::r) else none
  | _,_=>none
def kol (st:St) (r1:List (Nat×Nat)) (foot:List Nat):List C1->List Operand->Option (List AV)
 | [],[]=>some []
 | c::cs,x::xs=>match kol st r1 foot cs xs with
  | some r=>bif okA foot (co1 c (st.eval x)) then some (renA r1 (co1 c (st.eval x))::r) else none
  | none=>none
 | _,_=>none
def knj (r1:List (Nat×Nat)) (foot:List Nat):List AV->Option (List AV)
 | []=>some []
 | x::xs=>match knj r1 foot xs with
  | some r=>bif okA foot x then some (renA r1 x::r) else none
  | none=>none
def kk4 (st:St) (r1 r2:List (Nat×Nat)) (keys ids0 ids1:List Nat) (post:List (Nat×AObj)):Bool:=
 ids0.all (fun i=>st.ids.contains (rn r2 i) && Nat.beq (rn r1 (rn r2 i)) i) && (ids1.all (fun i=>ids0.contains i || !st.ids.contains (rn r2 i)) && (k0b (renI r2 ids1) && ((post.all fun p=>okO ids1 p.2) && keys.all ids0.contains)))
theorem kus {f:Nat->Nat}:∀ {l:List Nat},k0b (l.map f)=true->∀ i j,i∈l->j∈l->f i=f j->i=j
 | [],_,i,j,hi,_,_=>by cases hi
 | x::l,h,i,j,hi,c,b=>by
  simp only [qa5,k0b,qr,qby] at h;have hx:∀ k,k∈l->f k≠f x:=fun k hk e=>by have:f x∈l.map f:=e ▸ List.mem_map_of_mem hk;have h1:=h.1;simp only [List.contains_eq_mem,decide_eq_false_iff_not] at h1;exact h1 this
  rcases qae.1 hi with h1 | h1
  ·rcases qae.1 c with a | a;rw [h1,a]
   ·exact absurd (by rw [<- b,h1]) (hx j a)
  ·rcases qae.1 c with a | a;exact absurd (by rw [b,a]) (hx i h1)
   ·exact kus h.2 i j h1 a b
theorem km6 {i:Nat}:∀ {A B:List (Nat×AObj)} {ob:AObj},kaa (A++B) i=some ob->kaa A i=some ob\/(kaa A i=none/\kaa B i=some ob)
 | [],B,ob,h => .inr ⟨rfl,h⟩
 | (k,v)::A,B,ob,h=>by
  rw [List.cons_append,kac] at h;rw [kac];by_cases hk:k=i;rw [qo hk] at h ⊢; exact .inl h
  ·rw [qi hk] at h ⊢; exact km6 h
theorem klf {r:List (Nat×Nat)} {j:Nat}:∀ {A:List (Nat×AObj)} {ob:AObj},kaa (renH r A) j=some ob->∃ i o,kaa A i=some o/\rn r i=j/\ob=renO r o
 | [],ob,h=>by cases h
 | (k,v)::A,ob,h=>by
  simp only [renH] at h;rw [kac] at h;by_cases hk:rn r k=j;rw [qo hk] at h;injection h with h;exact ⟨k,v,by rw [kac,qo rfl],hk,h.symm⟩
  ·rw [qi hk] at h;obtain ⟨i,o,h1,a,b⟩:=klf h;exact ⟨i,o,by rw [kac,qi (fun e=>hk (by rw [e];exact a))];exact h1,a,b⟩
theorem kky {foot:List Nat}:∀ {l:List (Nat×AObj)} {k:Nat} {ob:AObj},kaa (khs foot l) k=some ob->k∉foot/\kaa l k=some ob
 | [],k,ob,h=>by cases h
 | (j,v)::l,k,ob,h=>by
  simp only [khs] at h;cases a:foot.contains j with
  | true=>
   rw [a] at h;obtain ⟨h1,b⟩:=kky h;refine ⟨h1,?_⟩;rw [kac,qi (fun e=>h1 (by subst e;simpa using a))];exact b
  | false=>
   rw [a] at h;simp only [qd,kac] at h;rw [kac];by_cases hk:j=k;subst hk;rw [qo rfl] at h ⊢;exact ⟨by simpa using a,h⟩
   ·rw [qi hk] at h ⊢;exact kky h
variable {P:Program} {F S0:Nat->Prop} {N0:Nat} {w w':World} {S S':Nat->Prop} {ψ ψ':Env} {K K':Nat->Prop} {T:List (TypeId×TD)} {o:Oper} {a:Act} {st:St} {t:TypeId} {d:TD}
theorem kvw {r1 r2:List (Nat×Nat)} {foot:List Nat}:∀ {l:List Nat} {pre:List (Nat×AObj)},preX st r1 r2 foot l=some pre->∀ i ob,kaa pre i=some ob->i∈l/\∃ ob',kaa st.heap (rn r2 i)=some ob'/\okO foot ob'=true/\ob=renO r1 ob'
 | [],pre,h,i,ob,a=>by simp only [preX,qc] at h;subst h;cases a
 | k::l,pre,h,i,ob,a=>by
  simp only [preX] at h;split at h
  ·rename_i ob1 r h1 c;cases b:okO foot ob1 with
   | false=>rw [b] at h;cases h
   | true=>
    rw [b] at h;simp only [qe,qc] at h;subst h;rw [kac] at a;by_cases hk:k=i;subst hk;rw [qo rfl] at a;injection a with a;exact ⟨qv ..,ob1,h1,b,a.symm⟩
    ·rw [qi hk] at a;exact (kvw c i ob a).imp (qh _) id
  ·cases h
theorem k6d {r1:List (Nat×Nat)} {foot ids:List Nat} (h:∀ t,RV ψ (·∈ids) S w (a.tmps.getD t undef) (st.get t)):∀ {cs:List C1} {xs:List Operand} {ys:List AV},kol st r1 foot cs xs=some ys ->
  ys.length=xs.length/\∀ (i:Nat) (x:Operand) (y:AV),xs[i]?=some x->ys[i]?=some y->∃ z,y=renA r1 z/\RV ψ (·∈foot) S w (a.eval x) z
 | [],[],ys,hh=>by simp only [kol,qc] at hh;subst hh;exact ⟨rfl,fun i x y h=>by simp at h⟩
 | c::cs,x::xs,ys,hh=>by
  simp only [kol] at hh;split at hh
  ·rename_i r h1;cases b:okA foot (co1 c (st.eval x)) with
   | false=>rw [b] at hh;cases hh
   | true=>
    rw [b] at hh;simp only [qe,qc] at hh;subst hh;obtain ⟨e1,e2⟩:=k6d h h1;refine ⟨by simp [e1],fun i x' y' hx hy=>?_⟩;cases i with
    | zero=>
     simp at hx hy;subst hx hy;exact ⟨_,rfl,(kov c (Sim.eval_tmps h x)).subA b⟩
    | succ i=>exact e2 i x' y' (by simpa using hx) (by simpa using hy)
  ·cases hh
 | [],_::_,ys,hh=>by cases hh
 | _::_,[],ys,hh=>by cases hh
theorem kyf {r1:List (Nat×Nat)} {foot:List Nat} {cs:Array Value}:∀ {xs ys:List AV},knj r1 foot xs=some ys->ys.length=xs.length/\∀ (i:Nat) (y:AV),ys[i]?=some y->∃ x,xs[i]?=some x/\okA foot x=true/\y=renA r1 x
 | [],ys,hh=>by simp only [knj,qc] at hh;subst hh;exact ⟨rfl,fun i y h=>by simp at h⟩
 | x::xs,ys,hh=>by
  simp only [knj] at hh;split at hh
  ·rename_i r h1;cases a:okA foot x with
   | false=>rw [a] at hh;cases hh
   | true=>
    rw [a] at hh;simp only [qe,qc] at hh;subst hh;obtain ⟨e1,e2⟩:=kyf (cs:=cs) h1;refine ⟨by simp [e1],fun i y hy=>?_⟩;cases i with
    | zero=>simp at hy;subst hy;exact ⟨x,rfl,a,rfl⟩
    | succ i=>simpa using e2 i y (by simpa using hy)
  ·cases hh
theorem kxf {f:FuncId} {as_:List AV} {pre:List (Nat×AObj)} {ids0 ids1:List Nat} {E:HEnd} {post:List (Nat×AObj)} {keys:List Nat} (hc:HCall P f as_ pre ids0 E post ids1) (r1 r2:List (Nat×Nat))
  (a:Core F S0 N0 st.heap st.ids ψ S w) (A:kk4 st r1 r2 keys ids0 ids1 post=true) (s:preX st r1 r2 (renI r2 ids0) keys=some pre) {vs:Array Value} (ac:vs.size=as_.length)
  (hv:∀ (i:Nat) (v:Value) (y:AV),vs[i]?=some v->as_[i]?=some y->∃ z,y=renA r1 z/\RV ψ (·∈renI r2 ids0) S w v z):
  Calls P f vs w fun e w'=>∃ ψ' S',(E.ren r2).is e ψ' (·∈renI r2 ids1++st.ids) S' w'/\Core F S0 N0 (renH r2 post++khs (renI r2 ids0) st.heap) (renI r2 ids1++st.ids) ψ' S' w'/\Fr F w w'/\Ext (·∈st.ids) ψ ψ'/\(∀ b,S b->S' b)/\Same S w w':=by
 simp only [kk4,qr,qu,qb1,qby,List.contains_eq_mem,qbn,decide_eq_false_iff_not] at A;obtain ⟨c1,c2,c3,c4,c5⟩:=A;simp only [kwi] at s hv c3 ⊢;have inj:=kus c3;have T:∀ j,j∈ids0.map (rn r2)->∃ i,i∈ids0/\rn r2 i=j/\rn r1 j=i:=fun j u=>by obtain ⟨i,hi,rfl⟩:=qai.1 u;exact ⟨i,hi,rfl,qk (c1 i hi).2⟩
 -- the callee's view
 let ψc:Env:=⟨fun i=>ψ.len (rn r2 i),fun i=>ψ.val (rn r2 i)⟩
 let Fc:Nat->Prop:=fun b=>F b\/∃ j ob,kaa st.heap j=some ob/\j∉ids0.map (rn r2)/\Blk (ψ.val j) b
 let Sc:Nat->Prop:=fun b=>S b\/∃ j ob,kaa st.heap j=some ob/\j∈ids0.map (rn r2)/\Blk (ψ.val j) b
 have U:∀ j,j∈ids0.map (rn r2)->rn r1 j∈ids0/\ψc.len (rn r1 j)=ψ.len j/\ψc.val (rn r1 j)=ψ.val j:=fun j u=>by obtain ⟨i,hi,h1,x⟩:=T j u;rw [x];exact ⟨hi,by show ψ.len (rn r2 i)=_;rw [h1],by show ψ.val (rn r2 i)=_;rw [h1]⟩
 have ad:Core Fc Sc w.heap.size pre ids0 ψc S w:=by
  refine ⟨fun i ob K=>?_,fun i i' ob ob' b K L H d q=>?_,a.lt,fun b d => .inl (.inl d),qx _,fun b d=>?_⟩
  ·obtain ⟨hi,ob',h1,x,rfl⟩:=kvw s i ob K;obtain ⟨k1,k2,k3⟩:=a.obj _ _ h1;have M:=c5 i hi;have N:rn r2 i∈ids0.map (rn r2):=List.mem_map_of_mem M;have ae:=qk (c1 i M).2;have hO:=(k2.subA x).ren (ψ':=ψc) (K':=(·∈ids0)) U N x;rw [ae] at hO;refine ⟨M,hO,fun b d=>⟨(k3 b d).1,?_, .inl (.inr ⟨_,ob',h1,N,d⟩)⟩⟩;rintro (V | ⟨j,oj,O,af,Q⟩);exact (k3 b d).2.1 V
   ·exact a.inj _ _ _ _ b O h1 (fun e=>af (e ▸ N)) Q d
  obtain ⟨hi,ob1,h1,_,_⟩:=kvw s i ob K;obtain ⟨ag,ob2,x,_,_⟩:=kvw s i' ob' L;refine a.inj _ _ _ _ b h1 x (fun e=>H ?_) d q;have e1:=qk (c1 i (c5 i hi)).2;have e2:=qk (c1 i' (c5 i' ag)).2;rw [<- e1,<- e2,e]
  ·rcases d with V | ⟨j,oj,O,_,Q⟩;exact a.fr b V
   ·exact (a.obj j oj O).2.1.lt Q
 refine (hc.2 Fc Sc w.heap.size ψc S w vs ac (fun i v y h1 x=>?_) ad).mono ?_;obtain ⟨z,rfl,hz⟩:=hv i v y h1 x;exact hz.ren U;rintro e w' ⟨ψc',S',hE,g,r,X,Y,hS,B⟩;have C:∀ i,i∈ids1->ids1.find? (fun k=>Nat.beq (rn r2 k) (rn r2 i))=some i:=fun i hi=>by
  cases h:ids1.find? (fun k=>Nat.beq (rn r2 k) (rn r2 i)) with
  | none=>
   rw [List.find?_eq_none] at h;exact absurd (Nat.beq_refl _) (h i hi)
  | some k=>
   have h1:=List.find?_some h;rw [inj k i (List.mem_of_find?_eq_some h) hi (qk h1)]
 have D:∀ j,(∀ i,i∈ids1->rn r2 i≠j)->ids1.find? (fun k=>Nat.beq (rn r2 k) j)=none:=fun j u=>by rw [List.find?_eq_none];intro i hi h;exact u i hi (qk h)
 let ψ':Env:=⟨fun j=>match ids1.find? (fun k=>Nat.beq (rn r2 k) j) with | some i=>ψc'.len i | none=>ψ.len j,fun j=>match ids1.find? (fun k=>Nat.beq (rn r2 k) j) with | some i=>ψc'.val i | none=>ψ.val j⟩
 have t:∀ i,i∈ids1->ψ'.len (rn r2 i)=ψc'.len i/\ψ'.val (rn r2 i)=ψc'.val i:=fun i hi=>by
  constructor
  ·show (match ids1.find? (fun k=>Nat.beq (rn r2 k) (rn r2 i)) with | some i=>ψc'.len i | none=>ψ.len (rn r2 i))=_
   rw [C i hi]
  ·show (match ids1.find? (fun k=>Nat.beq (rn r2 k) (rn r2 i)) with | some i=>ψc'.val i | none=>ψ.val (rn r2 i))=_
   rw [C i hi]
 have Z:∀ j,(∀ i,i∈ids1->rn r2 i≠j)->ψ'.len j=ψ.len j/\ψ'.val j=ψ.val j:=fun j u=>by
  constructor
  ·show (match ids1.find? (fun k=>Nat.beq (rn r2 k) j) with | some i=>ψc'.len i | none=>ψ.len j)=_
   rw [D j u]
  ·show (match ids1.find? (fun k=>Nat.beq (rn r2 k) j) with | some i=>ψc'.val i | none=>ψ.val j)=_
   rw [D j u]
 have m:∀ j,j∈st.ids->j∉ids0.map (rn r2)->ψ'.len j=ψ.len j/\ψ'.val j=ψ.val j:=fun j u hn=>Z j fun i hi e=>by
  rcases c2 i hi with h | h;exact hn (e ▸ List.mem_map_of_mem h)
  ·exact h (e ▸ u)
 have J:Ext (·∈st.ids) ψ ψ':=fun j u=>by
  by_cases hn:j∈ids0.map (rn r2);obtain ⟨i,hi,h1,x⟩:=T j hn;obtain ⟨e1,e2⟩:=X i hi;obtain ⟨e3,e4⟩:=t i (Y i hi);rw [<- h1,e3,e4];exact ⟨e1,e2⟩
  ·obtain ⟨e1,e2⟩:=m j u hn;exact ⟨by omega,fun _=>e2⟩
 have G:∀ i,i∈ids1->rn r2 i∈ids1.map (rn r2)++st.ids/\ψ'.len (rn r2 i)=ψc'.len i/\ψ'.val (rn r2 i)=ψc'.val i:=fun i hi=>
  ⟨List.mem_append_left _ (List.mem_map_of_mem hi),t i hi⟩
 have hK:∀ i,i∈st.ids->i∈ids1.map (rn r2)++st.ids:=fun i hi=>List.mem_append_right _ hi;have aa:∀ b,Sc b\/w.heap.size<=b->S0 b\/N0<=b:=fun b d=>by
  rcases d with (d | ⟨j,oj,h1,_,R⟩) | d;exact a.s0 b d;exact ((a.obj j oj h1).2.2 b R).2.2
  ·exact .inr (qay a.n0 d)
 have n:∀ j oj b,kaa st.heap j=some oj->j∉ids0.map (rn r2)->Blk (ψ.val j) b->Fc b/\¬ (Sc b\/w.heap.size<=b):=fun j oj b h1 x R=>by
  refine ⟨.inr ⟨j,oj,h1,x,R⟩,?_⟩;rintro ((d | ⟨k,ok,g1,g2,g3⟩) | d);exact ((a.obj j oj h1).2.2 b R).1 d;exact a.inj j k oj ok b h1 g1 (fun e=>x (e ▸ g2)) R g3
  ·have:=(a.obj j oj h1).2.1.lt R;omega
 refine ⟨ψ',S',?_,⟨fun j oj K=>?_,fun j j' oj oj' b K L H d q=>?_,g.lt,fun b d=>aa b (g.s0 b d),qay a.n0 r.size,fun b d=>qbh (a.fr b d) r.size⟩,
  ⟨r.os,r.tape,r.output,r.size,fun b d=>r.block b (.inl d),r.drawn⟩,J,hS,B⟩
 ·cases E with
  | ret res=>
   obtain ⟨v,rfl,hv⟩:=hE;exact ⟨v,rfl,hv.ren G⟩
  | pan v=>exact hE
 ·rcases km6 K with h | ⟨_,h⟩
  ·obtain ⟨i,ob,h1,rfl,rfl⟩:=klf h;obtain ⟨k1,k2,k3⟩:=g.obj i ob h1;refine ⟨(G i k1).1,k2.ren (ids:=ids1) G k1 ?_,fun b d=>?_⟩
   ·have hm:∀ {l:List (Nat×AObj)},kaa l i=some ob->(i,ob)∈l:=fun {l}=>by
     induction l with
     | nil=>intro h;cases h
     | cons p l ih=>
      intro h;obtain ⟨k,v⟩:=p;rw [kac] at h;split at h;rename_i hk;cases hk;cases qs h;exact qv ..
      ·exact qh _ (ih h)
    exact c4 _ (hm h1)
   ·rw [(t i k1).2] at d;obtain ⟨m1,m2,m3⟩:=k3 b d;exact ⟨m1,fun V=>m2 (.inl V),aa b m3⟩
  ·obtain ⟨hn,h1⟩:=kky h;obtain ⟨k1,k2,k3⟩:=a.obj j oj h1;have ab:=m j k1 hn;refine ⟨hK j k1,k2.keep J hK hS B ab fun b d=>r.block b (n j oj b h1 hn d).1,fun b d=>?_⟩;rw [ab.2] at d;exact ⟨fun hs=>(n j oj b h1 hn d).2 (g.s0 b hs),(k3 b d).2⟩
 ·have bA:∀ {i ob},kaa post i=some ob->Blk (ψ'.val (rn r2 i)) b->¬ Fc b:=fun {i ob} h1 d=>by obtain ⟨k1,_,k3⟩:=g.obj i ob h1;rw [(t i k1).2] at d;exact (k3 b d).2.1
  rcases km6 K with h | ⟨_,h⟩ <;> rcases km6 L with h' | ⟨_,h'⟩;obtain ⟨i,ob,h1,rfl,rfl⟩:=klf h;obtain ⟨i',ob',o,rfl,rfl⟩:=klf h';obtain ⟨k1,_,_⟩:=g.obj i ob h1;obtain ⟨k1',_,_⟩:=g.obj i' ob' o;rw [(t i k1).2] at d;rw [(t i' k1').2] at q;exact g.inj i i' ob ob' b h1 o (fun e=>H (by rw [e])) d q;obtain ⟨i,ob,h1,rfl,rfl⟩:=klf h;obtain ⟨I,o⟩:=kky h';rw [(m j' (a.obj j' oj' o).1 I).2] at q;exact bA h1 d (n j' oj' b o I q).1;obtain ⟨i',ob',o,rfl,rfl⟩:=klf h';obtain ⟨hn,h1⟩:=kky h;rw [(m j (a.obj j oj h1).1 hn).2] at d;exact bA o q (n j oj b h1 hn d).1
  ·obtain ⟨hn,h1⟩:=kky h;obtain ⟨I,o⟩:=kky h';rw [(m j (a.obj j oj h1).1 hn).2] at d;rw [(m j' (a.obj j' oj' o).1 I).2] at q;exact a.inj j j' oj oj' b h1 o H d q
def fnOf (n:Nat):AV->Option (FuncId×List AV)
 | .fn f cap=>some (f,cap)
 | .mth f fst=>bif Nat.beq n 0 then some (f,fst) else none
 | _=>none
theorem k9i {f : FuncId} {fst : Array Value} {x : Operand} {args : Array Operand} {ts : Array TypeId} (e : o.op = .call { callee := .value x, args := args, argTypes := ts }) (hx : a.eval x = .func (.func f) fst #[]) (h0 : args.size = 0) (g : ∃ fn, P.funcs[f]? = some fn /\ fn.body.isNone = false /\ (fn.name == "runtime.NumGoroutine") = false) :
  (execOp a.eval o).run P w = .ok (.enter f (args.map a.eval++fst)) w:=by
 obtain ⟨fn,h1,c,d⟩:=g;have b:fn.body≠none:=by intro h;rw [h] at c;cases c
 simp only [qas,ne_eq] at d;have hn:args=#[]:=Array.eq_empty_of_size_eq_zero h0;subst hn;simp [execOp,e,resolve,hx,Deferred.ofValue,invoke,callFunc,h1,b,d]
theorem kaab {f : FuncId} {caps : Array Value} {x : Operand} {args : Array Operand} {ts : Array TypeId} (e : o.op = .call { callee := .value x, args := args, argTypes := ts }) (hx : a.eval x = .func (.func f) #[] caps) (g : ∃ fn, P.funcs[f]? = some fn /\ fn.body.isNone = false /\ (fn.name == "runtime.NumGoroutine") = false) :
  (execOp a.eval o).run P w = .ok (.enter f (args.map a.eval++caps)) w:=by
 obtain ⟨fn,h1,c,d⟩:=g;have b:fn.body≠none:=by intro h;rw [h] at c;cases c
 simp only [qas,ne_eq] at d;simp [execOp,e,resolve,hx,Deferred.ofValue,invoke,callFunc,h1,b,d]
theorem k4d {f:FuncId} {cap:List AV} {x:Operand} {args:Array Operand} {ts:Array TypeId} {cs:List C1} {as1 as2 pre:_} {ids0 ids1:List Nat} {E:HEnd} {post:List (Nat×AObj)} {keys:List Nat} (r1 r2:List (Nat×Nat)) (r:o.op = .call { callee := .value x,args:=args,argTypes:=ts })
  (hx:fnOf args.size (st.eval x)=some (f,cap)) (hc:HCall P f (as1++as2) pre ids0 E post ids1) (d:kol st r1 (renI r2 ids0) cs args.toList=some as1) (j:knj r1 (renI r2 ids0) cap=some as2)
  (g:kk4 st r1 r2 keys ids0 ids1 post=true) (k:preX st r1 r2 (renI r2 ids0) keys=some pre) (hs:Sim F S0 N0 st ψ S a w):
  ∃ vs,(execOp a.eval o).run P w = .ok (.enter f vs) w/\Calls P f vs w fun e w'=>∃ ψ' S',(E.ren r2).is e ψ' (·∈renI r2 ids1++st.ids) S' w'/\Core F S0 N0 (renH r2 post++khs (renI r2 ids0) st.heap) (renI r2 ids1++st.ids) ψ' S' w'/\Fr F w w'/\Ext (·∈st.ids) ψ ψ'/\(∀ b,S b->S' b)/\Same S w w':=by
 have c:=hs.eval x;obtain ⟨caps,l,m,n⟩:∃ caps:Array Value,(execOp a.eval o).run P w = .ok (.enter f (args.map a.eval++caps)) w/\caps.size=cap.length/\∀ (i:Nat) (v:Value) (y:AV),caps[i]?=some v->cap[i]?=some y->RV ψ (·∈st.ids) S w v y:=by
  generalize s:a.eval x=u at c;generalize st.eval x=y at hx c;unfold fnOf at hx;split at hx
  ·simp only [qc,qw] at hx;obtain ⟨rfl,rfl⟩:=hx;cases c with
   | fn h hr=>exact ⟨_,kaab r s hc.1,h,hr⟩
  ·rename_i f' fst;cases q:Nat.beq args.size 0 with
   | false=>rw [q] at hx;cases hx
   | true=>
    rw [q] at hx;simp only [qe,qc,qw] at hx;obtain ⟨rfl,rfl⟩:=hx;cases c with
    | mth h hr=>exact ⟨_,k9i r s (qk q) hc.1,h,hr⟩
  ·cases hx
 refine ⟨_,l,?_⟩;obtain ⟨e1,e2⟩:=k6d hs.tmps d;obtain ⟨e3,e4⟩:=kyf (cs:=caps) j;refine kxf hc r1 r2 hs.core g k (by simp [e1,e3,m]) fun i v y hv hy=>?_;by_cases hi:i<args.size;rw [qa9 (by simpa using hi)] at hv;rw [qac (by rw [e1];simpa using hi)] at hy;simp only [Array.getElem?_map,qq] at hv;obtain ⟨p,hp,rfl⟩:=hv;exact e2 i p y (by simpa using hp) hy
 ·rw [Array.getElem?_append_right (by simpa using hi)] at hv;rw [qab (by rw [e1];simpa using hi)] at hy;have hl:as1.length=args.size:=by rw [e1];simp
  obtain ⟨z,h1,t,rfl⟩:=e4 _ y hy;exact ⟨z,rfl,(n _ v z (by simpa using hv) (by rw [<- h1,hl])).subA t⟩
theorem kacg {f:FuncId} {cap:List AV} {x:Operand} {args:Array Operand} {ts:Array TypeId} {cs:List C1} {as1 as2 pre:_} {ids0 ids1:List Nat} {res:AV} {post:List (Nat×AObj)} {keys:List Nat} (r1 r2:List (Nat×Nat)) (h:o.op = .call { callee := .value x,args:=args,argTypes:=ts })
  (hx:fnOf args.size (st.eval x)=some (f,cap)) (hc:HCall P f (as1++as2) pre ids0 (.ret res) post ids1) (b:kol st r1 (renI r2 ids0) cs args.toList=some as1) (d:knj r1 (renI r2 ids0) cap=some as2)
  (c:kk4 st r1 r2 keys ids0 ids1 post=true) (g:preX st r1 r2 (renI r2 ids0) keys=some pre):
  StepA P o st (renA r2 res) (renH r2 post++khs (renI r2 ids0) st.heap) (renI r2 ids1++st.ids):=by
 intro F S0 N0 ψ S a w hs;obtain ⟨vs,h1,j⟩:=k4d r1 r2 h hx hc b d c g hs;unfold kdf;rw [h1];refine j.mono ?_;rintro e w' ⟨ψ',S',⟨v,rfl,hv⟩,k,l,m,n,p⟩;exact ⟨v,rfl,ψ',S',k,hv,l,m,fun i hi=>List.mem_append_right _ hi,n,p⟩
theorem h_pan [Rd] {f:FuncId} {cap:List AV} {ops:Array Oper} {l:List Oper} {Q:Exit->St->Prop} {x:Operand} {args:Array Operand} {ts:Array TypeId} {cs:List C1} {as1 as2 pre:_} {ids0 ids1:List Nat} {v:Value} {post:List (Nat×AObj)} {keys:List Nat} (r1 r2:List (Nat×Nat)) (k:o.op = .call { callee := .value x,args:=args,argTypes:=ts })
  (hx:fnOf args.size (st.eval x)=some (f,cap)) (hc:HCall P f (as1++as2) pre ids0 (.pan v) post ids1) (b:kol st r1 (renI r2 ids0) cs args.toList=some as1) (g:knj r1 (renI r2 ids0) cap=some as2)
  (d:kk4 st r1 r2 keys ids0 ids1 post=true) (j:preX st r1 r2 (renI r2 ids0) keys=some pre) (m:kbr ops st o=some true)
  (hn:Q (.panic [{ v:=v,recovered:=false }]) { st with heap:=renH r2 post++khs (renI r2 ids0) st.heap,ids:=renI r2 ids1++st.ids }):awpL P ops (o::l) st Q:=by
 intro F S0 N0 ψ S a w hs;obtain ⟨vs,h1,n⟩:=k4d r1 r2 k hx hc b g d j hs;unfold kba;rw [keg hs m];refine k38 (fun c h=>by rw [k] at h;cases h) h1 ?_;refine n.mono ?_;rintro e w' ⟨ψ',S',rfl,p,q,r,s,u⟩;exact ⟨_,ψ',S',hn,⟨hs.defers,hs.size,fun t=>(hs.tmps t).keep r (fun i hi=>List.mem_append_right _ hi) s u,p⟩,q⟩
def hQ (T:List (TypeId×TD)) (rs:List ResultVar) (g:Nat) (ids:List Nat) (E:HEnd) (post:List (Nat×AObj)) (ids':List Nat) (ψ0:Env) (S1:Nat->Prop) (w0:World) (e:Exit) (st:St):Prop:=
 ∃ st2,LeSt st st2/\kgr T rs g ids E post ids' ψ0 S1 w0 e st2
theorem kzc {rs:List ResultVar} {g:Nat} {ids ids':List Nat} {res:AV} {post:List (Nat×AObj)} {ψ0:Env} {S1:Nat->Prop} {w0:World} {e:Exit} {st st2:St} (hl:LeSt st st2) (hh:st2.heap=(g, .was ψ0 ids S1 w0)::post) (hi:st2.ids=g::ids')
  (a:e = .normal\/e = .ret) (hr:retA T st2 rs=some res):hQ T rs g ids (.ret res) post ids' ψ0 S1 w0 e st:=⟨st2,hl,hh,hi,a,hr⟩
theorem kakm {rs:List ResultVar} {g:Nat} {ids ids':List Nat} {v:Value} {post:List (Nat×AObj)} {ψ0:Env} {S1:Nat->Prop} {w0:World} {st st2:St} (hl:LeSt st st2) (hh:st2.heap=(g, .was ψ0 ids S1 w0)::post) (hi:st2.ids=g::ids') (hd:st2.dfr=[]):
  hQ T rs g ids (.pan v) post ids' ψ0 S1 w0 (.panic [{ v:=v,recovered:=false }]) st:=⟨st2,hl,hh,hi,hd,rfl⟩
theorem k48 (e : TOk P T) {f : FuncId} {fn : Func} {c : Code} {args : List AV} {pre : List (Nat × AObj)} {ids : List Nat} {E : HEnd} {post : List (Nat × AObj)} {ids' : List Nat} {g : Nat} (i : P.funcs[f]? = some fn) (j : fn.body = some c) (hn : (fn.name == "runtime.NumGoroutine") = false)
  (a:Nat.ble args.length fn.ntmps=true) (k:ids.contains g=false) (b:ids'.contains g=false) (d:(post.all fun p=>okO ids' p.2)=true) (l:E.ok ids'=true) (hk:(post.all fun p=>ids'.contains p.1)=true)
  (h:∀ ψ0 S1 w0,awp P c { n:=fn.ntmps,tmps:=argT 0 args,heap:=(g, .was ψ0 ids S1 w0)::pre,ids:=g::ids } (hQ T fn.results.toList g ids E post ids' ψ0 S1 w0)):HCall P f args pre ids E post ids':=
 k6w e i j hn a k (fun ψ0 S1 w0=>ktu (h ψ0 S1 w0)) b d l hk
end Go.Proofs.YtdnfbjahbkpibaaGreatDoor
