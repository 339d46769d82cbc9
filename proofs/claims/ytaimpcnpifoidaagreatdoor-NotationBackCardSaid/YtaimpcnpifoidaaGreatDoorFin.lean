import Derived.Test.YtaimpcnpifoidaaGreatDoorRows
import Derived.Test.YtaimpcnpifoidaaGreatDoorTm
import Derived.ProofKit
import Derived.OpenShut
import Derived.JoinedCond
import Derived.Carry
import Derived.ChangeSame
import Derived.Test.YtaimpcnpifoidaaGreatDoorTy
import Derived.ChangeMaps5
set_option linter.unusedVariables false
set_option linter.unusedSimpArgs false
namespace Go.Proofs.YtaimpcnpifoidaaGreatDoor
open Go Go.RowKit Go.ChangeShapes Go.WideShapes Go.ChangeAt
theorem kadn:ownKnob Tryz.prog.godebug=none:=by kernel_rfl
theorem kafb:laidOutB Tryz.prog=true:=by kernel_rfl
section
variable {H:Type} {enc:TypeId×Value→H} {P:Program}
theorem ku0 (hl:laidOutB P=true) {W W':World} {sp:Nat→Bool} (hb:Below W.heap.size W W'):∀ {ts:List TypeId} {vs:List Value} {ds:List (DataW H)} {ps:List MemPlace},
  (∀ t∈ts,P.readableRec t=true∧t<P.types.size)→DataW.TrodAll enc P W 0 (fun _=>true) true ts vs ds ps→(∀ x∈ps,x.block<W.heap.size)→(∀ x∈ps,sp x.block=true)→DataW.TrodAll enc P W' 0 sp true ts vs ds ps
 | [],vs,ds,ps,_,h,_,_=>by
  obtain ⟨rfl,rfl,rfl⟩:=trodAll_nil h
  exact trodAll_mk0
 | t::ts,vs,ds,ps,ht,h,hlt,hsp=>by
  obtain ⟨v,vs',d,ds',p,q,rfl,rfl,rfl,h0,h1⟩:=trodAll_cons h
  exact trodAll_cons_mk (WideElems.Trod_stays hl (ht t (by simp)).1 (ht t (by simp)).2 h0 (fun x hx=>hb.same (hlt x (by simp [hx]))) (fun x hx=>hsp x (by simp [hx])))
   (ku0 hl hb (fun t' h'=>ht t' (by simp [h'])) h1 (fun x hx=>hlt x (by simp [hx])) (fun x hx=>hsp x (by simp [hx])))
theorem kae8 {f:Func} {s:ChangeSpec} {W W':World} {args:Array Value} {ds gs:List (DataW H)} {before:List MemPlace} {tb:TypeId}
  (hl:laidOutB P=true) (hts:∀ t∈f.params.toList,P.readableRec t=true∧t<P.types.size) (hvars:s.vars=[]) (hb:P.underlying tb=some .bool) (hr:f.resultTypes=#[tb])
  (hfn:s.fn H (ds++gs)={ results:=[.lit (.bool true)],args:=ds })
  (hW:DataW.Whole enc P f.params.toList s.vars false W args.toList ds gs before) (hg:Below W.heap.size W W'):
  s.post enc P f false true false false W args (.bool true) W':=by
 have hW':=hW
 obtain ⟨p,q,hA,hV,rfl,hz,hn⟩:=hW
 have hV':DataW.TrodVars enc P W (fun _=>true) [] gs q:=by rw [hvars] at hV;exact hV
 obtain ⟨rfl,rfl⟩:=trodVars_none hV'
 have hlt:∀ x∈p,x.block<W.heap.size:=fun x hx=>hW'.lt x (by simpa using hx)
 have hAs:∀ sp:Nat→Bool,(∀ x∈p,sp x.block=true)→DataW.TrodAll enc P W' 0 sp true f.params.toList args.toList (s.fn H (ds++[])).args p:=fun sp hsp=>by
  rw [hfn];exact ku0 hl hg hts hA hlt hsp
 have hVs:∀ sp:Nat→Bool,DataW.TrodVars enc P W' sp s.vars (s.fn H (ds++[])).vars []:=fun sp=>by rw [hvars,hfn];rfl
 have hold:∀ x∈p,(fun b=>decide (b<W.heap.size)) x.block=true:=fun x hx=>by simpa using hlt x hx
 have hres:∀ (b:Nat) (sp:Nat→Bool) (hd:Bool),DataW.TrodAll enc P W' b sp hd f.resultTypes.toList ((Value.bool true).resultList f.resultTypes.size) (s.fn H (ds++[])).results []:=fun b sp hd=>by
  rw [hfn,hr];exact trodAll_cons_mk (shut_bool hb true) trodAll_mk0
 refine ⟨ds,[],p++[],[],p,[],hW',hres _ _ _,hAs _ hold,hVs _,World.keptBut_mono (fun x hx=>⟨hx,?_⟩) (hg.frame (·∈p++[])),fun h=>by cases h⟩
 simp at hx ⊢
 exact hx
variable {w:World} {base:Nat} {spare:Nat→Bool} {held:Bool}
theorem k6d {T:Type} {Q:Nat→T→Prop}:∀ n:Nat,(∀ i,i<n→∃ z,Q i z)→∃ xs:List T,xs.length=n∧∀ (i:Nat) (z:T),xs[i]?=some z→Q i z
 | 0,_=>⟨[],rfl,fun i z h=>by simp at h⟩
 | n+1,h=>by
  obtain ⟨xs,hl,hq⟩:=k6d (Q:=Q) n fun i hi=>h i (by omega)
  obtain ⟨z,hz⟩:=h n (by omega)
  refine ⟨xs++[z],by simp [hl],fun i y hy=>?_⟩
  by_cases hi:i<n
  ·rw [List.getElem?_append_left (by omega)] at hy;exact hq i y hy
  ·rw [List.getElem?_append_right (by omega)] at hy
   have:i=n:=by have:=(List.getElem?_eq_some_iff.1 hy).1;simp at this;omega
   subst this
   simp [hl] at hy
   subst hy
   exact hz
theorem ktb {T:Type} {R:List Value→T→Prop} {t e:TypeId} {size fuel:Nat} {cs:List Value} {x:DataW H×List MemPlace} (ht:P.underlying t=some (.slice e)) (hC:P.cellsOf e=size) (hpos:0<size)
  (h:DataW.trod enc P w base spare held fuel t cs=some x) (hel:∀ n cs' y,n<fuel→DataW.trod enc P w base spare held n e cs'=some y→∃ z,R cs' z):
  ∃ v xs,cs=[v]∧RepSl Any w size R v xs:=by
 rcases DataW.trod_slice ht h with ⟨rfl,_⟩ | ⟨a,len,cap,elems,rest,n,hfu,rfl,_,_,hlc,hcm,hlen,hel',_⟩
 ·exact ⟨_,[],rfl,RepSl.nil (by omega)⟩
 ·have each:∀ i,i<len→∃ cs' z,R cs' z∧cs'.length=size∧∀ j,j<size→w.cell? ((a.add (i*size)).add j)=cs'[j]?:=fun i hi=>by
   have h1:=hel' i hi
   have h2:elems[i]?=some elems[i]:=List.getElem?_eq_getElem (by omega)
   rw [h2,hC] at h1
   obtain ⟨cs',hc,htr⟩:=qi.1 h1
   obtain ⟨_,hl,hat⟩:=World.cells?_some hc
   obtain ⟨z,hz⟩:=hel n cs' _ (by omega) htr
   exact ⟨cs',z,hz,hl,hat⟩
  obtain ⟨xs,hxl,hx⟩:=k6d (Q:=fun i z=>∃ cs',R cs' z∧cs'.length=size∧∀ j,j<size→w.cell? ((a.add (i*size)).add j)=cs'[j]?) len (fun i hi=>by
   obtain ⟨cs',z,h⟩:=each i hi;exact ⟨z,cs',h⟩)
  refine ⟨_,xs,rfl,some a,cap,by rw [hxl],by omega,by unfold maxLen at hcm;exact hcm,fun i z hz=>?_⟩
  obtain ⟨cs',hr,hl,hat⟩:=hx i z hz
  have hsp:a.spot=none:=by
   have h0:0<xs.length:=by have:=(List.getElem?_eq_some_iff.1 hz).1;omega
   obtain ⟨cs0,_,hl0,hat0⟩:=hx 0 _ (List.getElem?_eq_getElem h0)
   have h1:=hat0 0 hpos
   simp only [Nat.zero_mul,Addr.add,if_true] at h1
   rw [List.getElem?_eq_getElem (by omega)] at h1
   unfold World.cell? at h1
   split at h1
   ·split at h1
    ·cases h1
    ·rename_i hs;simpa using hs
   ·cases h1
  obtain ⟨b,o,sp⟩:=a
  simp only at hsp
  subst hsp
  refine ⟨b,o,cs',rfl,trivial,fun j u hu=>?_,hl,hr⟩
  have hj:j<size:=by have:=(List.getElem?_eq_some_iff.1 hu).1;omega
  rw [← hu,← hat j hj]
  congr 1
  unfold Addr.add
  by_cases h1:i*size=0 <;> by_cases h2:j=0 <;> simp [h1,h2,Nat.add_assoc]
end
end Go.Proofs.YtaimpcnpifoidaaGreatDoor
set_option linter.unusedVariables false
set_option linter.unusedSimpArgs false
namespace Go.Proofs.YtaimpcnpifoidaaGreatDoor
open Go Go.RowKit
inductive Va where
 | mk (type num:Int) (text:BA) (items:List Va)
namespace Va
def type:Va→Int | mk t _ _ _=>t
def num:Va→Int | mk _ n _ _=>n
def text:Va→BA | mk _ _ s _=>s
def items:Va→List Va | mk _ _ _ l=>l
theorem ind {P:Va→Prop} (h:∀ t n s l,(∀ v∈l,P v)→P (mk t n s l)) (v:Va):P v:=
 Va.rec (motive_1:=P) (motive_2:=fun l=>∀ t∈l,P t) (fun t n s l ih=>h t n s l ih) (fun _ h=>nomatch h)
  (fun t l h1 h2 x hx=>(q8.1 hx).elim (fun e=>e ▸ h1) (h2 x)) v
end Va
structure Sy where
 name:BA
 type:Int
structure Ru where
 symbol:Int
 kind:Int
 input:Int
 const:Va
 op:BA
 args:List Int
structure La where
 name:BA
 inputs:List Int
 symbols:List Sy
 rules:List Ru
def ktu (s:BA):Prop:=s.size≤9223372036854775807
section
variable {S S':Nat→Prop} {w w':World}
inductive RepVa (S:Nat→Prop) (w:World):List Value→Va→Prop where
 | mk (t n:Int) (s:BA) (kids:List Va) (A:Option Addr) (cap:Nat) (css:Nat→List Value) (ht:khm t) (hn:khm n) (hs:ktu s) (hc:kids.length≤cap) (hm:cap≤9223372036854775807)
  (hA:∀ (i:Nat) (x:Va),kids[i]?=some x→∃ b o,A=some ⟨b,o,none⟩∧S b∧At w b (o+i*4) (css i))
  (hk:∀ (i:Nat) (x:Va),kids[i]?=some x→RepVa S w (css i) x):RepVa S w [.int .i64 t, .int .i64 n, .string s, .slice A kids.length cap] (.mk t n s kids)
abbrev Vas (S:Nat→Prop) (w:World) (v:Value) (l:List Va):Prop:=RepSl S w 4 (RepVa S w) v l
theorem RepVa.len {cs:List Value} {t:Va} (h:RepVa S w cs t):cs.length=4:=by cases h;rfl
theorem RepVa.form {cs:List Value} {t n:Int} {s:BA} {l:List Va} (h:RepVa S w cs (.mk t n s l)):∃ v,cs=[.int .i64 t, .int .i64 n, .string s,v]∧khm t∧khm n∧ktu s∧Vas S w v l:=by
 cases h with
 | mk _ _ _ _ A cap css ht hn hs hc hm hA hk=>
  refine ⟨_,rfl,ht,hn,hs,A,cap,rfl,hc,hm,fun i x hx=>?_⟩
  obtain ⟨b,o,h1,h2,h3⟩:=hA i x hx
  exact ⟨b,o,css i,h1,h2,h3,(hk i x hx).len,hk i x hx⟩
theorem RepVa.of {v:Value} {t n:Int} {s:BA} {l:List Va} (ht:khm t) (hn:khm n) (hs:ktu s) (h:Vas S w v l):RepVa S w [.int .i64 t, .int .i64 n, .string s,v] (.mk t n s l):=by
 obtain ⟨A,cap,rfl,hc,hm,hx⟩:=h
 have:∀ i:Nat,∃ cs:List Value,∀ x:Va,l[i]?=some x→(∃ b o,A=some ⟨b,o,none⟩∧S b∧At w b (o+i*4) cs)∧RepVa S w cs x:=fun i=>by
  cases hi:l[i]? with
  | none=>exact ⟨[],fun x h=>by cases h⟩
  | some x=>
   obtain ⟨b,o,cs,h1,h2,h3,_,h5⟩:=hx i x hi
   exact ⟨cs,fun y hy=>by cases hy;exact ⟨⟨b,o,h1,h2,h3⟩,h5⟩⟩
 obtain ⟨css,hcss⟩:=Classical.axiomOfChoice this
 exact .mk t n s l A cap css ht hn hs hc hm (fun i x hi=>(hcss i x hi).1) (fun i x hi=>(hcss i x hi).2)
section
variable {T:Type} {size:Nat} {R:(Nat→Prop)→World→List Value→T→Prop} {v:Value} {l:List T}
end
def k2w (S:Nat→Prop) (w:World) (cs:List Value) (x:Sy):Prop:=cs=[.string x.name, .int .i64 x.type]∧ktu x.name∧khm x.type
def k2u (S:Nat→Prop) (w:World) (cs:List Value) (x:Ru):Prop:=
 ∃ c0 c1 c2 c3 v,cs=[.int .i64 x.symbol, .int .i64 x.kind, .int .i64 x.input,c0,c1,c2,c3, .string x.op,v]∧khm x.symbol∧khm x.kind∧khm x.input∧ktu x.op∧RepVa S w [c0,c1,c2,c3] x.const∧Ints S w v x.args
abbrev Sys (S:Nat→Prop) (w:World) (v:Value) (l:List Sy):Prop:=RepSl S w 2 (k2w S w) v l
abbrev Rus (S:Nat→Prop) (w:World) (v:Value) (l:List Ru):Prop:=RepSl S w 9 (k2u S w) v l
def kagr (S:Nat→Prop) (w:World) (cs:List Value) (x:La):Prop:=
 ∃ v1 v2 v3,cs=[.string x.name,v1,v2,v3]∧ktu x.name∧Ints S w v1 x.inputs∧Sys S w v2 x.symbols∧Rus S w v3 x.rules
def LaV (S:Nat→Prop) (w:World) (v:Value) (x:La):Prop:=∃ cs:List Value,v = .agg cs.toArray∧kagr S w cs x
end
end Go.Proofs.YtaimpcnpifoidaaGreatDoor
set_option linter.unusedVariables false
set_option linter.unusedSimpArgs false
namespace Go.Proofs.YtaimpcnpifoidaaGreatDoor
open Go Go.RowKit
mutual
def eVaR:Va→FV
 | .mk t n s l => .agg [eI t,eI n,eS s, .lst 4 l.length (kt7 l)]
def kt7:List Va→List FV
 | []=>[]
 | x::l=>eVaR x::kt7 l
end
def eVa (x:Va):FV := .agg [eI x.type,eI x.num,eS x.text,eL 4 eVaR x.items]
theorem kx3:∀ l:List Va,kt7 l=l.map eVaR
 | []=>by simp [kt7]
 | x::l=>by simp [kt7,kx3 l]
theorem kl6 (x:Va):eVaR x=eVa x:=by
 cases x;simp [eVaR,eVa,kx3,eL,Va.type,Va.num,Va.text,Va.items]
theorem ky8 (x:Va):(eVaR x).cells=(eVa x).cells:=by rw [kl6]
theorem k3x (x:Va):(eVaR x).cells.length=4:=by rw [kl6];rfl
mutual
def eTmR:Tm→FV
 | .mk r l => .agg [eI r, .lst 2 l.length (kuh l)]
def kuh:List Tm→List FV
 | []=>[]
 | x::l=>eTmR x::kuh l
end
def eTm (x:Tm):FV := .agg [eI x.rule,eL 2 eTmR x.args]
theorem kx9:∀ l:List Tm,kuh l=l.map eTmR
 | []=>by simp [kuh]
 | x::l=>by simp [kuh,kx9 l]
theorem koq (x:Tm):eTmR x=eTm x:=by
 cases x;simp [eTmR,eTm,kx9,eL,Tm.rule,Tm.args]
theorem k80 (x:Tm):(eTmR x).cells=(eTm x).cells:=by rw [koq]
theorem kac3 (x:Tm):(eTmR x).cells.length=2:=by rw [koq];rfl
def eSy (x:Sy):FV := .agg [eS x.name,eI x.type]
def eRu (x:Ru):FV := .agg [eI x.symbol,eI x.kind,eI x.input,eI x.const.type,eI x.const.num,eS x.const.text,eL 4 eVaR x.const.items,eS x.op,eL 1 eI x.args]
def eLa (x:La):FV := .agg [eS x.name,eL 1 eI x.inputs,eL 2 eSy x.symbols,eL 9 eRu x.rules]
end Go.Proofs.YtaimpcnpifoidaaGreatDoor
set_option linter.unusedVariables false
set_option linter.unusedSimpArgs false
namespace Go.Proofs.YtaimpcnpifoidaaGreatDoor
open Go Go.RowKit Go.ChangeShapes Go.WideShapes Go.ChangeAt Go.ChangeMaps
section
variable {T:Type} {P:Program} {H:Type} {enc:TypeId×Value→H} {w:World} {base:Nat} {spare:Nat→Bool} {held:Bool}
theorem kw2 {R:List Value→T→Prop} {ec:T→FV} {size:Nat} {v:Value} {xs:List T} (hz:0<size) (h:RepSl Any w size R v xs)
  (hR:∀ cs x,x∈xs→R cs x→(ec x).cells.length=size∧(∀ y∈(ec x).cells,y.single=true)∧∀ (j:Nat) (u:Value) (y:FV),cs[j]?=some u→(ec x).cells[j]?=some y→RF Any w u y):RF Any w v (eL size ec xs):=by
 obtain ⟨A,cap,rfl,h1,h2,h3⟩:=h
 have h3':∀ i:Nat,∃ cs:List Value,∀ x,xs[i]?=some x→∃ b o,A=some ⟨b,o,none⟩∧At w b (o+i*size) cs∧cs.length=size∧R cs x:=fun i=>by
  cases hx:xs[i]? with
  | none=>exact ⟨[],fun x h=>by cases h⟩
  | some x=>
   obtain ⟨b,o,cs,e1,_,e2,e3,e4⟩:=h3 i x hx
   exact ⟨cs,fun y hy=>by injection hy with hy;subst hy;exact ⟨b,o,e1,e2,e3,e4⟩⟩
 obtain ⟨css,hcss⟩:=Classical.axiomOfChoice h3'
 refine .lst css (by simp) h1 h2 hz (fun i x hx=>?_) (fun i x hx=>?_) fun i x j v y hx hv hy=>?_
 ·simp only [List.getElem?_map,qj] at hx
  obtain ⟨z,hz',rfl⟩:=hx
  obtain ⟨b,o,e1,e2,_⟩:=hcss i z hz'
  exact ⟨b,o,e1,trivial,e2⟩
 ·simp only [List.getElem?_map,qj] at hx
  obtain ⟨z,hz',rfl⟩:=hx
  obtain ⟨b,o,e1,e2,e3,e4⟩:=hcss i z hz'
  obtain ⟨g1,g2,_⟩:=hR _ z (qt hz') e4
  exact ⟨e3,g1,g2⟩
 ·simp only [List.getElem?_map,qj] at hx
  obtain ⟨z,hz',rfl⟩:=hx
  obtain ⟨b,o,e1,e2,e3,e4⟩:=hcss i z hz'
  exact (hR _ z (qt hz') e4).2.2 j v y hv hy
theorem kakb {x:Value} {cs:List Value} (hcs:cs=[x]) (hx:x.oneCell'=true):(FV.atom x).cells.length=1∧(∀ y∈(FV.atom x).cells,y.single=true)∧∀ (j:Nat) (u:Value) (y:FV),cs[j]?=some u→(FV.atom x).cells[j]?=some y→RF Any w u y:=by
 subst hcs
 refine ⟨rfl,fun y hy=>?_,fun j u y hu hy=>?_⟩
 ·simp [FV.cells] at hy
  subst hy
  exact hx
 ·cases j with
  | zero=>
   simp [FV.cells] at hu hy
   subst hu hy
   exact .atom hx
  | succ j=>simp at hu
end
end Go.Proofs.YtaimpcnpifoidaaGreatDoor
