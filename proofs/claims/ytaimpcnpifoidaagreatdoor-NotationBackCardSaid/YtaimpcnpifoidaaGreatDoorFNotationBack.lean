/- NotationBack: the law returns true for every input where the listed tables hold what the program lays into them. -/
import Derived.Test.YtaimpcnpifoidaaGreatDoorFin
import Derived.Deep.Fields
import Derived.Test.YtaimpcnpifoidaaGreatDoorTm
import Derived.Test.YtaimpcnpifoidaaGreatDoorGu
import Derived.ChangeMaps5
import Derived.JoinedOf
import Derived.Test.YtaimpcnpifoidaaGreatDoorRows
import Derived.Test.YtaimpcnpifoidaaGreatDoorBe
import Derived.Test.YtaimpcnpifoidaaGreatDoorCards
import Derived.Test.YtaimpcnpifoidaaGreatDoorTie
import Derived.Test.YtaimpcnpifoidaaGreatDoorGl
import Derived.SevenTiedAt
set_option linter.unusedVariables false
set_option linter.unusedSimpArgs false
set_option maxRecDepth 100000
namespace Go.Proofs.YtaimpcnpifoidaaGreatDoor
open Go Go.RowKit Go.ChangeShapes Go.WideShapes Go.ChangeAt
theorem ky0 {n:Int} (h:(Lit.int .i64 n).wf=true):khm n:=by
 simpa [Lit.wf,IntKind.min,IntKind.max,IntKind.signed,IntKind.bits,khm] using h
section
variable {H:Type} {enc:TypeId×Value→H} {w:World} {base:Nat} {spare:Nat→Bool} {held:Bool}
theorem cells_ty:Tryz.prog.cellsOf 3=1∧Tryz.prog.cellsOf 2=1∧Tryz.prog.cellsOf 9=1∧Tryz.prog.cellsOf 22=1∧Tryz.prog.cellsOf 41=1∧Tryz.prog.cellsOf 23=1∧Tryz.prog.cellsOf 24=1 ∧
  Tryz.prog.cellsOf 43=4∧Tryz.prog.cellsOf 92=2∧Tryz.prog.cellsOf 45=9∧Tryz.prog.cellsOf 26=4:=⟨by kernel_rfl,by kernel_rfl,by kernel_rfl,by kernel_rfl,by kernel_rfl,by kernel_rfl,by kernel_rfl,by kernel_rfl,by kernel_rfl,by kernel_rfl,by kernel_rfl⟩
theorem kt3 {fuel:Nat} {cs:List Value} {x:DataW H×List MemPlace} (h:DataW.trod enc Tryz.prog w base spare held fuel 9 cs=some x):∃ s,cs=[.string s]∧ktu s:=by
 obtain ⟨s,hs,_,hl⟩:=DataW.trod_string Tryz.underlying9 h
 exact ⟨s,hs,by unfold maxLen at hl;exact hl⟩
theorem koh {fuel:Nat} {cs:List Value} {x:DataW H×List MemPlace} (h:DataW.trod enc Tryz.prog w base spare held fuel 3 cs=some x):∃ n,cs=[.int .i64 n]∧khm n:=by
 obtain ⟨n,hn,_,hwf⟩:=DataW.trod_int Tryz.underlying3 h
 exact ⟨n,hn,ky0 hwf⟩
theorem kacp {fuel:Nat} {cs:List Value} {x:DataW H×List MemPlace} (h:DataW.trod enc Tryz.prog w base spare held fuel 2 cs=some x):∃ n,cs=[.int .i64 n]∧khm n:=by
 obtain ⟨n,hn,_,hwf⟩:=DataW.trod_int Tryz.underlying2 h
 exact ⟨n,hn,ky0 hwf⟩
theorem kze {fuel:Nat} {cs:List Value} {x:DataW H×List MemPlace} (h:DataW.trod enc Tryz.prog w base spare held fuel 22 cs=some x):∃ v ns,cs=[v]∧Ints Any w v ns:=
 ktb (R:=IntR) (size:=1) Tryz.underlying22 cells_ty.1 (by omega) h fun n cs' y _ hy=>by
  obtain ⟨k,h1,h2⟩:=koh hy
  exact ⟨k,h1,h2⟩
theorem k9w:∀ (fuel:Nat) (cs:List Value) (x:DataW H×List MemPlace),DataW.trod enc Tryz.prog w base spare held fuel 43 cs=some x→∃ t,RepVa Any w cs t:=by
 obtain ⟨z1,z2,z3,z4,z5,z6,z7,z8,z9,z10,z11⟩:=cells_ty
 intro fuel
 induction fuel using Nat.strongRecOn with
 | _ fuel ih=>
  intro cs x h
  obtain ⟨xs,n,hfu,_,hlen,hxl,hf⟩:=DataW.trod_struct Tryz.underlying43 h
  rw [z8] at hlen
  match cs,hlen with
  | [c0,c1,c2,c3],_=>
   have h0:=hf 0 _ rfl
   have h1:=hf 1 _ rfl
   have h2:=hf 2 _ rfl
   have h3:=hf 3 _ rfl
   rw [List.getElem?_eq_getElem (by rw [hxl];decide)] at h0 h1 h2 h3
   obtain ⟨t,e0,ht⟩:=koh h0
   obtain ⟨m,e1,hm⟩:=kacp h1
   obtain ⟨s,e2,hs⟩:=kt3 h2
   obtain ⟨v,ts,e3,hV⟩:=ktb (R:=RepVa Any w) (size:=4) Tryz.underlying41 z8 (by omega) h3 fun k cs' y hk hy=>ih k (by omega) cs' y hy
   simp [z1,z2,z3,z4,z5,z6,z7,z8] at e0 e1 e2 e3
   subst e0 e1 e2 e3
   exact ⟨.mk t m s ts,RepVa.of ht hm hs hV⟩
theorem k58 {fuel:Nat} {cs:List Value} {x:DataW H×List MemPlace} (h:DataW.trod enc Tryz.prog w base spare held fuel 92 cs=some x):∃ t,k2w Any w cs t:=by
 obtain ⟨z1,z2,z3,z4,z5,z6,z7,z8,z9,z10,z11⟩:=cells_ty
 obtain ⟨xs,n,hfu,_,hlen,hxl,hf⟩:=DataW.trod_struct Tryz.underlying92 h
 rw [z9] at hlen
 match cs,hlen with
 | [c0,c1],_=>
  have h0:=hf 0 _ rfl
  have h1:=hf 1 _ rfl
  rw [List.getElem?_eq_getElem (by rw [hxl];decide)] at h0 h1
  obtain ⟨s,e0,hs⟩:=kt3 h0
  obtain ⟨t,e1,ht⟩:=koh h1
  simp [z1,z2,z3,z4,z5,z6,z7,z8] at e0 e1
  subst e0 e1
  exact ⟨⟨s,t⟩,rfl,hs,ht⟩
theorem kack {fuel:Nat} {cs:List Value} {x:DataW H×List MemPlace} (h:DataW.trod enc Tryz.prog w base spare held fuel 45 cs=some x):∃ t,k2u Any w cs t:=by
 obtain ⟨z1,z2,z3,z4,z5,z6,z7,z8,z9,z10,z11⟩:=cells_ty
 obtain ⟨xs,n,hfu,_,hlen,hxl,hf⟩:=DataW.trod_struct Tryz.underlying45 h
 rw [z10] at hlen
 match cs,hlen with
 | [c0,c1,c2,c3,c4,c5,c6,c7,c8],_=>
  have h0:=hf 0 _ rfl
  have h1:=hf 1 _ rfl
  have h2:=hf 2 _ rfl
  have h3:=hf 3 _ rfl
  have h4:=hf 4 _ rfl
  have h5:=hf 5 _ rfl
  rw [List.getElem?_eq_getElem (by rw [hxl];decide)] at h0 h1 h2 h3 h4 h5
  obtain ⟨a,e0,ha⟩:=koh h0
  obtain ⟨b,e1,hb⟩:=koh h1
  obtain ⟨c,e2,hc⟩:=koh h2
  obtain ⟨v,hv⟩:=k9w _ _ _ h3
  obtain ⟨s,e4,hs⟩:=kt3 h4
  obtain ⟨u,ns,e5,hns⟩:=kze h5
  simp [z1,z2,z3,z4,z5,z6,z7,z8] at e0 e1 e2 e4 e5 hv
  subst e0 e1 e2 e4 e5
  exact ⟨⟨a,b,c,v,s,ns⟩,c3,c4,c5,c6,_,rfl,ha,hb,hc,hs,hv,hns⟩
theorem k2j {fuel:Nat} {cs:List Value} {x:DataW H×List MemPlace} (h:DataW.trod enc Tryz.prog w base spare held fuel 26 cs=some x):∃ t,kagr Any w cs t:=by
 obtain ⟨z1,z2,z3,z4,z5,z6,z7,z8,z9,z10,z11⟩:=cells_ty
 obtain ⟨xs,n,hfu,_,hlen,hxl,hf⟩:=DataW.trod_struct Tryz.underlying26 h
 rw [z11] at hlen
 match cs,hlen with
 | [c0,c1,c2,c3],_=>
  have h0:=hf 0 _ rfl
  have h1:=hf 1 _ rfl
  have h2:=hf 2 _ rfl
  have h3:=hf 3 _ rfl
  rw [List.getElem?_eq_getElem (by rw [hxl];decide)] at h0 h1 h2 h3
  obtain ⟨s,e0,hs⟩:=kt3 h0
  obtain ⟨v1,n1,e1,hv1⟩:=kze h1
  obtain ⟨v2,n2,e2,hv2⟩:=ktb (R:=k2w Any w) (size:=2) Tryz.underlying23 z9 (by omega) h2 fun k cs' y hk hy=>k58 hy
  obtain ⟨v3,n3,e3,hv3⟩:=ktb (R:=k2u Any w) (size:=9) Tryz.underlying24 z10 (by omega) h3 fun k cs' y hk hy=>kack hy
  simp [z1,z2,z3,z4,z5,z6,z7,z8] at e0 e1 e2 e3
  subst e0 e1 e2 e3
  exact ⟨⟨s,n1,n2,n3⟩,_,_,_,rfl,hs,hv1,hv2,hv3⟩
theorem k01 {r:Reach} {b0:Nat} {v:Value} {d:DataW H} {p:List MemPlace} (hv:Value.okWide Tryz.prog w r b0 26 v) (h:DataW.Trod enc Tryz.prog w base spare held 26 v d p):∃ t,LaV Any w v t:=by
 obtain ⟨cs,rfl,hsz⟩:=okWide_struct Tryz.underlying26 hv
 obtain ⟨fuel,hf⟩:=h
 obtain ⟨t,ht⟩:=k2j hf
 exact ⟨t,cs.toList,by simp,by simpa [Value.cells] using ht⟩
end
end Go.Proofs.YtaimpcnpifoidaaGreatDoor
set_option linter.unusedVariables false
set_option linter.unusedSimpArgs false
set_option maxRecDepth 100000
namespace Go.Proofs.YtaimpcnpifoidaaGreatDoor
open Go Go.RowKit Go.ChangeShapes Go.WideShapes Go.ChangeAt
theorem kaa9 {n:Int} (h:(Lit.int .i64 n).wf=true):khm n:=by
 simpa [Lit.wf,IntKind.min,IntKind.max,IntKind.signed,IntKind.bits,khm] using h
section
variable {H:Type} {enc:TypeId×Value→H} {w:World} {base:Nat} {spare:Nat→Bool} {held:Bool}
theorem kuo:Tryz.prog.cellsOf 29=2:=by kernel_rfl
theorem kacg:Tryz.prog.cellsOf 3=1:=by kernel_rfl
theorem k5u:Tryz.prog.cellsOf 27=1:=by kernel_rfl
theorem kacw:∀ (fuel:Nat) (cs:List Value) (x:DataW H×List MemPlace),DataW.trod enc Tryz.prog w base spare held fuel 29 cs=some x→∃ t,RepTm Any w cs t:=by
 intro fuel
 induction fuel using Nat.strongRecOn with
 | _ fuel ih=>
  intro cs x h
  obtain ⟨xs,n,hfu,_,hlen,hxl,hf⟩:=DataW.trod_struct Tryz.underlying29 h
  rw [kuo] at hlen
  match cs,hlen with
  | [c0,c1],_=>
   have h0:=hf 0 _ rfl
   have h1:=hf 1 _ rfl
   have e0:xs[0]?=some (xs[0]'(by rw [hxl];decide)):=List.getElem?_eq_getElem _
   have e1:xs[1]?=some (xs[1]'(by rw [hxl];decide)):=List.getElem?_eq_getElem _
   rw [e0] at h0
   rw [e1] at h1
   obtain ⟨r,hr0,_,hwf⟩:=DataW.trod_int Tryz.underlying3 h0
   obtain ⟨v,ts,hv,hs⟩:=ktb (R:=RepTm Any w) (size:=2) Tryz.underlying27 kuo (by omega) h1 fun m cs' y hm hy=>ih m (by omega) cs' y hy
   have h00:c0 = .int .i64 r:=by simpa [kacg] using hr0
   have h11:c1=v:=by simpa [k5u] using hv
   subst h00 h11
   exact ⟨.mk r ts,RepTm.of (kaa9 hwf) hs⟩
theorem k8a {r:Reach} {b0:Nat} {v:Value} {d:DataW H} {p:List MemPlace} (hv:Value.okWide Tryz.prog w r b0 29 v) (h:DataW.Trod enc Tryz.prog w base spare held 29 v d p):∃ t,TmV Any w v t:=by
 obtain ⟨cs,rfl,hsz⟩:=okWide_struct Tryz.underlying29 hv
 obtain ⟨fuel,hf⟩:=h
 obtain ⟨t,ht⟩:=kacw fuel _ _ hf
 rw [kuo] at hsz
 obtain ⟨l⟩:=cs
 match l,hsz with
 | [c0,c1],_=>exact ⟨t,c0,c1,rfl,ht⟩
end
end Go.Proofs.YtaimpcnpifoidaaGreatDoor
set_option linter.unusedVariables false
set_option linter.unusedSimpArgs false
set_option maxRecDepth 100000
namespace Go.Proofs.YtaimpcnpifoidaaGreatDoor
open Go Go.RowKit Go.ChangeShapes Go.WideShapes Go.ChangeAt
section
variable {w:World}
def CR (w:World) (cs:List Value) (x:FV) (size:Nat):Prop:=x.cells.length=size∧(∀ y∈x.cells,y.single=true)∧∀ (j:Nat) (u:Value) (y:FV),cs[j]?=some u→x.cells[j]?=some y→RF Any w u y
theorem ksr {cs:List Value} {xs:List FV} (hl:cs.length=xs.length) (h:∀ (j:Nat) (y:FV),xs[j]?=some y→y.single=true∧∀ u,cs[j]?=some u→RF Any w u y):CR w cs (.agg xs) xs.length:=by
 refine ⟨rfl,fun y hy=>?_,fun j u y hu hy=>(h j y hy).2 u hu⟩
 obtain ⟨j,hj⟩:=qa4.1 hy
 exact (h j y hj).1
theorem k7m {v:Value} {ns:List Int} (h:Ints Any w v ns):RF Any w v (eL 1 eI ns):=
 kw2 (R:=IntR) (by omega) h fun cs x _ hx=>kakb hx.1 rfl
theorem kag4:∀ (x:Va) (cs:List Value),RepVa Any w cs x→CR w cs (eVaR x) 4∧inV x:=by
 refine Va.ind fun t n s l ih=>?_
 intro cs h
 obtain ⟨v,rfl,ht,hn,hs,hv⟩:=h.form
 have hrf:RF Any w v (.lst 4 l.length (kt7 l)):=by
  have:=kw2 (ec:=eVaR) (size:=4) (by omega) hv fun cs x hx hr=>(ih x hx cs hr).1
  rw [kx3]
  have he:eL 4 eVaR l = .lst 4 l.length (l.map eVaR):=rfl
  rw [← he]
  exact this
 refine ⟨ksr (xs:=[eI t,eI n,eS s, .lst 4 l.length (kt7 l)]) rfl fun j y hy=>?_,?_⟩
 ·match j with
  | 0=>simp at hy;subst hy;exact ⟨rfl,fun u hu=>by simp at hu;subst hu;exact .atom rfl⟩
  | 1=>simp at hy;subst hy;exact ⟨rfl,fun u hu=>by simp at hu;subst hu;exact .atom rfl⟩
  | 2=>simp at hy;subst hy;exact ⟨rfl,fun u hu=>by simp at hu;subst hu;exact .atom rfl⟩
  | 3=>simp at hy;subst hy;exact ⟨rfl,fun u hu=>by simp at hu;subst hu;exact hrf⟩
  | j+4=>simp at hy
 ·obtain ⟨A,cap,_,h1,h2,h3⟩:=hv
  have all:∀ x∈l,inV x:=fun x hx=>by
   obtain ⟨i,hi⟩:=qa4.1 hx
   obtain ⟨b,o,cs,_,_,_,_,hr⟩:=h3 i x hi
   exact (ih x hx cs hr).2
  have gen:∀ l:List Va,(∀ x∈l,inV x)→kqy 9223372036854775807 l∧kws l:=fun l=>by
   induction l with
   | nil=>exact fun _=>⟨trivial,trivial⟩
   | cons y l ih=>exact fun h=>⟨⟨(h y (qo ..)).1,(ih fun z hz=>h z (qk _ hz)).1⟩,(h y (qo ..)).2,(ih fun z hz=>h z (qk _ hz)).2⟩
  obtain ⟨g1,g2⟩:=gen l all
  exact ⟨⟨by omega,g1⟩,hs,g2⟩
theorem sy_cr {cs:List Value} {x:Sy} (h:k2w Any w cs x):CR w cs (eSy x) 2:=by
 obtain ⟨rfl,hs,ht⟩:=h
 refine ksr (xs:=[eS x.name,eI x.type]) rfl fun j y hy=>?_
 match j with
 | 0=>simp at hy;subst hy;exact ⟨rfl,fun u hu=>by simp at hu;subst hu;exact .atom rfl⟩
 | 1=>simp at hy;subst hy;exact ⟨rfl,fun u hu=>by simp at hu;subst hu;exact .atom rfl⟩
 | j+2=>simp at hy
theorem kagv {cs:List Value} {x:Ru} (h:k2u Any w cs x):CR w cs (eRu x) 9∧kru x:=by
 obtain ⟨c0,c1,c2,c3,v,rfl,h1,h2,h3,h4,h5,h6⟩:=h
 obtain ⟨k,kw⟩:=kag4 _ _ h5
 obtain ⟨sy,kd,inp,c,op,ar⟩:=x
 obtain ⟨t,n,s,l⟩:=c
 obtain ⟨v',hcs,ht,hn,hs,hv⟩:=h5.form
 simp only [List.cons.injEq,and_true] at hcs
 obtain ⟨rfl,rfl,rfl,rfl⟩:=hcs
 have hrf:RF Any w c3 (eL 4 eVaR l):=kw2 (ec:=eVaR) (size:=4) (by omega) hv fun cs x hx hr=>(kag4 x cs hr).1
 refine ⟨ksr (xs:=[eI sy,eI kd,eI inp,eI t,eI n,eS s,eL 4 eVaR l,eS op,eL 1 eI ar]) rfl fun j y hy=>?_,(by obtain ⟨A,cap,_,q1,q2,_⟩:=h6;exact qaw q1 q2),kw⟩
 match j with
 | 0=>simp at hy;subst hy;exact ⟨rfl,fun u hu=>by simp at hu;subst hu;exact .atom rfl⟩
 | 1=>simp at hy;subst hy;exact ⟨rfl,fun u hu=>by simp at hu;subst hu;exact .atom rfl⟩
 | 2=>simp at hy;subst hy;exact ⟨rfl,fun u hu=>by simp at hu;subst hu;exact .atom rfl⟩
 | 3=>simp at hy;subst hy;exact ⟨rfl,fun u hu=>by simp at hu;subst hu;exact .atom rfl⟩
 | 4=>simp at hy;subst hy;exact ⟨rfl,fun u hu=>by simp at hu;subst hu;exact .atom rfl⟩
 | 5=>simp at hy;subst hy;exact ⟨rfl,fun u hu=>by simp at hu;subst hu;exact .atom rfl⟩
 | 6=>simp at hy;subst hy;exact ⟨rfl,fun u hu=>by simp at hu;subst hu;exact hrf⟩
 | 7=>simp at hy;subst hy;exact ⟨rfl,fun u hu=>by simp at hu;subst hu;exact .atom rfl⟩
 | 8=>simp at hy;subst hy;exact ⟨rfl,fun u hu=>by simp at hu;subst hu;exact k7m h6⟩
 | j+9=>simp at hy
theorem kacu {cs:List Value} {xs:List FV} (hl:cs.length=xs.length) (h:CR w cs (.agg xs) xs.length):RF Any w (.agg cs.toArray) (.agg xs):=
 .agg (by simpa using hl) (fun x hx=>h.2.1 x hx) fun i v x hv hx=>h.2.2 i v x (by simpa using hv) hx
theorem la_rf {v:Value} {x:La} (h:LaV Any w v x):RF Any w v (eLa x)∧khu x:=by
 obtain ⟨cs,rfl,v1,v2,v3,rfl,hn,h1,h2,h3⟩:=h
 have r1:=k7m h1
 have r2:RF Any w v2 (eL 2 eSy x.symbols):=kw2 (ec:=eSy) (size:=2) (by omega) h2 fun cs x _ hr=>sy_cr hr
 have r3:RF Any w v3 (eL 9 eRu x.rules):=kw2 (ec:=eRu) (size:=9) (by omega) h3 fun cs x _ hr=>(kagv hr).1
 refine ⟨kacu (xs:=[eS x.name,eL 1 eI x.inputs,eL 2 eSy x.symbols,eL 9 eRu x.rules]) rfl (ksr rfl fun j y hy=>?_),?_⟩
 ·match j with
  | 0=>simp at hy;subst hy;exact ⟨rfl,fun u hu=>by simp at hu;subst hu;exact .atom rfl⟩
  | 1=>simp at hy;subst hy;exact ⟨rfl,fun u hu=>by simp at hu;subst hu;exact r1⟩
  | 2=>simp at hy;subst hy;exact ⟨rfl,fun u hu=>by simp at hu;subst hu;exact r2⟩
  | 3=>simp at hy;subst hy;exact ⟨rfl,fun u hu=>by simp at hu;subst hu;exact r3⟩
  | j+4=>simp at hy
 ·refine ⟨hn,?_,?_,?_,fun y hy=>?_,fun r hr=>?_⟩
  ·obtain ⟨A,cap,_,q1,q2,_⟩:=h1;exact qaw q1 q2
  ·obtain ⟨A,cap,_,q1,q2,_⟩:=h2;exact qaw q1 q2
  ·obtain ⟨A,cap,_,q1,q2,_⟩:=h3;exact qaw q1 q2
  ·obtain ⟨A,cap,_,_,_,hx⟩:=h2
   obtain ⟨i,hi⟩:=qa4.1 hy
   obtain ⟨b,o,cs,_,_,_,_,hq⟩:=hx i y hi
   exact hq.2.1
  ·obtain ⟨A,cap,_,_,_,hx⟩:=h3
   obtain ⟨i,hi⟩:=qa4.1 hr
   obtain ⟨b,o,cs,_,_,_,_,hq⟩:=hx i r hi
   exact (kagv hq).2
theorem tm_cr:∀ (x:Tm) (cs:List Value),RepTm Any w cs x→CR w cs (eTmR x) 2:=by
 refine Tm.ind fun r l ih=>?_
 intro cs h
 obtain ⟨v,rfl,hr,hv⟩:=h.form
 have hrf:RF Any w v (.lst 2 l.length (kuh l)):=by
  have:=kw2 (ec:=eTmR) (size:=2) (by omega) hv fun cs x hx hr=>ih x hx cs hr
  rw [kx9]
  have he:eL 2 eTmR l = .lst 2 l.length (l.map eTmR):=rfl
  rw [← he]
  exact this
 refine ksr (xs:=[eI r, .lst 2 l.length (kuh l)]) rfl fun j y hy=>?_
 match j with
 | 0=>simp at hy;subst hy;exact ⟨rfl,fun u hu=>by simp at hu;subst hu;exact .atom rfl⟩
 | 1=>simp at hy;subst hy;exact ⟨rfl,fun u hu=>by simp at hu;subst hu;exact hrf⟩
 | j+2=>simp at hy
theorem tm_rf {v:Value} {x:Tm} (h:TmV Any w v x):RF Any w v (eTm x):=by
 obtain ⟨c0,c1,rfl,hr⟩:=h
 have k:=tm_cr x _ hr
 rw [koq] at k
 exact kacu (cs:=[c0,c1]) (xs:=[eI x.rule,eL 2 eTmR x.args]) rfl k
end
section
variable {H:Type} {enc:TypeId×Value→H} {w:World} {base:Nat} {spare:Nat→Bool} {held:Bool}
theorem in_La {r:Reach} {b0:Nat} {v:Value} {d:DataW H} {p:List MemPlace} (hv:Value.okWide Tryz.prog w r b0 26 v) (h:DataW.Trod enc Tryz.prog w base spare held 26 v d p):∃ x,RF Any w v (eLa x)∧khu x:=by
 obtain ⟨x,hx⟩:=k01 hv h
 exact ⟨x,la_rf hx⟩
theorem in_Tm {r:Reach} {b0:Nat} {v:Value} {d:DataW H} {p:List MemPlace} (hv:Value.okWide Tryz.prog w r b0 29 v) (h:DataW.Trod enc Tryz.prog w base spare held 29 v d p):∃ x,RF Any w v (eTm x)∧True:=by
 obtain ⟨x,hx⟩:=k8a hv h
 exact ⟨x,tm_rf hx,trivial⟩
end
end Go.Proofs.YtaimpcnpifoidaaGreatDoor
set_option linter.unusedVariables false
set_option linter.unusedSimpArgs false
set_option maxRecDepth 100000
namespace Go.Proofs.YtaimpcnpifoidaaGreatDoor
open Go Go.RowKit Go.ChangeShapes Go.WideShapes
theorem kaj5:laidOutB Tryz.checked.prog=true:=by as_aux_lemma=>kernel_rfl
theorem kai2:mapsRowed Tryz.checked.prog=true:=by as_aux_lemma=>kernel_rfl
theorem kajo:Tryz.checked.prog.stopsHeard=true:=by as_aux_lemma=>kernel_rfl
end Go.Proofs.YtaimpcnpifoidaaGreatDoor
set_option linter.unusedVariables false
set_option linter.unusedSimpArgs false
set_option maxRecDepth 100000
namespace Go.Proofs.YtaimpcnpifoidaaGreatDoor
open Go Go.RowKit Go.ChangeShapes Go.WideShapes
theorem k8e:Tryz.checked.prog.mayEnter=true:=by as_aux_lemma=>kernel_rfl
end Go.Proofs.YtaimpcnpifoidaaGreatDoor
set_option linter.unusedVariables false
set_option linter.unusedSimpArgs false
set_option maxRecDepth 100000
namespace Go.Proofs.YtaimpcnpifoidaaGreatDoor
open Go Go.RowKit Go.ChangeShapes Go.WideShapes
theorem kaj9:Tryz.checked.prog.make=some .cut:=by as_aux_lemma=>kernel_rfl
end Go.Proofs.YtaimpcnpifoidaaGreatDoor
set_option linter.unusedVariables false
set_option linter.unusedSimpArgs false
namespace Go.Proofs.YtaimpcnpifoidaaGreatDoor
open Go Go.RowKit Go.ChangeShapes Go.WideShapes Go.ChangeAt
set_option maxRecDepth 100000 in
theorem ku5 (os:Os) (started:os.Started) (H:Type) (enc:TypeId×Value→H):
  ReturnsInHanded {} Tryz.checked os 5 .any (fun w args=>(Rows.notationBackSpec.pre enc Tryz.prog Tryz.f5 Rows.notationBackRow.domain false w args∧laidMetH Tryz.prog Rows.notationBackRow.laid w)∧sizedMet enc Tryz.prog Tryz.f5 (OpenSpec.ofChange Rows.notationBackSpec) false w args) (Rows.notationBackSpec.post enc Tryz.prog Tryz.f5 false true false false):=by
 refine kvo (C:=Tryz.checked) (X:=fun w _=>laidMetH Tryz.prog kwk w) (fun _ _ _ hh h=>h.of_heap hh) kadn started (by kernel_rfl) Tryz.func5
  (ChangeSpec.witness_at (enc:=enc) (C:=Tryz.checked) (os:=os) (X:=fun w _=>laidMetH Tryz.prog kwk w) false (k1g os) #[.agg #[.string ⟨#[]⟩, .slice none 0 0, .slice none 0 0, .slice none 0 0], .agg #[.int .i64 0, .slice none 0 0]] 8 rfl (by kernel_rfl) (by kernel_rfl) (by kernel_rfl) (by kernel_rfl) (by kernel_rfl) (k2l os _)) ?_
 intro W base args ds gs before hval0 hW hL hsh
 have hval:∀ (j:Nat) t v,Tryz.f5.params[j]?=some t→args[j]?=some v→Value.okWide Tryz.prog W .any base t v:=hval0
 have hW':=hW
 obtain ⟨p,q,hA0,hV,rfl,hfz,hnd⟩:=hW
 have hA:DataW.TrodAll enc Tryz.prog W 0 (fun _=>true) true Tryz.f5.params.toList args.toList ds p:=hA0
 rw [Tryz.params5] at hA hval
 obtain ⟨v0,vs0,d0,ds0,p0,q0,hargs,rfl,rfl,h0,r0⟩:=trodAll_cons hA
 obtain ⟨v1,vs1,d1,ds1,p1,q1,rfl,rfl,rfl,h1,r1⟩:=trodAll_cons r0
 obtain ⟨rfl,rfl,rfl⟩:=trodAll_nil r1
 obtain rfl:args=#[v0,v1]:=by cases args;simp_all
 obtain ⟨rfl,rfl⟩:=trodVars_none hV
 obtain ⟨x0,e0,b0⟩:=in_La (hval 0 26 v0 rfl rfl) h0
 obtain ⟨x1,e1,_⟩:=in_Tm (hval 1 29 v1 rfl rfl) h1
 have b1:=kaio e1
 refine (k8m (args:=[eLa x0,eTm x1]) (km5 x0 x1 true (kx2 x0 x1 b0 b1)) rfl ?_ (kako hL hsh)).mono fun e W' ⟨he,hg⟩=>?_
 ·intro i v x hv hx
  match i with
  | 0=>simp at hv hx;subst hv hx;exact e0
  | 1=>simp at hv hx;subst hv hx;exact e1
  | i+2=>simp at hv
 subst he
 exact ⟨_,rfl,kae8 kafb (by rw [Tryz.params5];intro t ht;simp at ht;rcases ht with rfl | rfl <;> exact ⟨by kernel_rfl,q9 (by kernel_rfl)⟩) rfl Tryz.underlying4 rfl rfl hW' hg⟩
set_option maxHeartbeats 4000000 in
theorem ku9:joinedFacts Tryz.checked.prog 5 Tryz.f5 Rows.notationBackSpec Rows.notationBackRow=true:=by
 unfold joinedFacts
 simp only [k8e,kaid,kaj9,kaj5,kai2,kajo,qu,Bool.and_true]
 repeat' apply And.intro
 all_goals (as_aux_lemma=>kernel_rfl)
theorem kva:Rows.NotationBackSaid:=
 OpenClaim.holds_of_wide 5 Tryz.f5 rfl rfl rfl rfl rfl rfl rfl ⟨rfl,rfl,rfl,rfl,rfl⟩ rfl rfl rfl rfl rfl (by kernel_rfl) Tryz.func5 ku9
  (q9 (by kernel_rfl)) (by unfold Func.isWrapper;rw [if_neg (qak (by kernel_rfl))];exact ⟨rfl,rfl⟩)
  (fun os started H enc _=>ku5 os started H enc)
theorem notationBack_card_holds:Rows.NotationBackCardSaid:=
 Claim7.holds_tied_plain_at .later [] [.data, .data, .data, .data, .pinned] true (true, "aad9bf91ff3f5c2232ad5298ebe3199df4dc9cce42722f6e274e8872ef87a7c0") true kva (fun _ h => by cases h) (by kernel_rfl) (fun _ h => by cases h) notationBack_row_tie rfl ⟨rfl, rfl⟩ (by kernel_rfl) rfl
  (fun f fn hf hfn=>by
   obtain rfl : f = 5 := qp ((show Tryz.prog.funcNamed "synthesis/synthesislaw14.NotationBack" = some 5 by kernel_rfl).symm.trans hf) |>.symm
   obtain rfl:fn=Tryz.f5:=(qp (Tryz.func5.symm.trans hfn)).symm
   exact ⟨by kernel_rfl,fun j t ht=>by
    rw [Tryz.params5] at ht
    match j with
    | 0=>obtain rfl:=qp ht;exact (show Tryz.prog.wantsStandIn 26=false by kernel_rfl)
    | 1=>obtain rfl:=qp ht;exact (show Tryz.prog.wantsStandIn 29=false by kernel_rfl)
    | j+2=>simp at ht⟩)
  (by kernel_rfl)
end Go.Proofs.YtaimpcnpifoidaaGreatDoor
