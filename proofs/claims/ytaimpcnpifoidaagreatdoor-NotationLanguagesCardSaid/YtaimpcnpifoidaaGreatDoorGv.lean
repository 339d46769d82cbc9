import Derived.Test.YtaimpcnpifoidaaGreatDoorFin
import Derived.Test.YtaimpcnpifoidaaGreatDoorLang
import Derived.Deep.Fields
import Derived.Test.YtaimpcnpifoidaaGreatDoorGu
set_option linter.unusedVariables false
set_option linter.unusedSimpArgs false
set_option maxRecDepth 100000
namespace Go.Proofs.YtaimpcnpifoidaaGreatDoor
open Go Go.RowKit Go.ChangeShapes Go.WideShapes Go.ChangeAt
theorem kzz {n:Int} (h:(Lit.int .i64 n).wf=true):kjo n:=by
 simpa [Lit.wf,IntKind.min,IntKind.max,IntKind.signed,IntKind.bits,kjo] using h
section
variable {H:Type} {enc:TypeId×Value→H} {w:World} {base:Nat} {spare:Nat→Bool} {held:Bool}
theorem cells_ty:Tryz.prog.cellsOf 3=1∧Tryz.prog.cellsOf 2=1∧Tryz.prog.cellsOf 9=1∧Tryz.prog.cellsOf 22=1∧Tryz.prog.cellsOf 41=1∧Tryz.prog.cellsOf 23=1∧Tryz.prog.cellsOf 24=1 ∧
  Tryz.prog.cellsOf 43=4∧Tryz.prog.cellsOf 92=2∧Tryz.prog.cellsOf 45=9∧Tryz.prog.cellsOf 26=4:=⟨by kernel_rfl,by kernel_rfl,by kernel_rfl,by kernel_rfl,by kernel_rfl,by kernel_rfl,by kernel_rfl,by kernel_rfl,by kernel_rfl,by kernel_rfl,by kernel_rfl⟩
theorem ktt {fuel:Nat} {cs:List Value} {x:DataW H×List MemPlace} (h:DataW.trod enc Tryz.prog w base spare held fuel 9 cs=some x):∃ s,cs=[.string s]∧ktw s:=by
 obtain ⟨s,hs,_,hl⟩:=DataW.trod_string Tryz.underlying9 h
 exact ⟨s,hs,by unfold maxLen at hl;exact hl⟩
theorem kof {fuel:Nat} {cs:List Value} {x:DataW H×List MemPlace} (h:DataW.trod enc Tryz.prog w base spare held fuel 3 cs=some x):∃ n,cs=[.int .i64 n]∧kjo n:=by
 obtain ⟨n,hn,_,hwf⟩:=DataW.trod_int Tryz.underlying3 h
 exact ⟨n,hn,kzz hwf⟩
theorem kaap {fuel:Nat} {cs:List Value} {x:DataW H×List MemPlace} (h:DataW.trod enc Tryz.prog w base spare held fuel 2 cs=some x):∃ n,cs=[.int .i64 n]∧kjo n:=by
 obtain ⟨n,hn,_,hwf⟩:=DataW.trod_int Tryz.underlying2 h
 exact ⟨n,hn,kzz hwf⟩
theorem kzr {fuel:Nat} {cs:List Value} {x:DataW H×List MemPlace} (h:DataW.trod enc Tryz.prog w base spare held fuel 22 cs=some x):∃ v ns,cs=[v]∧Ints Any w v ns:=
 kwv (R:=IntR) (size:=1) Tryz.underlying22 cells_ty.1 (by omega) h fun n cs' y _ hy=>by
  obtain ⟨k,h1,h2⟩:=kof hy
  exact ⟨k,h1,h2⟩
theorem k8l:∀ (fuel:Nat) (cs:List Value) (x:DataW H×List MemPlace),DataW.trod enc Tryz.prog w base spare held fuel 43 cs=some x→∃ t,RepVa Any w cs t:=by
 obtain ⟨z1,z2,z3,z4,z5,z6,z7,z8,z9,z10,z11⟩:=cells_ty
 intro fuel
 induction fuel using Nat.strongRecOn with
 | _ fuel ih=>
  intro cs x h
  obtain ⟨xs,n,hfu,_,hlen,hxl,hf⟩:=DataW.trod_struct Tryz.underlying43 h
  rw [z8] at hlen
  match cs,hlen with
  | [c0,c1,c2,c3],_=>
   have h0:=hf 0 _ rfl
   have h1:=hf 1 _ rfl
   have h2:=hf 2 _ rfl
   have h3:=hf 3 _ rfl
   rw [List.getElem?_eq_getElem (by rw [hxl];decide)] at h0 h1 h2 h3
   obtain ⟨t,e0,ht⟩:=kof h0
   obtain ⟨m,e1,hm⟩:=kaap h1
   obtain ⟨s,e2,hs⟩:=ktt h2
   obtain ⟨v,ts,e3,hV⟩:=kwv (R:=RepVa Any w) (size:=4) Tryz.underlying41 z8 (by omega) h3 fun k cs' y hk hy=>ih k (by omega) cs' y hy
   simp [z1,z2,z3,z4,z5,z6,z7,z8] at e0 e1 e2 e3
   subst e0 e1 e2 e3
   exact ⟨.mk t m s ts,RepVa.of ht hm hs hV⟩
theorem k5u {fuel:Nat} {cs:List Value} {x:DataW H×List MemPlace} (h:DataW.trod enc Tryz.prog w base spare held fuel 92 cs=some x):∃ t,k2q Any w cs t:=by
 obtain ⟨z1,z2,z3,z4,z5,z6,z7,z8,z9,z10,z11⟩:=cells_ty
 obtain ⟨xs,n,hfu,_,hlen,hxl,hf⟩:=DataW.trod_struct Tryz.underlying92 h
 rw [z9] at hlen
 match cs,hlen with
 | [c0,c1],_=>
  have h0:=hf 0 _ rfl
  have h1:=hf 1 _ rfl
  rw [List.getElem?_eq_getElem (by rw [hxl];decide)] at h0 h1
  obtain ⟨s,e0,hs⟩:=ktt h0
  obtain ⟨t,e1,ht⟩:=kof h1
  simp [z1,z2,z3,z4,z5,z6,z7,z8] at e0 e1
  subst e0 e1
  exact ⟨⟨s,t⟩,rfl,hs,ht⟩
theorem kaa9 {fuel:Nat} {cs:List Value} {x:DataW H×List MemPlace} (h:DataW.trod enc Tryz.prog w base spare held fuel 45 cs=some x):∃ t,k2u Any w cs t:=by
 obtain ⟨z1,z2,z3,z4,z5,z6,z7,z8,z9,z10,z11⟩:=cells_ty
 obtain ⟨xs,n,hfu,_,hlen,hxl,hf⟩:=DataW.trod_struct Tryz.underlying45 h
 rw [z10] at hlen
 match cs,hlen with
 | [c0,c1,c2,c3,c4,c5,c6,c7,c8],_=>
  have h0:=hf 0 _ rfl
  have h1:=hf 1 _ rfl
  have h2:=hf 2 _ rfl
  have h3:=hf 3 _ rfl
  have h4:=hf 4 _ rfl
  have h5:=hf 5 _ rfl
  rw [List.getElem?_eq_getElem (by rw [hxl];decide)] at h0 h1 h2 h3 h4 h5
  obtain ⟨a,e0,ha⟩:=kof h0
  obtain ⟨b,e1,hb⟩:=kof h1
  obtain ⟨c,e2,hc⟩:=kof h2
  obtain ⟨v,hv⟩:=k8l _ _ _ h3
  obtain ⟨s,e4,hs⟩:=ktt h4
  obtain ⟨u,ns,e5,hns⟩:=kzr h5
  simp [z1,z2,z3,z4,z5,z6,z7,z8] at e0 e1 e2 e4 e5 hv
  subst e0 e1 e2 e4 e5
  exact ⟨⟨a,b,c,v,s,ns⟩,c3,c4,c5,c6,_,rfl,ha,hb,hc,hs,hv,hns⟩
theorem k2l {fuel:Nat} {cs:List Value} {x:DataW H×List MemPlace} (h:DataW.trod enc Tryz.prog w base spare held fuel 26 cs=some x):∃ t,kags Any w cs t:=by
 obtain ⟨z1,z2,z3,z4,z5,z6,z7,z8,z9,z10,z11⟩:=cells_ty
 obtain ⟨xs,n,hfu,_,hlen,hxl,hf⟩:=DataW.trod_struct Tryz.underlying26 h
 rw [z11] at hlen
 match cs,hlen with
 | [c0,c1,c2,c3],_=>
  have h0:=hf 0 _ rfl
  have h1:=hf 1 _ rfl
  have h2:=hf 2 _ rfl
  have h3:=hf 3 _ rfl
  rw [List.getElem?_eq_getElem (by rw [hxl];decide)] at h0 h1 h2 h3
  obtain ⟨s,e0,hs⟩:=ktt h0
  obtain ⟨v1,n1,e1,hv1⟩:=kzr h1
  obtain ⟨v2,n2,e2,hv2⟩:=kwv (R:=k2q Any w) (size:=2) Tryz.underlying23 z9 (by omega) h2 fun k cs' y hk hy=>k5u hy
  obtain ⟨v3,n3,e3,hv3⟩:=kwv (R:=k2u Any w) (size:=9) Tryz.underlying24 z10 (by omega) h3 fun k cs' y hk hy=>kaa9 hy
  simp [z1,z2,z3,z4,z5,z6,z7,z8] at e0 e1 e2 e3
  subst e0 e1 e2 e3
  exact ⟨⟨s,n1,n2,n3⟩,_,_,_,rfl,hs,hv1,hv2,hv3⟩
theorem k0v {r:Reach} {b0:Nat} {v:Value} {d:DataW H} {p:List MemPlace} (hv:Value.okWide Tryz.prog w r b0 26 v) (h:DataW.Trod enc Tryz.prog w base spare held 26 v d p):∃ t,LaV Any w v t:=by
 obtain ⟨cs,rfl,hsz⟩:=okWide_struct Tryz.underlying26 hv
 obtain ⟨fuel,hf⟩:=h
 obtain ⟨t,ht⟩:=k2l hf
 exact ⟨t,cs.toList,by simp,by simpa [Value.cells] using ht⟩
end
end Go.Proofs.YtaimpcnpifoidaaGreatDoor
set_option linter.unusedVariables false
set_option linter.unusedSimpArgs false
set_option maxRecDepth 100000
namespace Go.Proofs.YtaimpcnpifoidaaGreatDoor
open Go Go.RowKit Go.ChangeShapes Go.WideShapes Go.ChangeAt
section
variable {H:Type} {enc:TypeId×Value→H} {w:World} {base:Nat} {spare:Nat→Bool} {held:Bool}
end
end Go.Proofs.YtaimpcnpifoidaaGreatDoor
set_option linter.unusedVariables false
set_option linter.unusedSimpArgs false
set_option maxRecDepth 100000
namespace Go.Proofs.YtaimpcnpifoidaaGreatDoor
open Go Go.RowKit Go.ChangeShapes Go.WideShapes Go.ChangeAt
section
variable {w:World}
def CR (w:World) (cs:List Value) (x:FV) (size:Nat):Prop:=x.cells.length=size∧(∀ y∈x.cells,y.single=true)∧∀ (j:Nat) (u:Value) (y:FV),cs[j]?=some u→x.cells[j]?=some y→RF Any w u y
theorem kw3 {cs:List Value} {xs:List FV} (hl:cs.length=xs.length) (h:∀ (j:Nat) (y:FV),xs[j]?=some y→y.single=true∧∀ u,cs[j]?=some u→RF Any w u y):CR w cs (.agg xs) xs.length:=by
 refine ⟨rfl,fun y hy=>?_,fun j u y hu hy=>(h j y hy).2 u hu⟩
 obtain ⟨j,hj⟩:=qa4.1 hy
 exact (h j y hj).1
theorem k7a {v:Value} {ns:List Int} (h:Ints Any w v ns):RF Any w v (eL 1 eI ns):=
 kzu (R:=IntR) (by omega) h fun cs x _ hx=>kaj6 hx.1 rfl
theorem kaf1:∀ (x:Va) (cs:List Value),RepVa Any w cs x→CR w cs (eVaR x) 4∧inV x:=by
 refine Va.ind fun t n s l ih=>?_
 intro cs h
 obtain ⟨v,rfl,ht,hn,hs,hv⟩:=h.form
 have hrf:RF Any w v (.lst 4 l.length (kt9 l)):=by
  have:=kzu (ec:=eVaR) (size:=4) (by omega) hv fun cs x hx hr=>(ih x hx cs hr).1
  rw [kx6]
  have he:eL 4 eVaR l = .lst 4 l.length (l.map eVaR):=rfl
  rw [← he]
  exact this
 refine ⟨kw3 (xs:=[eI t,eI n,eS s, .lst 4 l.length (kt9 l)]) rfl fun j y hy=>?_,?_⟩
 ·match j with
  | 0=>simp at hy;subst hy;exact ⟨rfl,fun u hu=>by simp at hu;subst hu;exact .atom rfl⟩
  | 1=>simp at hy;subst hy;exact ⟨rfl,fun u hu=>by simp at hu;subst hu;exact .atom rfl⟩
  | 2=>simp at hy;subst hy;exact ⟨rfl,fun u hu=>by simp at hu;subst hu;exact .atom rfl⟩
  | 3=>simp at hy;subst hy;exact ⟨rfl,fun u hu=>by simp at hu;subst hu;exact hrf⟩
  | j+4=>simp at hy
 ·obtain ⟨A,cap,_,h1,h2,h3⟩:=hv
  have all:∀ x∈l,inV x:=fun x hx=>by
   obtain ⟨i,hi⟩:=qa4.1 hx
   obtain ⟨b,o,cs,_,_,_,_,hr⟩:=h3 i x hi
   exact (ih x hx cs hr).2
  have gen:∀ l:List Va,(∀ x∈l,inV x)→kqv 9223372036854775807 l∧ksl l:=fun l=>by
   induction l with
   | nil=>exact fun _=>⟨trivial,trivial⟩
   | cons y l ih=>exact fun h=>⟨⟨(h y (qo ..)).1,(ih fun z hz=>h z (qm _ hz)).1⟩,(h y (qo ..)).2,(ih fun z hz=>h z (qm _ hz)).2⟩
  obtain ⟨g1,g2⟩:=gen l all
  exact ⟨⟨by omega,g1⟩,hs,g2⟩
theorem sy_cr {cs:List Value} {x:Sy} (h:k2q Any w cs x):CR w cs (eSy x) 2:=by
 obtain ⟨rfl,hs,ht⟩:=h
 refine kw3 (xs:=[eS x.name,eI x.type]) rfl fun j y hy=>?_
 match j with
 | 0=>simp at hy;subst hy;exact ⟨rfl,fun u hu=>by simp at hu;subst hu;exact .atom rfl⟩
 | 1=>simp at hy;subst hy;exact ⟨rfl,fun u hu=>by simp at hu;subst hu;exact .atom rfl⟩
 | j+2=>simp at hy
theorem kaf0 {cs:List Value} {x:Ru} (h:k2u Any w cs x):CR w cs (eRu x) 9∧kr1 x:=by
 obtain ⟨c0,c1,c2,c3,v,rfl,h1,h2,h3,h4,h5,h6⟩:=h
 obtain ⟨k,kw⟩:=kaf1 _ _ h5
 obtain ⟨sy,kd,inp,c,op,ar⟩:=x
 obtain ⟨t,n,s,l⟩:=c
 obtain ⟨v',hcs,ht,hn,hs,hv⟩:=h5.form
 simp only [List.cons.injEq,and_true] at hcs
 obtain ⟨rfl,rfl,rfl,rfl⟩:=hcs
 have hrf:RF Any w c3 (eL 4 eVaR l):=kzu (ec:=eVaR) (size:=4) (by omega) hv fun cs x hx hr=>(kaf1 x cs hr).1
 refine ⟨kw3 (xs:=[eI sy,eI kd,eI inp,eI t,eI n,eS s,eL 4 eVaR l,eS op,eL 1 eI ar]) rfl fun j y hy=>?_,(by obtain ⟨A,cap,_,q1,q2,_⟩:=h6;exact qau q1 q2),kw⟩
 match j with
 | 0=>simp at hy;subst hy;exact ⟨rfl,fun u hu=>by simp at hu;subst hu;exact .atom rfl⟩
 | 1=>simp at hy;subst hy;exact ⟨rfl,fun u hu=>by simp at hu;subst hu;exact .atom rfl⟩
 | 2=>simp at hy;subst hy;exact ⟨rfl,fun u hu=>by simp at hu;subst hu;exact .atom rfl⟩
 | 3=>simp at hy;subst hy;exact ⟨rfl,fun u hu=>by simp at hu;subst hu;exact .atom rfl⟩
 | 4=>simp at hy;subst hy;exact ⟨rfl,fun u hu=>by simp at hu;subst hu;exact .atom rfl⟩
 | 5=>simp at hy;subst hy;exact ⟨rfl,fun u hu=>by simp at hu;subst hu;exact .atom rfl⟩
 | 6=>simp at hy;subst hy;exact ⟨rfl,fun u hu=>by simp at hu;subst hu;exact hrf⟩
 | 7=>simp at hy;subst hy;exact ⟨rfl,fun u hu=>by simp at hu;subst hu;exact .atom rfl⟩
 | 8=>simp at hy;subst hy;exact ⟨rfl,fun u hu=>by simp at hu;subst hu;exact k7a h6⟩
 | j+9=>simp at hy
theorem kaj9 {cs:List Value} {xs:List FV} (hl:cs.length=xs.length) (h:CR w cs (.agg xs) xs.length):RF Any w (.agg cs.toArray) (.agg xs):=
 .agg (by simpa using hl) (fun x hx=>h.2.1 x hx) fun i v x hv hx=>h.2.2 i v x (by simpa using hv) hx
theorem la_rf {v:Value} {x:La} (h:LaV Any w v x):RF Any w v (eLa x)∧kga x:=by
 obtain ⟨cs,rfl,v1,v2,v3,rfl,hn,h1,h2,h3⟩:=h
 have r1:=k7a h1
 have r2:RF Any w v2 (eL 2 eSy x.symbols):=kzu (ec:=eSy) (size:=2) (by omega) h2 fun cs x _ hr=>sy_cr hr
 have r3:RF Any w v3 (eL 9 eRu x.rules):=kzu (ec:=eRu) (size:=9) (by omega) h3 fun cs x _ hr=>(kaf0 hr).1
 refine ⟨kaj9 (xs:=[eS x.name,eL 1 eI x.inputs,eL 2 eSy x.symbols,eL 9 eRu x.rules]) rfl (kw3 rfl fun j y hy=>?_),?_⟩
 ·match j with
  | 0=>simp at hy;subst hy;exact ⟨rfl,fun u hu=>by simp at hu;subst hu;exact .atom rfl⟩
  | 1=>simp at hy;subst hy;exact ⟨rfl,fun u hu=>by simp at hu;subst hu;exact r1⟩
  | 2=>simp at hy;subst hy;exact ⟨rfl,fun u hu=>by simp at hu;subst hu;exact r2⟩
  | 3=>simp at hy;subst hy;exact ⟨rfl,fun u hu=>by simp at hu;subst hu;exact r3⟩
  | j+4=>simp at hy
 ·refine ⟨hn,?_,?_,?_,fun y hy=>?_,fun r hr=>?_⟩
  ·obtain ⟨A,cap,_,q1,q2,_⟩:=h1;exact qau q1 q2
  ·obtain ⟨A,cap,_,q1,q2,_⟩:=h2;exact qau q1 q2
  ·obtain ⟨A,cap,_,q1,q2,_⟩:=h3;exact qau q1 q2
  ·obtain ⟨A,cap,_,_,_,hx⟩:=h2
   obtain ⟨i,hi⟩:=qa4.1 hy
   obtain ⟨b,o,cs,_,_,_,_,hq⟩:=hx i y hi
   exact hq.2.1
  ·obtain ⟨A,cap,_,_,_,hx⟩:=h3
   obtain ⟨i,hi⟩:=qa4.1 hr
   obtain ⟨b,o,cs,_,_,_,_,hq⟩:=hx i r hi
   exact (kaf0 hq).2
end
section
variable {H:Type} {enc:TypeId×Value→H} {w:World} {base:Nat} {spare:Nat→Bool} {held:Bool}
theorem in_La {r:Reach} {b0:Nat} {v:Value} {d:DataW H} {p:List MemPlace} (hv:Value.okWide Tryz.prog w r b0 26 v) (h:DataW.Trod enc Tryz.prog w base spare held 26 v d p):∃ x,RF Any w v (eLa x)∧kga x:=by
 obtain ⟨x,hx⟩:=k0v hv h
 exact ⟨x,la_rf hx⟩
end
end Go.Proofs.YtaimpcnpifoidaaGreatDoor
