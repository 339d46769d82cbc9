import Derived.Test.YtaimpcnpifoidaaGreatDoorNc
import Derived.Test.YtaimpcnpifoidaaGreatDoorNb
import Derived.Test.YtaimpcnpifoidaaGreatDoorJn
import Derived.Lib.SplitLaws
import Derived.Test.YtaimpcnpifoidaaGreatDoorNk
set_option linter.unusedVariables false
set_option linter.unusedSimpArgs false
set_option maxRecDepth 100000
namespace Go.Proofs.YtaimpcnpifoidaaGreatDoor
open Go Go.RowKit
inductive ktr:Tm→Prop
 | mk {i:Int} {ys:List Tm} (h:ys.length≤9223372036854775807) (ha:∀ a∈ys,ktr a):ktr (.mk i ys)
theorem kait {S:Nat→Prop} {w:World}:∀ (t:Tm) (v:Value),RF S w v (eL 2 eTmR t.args)→ktr t:=by
 refine Tm.ind fun i ys ih=>?_
 intro v h
 have h:RF S w v (.lst 2 ys.length (ys.map eTmR)):=h
 cases h with
 | @lst A cap _ _ _ css e1 hc hm hs ha hl hr=>
  refine ⟨by omega,fun a hm'=>?_⟩
  obtain ⟨j,hj,rfl⟩:=qs.1 hm'
  have hy:(ys.map eTmR)[j]?=some (eTmR ys[j]):=by rw [List.getElem?_map,List.getElem?_eq_getElem hj];rfl
  obtain ⟨k1,k2,_⟩:=hl j _ hy
  match hcs:css j,k1 with
  | [p,q],_=>
   refine ih _ (qn hj) q (hr j _ 1 q _ hy (by rw [hcs];rfl) ?_)
   rw [koq]
   rfl
theorem kaio {S:Nat→Prop} {w:World} {v:Value} {t:Tm} (h:RF S w v (eTm t)):ktr t:=by
 obtain ⟨a,b,rfl,_,hb⟩:=RF.key2 (x:=eI t.rule) (y:=eL 2 eTmR t.args) h
 exact kait t b hb
theorem kua (a:Int):∃ q:Int,w64 a=a+q*18446744073709551616 ∧ -9223372036854775808≤w64 a∧w64 a≤9223372036854775807:=by
 unfold w64 IntKind.wrap IntKind.signed IntKind.bits
 simp only [Bool.true_and]
 split
 ·rename_i h
  have h:=q9 h
  exact ⟨-(a / 18446744073709551616) - 1,by omega,by omega,by omega⟩
 ·rename_i h
  have h:=qak (eq_false_of_ne_true h)
  exact ⟨-(a / 18446744073709551616),by omega,by omega,by omega⟩
theorem kajp (a b:Int):w64 (w64 a+w64 b)=w64 (a+b):=by
 obtain ⟨q,h1,h2,h3⟩:=kua a
 obtain ⟨q',h4,h5,h6⟩:=kua b
 obtain ⟨q2,h7,h8,h9⟩:=kua (w64 a+w64 b)
 obtain ⟨q3,k1,k2,k3⟩:=kua (a+b)
 omega
theorem k4c:∀ (n:Nat) (t:Tm),t.size≤n→ktr t→ka1 n t=some (w64 (t.size:Int))
 | 0,t,h,_=>by have:=Tm.size_pos t;omega
 | n+1, .mk i ys,hn,⟨hlen,ha⟩=>by
  have hsz:(Tm.mk i ys).size=Tm.sizeL ys+1:=rfl
  show kec (ka1 n) (.mk i ys)=_
  unfold kec
  have main:Ev (kaa (kc7 (.mk i ys) (ka1 n)) fuel (1,0)) (·=w64 ((Tm.sizeL ys+1:Nat):Int)):=by
   refine ki5 ys.length (fun k s=>s=(w64 ((Tm.sizeL (ys.take k)+1:Nat):Int),(k:Int))) (by omega) (by simp [Tm.sizeL];rfl) (fun k s hk hI=>?_) fun s hI=>?_
   ·subst hI
    have hm:=Tm.sizeL_mem (qn hk)
    refine km0 (s:=(w64 ((Tm.sizeL (ys.take (k+1))+1:Nat):Int),((k+1:Nat):Int))) ?_ rfl
    have e:=k4c n ys[k] (by omega) (ha _ (qn hk))
    simp only [kc7,show (Tm.mk i ys).args=ys from rfl,kbb hk,qd,kak,List.getElem?_eq_getElem hk,qa,e,kajp,kg9 hk hlen]
    rw [sizeL_take hk]
    congr 4
    push_cast
    omega
   ·subst hI
    refine klu (b:=w64 ((Tm.sizeL ys+1:Nat):Int)) ?_ rfl
    simp only [kc7,show (Tm.mk i ys).args=ys from rfl,kez,qb,List.take_length]
  rw [main.eq,hsz]
  rfl
theorem kaap (l:La) (s:Int) (t:Tm) (hl:khu l) (ht:4096<t.size):∃ c,keu l s t=some c∧kg3 l s t=some c∧c≠0:=by
 obtain ⟨c,c1,c2,c3⟩:=k4u l hl
 unfold keu kg3
 rw [c1,c2]
 simp only [qa]
 by_cases hc:c=0
 ·subst hc
  have hz:((0:Int) != 0)=false:=rfl
  rw [hz]
  simp only [qb]
  by_cases s0:s<0
  ·rw [qe s0];exact ⟨1,rfl,rfl,by decide⟩
  by_cases s1:(l.symbols.length:Int)≤s
  ·rw [qc s0,qe s1];exact ⟨1,rfl,rfl,by decide⟩
  have hb:kga fuel t 4096=some (kes 4096 t.size):=(kpu fuel t 4096 (by omega) (kbg (by omega))).2
  have hw:kgp t 4096=some (decide (t.size≤4096)):=k1m t 4096 (by omega)
  have hneg:decide (kes 4096 t.size<0)=true:=qe (by unfold kes;split <;> omega)
  rw [qc s0,qc s1]
  simp only [qb,qa,hb,hw,hneg,qc (show ¬ t.size≤4096 by omega),qat,qd]
  exact ⟨2,rfl,rfl,by decide⟩
 ·rw [show (c != 0)=true by rw [qas];exact hc]
  exact ⟨c,rfl,rfl,hc⟩
end Go.Proofs.YtaimpcnpifoidaaGreatDoor
set_option linter.unusedVariables false
set_option linter.unusedSimpArgs false
set_option maxRecDepth 100000
namespace Go.Proofs.YtaimpcnpifoidaaGreatDoor
open Go Go.RowKit
theorem kzt {l:La} {i:Int} {x:Ru} (h:idx l.rules i=some x):0≤i∧i<(l.rules.length:Int)∧x=kad l i∧x∈l.rules:=by
 have h0:0≤i∧i<(l.rules.length:Int):=by
  unfold idx at h
  split at h
  ·rename_i hi
   have:=(List.getElem?_eq_some_iff.1 h).1
   omega
  ·cases h
 obtain ⟨e,hm⟩:=khj h0.1 h0.2
 rw [e] at h
 injection h with h
 subst h
 exact ⟨h0.1,h0.2,rfl,hm⟩
theorem kzf:∀ (n:Nat) (l:La) (s:Int) (t:Tm),t.size≤1000→t.size≤n→(∀ x∈l.rules,x.kind≠3→x.args.length=0)→(∀ x∈l.rules,x.kind=3→1≤x.args.length)→kbh n l s t=some 0→OkT l t
 | 0,l,s,t,_,h,_,_,_=>by have:=Tm.size_pos t;omega
 | n+1,l,s,t,hs,hn,hk,hk3,h=>by
  have h:kd5 (kbh n) l s t=some 0:=h
  unfold kd5 at h
  obtain ⟨b,h1,h⟩:=kd9 h
  rcases kdn h with ⟨_,h⟩ | ⟨hb,h⟩
  ·cases h
  subst hb
  obtain ⟨x,h2,h⟩:=kd9 h
  rcases kdn h with ⟨_,h⟩ | ⟨_,h⟩
  ·cases h
  rcases kdn h with ⟨_,h⟩ | ⟨hl,h⟩
  ·cases h
  have hl:t.args.length=x.args.length:=by have:=bne_eq_false_iff_eq.1 hl;omega
  obtain ⟨v,h3,h⟩:=kd9 h
  have hv:∀ c:Int,c≠0→(.inr c:Unit ⊕ Int)≠v:=fun c hc he=>by
   subst he
   cases h
   exact hc rfl
  have hsa:=kk0 (t:=t)
  have hal:=kgd t.args
  have hst:∀ (i:Nat) (hi:i<t.args.length),∃ c,kbh n l (x.args[i]'(by omega)) t.args[i]=some c∧kb6 l t (kbh n) x (i:Int)=(bif c != 0 then some (.inr (.inr c)) else some (.inl ((i+1:Nat):Int))):=fun i hi=>by
   have hm:=Tm.sizeL_mem (qn hi)
   obtain ⟨c,c1,_⟩:=knv n l (x.args[i]'(by omega)) t.args[i] (by omega) (by omega) hk
   refine ⟨c,c1,?_⟩
   simp only [kb6,kbb hi,qd,kak,List.getElem?_eq_getElem hi,List.getElem?_eq_getElem (show i<x.args.length by omega),qa,c1,kg9 hi (show t.args.length≤9223372036854775807 by omega)]
  have hall:=fun i (hi:i<t.args.length)=>kl0 (step:=kb6 l t (kbh n) x) t.args.length (fun i=>(i:Int)) v (fun i hi=>by
   obtain ⟨c,_,c2⟩:=hst i hi
   rw [c2]
   cases hc:(c != 0) with
   | true=>exact .inr ⟨_,rfl,hv c (by simpa using hc)⟩
   | false=>exact .inl rfl) fuel 0 h3 i (qx _) hi
  obtain ⟨q0,q1,rfl,q3⟩:=kzt h2
  obtain ⟨i0,ys⟩:=t
  refine ⟨q0,q1,fun h3' e=>?_,fun a ha=>?_⟩
  ·have:=hk3 _ q3 h3'
   have hz:(Tm.mk i0 ys).args.length=0:=by rw [show (Tm.mk i0 ys).args=ys from rfl,e];rfl
   have h1:(kad l (Tm.mk i0 ys).rule).args.length=(kad l i0).args.length:=rfl
   omega
  ·obtain ⟨i,hi,rfl⟩:=qs.1 ha
   obtain ⟨c,c1,c2⟩:=hst i hi
   have ha':=hall i hi
   rw [c2] at ha'
   have hm:=Tm.sizeL_mem (qn hi)
   cases hc:(c != 0) with
   | true=>rw [hc] at ha'; cases ha'
   | false=>
    have hc:=bne_eq_false_iff_eq.1 hc
    subst hc
    have hm':(ys[i]).size≤Tm.sizeL ys:=hm
    have hsa':Tm.sizeL ys+1=(Tm.mk i0 ys).size:=rfl
    exact kzf n l _ ys[i] (by omega) (by omega) hk hk3 c1
theorem k22:opNames.all (fun n=>(kbf n).all fun o=>decide (1≤o.1.f_Args.length))=true:=by kernel_rfl
theorem ValidL.okL {l:La} (hw:khu l) (h:ValidL l):OkL l:=by
 refine ⟨(k1c hw h).ruls,fun r hr=>?_⟩
 obtain ⟨i,hi,rfl⟩:=qs.1 hr
 rcases (h.valid i hi).2 with q | q | q
 ·exact .inl q.1
 ·exact .inr (.inl q.1)
 ·exact .inr (.inr q.1)
theorem ValidL.one {l:La} (h:ValidL l):∀ x∈l.rules,x.kind=3→1≤x.args.length:=by
 intro r hr hk
 obtain ⟨i,hi,rfl⟩:=qs.1 hr
 rcases (h.valid i hi).2 with q | q | q
 ·have:=q.1;omega
 ·have:=q.1;omega
 ·obtain ⟨_,_,_,o,q4,q5,_⟩:=q
  have hin:=k00 q4
  have:=qm.1 k22 _ hin
  rw [q4] at this
  have h1:1≤o.f_Args.length:=by simpa using this
  omega
theorem k0a (l:La) (t:Tm) (hl:khu l) (ht:t.size≤1000∨4096<t.size):∃ x,kdd l t=some x∧knw l t=some x∧(x.2=0→x.1=mkB (txT l t)∧ValidL l∧OkT l t∧t.size≤1000∧∃ r,idx l.rules t.rule=some r∧kbh fuel l r.symbol t=some 0):=by
 obtain ⟨c,c1,c2,c3,c4⟩:=kwd hl
 unfold kdd knw
 rw [c1,c2]
 simp only [qa]
 by_cases hc:c=0
 ·subst hc
  rw [show ((0:Int) != 0)=false from rfl]
  simp only [qb]
  by_cases s0:t.rule<0
  ·rw [qe s0];exact ⟨_,rfl,rfl,fun h=>absurd h (by decide)⟩
  by_cases s1:(l.rules.length:Int)≤t.rule
  ·rw [qc s0,qe s1];exact ⟨_,rfl,rfl,fun h=>absurd h (by decide)⟩
  obtain ⟨e,hm⟩:=khj (l:=l) (i:=t.rule) (by omega) (by omega)
  rw [qc s0,qc s1]
  simp only [qb,qa,e]
  rcases ht with ht | ht
  ·obtain ⟨d,d1,d2,d3⟩:=k9x l (kad l t.rule).symbol t hl ht
   rw [d1,d2]
   simp only [qa]
   by_cases hd:d=0
   ·subst hd
    rw [show ((0:Int) != 0)=false from rfl]
    simp only [qb]
    obtain ⟨hg,hder⟩:=d3 rfl
    have hv:=c3.1 rfl
    have hok:=kzf fuel l _ t ht (qa2 (kbg (by omega))) (fun x hx hk=>by rw [(hg.good x hx).noargs hk];rfl) hv.one hder
    have hw:=hv.okL hl
    have w:=k3d hw fuel t (qa2 (kbg (by omega))) ht hok [] (by simp;omega)
    rw [show ([]:List Int)=iB [] from rfl,w,k7g hw fuel t (qa2 (kbg (by omega))) ht hok]
    refine ⟨(mkB (txT l t),0),?_,rfl,fun _=>⟨rfl,hv,hok,ht,_,rfl,hder⟩⟩
    simp only [List.nil_append,qa,kaw,k0l]
   ·rw [show (d != 0)=true by rw [qas];exact hd]
    exact ⟨_,rfl,rfl,fun h=>absurd h hd⟩
  ·obtain ⟨d,d1,d2,d3⟩:=kaap l (kad l t.rule).symbol t hl ht
   rw [d1,d2]
   simp only [qa]
   rw [show (d != 0)=true by rw [qas];exact d3]
   exact ⟨_,rfl,rfl,fun h=>absurd h d3⟩
 ·rw [show (c != 0)=true by rw [qas];exact hc]
  exact ⟨_,rfl,rfl,fun h=>absurd h hc⟩
theorem kajs (l:La):kh3 l=some (decide (l.rules.length≤20) && decide (l.symbols.length≤8)):=by
 unfold kh3
 by_cases h1:l.rules.length≤20
 ·rw [qe (show (l.rules.length:Int)≤20 by omega),qe h1]
  simp only [qd,qa,Bool.true_and]
  congr 1
  exact qa0.2 (by omega)
 ·rw [qc (show ¬ (l.rules.length:Int)≤20 by omega),qc h1]
  rfl
theorem k71 (t:Tm) (h:¬ (100<w64 (t.size:Int))):t.size≤100∨4096<t.size:=by
 by_cases hs:t.size≤9223372036854775807
 ·rw [kei (by omega) (by omega)] at h
  omega
 ·omega
end Go.Proofs.YtaimpcnpifoidaaGreatDoor
set_option linter.unusedVariables false
set_option linter.unusedSimpArgs false
set_option maxRecDepth 100000
namespace Go.Proofs.YtaimpcnpifoidaaGreatDoor
open Go Go.RowKit
end Go.Proofs.YtaimpcnpifoidaaGreatDoor
set_option linter.unusedVariables false
set_option linter.unusedSimpArgs false
set_option maxRecDepth 100000
namespace Go.Proofs.YtaimpcnpifoidaaGreatDoor
open Go Go.RowKit
instance (c:UInt8):Decidable (letC c):=by unfold letC;infer_instance
instance (c:UInt8):Decidable (digC c):=by unfold digC;infer_instance
instance (s:BA):Decidable (kpa s):=by unfold kpa;infer_instance
def inpL:List UInt8→Option Nat
 | [105,110,d]=>if 48≤d.toNat∧d.toNat<52 then some (d.toNat - 48) else none
 | _=>none
end Go.Proofs.YtaimpcnpifoidaaGreatDoor
set_option linter.unusedVariables false
set_option linter.unusedSimpArgs false
set_option maxRecDepth 100000
namespace Go.Proofs.YtaimpcnpifoidaaGreatDoor
open Go Go.RowKit
def vis (c:UInt8):Prop:=32≤c.toNat∧c.toNat≤126
theorem v32 {c:UInt8} (h:32≤c.toNat) (h2:c.toNat≤126):vis c:=⟨h,h2⟩
theorem kadk {b:List UInt8} (h:(prV (mkB b)).2.2=0):b=kac (prV (mkB b)).1∧kgh (prV (mkB b)).1:=by
 rcases kacc (mkB b) with ⟨v,h1,h2⟩ | ⟨h1,h2⟩
 ·rw [h2]
  have e:=ksk (mkB b) oneP 0
  rw [h1,qar,kct] at e
  simp only [kcr,List.drop_length] at e
  obtain ⟨e1,e2⟩:=k0m e
  exact ⟨by rw [List.append_nil] at e1;exact e1,e2⟩
 ·rw [h1] at h
  simp at h
theorem k7l {v:Va} (h:kgh v):prV (mkB (kac v))=(v,0,0):=by
 have h1:=(k74 h).1
 rw [kol (by rw [kcr];have:=k07 h;omega)] at h1
 exact qp h1
theorem kahy {k:Nat} (h:k<4):inpL (105::110::kb7 (k:Int))=some k:=by
 have:∀ j:Fin 4,inpL (105::110::[UInt8.ofNat (48+j.val)])=some j.val:=by decide
 have e:=this ⟨k,h⟩
 have e2:kb7 (k:Int)=[UInt8.ofNat (48+k)]:=by
  unfold kb7
  rw [if_neg (by omega),decN,dif_pos (by simp;omega)]
  simp
 rw [e2];exact e
end Go.Proofs.YtaimpcnpifoidaaGreatDoor
set_option linter.unusedVariables false
set_option linter.unusedSimpArgs false
set_option maxRecDepth 100000
namespace Go.Proofs.YtaimpcnpifoidaaGreatDoor
open Go Go.RowKit
theorem ValidL.sym {l:La} (hv:ValidL l) {r:Ru} (hr:r∈l.rules):0≤r.symbol∧r.symbol<(l.symbols.length:Int):=by
 obtain ⟨j,hj,rfl⟩:=qs.1 hr
 exact (hv.valid j hj).1
theorem kafq {l:La} (hl:khu l) (hv:ValidL l) {r:Ru} (hr:r∈l.rules):r.args.length≤1000:=((k1c hl hv).ruls r hr).few
end Go.Proofs.YtaimpcnpifoidaaGreatDoor
set_option linter.unusedVariables false
set_option linter.unusedSimpArgs false
set_option maxRecDepth 100000
namespace Go.Proofs.YtaimpcnpifoidaaGreatDoor
open Go Go.RowKit
theorem k30 {s:BA} {i:Nat} (h:i<s.data.toList.length):byt s (i:Int)=some ((s.data.toList[i]).toNat:Int):=by
 rw [km1,List.getElem?_eq_getElem h];rfl
theorem koy {s:BA} {a b:List UInt8} (h:s.data.toList=a++b):cutS s 0 (a.length:Int)=some (mkB a):=by
 have hl:s.size=a.length+b.length:=by rw [ka4,h,ql]
 have:=kvk (s:=s) (i:=0) (w:=a.length) (by omega)
 rw [Nat.zero_add] at this
 rw [show ((0:Int))=((0:Nat):Int) from rfl,this,h,qar,List.take_left]
theorem kaek {s:BA} {a b:List UInt8} (h:s.data.toList=a++b):cutS s (a.length:Int) (s.size:Int)=some (mkB b):=by
 have hl:s.size=a.length+b.length:=by rw [ka4,h,ql]
 have:=kvk (s:=s) (i:=a.length) (w:=b.length) (by omega)
 rw [hl,this,h,List.drop_left,List.take_length]
theorem ksn (a b:List UInt8):((mkB a).toList == (⟨b.toArray⟩:BA).toList)=decide (a=b):=by
 rw [Bool.eq_iff_iff,decide_eq_true_iff,beqB_iff]
 constructor
 ·intro h
  have:=congrArg bsOf h
  exact (kct a).symm.trans (this.trans (kct b))
 ·intro h;rw [h];rfl
theorem k78:∀ n:Fin 256,kgz ((n.val:Nat):Int)=some (decide ((97≤n.val∧n.val≤122)∨(65≤n.val∧n.val≤90))):=by decide +kernel
theorem k13 (c:UInt8):kgz (c.toNat:Int)=some (decide (letC c)):=k78 ⟨c.toNat,c.toNat_lt⟩
theorem kad3 (c:UInt8):ki6 (c.toNat:Int)=some (decide (digC c)):=by
 have:∀ n:Fin 256,ki6 ((n.val:Nat):Int)=some (decide (48≤n.val∧n.val≤57)):=by decide +kernel
 exact this ⟨c.toNat,c.toNat_lt⟩
def inpR:Option Nat→Int×Bool
 | some k=>((k:Int),true)
 | none=>(0,false)
theorem kaet {b:List UInt8} (h:b.length=3):∃ x y z,b=[x,y,z]:=by
 match b,h with
 | [x,y,z],_=>exact ⟨x,y,z,rfl⟩
theorem kac6 {b:List UInt8} (h:b.length≠3):inpL b=none:=by
 unfold inpL
 split
 ·exact absurd rfl h
 ·rfl
theorem k9c (x y z:UInt8):inpL [x,y,z]=if x=105∧y=110∧48≤z.toNat∧z.toNat<52 then some (z.toNat - 48) else none:=by
 by_cases h1:x=105
 ·by_cases h2:y=110
  ·subst h1 h2
   show (if 48≤z.toNat∧z.toNat<52 then some (z.toNat - 48) else none)=_
   by_cases h:48≤z.toNat∧z.toNat<52
   ·rw [if_pos h,if_pos ⟨rfl,rfl,h⟩]
   ·rw [if_neg h,if_neg fun q=>h q.2.2]
  ·rw [if_neg fun q=>h2 q.2.1]
   unfold inpL
   split
   ·rename_i e;simp at e;exact absurd e.2.1 h2
   ·rfl
 ·rw [if_neg fun q=>h1 q.1]
  unfold inpL
  split
  ·rename_i e;simp at e;exact absurd e.1 h1
  ·rfl
theorem kae4 {z:UInt8} (h:48≤z.toNat):w64 (wu8 ((z.toNat:Int) - 48))=((z.toNat - 48:Nat):Int):=by
 have:∀ n:Fin 256,48≤n.val→w64 (wu8 (((n.val:Nat):Int) - 48))=((n.val - 48:Nat):Int):=by decide +kernel
 exact this ⟨z.toNat,z.toNat_lt⟩ h
theorem inp_p (b:List UInt8):ki7 (mkB b)=some (inpR (inpL b)):=by
 unfold ki7
 by_cases h3:b.length=3
 ·obtain ⟨x,y,z,rfl⟩:=kaet h3
  rw [show (((mkB [x,y,z]).size:Int) == 3)=true from rfl,qd,k9c]
  have c1:cutS (mkB [x,y,z]) 0 2=some (mkB [x,y]):=koy (s:=mkB [x,y,z]) (a:=[x,y]) (b:=[z]) (kct _)
  have c2:byt (mkB [x,y,z]) 2=some (z.toNat:Int):=by
   have:=k30 (s:=mkB [x,y,z]) (i:=2) (by rw [kct];simp)
   simpa [kct] using this
  rw [c1,qa,ksn,c2]
  simp only [qa]
  by_cases h1:x=105∧y=110
  ·rw [qe (show [x,y]=[105,110] by rw [h1.1,h1.2]),qd]
   by_cases h4:48≤z.toNat
   ·rw [qe (show (48:Int)≤(z.toNat:Int) by omega),qd]
    by_cases h5:z.toNat<52
    ·rw [qe (show (z.toNat:Int)<52 by omega),qa,qd,if_pos ⟨h1.1,h1.2,h4,h5⟩,kae4 h4]
     rfl
    ·rw [qc (show ¬ (z.toNat:Int)<52 by omega),qa,qb,if_neg fun q=>h5 q.2.2.2]
     rfl
   ·rw [qc (show ¬ (48:Int)≤(z.toNat:Int) by omega),qb,qa,qb,if_neg fun q=>h4 q.2.2.1]
    rfl
  ·rw [qc (fun e:[x,y]=[105,110]=>by simp at e;exact h1 e),qb,qa,qb,if_neg fun q=>h1 ⟨q.1,q.2.1⟩]
   rfl
 ·rw [kac6 h3,show (((mkB b).size:Int) == 3)=false by rw [qy,kcr];omega]
  rfl
end Go.Proofs.YtaimpcnpifoidaaGreatDoor
