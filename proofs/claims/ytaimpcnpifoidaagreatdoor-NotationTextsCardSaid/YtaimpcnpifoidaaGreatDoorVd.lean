import Derived.Test.YtaimpcnpifoidaaGreatDoorEv
import Derived.Test.YtaimpcnpifoidaaGreatDoorZE
set_option linter.unusedVariables false
set_option linter.unusedSimpArgs false
namespace Go.Proofs.YtaimpcnpifoidaaGreatDoor
open Go Go.RowKit
mutual
def kip (B:Nat):Va→Prop
 | .mk _ _ _ l=>l.length≤B∧kte B l
def kte (B:Nat):List Va→Prop
 | []=>True
 | x::l=>kip B x∧kte B l
end
theorem kv1:∀ {l:List Va} {x:Va},x∈l→depV x≤kr8 l
 | y::l,x,h=>by
  simp only [kr8]
  rcases qz.1 h with rfl | h
  ·exact Nat.le_max_left _ _
  ·exact Nat.le_trans (kv1 h) (Nat.le_max_right _ _)
theorem ky5 {B:Nat}:∀ {l:List Va} {x:Va},kte B l→x∈l→kip B x
 | y::l,x,hw,h=>by
  rcases qz.1 h with rfl | h
  ·exact hw.1
  ·exact ky5 hw.2 h
theorem kaa3 {v:Va} {x:Va} (h:x∈v.items):depV x<depV v:=by
 cases v;exact Nat.lt_succ_of_le (kv1 h)
theorem knu {B:Nat} {v:Va} (h:kip B v):v.items.length≤B∧∀ x∈v.items,kip B x:=by
 cases v;exact ⟨h.1,fun x hx=>ky5 h.2 hx⟩
theorem ktz (x y:Va):cmpV x y=if x.type<y.type then -1 else if y.type<x.type then 1 else if x.num<y.num then -1 else if y.num<x.num then 1 else if kgx x.text y.text=true then -1 else if kgx y.text x.text=true then 1 else kh2 x.items y.items:=by
 cases x;cases y;rw [cmpV];rfl
theorem k1i (a b:BA):(!(Op.bytesLess a.toList b.toList || a.toList == b.toList))=kgx b a:=by
 have asym:∀ l m:List UInt8,Op.bytesLess l m=true→Op.bytesLess m l=false:=by
  intro l
  induction l with
  | nil=>intro m _;cases m <;> rfl
  | cons x l ih=>
   intro m h
   cases m with
   | nil=>cases h
   | cons y m=>
    simp only [Op.bytesLess,Bool.or_eq_true,decide_eq_true_eq,qy,beq_iff_eq] at h
    simp only [Op.bytesLess,Bool.or_eq_false_iff,decide_eq_false_iff_not,Bool.and_eq_false_iff,qq]
    rcases h with h | ⟨rfl,h⟩
    ·exact ⟨UInt8.not_lt.2 (UInt8.le_of_lt h), .inl (UInt8.ne_of_lt h).symm⟩
    ·exact ⟨UInt8.lt_irrefl _, .inr (ih m h)⟩
 unfold kgx
 cases h:Op.bytesLess b.toList a.toList with
 | true=>
  have h2:=asym _ _ h
  have h3:(a.toList == b.toList)=false:=by
   rw [qq]
   intro e
   rw [e,knk] at h
   cases h
  rw [h2,h3];rfl
 | false=>
  cases h2:Op.bytesLess a.toList b.toList with
  | true=>rfl
  | false=>
   have:=ktp _ _ h2 h
   rw [this];simp
def outC:List Va→List Va→Unit ⊕ Int
 | [],_ => .inl ()
 | _::_,[] => .inr 1
 | x::l,y::m=>if cmpV x y≠0 then .inr (cmpV x y) else outC l m
theorem k1d:∀ l m:List Va,Sum.elim (fun _=>if (l.length:Int)<(m.length:Int) then -1 else (0:Int)) id (outC l m)=kh2 l m
 | [],[]=>rfl
 | [],y::m=>by simp [outC,kh2]
 | x::l,[]=>by simp [outC,kh2]
 | x::l,y::m=>by
  have ih:=k1d l m
  rw [outC,kh2]
  by_cases h:cmpV x y≠0
  ·rw [if_pos h,if_pos h];rfl
  ·rw [if_neg h,if_neg h,← ih]
   simp
theorem kqg:∀ (n:Nat) (x y:Va),depV x<n→kip 9223372036854775807 x→kip 9223372036854775807 y→kdg n x y=some (cmpV x y)
 | 0,x,y,h,_,_=>by omega
 | n+1,x,y,hd,hx,hy=>by
  show kg7 (kdg n) x y=_
  rw [ktz]
  unfold kg7
  simp only [k1i]
  by_cases h1:x.type<y.type
  ·simp [h1]
  by_cases h2:y.type<x.type
  ·simp [h1,h2]
  by_cases h3:x.num<y.num
  ·simp [h1,h2,h3]
  by_cases h4:y.num<x.num
  ·simp [h1,h2,h3,h4]
  cases h5:kgx x.text y.text with
  | true=>
   have h5':Op.bytesLess x.text.toList y.text.toList=true:=h5
   simp [h1,h2,h3,h4,h5']
  | false=>
  have h5':Op.bytesLess x.text.toList y.text.toList=false:=h5
  cases h6:kgx y.text x.text with
  | true=>simp [h1,h2,h3,h4,h5',h6]
  | false=>
  obtain ⟨lx,wx⟩:=knu hx
  obtain ⟨ly,wy⟩:=knu hy
  obtain ⟨m,hm⟩:∃ m,m=Nat.min x.items.length y.items.length:=⟨_,rfl⟩
  have hmx:m≤x.items.length:=hm ▸ Nat.min_le_left _ _
  have hmy:m≤y.items.length:=hm ▸ Nat.min_le_right _ _
  have hmm:m=x.items.length∨m=y.items.length:=by
   rw [hm]
   rcases Nat.le_total x.items.length y.items.length with h | h
   ·exact .inl (Nat.min_eq_left h)
   ·exact .inr (Nat.min_eq_right h)
  have hl:=km6 (step:=kcf x y (kdg n)) m (by omega) (fun i=>(i:Int)) (fun i=>outC (x.items.drop i) (y.items.drop i)) (fun i hi=>by
   have hix:i<x.items.length:=by omega
   have hj:i<y.items.length:=by omega
   have e1:x.items[i]?=some x.items[i]:=List.getElem?_eq_getElem hix
   have d1:x.items.drop i=x.items[i]::x.items.drop (i+1):=qac hix
   have hlt:(i:Int)<(x.items.length:Int):=by omega
   have hw:=kdr (n:=i) (by omega)
   have e2:y.items[i]?=some y.items[i]:=List.getElem?_eq_getElem hj
   have d2:y.items.drop i=y.items[i]::y.items.drop (i+1):=qac hj
   have b1:decide ((i:Int)<(x.items.length:Int))=true:=qe hlt
   have hne:((i:Int) == (y.items.length:Int))=false:=by rw [qq];omega
   have hc:=kqg n x.items[i] y.items[i] (by have:=kaa3 (qx hix);omega) (wx _ (qx hix)) (wy _ (qx hj))
   by_cases h0:cmpV x.items[i] y.items[i]=0
   ·refine .inl ⟨?_,?_⟩
    ·have b2:(cmpV x.items[i] y.items[i] != 0)=false:=by rw [h0];rfl
     simp only [kcf,b1,kaz,e1,e2,hne,hc,b2,hw,qd,qb,qa]
    ·simp only [d1,d2,outC,h0,ne_eq,not_true_eq_false,if_false]
   ·refine .inr ?_
    have b2:(cmpV x.items[i] y.items[i] != 0)=true:=by simpa using h0
    simp only [d1,d2,outC,ne_eq,h0,not_false_eq_true,if_true,kcf,b1,kaz,e1,e2,hne,hc,b2,hw,qd,qb,qa]) (by
   rcases hmm with h | h
   ·have d1:x.items.drop m=[]:=qaf (by omega)
    have hlt:¬ (m:Int)<(x.items.length:Int):=by omega
    simp only [d1,outC]
    simp [kcf,hlt]
   ·by_cases hlx:m=x.items.length
    ·have d1:x.items.drop m=[]:=qaf (by omega)
     have hlt:¬ (m:Int)<(x.items.length:Int):=by omega
     simp only [d1,outC]
     simp [kcf,hlt]
    ·have hix:m<x.items.length:=by omega
     have e1:x.items[m]?=some x.items[m]:=List.getElem?_eq_getElem hix
     have d1:x.items.drop m=x.items[m]::x.items.drop (m+1):=qac hix
     have d2:y.items.drop m=[]:=qaf (by omega)
     have hlt:(m:Int)<(x.items.length:Int):=by omega
     have he:((m:Int) == (y.items.length:Int))=true:=by rw [beq_iff_eq];omega
     simp only [d1,d2,outC,kcf,qe hlt,kaz,e1,he,qd,qa])
  have hl':kab (kcf x y (kdg n)) fuel 0=some (outC x.items y.items):=by simpa using hl
  have hs:=k1d x.items y.items
  simp only [h1,h2,h3,h4,h5',h6,decide_false,qb,if_false,qat,hl',qa,← hs]
  cases outC x.items y.items with
  | inl u=>
   simp only [qf]
   by_cases hlt:(x.items.length:Int)<(y.items.length:Int) <;> simp [hlt]
  | inr c=>rfl
theorem km8 (b:Bool):kfk b=some (if b=true then -1 else 1):=by cases b <;> rfl
def outR:List Va→List Va→Unit ⊕ Int
 | x::l,y::m=>if cmpV x y≠0 then .inr (cmpV x y) else outR l m
 | _,_ => .inl ()
theorem k0z:∀ l m:List Va,Sum.elim (fun _=>if (l.length:Int)=(m.length:Int) then 0 else if (l.length:Int)<(m.length:Int) then -1 else (1:Int)) id (outR l m)=kh2 l m
 | [],[]=>rfl
 | [],y::m=>by
  simp only [outR,kh2,qf,qt,qk]
  rw [if_neg (by omega),if_pos (by omega)]
 | x::l,[]=>by
  simp only [outR,kh2,qf,qt,qk]
  rw [if_neg (by omega),if_neg (by omega)]
 | x::l,y::m=>by
  have ih:=k0z l m
  rw [outR,kh2]
  by_cases h:cmpV x y≠0
  ·rw [if_pos h,if_pos h];rfl
  ·rw [if_neg h,if_neg h,← ih]
   simp
theorem ktj:∀ (n:Nat),(∀ x y:Va,2*depV x<n+1→kip 9223372036854775807 x→kip 9223372036854775807 y→kba n x y=some (cmpV x y)) ∧
  ∀ l m:List Va,2*kr8 l<n→l.length≤9223372036854775807→m.length≤9223372036854775807→(∀ x∈l,kip 9223372036854775807 x)→(∀ x∈m,kip 9223372036854775807 x)→kdc n l m=some (kh2 l m)
 | 0=>⟨fun x y h=>by cases x;simp [depV] at h,fun l m h=>by omega⟩
 | n+1=>by
  obtain ⟨ih1,ih2⟩:=ktj n
  refine ⟨fun x y hd hx hy=>?_,fun l m hd hl hm wl wm=>?_⟩
  ·show kdj (kba n) (kdc n) x y=_
   obtain ⟨lx,wx⟩:=knu hx
   obtain ⟨ly,wy⟩:=knu hy
   have hA:=ih2 x.items y.items (by cases x;simp only [depV,Va.items] at hd ⊢; omega) lx ly wx wy
   rw [ktz]
   unfold kdj
   by_cases h1:x.type=y.type
   ·have b1:(x.type != y.type)=false:=by simp [h1]
    rw [if_neg (by omega),if_neg (by omega)]
    by_cases h2:x.num=y.num
    ·have b2:(x.num != y.num)=false:=by simp [h2]
     rw [if_neg (by omega),if_neg (by omega)]
     by_cases h3:x.text.toList=y.text.toList
     ·have b3:(!(x.text.toList == y.text.toList))=false:=by simp [h3]
      have e1:kgx x.text y.text=false:=by unfold kgx;rw [h3];exact knk _
      have e2:kgx y.text x.text=false:=by unfold kgx;rw [h3];exact knk _
      rw [e1,e2,b1,b2,b3]
      simp [hA]
     ·have b3:(!(x.text.toList == y.text.toList))=true:=by simp [h3]
      rw [b1,b2,b3]
      simp only [qb,qd,km8,qa]
      cases h4:kgx x.text y.text with
      | true=>
       have:Op.bytesLess x.text.toList y.text.toList=true:=h4
       simp [this]
      | false=>
       have h4':Op.bytesLess x.text.toList y.text.toList=false:=h4
       cases h5:kgx y.text x.text with
       | true=>simp [h4']
       | false=>exact absurd (ktp _ _ h4' h5) h3
    ·have b2:(x.num != y.num)=true:=by simp [h2]
     rw [b1,b2]
     simp only [qb,qd,km8,qa]
     by_cases h4:x.num<y.num
     ·simp [h4]
     ·have:y.num<x.num:=by omega
      simp [h4,this]
   ·have b1:(x.type != y.type)=true:=by simp [h1]
    rw [b1]
    simp only [qb,qd,km8,qa]
    by_cases h4:x.type<y.type
    ·simp [h4]
    ·have:y.type<x.type:=by omega
     simp [h4,this]
  ·show kcp (kba n) (kdc n) l m=_
   obtain ⟨k,hk⟩:∃ k,k=Nat.min l.length m.length:=⟨_,rfl⟩
   have hkl:k≤l.length:=hk ▸ Nat.min_le_left _ _
   have hkm:k≤m.length:=hk ▸ Nat.min_le_right _ _
   have hkk:k=l.length∨k=m.length:=by
    rw [hk]
    rcases Nat.le_total l.length m.length with h | h
    ·exact .inl (Nat.min_eq_left h)
    ·exact .inr (Nat.min_eq_right h)
   have hl:=km6 (step:=kbf l m (kba n)) k (by omega) (fun i=>(i:Int)) (fun i=>outR (l.drop i) (m.drop i)) (fun i hi=>by
    have hix:i<l.length:=by omega
    have hj:i<m.length:=by omega
    have e1:l[i]?=some l[i]:=List.getElem?_eq_getElem hix
    have d1:l.drop i=l[i]::l.drop (i+1):=qac hix
    have hw:=kdr (n:=i) (by omega)
    have e2:m[i]?=some m[i]:=List.getElem?_eq_getElem hj
    have d2:m.drop i=m[i]::m.drop (i+1):=qac hj
    have b1:decide ((i:Int)<(l.length:Int))=true:=qe (by omega)
    have b0:decide ((i:Int)<(m.length:Int))=true:=qe (by omega)
    have hc:=ih1 l[i] m[i] (by have:=kv1 (qx hix);omega) (wl _ (qx hix)) (wm _ (qx hj))
    by_cases h0:cmpV l[i] m[i]=0
    ·have b2:(cmpV l[i] m[i] != 0)=false:=by rw [h0];rfl
     refine .inl ⟨?_,?_⟩
     ·simp only [kbf,b1,b0,kaz,e1,e2,hc,b2,hw,qd,qb,qa]
     ·simp only [d1,d2,outR,h0,ne_eq,not_true_eq_false,if_false]
    ·have b2:(cmpV l[i] m[i] != 0)=true:=by simpa using h0
     refine .inr ?_
     simp only [d1,d2,outR,ne_eq,h0,not_false_eq_true,if_true,kbf,b1,b0,kaz,e1,e2,hc,b2,hw,qd,qb,qa]) (by
    by_cases hlx:k=l.length
    ·have d1:l.drop k=[]:=qaf (by omega)
     have b1:decide ((k:Int)<(l.length:Int))=false:=qc (by omega)
     simp only [d1,outR,kbf,b1,qb,qa]
    ·have hkm2:k=m.length:=hkk.resolve_left hlx
     have d2:m.drop k=[]:=qaf (by omega)
     have b1:decide ((k:Int)<(l.length:Int))=true:=qe (by omega)
     have b0:decide ((k:Int)<(m.length:Int))=false:=qc (by omega)
     have:outR (l.drop k) (m.drop k) = .inl ():=by rw [d2];cases l.drop k <;> rfl
     simp only [this,kbf,b1,b0,qd,qb,qa])
   have hl':kab (kbf l m (kba n)) fuel 0=some (outR l m):=by simpa using hl
   unfold kcp
   rw [hl',qa,← k0z l m]
   cases outR l m with
   | inl u=>
    simp only [qf,km8,qa]
    by_cases h1:(l.length:Int)=(m.length:Int)
    ·simp [h1]
    ·by_cases h2:(l.length:Int)<(m.length:Int)
     ·rw [if_neg h1,if_pos h2,qe h2,qq.2 h1];rfl
     ·rw [if_neg h1,if_neg h2,qc h2,qq.2 h1];rfl
   | inr c=>rfl
def okV (v:Va):Prop:=depV v≤1000000∧kip 9223372036854775807 v
theorem ktc {x y:Va} (hx:okV x) (hy:okV y):kgh x y=some (eqV x y):=by
 unfold kgh
 rw [kqg fuel x y (kdf (by have:=hx.1;omega)) hx.2 hy.2]
 simp only [qa,eqV]
 by_cases h:cmpV x y=0 <;> simp [h]
theorem kv0 {x y:Va} (hx:okV x) (hy:okV y):kcj x y=some (eqV x y):=by
 unfold kcj
 rw [(ktj fuel).1 x y (Nat.lt_succ_of_lt (kdf (by have:=hx.1;omega))) hx.2 hy.2]
 simp only [qa,eqV]
 by_cases h:cmpV x y=0 <;> simp [h]
theorem kmy (s:BA) (n:Nat):byt s (n:Int)=(s.data.toList[n]?).map fun c=>(c.toNat:Int):=by
 rw [kahe]
 congr 1
 by_cases h:n<s.size
 ·rw [getElem?_pos s n h]
  have h':n<s.data.size:=h
  rw [Array.getElem?_toList,Array.getElem?_eq_getElem h']
  rfl
 ·rw [getElem?_neg s n h]
  have h':¬ n<s.data.size:=h
  rw [Array.getElem?_toList,Array.getElem?_eq_none (by omega)]
theorem kar (s:BA):s.size=s.data.toList.length:=by rw [qas];rfl
def kmq (c:UInt8):Bool:=decide (32≤c.toNat) && decide (c.toNat≤126)
theorem kwd (c:UInt8):(bif decide ((c.toNat:Int)<32) then some true else (some (decide (126<(c.toNat:Int))):Option Bool))=some (!kmq c):=by
 unfold kmq
 by_cases h:c.toNat<32
 ·have h1:decide ((c.toNat:Int)<32)=true:=qe (by omega)
  have h2:decide (32≤c.toNat)=false:=qc (by omega)
  rw [h1,h2];rfl
 ·have h1:decide ((c.toNat:Int)<32)=false:=qc (by omega)
  have h2:decide (32≤c.toNat)=true:=qe (by omega)
  rw [h1,h2]
  by_cases h3:c.toNat≤126
  ·have h4:decide (126<(c.toNat:Int))=false:=qc (by omega)
   rw [h4,qe h3];rfl
  ·have h4:decide (126<(c.toNat:Int))=true:=qe (by omega)
   rw [h4,qc h3];rfl
theorem kq9 (s:BA) (hs:s.size≤9223372036854775807):kks s=some (s.data.toList.all kmq):=by
 have hl:=km6 (step:=kgo s) s.size (by omega) (fun i=>(i:Int)) (fun i=>if (s.data.toList.drop i).all kmq=true then .inl () else .inr false) (fun i hi=>by
  have hi':i<s.data.toList.length:=by rw [← kar];exact hi
  have e1:byt s (i:Int)=some (s.data.toList[i].toNat:Int):=by rw [kmy,List.getElem?_eq_getElem hi'];rfl
  have d1:s.data.toList.drop i=s.data.toList[i]::s.data.toList.drop (i+1):=qac hi'
  have b1:decide ((i:Int)<(s.size:Int))=true:=qe (by omega)
  have hw:=kdr (n:=i) (by omega)
  cases hg:kmq s.data.toList[i] with
  | true=>
   refine .inl ⟨?_,?_⟩
   ·simp only [kgo,b1,e1,qd,qa,kwd,hg,qv,qb,hw]
   ·simp only [d1,List.all_cons,hg,Bool.true_and]
  | false=>
   refine .inr ?_
   simp only [kgo,b1,e1,qd,qa,kwd,hg,qam,d1,List.all_cons,Bool.false_and,qat,if_false]) (by
  have b1:decide ((s.size:Int)<(s.size:Int))=false:=qc (by omega)
  have d1:s.data.toList.drop s.size=[]:=qaf (by rw [← kar];omega)
  simp only [kgo,b1,qb,d1,List.all_nil,if_true])
 have hl':kab (kgo s) fuel 0=some (if s.data.toList.all kmq=true then .inl () else .inr false):=by simpa using hl
 unfold kks
 rw [hl',qa]
 cases s.data.toList.all kmq <;> rfl
theorem k2q (s:BA) (a b:Int) (hs:s.size≤9223372036854775807):kf9 s a b=kjs s a b:=by
 have hl:=km6 (step:=kdq s) s.size (by omega) (fun i=>(i:Int)) (fun i=>if (s.data.toList.drop i).all kmq=true then .inl () else .inr 1) (fun i hi=>by
  have hi':i<s.data.toList.length:=by rw [← kar];exact hi
  have e1:byt s (i:Int)=some (s.data.toList[i].toNat:Int):=by rw [kmy,List.getElem?_eq_getElem hi'];rfl
  have d1:s.data.toList.drop i=s.data.toList[i]::s.data.toList.drop (i+1):=qac hi'
  have b1:decide ((i:Int)<(s.size:Int))=true:=qe (by omega)
  have hw:=kdr (n:=i) (by omega)
  cases hg:kmq s.data.toList[i] with
  | true=>
   refine .inl ⟨?_,?_⟩
   ·simp only [kdq,b1,e1,qd,qa,kwd,hg,qv,qb,hw]
   ·simp only [d1,List.all_cons,hg,Bool.true_and]
  | false=>
   refine .inr ?_
   simp only [kdq,b1,e1,qd,qa,kwd,hg,qam,d1,List.all_cons,Bool.false_and,qat,if_false]) (by
  have b1:decide ((s.size:Int)<(s.size:Int))=false:=qc (by omega)
  have d1:s.data.toList.drop s.size=[]:=qaf (by rw [← kar];omega)
  simp only [kdq,b1,qb,d1,List.all_nil,if_true])
 have hl':kab (kdq s) fuel 0=some (if s.data.toList.all kmq=true then .inl () else .inr 1):=by simpa using hl
 unfold kf9 kjs
 rw [hl',kq9 s hs]
 simp only [qa]
 cases s.data.toList.all kmq <;> rfl
theorem k79 (s:BA) (a b:Int) (hs:s.size≤9223372036854775807):∃ c,kjs s a b=some c:=by
 unfold kjs
 rw [kq9 s hs]
 simp only [qa]
 by_cases h1:(s.size:Int)<a <;> by_cases h2:b<(s.size:Int) <;> cases s.data.toList.all kmq <;> simp [h1,h2]
mutual
def kln:Va→Prop
 | .mk _ _ s l=>s.size≤9223372036854775807∧kwi l
def kwi:List Va→Prop
 | []=>True
 | x::l=>kln x∧kwi l
end
theorem k5a {v:Va} (h:kln v):v.text.size≤9223372036854775807∧∀ x∈v.items,kln x:=by
 cases v with
 | mk t n s l=>
  refine ⟨h.1,?_⟩
  have:∀ l:List Va,kwi l→∀ x∈l,kln x:=fun l=>by
   induction l with
   | nil=>intro _ x hx;cases hx
   | cons y l ih=>
    intro h x hx
    rcases qz.1 hx with rfl | hx
    ·exact h.1
    ·exact ih h.2 x hx
  exact this l h.2
end Go.Proofs.YtaimpcnpifoidaaGreatDoor
set_option linter.unusedVariables false
set_option linter.unusedSimpArgs false
namespace Go.Proofs.YtaimpcnpifoidaaGreatDoor
open Go Go.RowKit
theorem kafu (l:List Va):decide (0<(l.length:Int))=!((l.length:Int) == 0):=by
 cases l <;> simp <;> omega
theorem ksj (m a b:Int):∃ c,ki6 m a b=some c∧kei m a b=some c:=by
 unfold ki6 kei
 by_cases h1:m<a <;> by_cases h2:b<m <;> simp [h1,h2]
end Go.Proofs.YtaimpcnpifoidaaGreatDoor
