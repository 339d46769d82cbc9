import Derived.Test.YtaimpcnpifoidaaGreatDoorEv
import Derived.Test.YtaimpcnpifoidaaGreatDoorZE
set_option linter.unusedVariables false
set_option linter.unusedSimpArgs false
namespace Go.Proofs.YtaimpcnpifoidaaGreatDoor
open Go Go.RowKit
mutual
def kiq (B:Nat):Va→Prop
 | .mk _ _ _ l=>l.length≤B∧kqy B l
def kqy (B:Nat):List Va→Prop
 | []=>True
 | x::l=>kiq B x∧kqy B l
end
theorem kvn:∀ {l:List Va} {x:Va},x∈l→depV x≤kr7 l
 | y::l,x,h=>by
  simp only [kr7]
  rcases q8.1 h with rfl | h
  ·exact Nat.le_max_left _ _
  ·exact qaw (kvn h) (Nat.le_max_right _ _)
theorem kzd {B:Nat}:∀ {l:List Va} {x:Va},kqy B l→x∈l→kiq B x
 | y::l,x,hw,h=>by
  rcases q8.1 h with rfl | h
  ·exact hw.1
  ·exact kzd hw.2 h
theorem kabt {v:Va} {x:Va} (h:x∈v.items):depV x<depV v:=by
 cases v;exact Nat.lt_succ_of_le (kvn h)
theorem knq {B:Nat} {v:Va} (h:kiq B v):v.items.length≤B∧∀ x∈v.items,kiq B x:=by
 cases v;exact ⟨h.1,fun x hx=>kzd h.2 hx⟩
theorem kts (x y:Va):cmpV x y=if x.type<y.type then -1 else if y.type<x.type then 1 else if x.num<y.num then -1 else if y.num<x.num then 1 else if kgt x.text y.text=true then -1 else if kgt y.text x.text=true then 1 else khn x.items y.items:=by
 cases x;cases y;rw [cmpV];rfl
theorem k1s (a b:BA):(!(Op.bytesLess a.toList b.toList || a.toList == b.toList))=kgt b a:=by
 have asym:∀ l m:List UInt8,Op.bytesLess l m=true→Op.bytesLess m l=false:=by
  intro l
  induction l with
  | nil=>intro m _;cases m <;> rfl
  | cons x l ih=>
   intro m h
   cases m with
   | nil=>cases h
   | cons y m=>
    simp only [Op.bytesLess,Bool.or_eq_true,decide_eq_true_eq,qu,beq_iff_eq] at h
    simp only [Op.bytesLess,Bool.or_eq_false_iff,decide_eq_false_iff_not,Bool.and_eq_false_iff,qy]
    rcases h with h | ⟨rfl,h⟩
    ·exact ⟨UInt8.not_lt.2 (UInt8.le_of_lt h), .inl (UInt8.ne_of_lt h).symm⟩
    ·exact ⟨UInt8.lt_irrefl _, .inr (ih m h)⟩
 unfold kgt
 cases h:Op.bytesLess b.toList a.toList with
 | true=>
  have h2:=asym _ _ h
  have h3:(a.toList == b.toList)=false:=by
   rw [qy]
   intro e
   rw [e,kn4] at h
   cases h
  rw [h2,h3];rfl
 | false=>
  cases h2:Op.bytesLess a.toList b.toList with
  | true=>rfl
  | false=>
   have:=ktk _ _ h2 h
   rw [this];simp
def outC:List Va→List Va→Unit ⊕ Int
 | [],_ => .inl ()
 | _::_,[] => .inr 1
 | x::l,y::m=>if cmpV x y≠0 then .inr (cmpV x y) else outC l m
theorem k2c:∀ l m:List Va,Sum.elim (fun _=>if (l.length:Int)<(m.length:Int) then -1 else (0:Int)) id (outC l m)=khn l m
 | [],[]=>rfl
 | [],y::m=>by simp [outC,khn]
 | x::l,[]=>by simp [outC,khn]
 | x::l,y::m=>by
  have ih:=k2c l m
  rw [outC,khn]
  by_cases h:cmpV x y≠0
  ·rw [if_pos h,if_pos h];rfl
  ·rw [if_neg h,if_neg h,← ih]
   simp
theorem kq2:∀ (n:Nat) (x y:Va),depV x<n→kiq 9223372036854775807 x→kiq 9223372036854775807 y→kc9 n x y=some (cmpV x y)
 | 0,x,y,h,_,_=>by omega
 | n+1,x,y,hd,hx,hy=>by
  show kg4 (kc9 n) x y=_
  rw [kts]
  unfold kg4
  simp only [k1s]
  by_cases h1:x.type<y.type
  ·simp [h1]
  by_cases h2:y.type<x.type
  ·simp [h1,h2]
  by_cases h3:x.num<y.num
  ·simp [h1,h2,h3]
  by_cases h4:y.num<x.num
  ·simp [h1,h2,h3,h4]
  cases h5:kgt x.text y.text with
  | true=>
   have h5':Op.bytesLess x.text.toList y.text.toList=true:=h5
   simp [h1,h2,h3,h4,h5']
  | false=>
  have h5':Op.bytesLess x.text.toList y.text.toList=false:=h5
  cases h6:kgt y.text x.text with
  | true=>simp [h1,h2,h3,h4,h5',h6]
  | false=>
  obtain ⟨lx,wx⟩:=knq hx
  obtain ⟨ly,wy⟩:=knq hy
  obtain ⟨m,hm⟩:∃ m,m=Nat.min x.items.length y.items.length:=⟨_,rfl⟩
  have hmx:m≤x.items.length:=hm ▸ Nat.min_le_left _ _
  have hmy:m≤y.items.length:=hm ▸ Nat.min_le_right _ _
  have hmm:m=x.items.length∨m=y.items.length:=by
   rw [hm]
   rcases Nat.le_total x.items.length y.items.length with h | h
   ·exact .inl (Nat.min_eq_left h)
   ·exact .inr (Nat.min_eq_right h)
  have hl:=kkp (step:=kce x y (kc9 n)) m (by omega) (fun i=>(i:Int)) (fun i=>outC (x.items.drop i) (y.items.drop i)) (fun i hi=>by
   have hix:i<x.items.length:=by omega
   have hj:i<y.items.length:=by omega
   have e1:x.items[i]?=some x.items[i]:=List.getElem?_eq_getElem hix
   have d1:x.items.drop i=x.items[i]::x.items.drop (i+1):=qv hix
   have hlt:(i:Int)<(x.items.length:Int):=by omega
   have hw:=kb9 (n:=i) (by omega)
   have e2:y.items[i]?=some y.items[i]:=List.getElem?_eq_getElem hj
   have d2:y.items.drop i=y.items[i]::y.items.drop (i+1):=qv hj
   have b1:decide ((i:Int)<(x.items.length:Int))=true:=qe hlt
   have hne:((i:Int) == (y.items.length:Int))=false:=by rw [qy];omega
   have hc:=kq2 n x.items[i] y.items[i] (by have:=kabt (qn hix);omega) (wx _ (qn hix)) (wy _ (qn hj))
   by_cases h0:cmpV x.items[i] y.items[i]=0
   ·refine .inl ⟨?_,?_⟩
    ·have b2:(cmpV x.items[i] y.items[i] != 0)=false:=by rw [h0];rfl
     simp only [kce,b1,kak,e1,e2,hne,hc,b2,hw,qd,qb,qa]
    ·simp only [d1,d2,outC,h0,ne_eq,not_true_eq_false,if_false]
   ·refine .inr ?_
    have b2:(cmpV x.items[i] y.items[i] != 0)=true:=by simpa using h0
    simp only [d1,d2,outC,ne_eq,h0,not_false_eq_true,if_true,kce,b1,kak,e1,e2,hne,hc,b2,hw,qd,qb,qa]) (by
   rcases hmm with h | h
   ·have d1:x.items.drop m=[]:=qaf (by omega)
    have hlt:¬ (m:Int)<(x.items.length:Int):=by omega
    simp only [d1,outC]
    simp [kce,hlt]
   ·by_cases hlx:m=x.items.length
    ·have d1:x.items.drop m=[]:=qaf (by omega)
     have hlt:¬ (m:Int)<(x.items.length:Int):=by omega
     simp only [d1,outC]
     simp [kce,hlt]
    ·have hix:m<x.items.length:=by omega
     have e1:x.items[m]?=some x.items[m]:=List.getElem?_eq_getElem hix
     have d1:x.items.drop m=x.items[m]::x.items.drop (m+1):=qv hix
     have d2:y.items.drop m=[]:=qaf (by omega)
     have hlt:(m:Int)<(x.items.length:Int):=by omega
     have he:((m:Int) == (y.items.length:Int))=true:=by rw [beq_iff_eq];omega
     simp only [d1,d2,outC,kce,qe hlt,kak,e1,he,qd,qa])
  have hl':kaa (kce x y (kc9 n)) fuel 0=some (outC x.items y.items):=by simpa using hl
  have hs:=k2c x.items y.items
  simp only [h1,h2,h3,h4,h5',h6,decide_false,qb,if_false,qax,hl',qa,← hs]
  cases outC x.items y.items with
  | inl u=>
   simp only [qf]
   by_cases hlt:(x.items.length:Int)<(y.items.length:Int) <;> simp [hlt]
  | inr c=>rfl
theorem knc (b:Bool):kfa b=some (if b=true then -1 else 1):=by cases b <;> rfl
def outR:List Va→List Va→Unit ⊕ Int
 | x::l,y::m=>if cmpV x y≠0 then .inr (cmpV x y) else outR l m
 | _,_ => .inl ()
theorem k2d:∀ l m:List Va,Sum.elim (fun _=>if (l.length:Int)=(m.length:Int) then 0 else if (l.length:Int)<(m.length:Int) then -1 else (1:Int)) id (outR l m)=khn l m
 | [],[]=>rfl
 | [],y::m=>by
  simp only [outR,khn,qf,qab,qq]
  rw [if_neg (by omega),if_pos (by omega)]
 | x::l,[]=>by
  simp only [outR,khn,qf,qab,qq]
  rw [if_neg (by omega),if_neg (by omega)]
 | x::l,y::m=>by
  have ih:=k2d l m
  rw [outR,khn]
  by_cases h:cmpV x y≠0
  ·rw [if_pos h,if_pos h];rfl
  ·rw [if_neg h,if_neg h,← ih]
   simp
theorem kte:∀ (n:Nat),(∀ x y:Va,2*depV x<n+1→kiq 9223372036854775807 x→kiq 9223372036854775807 y→ka8 n x y=some (cmpV x y)) ∧
  ∀ l m:List Va,2*kr7 l<n→l.length≤9223372036854775807→m.length≤9223372036854775807→(∀ x∈l,kiq 9223372036854775807 x)→(∀ x∈m,kiq 9223372036854775807 x)→kc4 n l m=some (khn l m)
 | 0=>⟨fun x y h=>by cases x;simp [depV] at h,fun l m h=>by omega⟩
 | n+1=>by
  obtain ⟨ih1,ih2⟩:=kte n
  refine ⟨fun x y hd hx hy=>?_,fun l m hd hl hm wl wm=>?_⟩
  ·show kdc (ka8 n) (kc4 n) x y=_
   obtain ⟨lx,wx⟩:=knq hx
   obtain ⟨ly,wy⟩:=knq hy
   have hA:=ih2 x.items y.items (by cases x;simp only [depV,Va.items] at hd ⊢; omega) lx ly wx wy
   rw [kts]
   unfold kdc
   by_cases h1:x.type=y.type
   ·have b1:(x.type != y.type)=false:=by simp [h1]
    rw [if_neg (by omega),if_neg (by omega)]
    by_cases h2:x.num=y.num
    ·have b2:(x.num != y.num)=false:=by simp [h2]
     rw [if_neg (by omega),if_neg (by omega)]
     by_cases h3:x.text.toList=y.text.toList
     ·have b3:(!(x.text.toList == y.text.toList))=false:=by simp [h3]
      have e1:kgt x.text y.text=false:=by unfold kgt;rw [h3];exact kn4 _
      have e2:kgt y.text x.text=false:=by unfold kgt;rw [h3];exact kn4 _
      rw [e1,e2,b1,b2,b3]
      simp [hA]
     ·have b3:(!(x.text.toList == y.text.toList))=true:=by simp [h3]
      rw [b1,b2,b3]
      simp only [qb,qd,knc,qa]
      cases h4:kgt x.text y.text with
      | true=>
       have:Op.bytesLess x.text.toList y.text.toList=true:=h4
       simp [this]
      | false=>
       have h4':Op.bytesLess x.text.toList y.text.toList=false:=h4
       cases h5:kgt y.text x.text with
       | true=>simp [h4']
       | false=>exact absurd (ktk _ _ h4' h5) h3
    ·have b2:(x.num != y.num)=true:=by simp [h2]
     rw [b1,b2]
     simp only [qb,qd,knc,qa]
     by_cases h4:x.num<y.num
     ·simp [h4]
     ·have:y.num<x.num:=by omega
      simp [h4,this]
   ·have b1:(x.type != y.type)=true:=by simp [h1]
    rw [b1]
    simp only [qb,qd,knc,qa]
    by_cases h4:x.type<y.type
    ·simp [h4]
    ·have:y.type<x.type:=by omega
     simp [h4,this]
  ·show kcm (ka8 n) (kc4 n) l m=_
   obtain ⟨k,hk⟩:∃ k,k=Nat.min l.length m.length:=⟨_,rfl⟩
   have hkl:k≤l.length:=hk ▸ Nat.min_le_left _ _
   have hkm:k≤m.length:=hk ▸ Nat.min_le_right _ _
   have hkk:k=l.length∨k=m.length:=by
    rw [hk]
    rcases Nat.le_total l.length m.length with h | h
    ·exact .inl (Nat.min_eq_left h)
    ·exact .inr (Nat.min_eq_right h)
   have hl:=kkp (step:=kbe l m (ka8 n)) k (by omega) (fun i=>(i:Int)) (fun i=>outR (l.drop i) (m.drop i)) (fun i hi=>by
    have hix:i<l.length:=by omega
    have hj:i<m.length:=by omega
    have e1:l[i]?=some l[i]:=List.getElem?_eq_getElem hix
    have d1:l.drop i=l[i]::l.drop (i+1):=qv hix
    have hw:=kb9 (n:=i) (by omega)
    have e2:m[i]?=some m[i]:=List.getElem?_eq_getElem hj
    have d2:m.drop i=m[i]::m.drop (i+1):=qv hj
    have b1:decide ((i:Int)<(l.length:Int))=true:=qe (by omega)
    have b0:decide ((i:Int)<(m.length:Int))=true:=qe (by omega)
    have hc:=ih1 l[i] m[i] (by have:=kvn (qn hix);omega) (wl _ (qn hix)) (wm _ (qn hj))
    by_cases h0:cmpV l[i] m[i]=0
    ·have b2:(cmpV l[i] m[i] != 0)=false:=by rw [h0];rfl
     refine .inl ⟨?_,?_⟩
     ·simp only [kbe,b1,b0,kak,e1,e2,hc,b2,hw,qd,qb,qa]
     ·simp only [d1,d2,outR,h0,ne_eq,not_true_eq_false,if_false]
    ·have b2:(cmpV l[i] m[i] != 0)=true:=by simpa using h0
     refine .inr ?_
     simp only [d1,d2,outR,ne_eq,h0,not_false_eq_true,if_true,kbe,b1,b0,kak,e1,e2,hc,b2,hw,qd,qb,qa]) (by
    by_cases hlx:k=l.length
    ·have d1:l.drop k=[]:=qaf (by omega)
     have b1:decide ((k:Int)<(l.length:Int))=false:=qc (by omega)
     simp only [d1,outR,kbe,b1,qb,qa]
    ·have hkm2:k=m.length:=hkk.resolve_left hlx
     have d2:m.drop k=[]:=qaf (by omega)
     have b1:decide ((k:Int)<(l.length:Int))=true:=qe (by omega)
     have b0:decide ((k:Int)<(m.length:Int))=false:=qc (by omega)
     have:outR (l.drop k) (m.drop k) = .inl ():=by rw [d2];cases l.drop k <;> rfl
     simp only [this,kbe,b1,b0,qd,qb,qa])
   have hl':kaa (kbe l m (ka8 n)) fuel 0=some (outR l m):=by simpa using hl
   unfold kcm
   rw [hl',qa,← k2d l m]
   cases outR l m with
   | inl u=>
    simp only [qf,knc,qa]
    by_cases h1:(l.length:Int)=(m.length:Int)
    ·simp [h1]
    ·by_cases h2:(l.length:Int)<(m.length:Int)
     ·rw [if_neg h1,if_pos h2,qe h2,qy.2 h1];rfl
     ·rw [if_neg h1,if_neg h2,qc h2,qy.2 h1];rfl
   | inr c=>rfl
def okV (v:Va):Prop:=depV v≤1000000∧kiq 9223372036854775807 v
theorem kok {x y:Va} (hx:okV x) (hy:okV y):kf6 x y=some (eqV x y):=by
 unfold kf6
 rw [kq2 fuel x y (kbg (by have:=hx.1;omega)) hx.2 hy.2]
 simp only [qa,eqV]
 by_cases h:cmpV x y=0 <;> simp [h]
theorem kvc {x y:Va} (hx:okV x) (hy:okV y):kch x y=some (eqV x y):=by
 unfold kch
 rw [(kte fuel).1 x y (Nat.lt_succ_of_lt (kbg (by have:=hx.1;omega))) hx.2 hy.2]
 simp only [qa,eqV]
 by_cases h:cmpV x y=0 <;> simp [h]
theorem km1 (s:BA) (n:Nat):byt s (n:Int)=(s.data.toList[n]?).map fun c=>(c.toNat:Int):=by
 rw [kaib]
 congr 1
 by_cases h:n<s.size
 ·rw [getElem?_pos s n h]
  have h':n<s.data.size:=h
  rw [Array.getElem?_toList,Array.getElem?_eq_getElem h']
  rfl
 ·rw [getElem?_neg s n h]
  have h':¬ n<s.data.size:=h
  rw [Array.getElem?_toList,Array.getElem?_eq_none (by omega)]
theorem ka4 (s:BA):s.size=s.data.toList.length:=by rw [qav];rfl
def kmc (c:UInt8):Bool:=decide (32≤c.toNat) && decide (c.toNat≤126)
theorem kw6 (c:UInt8):(bif decide ((c.toNat:Int)<32) then some true else (some (decide (126<(c.toNat:Int))):Option Bool))=some (!kmc c):=by
 unfold kmc
 by_cases h:c.toNat<32
 ·have h1:decide ((c.toNat:Int)<32)=true:=qe (by omega)
  have h2:decide (32≤c.toNat)=false:=qc (by omega)
  rw [h1,h2];rfl
 ·have h1:decide ((c.toNat:Int)<32)=false:=qc (by omega)
  have h2:decide (32≤c.toNat)=true:=qe (by omega)
  rw [h1,h2]
  by_cases h3:c.toNat≤126
  ·have h4:decide (126<(c.toNat:Int))=false:=qc (by omega)
   rw [h4,qe h3];rfl
  ·have h4:decide (126<(c.toNat:Int))=true:=qe (by omega)
   rw [h4,qc h3];rfl
theorem km3 (s:BA) (hs:s.size≤9223372036854775807):kk5 s=some (s.data.toList.all kmc):=by
 have hl:=kkp (step:=kgm s) s.size (by omega) (fun i=>(i:Int)) (fun i=>if (s.data.toList.drop i).all kmc=true then .inl () else .inr false) (fun i hi=>by
  have hi':i<s.data.toList.length:=by rw [← ka4];exact hi
  have e1:byt s (i:Int)=some (s.data.toList[i].toNat:Int):=by rw [km1,List.getElem?_eq_getElem hi'];rfl
  have d1:s.data.toList.drop i=s.data.toList[i]::s.data.toList.drop (i+1):=qv hi'
  have b1:decide ((i:Int)<(s.size:Int))=true:=qe (by omega)
  have hw:=kb9 (n:=i) (by omega)
  cases hg:kmc s.data.toList[i] with
  | true=>
   refine .inl ⟨?_,?_⟩
   ·simp only [kgm,b1,e1,qd,qa,kw6,hg,qae,qb,hw]
   ·simp only [d1,List.all_cons,hg,Bool.true_and]
  | false=>
   refine .inr ?_
   simp only [kgm,b1,e1,qd,qa,kw6,hg,qat,d1,List.all_cons,Bool.false_and,qax,if_false]) (by
  have b1:decide ((s.size:Int)<(s.size:Int))=false:=qc (by omega)
  have d1:s.data.toList.drop s.size=[]:=qaf (by rw [← ka4];omega)
  simp only [kgm,b1,qb,d1,List.all_nil,if_true])
 have hl':kaa (kgm s) fuel 0=some (if s.data.toList.all kmc=true then .inl () else .inr false):=by simpa using hl
 unfold kk5
 rw [hl',qa]
 cases s.data.toList.all kmc <;> rfl
theorem k25 (s:BA) (a b:Int) (hs:s.size≤9223372036854775807):kfy s a b=khv s a b:=by
 have hl:=kkp (step:=kdl s) s.size (by omega) (fun i=>(i:Int)) (fun i=>if (s.data.toList.drop i).all kmc=true then .inl () else .inr 1) (fun i hi=>by
  have hi':i<s.data.toList.length:=by rw [← ka4];exact hi
  have e1:byt s (i:Int)=some (s.data.toList[i].toNat:Int):=by rw [km1,List.getElem?_eq_getElem hi'];rfl
  have d1:s.data.toList.drop i=s.data.toList[i]::s.data.toList.drop (i+1):=qv hi'
  have b1:decide ((i:Int)<(s.size:Int))=true:=qe (by omega)
  have hw:=kb9 (n:=i) (by omega)
  cases hg:kmc s.data.toList[i] with
  | true=>
   refine .inl ⟨?_,?_⟩
   ·simp only [kdl,b1,e1,qd,qa,kw6,hg,qae,qb,hw]
   ·simp only [d1,List.all_cons,hg,Bool.true_and]
  | false=>
   refine .inr ?_
   simp only [kdl,b1,e1,qd,qa,kw6,hg,qat,d1,List.all_cons,Bool.false_and,qax,if_false]) (by
  have b1:decide ((s.size:Int)<(s.size:Int))=false:=qc (by omega)
  have d1:s.data.toList.drop s.size=[]:=qaf (by rw [← ka4];omega)
  simp only [kdl,b1,qb,d1,List.all_nil,if_true])
 have hl':kaa (kdl s) fuel 0=some (if s.data.toList.all kmc=true then .inl () else .inr 1):=by simpa using hl
 unfold kfy khv
 rw [hl',km3 s hs]
 simp only [qa]
 cases s.data.toList.all kmc <;> rfl
theorem kn1 (s:BA) (a b:Int) (hs:s.size≤9223372036854775807):∃ c,khv s a b=some c:=by
 unfold khv
 rw [km3 s hs]
 simp only [qa]
 by_cases h1:(s.size:Int)<a <;> by_cases h2:b<(s.size:Int) <;> cases s.data.toList.all kmc <;> simp [h1,h2]
mutual
def ks9:Va→Prop
 | .mk _ _ s l=>s.size≤9223372036854775807∧kws l
def kws:List Va→Prop
 | []=>True
 | x::l=>ks9 x∧kws l
end
theorem k5r {v:Va} (h:ks9 v):v.text.size≤9223372036854775807∧∀ x∈v.items,ks9 x:=by
 cases v with
 | mk t n s l=>
  refine ⟨h.1,?_⟩
  have:∀ l:List Va,kws l→∀ x∈l,ks9 x:=fun l=>by
   induction l with
   | nil=>intro _ x hx;cases hx
   | cons y l ih=>
    intro h x hx
    rcases q8.1 hx with rfl | hx
    ·exact h.1
    ·exact ih h.2 x hx
  exact this l h.2
end Go.Proofs.YtaimpcnpifoidaaGreatDoor
set_option linter.unusedVariables false
set_option linter.unusedSimpArgs false
namespace Go.Proofs.YtaimpcnpifoidaaGreatDoor
open Go Go.RowKit
theorem kah4 (l:List Va):decide (0<(l.length:Int))=!((l.length:Int) == 0):=by
 cases l <;> simp <;> omega
theorem kht (m a b:Int):∃ c,kgx m a b=some c∧kd6 m a b=some c:=by
 unfold kgx kd6
 by_cases h1:m<a <;> by_cases h2:b<m <;> simp [h1,h2]
end Go.Proofs.YtaimpcnpifoidaaGreatDoor
