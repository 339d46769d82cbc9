import Derived.Test.YtaimpcnpifoidaaGreatDoorEv
import Derived.Test.YtaimpcnpifoidaaGreatDoorZE
set_option linter.unusedVariables false
set_option linter.unusedSimpArgs false
namespace Go.Proofs.YtaimpcnpifoidaaGreatDoor
open Go Go.RowKit
mutual
def khv (B:Nat):Va→Prop
 | .mk _ _ _ l=>l.length≤B∧kq8 B l
def kq8 (B:Nat):List Va→Prop
 | []=>True
 | x::l=>khv B x∧kq8 B l
end
theorem kt1:∀ {l:List Va} {x:Va},x∈l→depV x≤kp8 l
 | y::l,x,h=>by
  simp only [kp8]
  rcases qz.1 h with rfl | h
  ·exact Nat.le_max_left _ _
  ·exact qau (kt1 h) (Nat.le_max_right _ _)
theorem kxk {B:Nat}:∀ {l:List Va} {x:Va},kq8 B l→x∈l→khv B x
 | y::l,x,hw,h=>by
  rcases qz.1 h with rfl | h
  ·exact hw.1
  ·exact kxk hw.2 h
theorem k7u {v:Va} {x:Va} (h:x∈v.items):depV x<depV v:=by
 cases v;exact Nat.lt_succ_of_le (kt1 h)
theorem kl0 {B:Nat} {v:Va} (h:khv B v):v.items.length≤B∧∀ x∈v.items,khv B x:=by
 cases v;exact ⟨h.1,fun x hx=>kxk h.2 hx⟩
theorem kss (x y:Va):cmpV x y=if x.type<y.type then -1 else if y.type<x.type then 1 else if x.num<y.num then -1 else if y.num<x.num then 1 else if kf2 x.text y.text=true then -1 else if kf2 y.text x.text=true then 1 else kgy x.items y.items:=by
 cases x;cases y;rw [cmpV];rfl
theorem kyk (a b:BA):(!(Op.bytesLess a.toList b.toList || a.toList == b.toList))=kf2 b a:=by
 have asym:∀ l m:List UInt8,Op.bytesLess l m=true→Op.bytesLess m l=false:=by
  intro l
  induction l with
  | nil=>intro m _;cases m <;> rfl
  | cons x l ih=>
   intro m h
   cases m with
   | nil=>cases h
   | cons y m=>
    simp only [Op.bytesLess,Bool.or_eq_true,decide_eq_true_eq,qv,beq_iff_eq] at h
    simp only [Op.bytesLess,Bool.or_eq_false_iff,decide_eq_false_iff_not,Bool.and_eq_false_iff,qw]
    rcases h with h | ⟨rfl,h⟩
    ·exact ⟨UInt8.not_lt.2 (UInt8.le_of_lt h), .inl (UInt8.ne_of_lt h).symm⟩
    ·exact ⟨UInt8.lt_irrefl _, .inr (ih m h)⟩
 unfold kf2
 cases h:Op.bytesLess b.toList a.toList with
 | true=>
  have h2:=asym _ _ h
  have h3:(a.toList == b.toList)=false:=by
   rw [qw]
   intro e
   rw [e,kmm] at h
   cases h
  rw [h2,h3];rfl
 | false=>
  cases h2:Op.bytesLess a.toList b.toList with
  | true=>rfl
  | false=>
   have:=ks3 _ _ h2 h
   rw [this];simp
def outC:List Va→List Va→Unit ⊕ Int
 | [],_ => .inl ()
 | _::_,[] => .inr 1
 | x::l,y::m=>if cmpV x y≠0 then .inr (cmpV x y) else outC l m
theorem kzs:∀ l m:List Va,Sum.elim (fun _=>if (l.length:Int)<(m.length:Int) then -1 else (0:Int)) id (outC l m)=kgy l m
 | [],[]=>rfl
 | [],y::m=>by simp [outC,kgy]
 | x::l,[]=>by simp [outC,kgy]
 | x::l,y::m=>by
  have ih:=kzs l m
  rw [outC,kgy]
  by_cases h:cmpV x y≠0
  ·rw [if_pos h,if_pos h];rfl
  ·rw [if_neg h,if_neg h,← ih]
   simp
theorem kpk:∀ (n:Nat) (x y:Va),depV x<n→khv 9223372036854775807 x→khv 9223372036854775807 y→kct n x y=some (cmpV x y)
 | 0,x,y,h,_,_=>by omega
 | n+1,x,y,hd,hx,hy=>by
  show kf9 (kct n) x y=_
  rw [kss]
  unfold kf9
  simp only [kyk]
  by_cases h1:x.type<y.type
  ·simp [h1]
  by_cases h2:y.type<x.type
  ·simp [h1,h2]
  by_cases h3:x.num<y.num
  ·simp [h1,h2,h3]
  by_cases h4:y.num<x.num
  ·simp [h1,h2,h3,h4]
  cases h5:kf2 x.text y.text with
  | true=>
   have h5':Op.bytesLess x.text.toList y.text.toList=true:=h5
   simp [h1,h2,h3,h4,h5']
  | false=>
  have h5':Op.bytesLess x.text.toList y.text.toList=false:=h5
  cases h6:kf2 y.text x.text with
  | true=>simp [h1,h2,h3,h4,h5',h6]
  | false=>
  obtain ⟨lx,wx⟩:=kl0 hx
  obtain ⟨ly,wy⟩:=kl0 hy
  obtain ⟨m,hm⟩:∃ m,m=Nat.min x.items.length y.items.length:=⟨_,rfl⟩
  have hmx:m≤x.items.length:=hm ▸ Nat.min_le_left _ _
  have hmy:m≤y.items.length:=hm ▸ Nat.min_le_right _ _
  have hmm:m=x.items.length∨m=y.items.length:=by
   rw [hm]
   rcases Nat.le_total x.items.length y.items.length with h | h
   ·exact .inl (Nat.min_eq_left h)
   ·exact .inr (Nat.min_eq_right h)
  have hl:=klq (step:=kb1 x y (kct n)) m (by omega) (fun i=>(i:Int)) (fun i=>outC (x.items.drop i) (y.items.drop i)) (fun i hi=>by
   have hix:i<x.items.length:=by omega
   have hj:i<y.items.length:=by omega
   have e1:x.items[i]?=some x.items[i]:=List.getElem?_eq_getElem hix
   have d1:x.items.drop i=x.items[i]::x.items.drop (i+1):=qag hix
   have hlt:(i:Int)<(x.items.length:Int):=by omega
   have hw:=kcm (n:=i) (by omega)
   have e2:y.items[i]?=some y.items[i]:=List.getElem?_eq_getElem hj
   have d2:y.items.drop i=y.items[i]::y.items.drop (i+1):=qag hj
   have b1:decide ((i:Int)<(x.items.length:Int))=true:=qe hlt
   have hne:((i:Int) == (y.items.length:Int))=false:=by rw [qw];omega
   have hc:=kpk n x.items[i] y.items[i] (by have:=k7u (qs hix);omega) (wx _ (qs hix)) (wy _ (qs hj))
   by_cases h0:cmpV x.items[i] y.items[i]=0
   ·refine .inl ⟨?_,?_⟩
    ·have b2:(cmpV x.items[i] y.items[i] != 0)=false:=by rw [h0];rfl
     simp only [kb1,b1,kap,e1,e2,hne,hc,b2,hw,qd,qb,qa]
    ·simp only [d1,d2,outC,h0,ne_eq,not_true_eq_false,if_false]
   ·refine .inr ?_
    have b2:(cmpV x.items[i] y.items[i] != 0)=true:=by simpa using h0
    simp only [d1,d2,outC,ne_eq,h0,not_false_eq_true,if_true,kb1,b1,kap,e1,e2,hne,hc,b2,hw,qd,qb,qa]) (by
   rcases hmm with h | h
   ·have d1:x.items.drop m=[]:=qae (by omega)
    have hlt:¬ (m:Int)<(x.items.length:Int):=by omega
    simp only [d1,outC]
    simp [kb1,hlt]
   ·by_cases hlx:m=x.items.length
    ·have d1:x.items.drop m=[]:=qae (by omega)
     have hlt:¬ (m:Int)<(x.items.length:Int):=by omega
     simp only [d1,outC]
     simp [kb1,hlt]
    ·have hix:m<x.items.length:=by omega
     have e1:x.items[m]?=some x.items[m]:=List.getElem?_eq_getElem hix
     have d1:x.items.drop m=x.items[m]::x.items.drop (m+1):=qag hix
     have d2:y.items.drop m=[]:=qae (by omega)
     have hlt:(m:Int)<(x.items.length:Int):=by omega
     have he:((m:Int) == (y.items.length:Int))=true:=by rw [beq_iff_eq];omega
     simp only [d1,d2,outC,kb1,qe hlt,kap,e1,he,qd,qa])
  have hl':kaa (kb1 x y (kct n)) fuel 0=some (outC x.items y.items):=by simpa using hl
  have hs:=kzs x.items y.items
  simp only [h1,h2,h3,h4,h5',h6,decide_false,qb,if_false,qav,hl',qa,← hs]
  cases outC x.items y.items with
  | inl u=>
   simp only [qf]
   by_cases hlt:(x.items.length:Int)<(y.items.length:Int) <;> simp [hlt]
  | inr c=>rfl
theorem klu (b:Bool):kev b=some (if b=true then -1 else 1):=by cases b <;> rfl
def outR:List Va→List Va→Unit ⊕ Int
 | x::l,y::m=>if cmpV x y≠0 then .inr (cmpV x y) else outR l m
 | _,_ => .inl ()
theorem kzn:∀ l m:List Va,Sum.elim (fun _=>if (l.length:Int)=(m.length:Int) then 0 else if (l.length:Int)<(m.length:Int) then -1 else (1:Int)) id (outR l m)=kgy l m
 | [],[]=>rfl
 | [],y::m=>by
  simp only [outR,kgy,qf,qq,qk]
  rw [if_neg (by omega),if_pos (by omega)]
 | x::l,[]=>by
  simp only [outR,kgy,qf,qq,qk]
  rw [if_neg (by omega),if_neg (by omega)]
 | x::l,y::m=>by
  have ih:=kzn l m
  rw [outR,kgy]
  by_cases h:cmpV x y≠0
  ·rw [if_pos h,if_pos h];rfl
  ·rw [if_neg h,if_neg h,← ih]
   simp
theorem krs:∀ (n:Nat),(∀ x y:Va,2*depV x<n+1→khv 9223372036854775807 x→khv 9223372036854775807 y→ka6 n x y=some (cmpV x y)) ∧
  ∀ l m:List Va,2*kp8 l<n→l.length≤9223372036854775807→m.length≤9223372036854775807→(∀ x∈l,khv 9223372036854775807 x)→(∀ x∈m,khv 9223372036854775807 x)→kck n l m=some (kgy l m)
 | 0=>⟨fun x y h=>by cases x;simp [depV] at h,fun l m h=>by omega⟩
 | n+1=>by
  obtain ⟨ih1,ih2⟩:=krs n
  refine ⟨fun x y hd hx hy=>?_,fun l m hd hl hm wl wm=>?_⟩
  ·show kcy (ka6 n) (kck n) x y=_
   obtain ⟨lx,wx⟩:=kl0 hx
   obtain ⟨ly,wy⟩:=kl0 hy
   have hA:=ih2 x.items y.items (by cases x;simp only [depV,Va.items] at hd ⊢; omega) lx ly wx wy
   rw [kss]
   unfold kcy
   by_cases h1:x.type=y.type
   ·have b1:(x.type != y.type)=false:=by simp [h1]
    rw [if_neg (by omega),if_neg (by omega)]
    by_cases h2:x.num=y.num
    ·have b2:(x.num != y.num)=false:=by simp [h2]
     rw [if_neg (by omega),if_neg (by omega)]
     by_cases h3:x.text.toList=y.text.toList
     ·have b3:(!(x.text.toList == y.text.toList))=false:=by simp [h3]
      have e1:kf2 x.text y.text=false:=by unfold kf2;rw [h3];exact kmm _
      have e2:kf2 y.text x.text=false:=by unfold kf2;rw [h3];exact kmm _
      rw [e1,e2,b1,b2,b3]
      simp [hA]
     ·have b3:(!(x.text.toList == y.text.toList))=true:=by simp [h3]
      rw [b1,b2,b3]
      simp only [qb,qd,klu,qa]
      cases h4:kf2 x.text y.text with
      | true=>
       have:Op.bytesLess x.text.toList y.text.toList=true:=h4
       simp [this]
      | false=>
       have h4':Op.bytesLess x.text.toList y.text.toList=false:=h4
       cases h5:kf2 y.text x.text with
       | true=>simp [h4']
       | false=>exact absurd (ks3 _ _ h4' h5) h3
    ·have b2:(x.num != y.num)=true:=by simp [h2]
     rw [b1,b2]
     simp only [qb,qd,klu,qa]
     by_cases h4:x.num<y.num
     ·simp [h4]
     ·have:y.num<x.num:=by omega
      simp [h4,this]
   ·have b1:(x.type != y.type)=true:=by simp [h1]
    rw [b1]
    simp only [qb,qd,klu,qa]
    by_cases h4:x.type<y.type
    ·simp [h4]
    ·have:y.type<x.type:=by omega
     simp [h4,this]
  ·show kca (ka6 n) (kck n) l m=_
   obtain ⟨k,hk⟩:∃ k,k=Nat.min l.length m.length:=⟨_,rfl⟩
   have hkl:k≤l.length:=hk ▸ Nat.min_le_left _ _
   have hkm:k≤m.length:=hk ▸ Nat.min_le_right _ _
   have hkk:k=l.length∨k=m.length:=by
    rw [hk]
    rcases Nat.le_total l.length m.length with h | h
    ·exact .inl (Nat.min_eq_left h)
    ·exact .inr (Nat.min_eq_right h)
   have hl:=klq (step:=kba l m (ka6 n)) k (by omega) (fun i=>(i:Int)) (fun i=>outR (l.drop i) (m.drop i)) (fun i hi=>by
    have hix:i<l.length:=by omega
    have hj:i<m.length:=by omega
    have e1:l[i]?=some l[i]:=List.getElem?_eq_getElem hix
    have d1:l.drop i=l[i]::l.drop (i+1):=qag hix
    have hw:=kcm (n:=i) (by omega)
    have e2:m[i]?=some m[i]:=List.getElem?_eq_getElem hj
    have d2:m.drop i=m[i]::m.drop (i+1):=qag hj
    have b1:decide ((i:Int)<(l.length:Int))=true:=qe (by omega)
    have b0:decide ((i:Int)<(m.length:Int))=true:=qe (by omega)
    have hc:=ih1 l[i] m[i] (by have:=kt1 (qs hix);omega) (wl _ (qs hix)) (wm _ (qs hj))
    by_cases h0:cmpV l[i] m[i]=0
    ·have b2:(cmpV l[i] m[i] != 0)=false:=by rw [h0];rfl
     refine .inl ⟨?_,?_⟩
     ·simp only [kba,b1,b0,kap,e1,e2,hc,b2,hw,qd,qb,qa]
     ·simp only [d1,d2,outR,h0,ne_eq,not_true_eq_false,if_false]
    ·have b2:(cmpV l[i] m[i] != 0)=true:=by simpa using h0
     refine .inr ?_
     simp only [d1,d2,outR,ne_eq,h0,not_false_eq_true,if_true,kba,b1,b0,kap,e1,e2,hc,b2,hw,qd,qb,qa]) (by
    by_cases hlx:k=l.length
    ·have d1:l.drop k=[]:=qae (by omega)
     have b1:decide ((k:Int)<(l.length:Int))=false:=qc (by omega)
     simp only [d1,outR,kba,b1,qb,qa]
    ·have hkm2:k=m.length:=hkk.resolve_left hlx
     have d2:m.drop k=[]:=qae (by omega)
     have b1:decide ((k:Int)<(l.length:Int))=true:=qe (by omega)
     have b0:decide ((k:Int)<(m.length:Int))=false:=qc (by omega)
     have:outR (l.drop k) (m.drop k) = .inl ():=by rw [d2];cases l.drop k <;> rfl
     simp only [this,kba,b1,b0,qd,qb,qa])
   have hl':kaa (kba l m (ka6 n)) fuel 0=some (outR l m):=by simpa using hl
   unfold kca
   rw [hl',qa,← kzn l m]
   cases outR l m with
   | inl u=>
    simp only [qf,klu,qa]
    by_cases h1:(l.length:Int)=(m.length:Int)
    ·simp [h1]
    ·by_cases h2:(l.length:Int)<(m.length:Int)
     ·rw [if_neg h1,if_pos h2,qe h2,qw.2 h1];rfl
     ·rw [if_neg h1,if_neg h2,qc h2,qw.2 h1];rfl
   | inr c=>rfl
def okV (v:Va):Prop:=depV v≤1000000∧khv 9223372036854775807 v
theorem krb {x y:Va} (hx:okV x) (hy:okV y):kfr x y=some (eqV x y):=by
 unfold kfr
 rw [kpk fuel x y (kec (by have:=hx.1;omega)) hx.2 hy.2]
 simp only [qa,eqV]
 by_cases h:cmpV x y=0 <;> simp [h]
theorem kt4 {x y:Va} (hx:okV x) (hy:okV y):kb5 x y=some (eqV x y):=by
 unfold kb5
 rw [(krs fuel).1 x y (Nat.lt_succ_of_lt (kec (by have:=hx.1;omega))) hx.2 hy.2]
 simp only [qa,eqV]
 by_cases h:cmpV x y=0 <;> simp [h]
theorem klk (s:BA) (n:Nat):byt s (n:Int)=(s.data.toList[n]?).map fun c=>(c.toNat:Int):=by
 rw [kadj]
 congr 1
 by_cases h:n<s.size
 ·rw [getElem?_pos s n h]
  have h':n<s.data.size:=h
  rw [Array.getElem?_toList,Array.getElem?_eq_getElem h']
  rfl
 ·rw [getElem?_neg s n h]
  have h':¬ n<s.data.size:=h
  rw [Array.getElem?_toList,Array.getElem?_eq_none (by omega)]
theorem kar (s:BA):s.size=s.data.toList.length:=by rw [qar];rfl
def kkq (c:UInt8):Bool:=decide (32≤c.toNat) && decide (c.toNat≤126)
theorem kuy (c:UInt8):(bif decide ((c.toNat:Int)<32) then some true else (some (decide (126<(c.toNat:Int))):Option Bool))=some (!kkq c):=by
 unfold kkq
 by_cases h:c.toNat<32
 ·have h1:decide ((c.toNat:Int)<32)=true:=qe (by omega)
  have h2:decide (32≤c.toNat)=false:=qc (by omega)
  rw [h1,h2];rfl
 ·have h1:decide ((c.toNat:Int)<32)=false:=qc (by omega)
  have h2:decide (32≤c.toNat)=true:=qe (by omega)
  rw [h1,h2]
  by_cases h3:c.toNat≤126
  ·have h4:decide (126<(c.toNat:Int))=false:=qc (by omega)
   rw [h4,qe h3];rfl
  ·have h4:decide (126<(c.toNat:Int))=true:=qe (by omega)
   rw [h4,qc h3];rfl
theorem kln (s:BA) (hs:s.size≤9223372036854775807):kjp s=some (s.data.toList.all kkq):=by
 have hl:=klq (step:=kfw s) s.size (by omega) (fun i=>(i:Int)) (fun i=>if (s.data.toList.drop i).all kkq=true then .inl () else .inr false) (fun i hi=>by
  have hi':i<s.data.toList.length:=by rw [← kar];exact hi
  have e1:byt s (i:Int)=some (s.data.toList[i].toNat:Int):=by rw [klk,List.getElem?_eq_getElem hi'];rfl
  have d1:s.data.toList.drop i=s.data.toList[i]::s.data.toList.drop (i+1):=qag hi'
  have b1:decide ((i:Int)<(s.size:Int))=true:=qe (by omega)
  have hw:=kcm (n:=i) (by omega)
  cases hg:kkq s.data.toList[i] with
  | true=>
   refine .inl ⟨?_,?_⟩
   ·simp only [kfw,b1,e1,qd,qa,kuy,hg,q9,qb,hw]
   ·simp only [d1,List.all_cons,hg,Bool.true_and]
  | false=>
   refine .inr ?_
   simp only [kfw,b1,e1,qd,qa,kuy,hg,qap,d1,List.all_cons,Bool.false_and,qav,if_false]) (by
  have b1:decide ((s.size:Int)<(s.size:Int))=false:=qc (by omega)
  have d1:s.data.toList.drop s.size=[]:=qae (by rw [← kar];omega)
  simp only [kfw,b1,qb,d1,List.all_nil,if_true])
 have hl':kaa (kfw s) fuel 0=some (if s.data.toList.all kkq=true then .inl () else .inr false):=by simpa using hl
 unfold kjp
 rw [hl',qa]
 cases s.data.toList.all kkq <;> rfl
theorem k0h (s:BA) (a b:Int) (hs:s.size≤9223372036854775807):kfm s a b=kg1 s a b:=by
 have hl:=klq (step:=kc8 s) s.size (by omega) (fun i=>(i:Int)) (fun i=>if (s.data.toList.drop i).all kkq=true then .inl () else .inr 1) (fun i hi=>by
  have hi':i<s.data.toList.length:=by rw [← kar];exact hi
  have e1:byt s (i:Int)=some (s.data.toList[i].toNat:Int):=by rw [klk,List.getElem?_eq_getElem hi'];rfl
  have d1:s.data.toList.drop i=s.data.toList[i]::s.data.toList.drop (i+1):=qag hi'
  have b1:decide ((i:Int)<(s.size:Int))=true:=qe (by omega)
  have hw:=kcm (n:=i) (by omega)
  cases hg:kkq s.data.toList[i] with
  | true=>
   refine .inl ⟨?_,?_⟩
   ·simp only [kc8,b1,e1,qd,qa,kuy,hg,q9,qb,hw]
   ·simp only [d1,List.all_cons,hg,Bool.true_and]
  | false=>
   refine .inr ?_
   simp only [kc8,b1,e1,qd,qa,kuy,hg,qap,d1,List.all_cons,Bool.false_and,qav,if_false]) (by
  have b1:decide ((s.size:Int)<(s.size:Int))=false:=qc (by omega)
  have d1:s.data.toList.drop s.size=[]:=qae (by rw [← kar];omega)
  simp only [kc8,b1,qb,d1,List.all_nil,if_true])
 have hl':kaa (kc8 s) fuel 0=some (if s.data.toList.all kkq=true then .inl () else .inr 1):=by simpa using hl
 unfold kfm kg1
 rw [hl',kln s hs]
 simp only [qa]
 cases s.data.toList.all kkq <;> rfl
theorem kly (s:BA) (a b:Int) (hs:s.size≤9223372036854775807):∃ c,kg1 s a b=some c:=by
 unfold kg1
 rw [kln s hs]
 simp only [qa]
 by_cases h1:(s.size:Int)<a <;> by_cases h2:b<(s.size:Int) <;> cases s.data.toList.all kkq <;> simp [h1,h2]
mutual
def kkc:Va→Prop
 | .mk _ _ s l=>s.size≤9223372036854775807∧kun l
def kun:List Va→Prop
 | []=>True
 | x::l=>kkc x∧kun l
end
theorem k2z {v:Va} (h:kkc v):v.text.size≤9223372036854775807∧∀ x∈v.items,kkc x:=by
 cases v with
 | mk t n s l=>
  refine ⟨h.1,?_⟩
  have:∀ l:List Va,kun l→∀ x∈l,kkc x:=fun l=>by
   induction l with
   | nil=>intro _ x hx;cases hx
   | cons y l ih=>
    intro h x hx
    rcases qz.1 hx with rfl | hx
    ·exact h.1
    ·exact ih h.2 x hx
  exact this l h.2
end Go.Proofs.YtaimpcnpifoidaaGreatDoor
set_option linter.unusedVariables false
set_option linter.unusedSimpArgs false
namespace Go.Proofs.YtaimpcnpifoidaaGreatDoor
open Go Go.RowKit
theorem kadr (l:List Va):decide (0<(l.length:Int))=!((l.length:Int) == 0):=by
 cases l <;> simp <;> omega
theorem kg2 (m a b:Int):∃ c,kf7 m a b=some c∧kdt m a b=some c:=by
 unfold kf7 kdt
 by_cases h1:m<a <;> by_cases h2:b<m <;> simp [h1,h2]
end Go.Proofs.YtaimpcnpifoidaaGreatDoor
