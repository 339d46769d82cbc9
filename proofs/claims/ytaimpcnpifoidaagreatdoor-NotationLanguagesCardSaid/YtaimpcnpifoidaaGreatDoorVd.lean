import Derived.Test.YtaimpcnpifoidaaGreatDoorEv
import Derived.Test.YtaimpcnpifoidaaGreatDoorZE
set_option linter.unusedVariables false
set_option linter.unusedSimpArgs false
namespace Go.Proofs.YtaimpcnpifoidaaGreatDoor
open Go Go.RowKit
mutual
def kim (B:Nat):Va→Prop
 | .mk _ _ _ l=>l.length≤B∧kqv B l
def kqv (B:Nat):List Va→Prop
 | []=>True
 | x::l=>kim B x∧kqv B l
end
theorem kv8:∀ {l:List Va} {x:Va},x∈l→depV x≤kry l
 | y::l,x,h=>by
  simp only [kry]
  rcases qs.1 h with rfl | h
  ·exact Nat.le_max_left _ _
  ·exact qau (kv8 h) (Nat.le_max_right _ _)
theorem ky3 {B:Nat}:∀ {l:List Va} {x:Va},kqv B l→x∈l→kim B x
 | y::l,x,hw,h=>by
  rcases qs.1 h with rfl | h
  ·exact hw.1
  ·exact ky3 hw.2 h
theorem kaaq {v:Va} {x:Va} (h:x∈v.items):depV x<depV v:=by
 cases v;exact Nat.lt_succ_of_le (kv8 h)
theorem knt {B:Nat} {v:Va} (h:kim B v):v.items.length≤B∧∀ x∈v.items,kim B x:=by
 cases v;exact ⟨h.1,fun x hx=>ky3 h.2 hx⟩
theorem kth (x y:Va):cmpV x y=if x.type<y.type then -1 else if y.type<x.type then 1 else if x.num<y.num then -1 else if y.num<x.num then 1 else if kgv x.text y.text=true then -1 else if kgv y.text x.text=true then 1 else khm x.items y.items:=by
 cases x;cases y;rw [cmpV];rfl
theorem k1e (a b:BA):(!(Op.bytesLess a.toList b.toList || a.toList == b.toList))=kgv b a:=by
 have asym:∀ l m:List UInt8,Op.bytesLess l m=true→Op.bytesLess m l=false:=by
  intro l
  induction l with
  | nil=>intro m _;cases m <;> rfl
  | cons x l ih=>
   intro m h
   cases m with
   | nil=>cases h
   | cons y m=>
    simp only [Op.bytesLess,Bool.or_eq_true,decide_eq_true_eq,qx,beq_iff_eq] at h
    simp only [Op.bytesLess,Bool.or_eq_false_iff,decide_eq_false_iff_not,Bool.and_eq_false_iff,qz]
    rcases h with h | ⟨rfl,h⟩
    ·exact ⟨UInt8.not_lt.2 (UInt8.le_of_lt h), .inl (UInt8.ne_of_lt h).symm⟩
    ·exact ⟨UInt8.lt_irrefl _, .inr (ih m h)⟩
 unfold kgv
 cases h:Op.bytesLess b.toList a.toList with
 | true=>
  have h2:=asym _ _ h
  have h3:(a.toList == b.toList)=false:=by
   rw [qz]
   intro e
   rw [e,knf] at h
   cases h
  rw [h2,h3];rfl
 | false=>
  cases h2:Op.bytesLess a.toList b.toList with
  | true=>rfl
  | false=>
   have:=kuj _ _ h2 h
   rw [this];simp
def outC:List Va→List Va→Unit ⊕ Int
 | [],_ => .inl ()
 | _::_,[] => .inr 1
 | x::l,y::m=>if cmpV x y≠0 then .inr (cmpV x y) else outC l m
theorem k08:∀ l m:List Va,Sum.elim (fun _=>if (l.length:Int)<(m.length:Int) then -1 else (0:Int)) id (outC l m)=khm l m
 | [],[]=>rfl
 | [],y::m=>by simp [outC,khm]
 | x::l,[]=>by simp [outC,khm]
 | x::l,y::m=>by
  have ih:=k08 l m
  rw [outC,khm]
  by_cases h:cmpV x y≠0
  ·rw [if_pos h,if_pos h];rfl
  ·rw [if_neg h,if_neg h,← ih]
   simp
theorem kqi:∀ (n:Nat) (x y:Va),depV x<n→kim 9223372036854775807 x→kim 9223372036854775807 y→kc9 n x y=some (cmpV x y)
 | 0,x,y,h,_,_=>by omega
 | n+1,x,y,hd,hx,hy=>by
  show kg2 (kc9 n) x y=_
  rw [kth]
  unfold kg2
  simp only [k1e]
  by_cases h1:x.type<y.type
  ·simp [h1]
  by_cases h2:y.type<x.type
  ·simp [h1,h2]
  by_cases h3:x.num<y.num
  ·simp [h1,h2,h3]
  by_cases h4:y.num<x.num
  ·simp [h1,h2,h3,h4]
  cases h5:kgv x.text y.text with
  | true=>
   have h5':Op.bytesLess x.text.toList y.text.toList=true:=h5
   simp [h1,h2,h3,h4,h5']
  | false=>
  have h5':Op.bytesLess x.text.toList y.text.toList=false:=h5
  cases h6:kgv y.text x.text with
  | true=>simp [h1,h2,h3,h4,h5',h6]
  | false=>
  obtain ⟨lx,wx⟩:=knt hx
  obtain ⟨ly,wy⟩:=knt hy
  obtain ⟨m,hm⟩:∃ m,m=Nat.min x.items.length y.items.length:=⟨_,rfl⟩
  have hmx:m≤x.items.length:=hm ▸ Nat.min_le_left _ _
  have hmy:m≤y.items.length:=hm ▸ Nat.min_le_right _ _
  have hmm:m=x.items.length∨m=y.items.length:=by
   rw [hm]
   rcases Nat.le_total x.items.length y.items.length with h | h
   ·exact .inl (Nat.min_eq_left h)
   ·exact .inr (Nat.min_eq_right h)
  have hl:=kmu (step:=kca x y (kc9 n)) m (by omega) (fun i=>(i:Int)) (fun i=>outC (x.items.drop i) (y.items.drop i)) (fun i hi=>by
   have hix:i<x.items.length:=by omega
   have hj:i<y.items.length:=by omega
   have e1:x.items[i]?=some x.items[i]:=List.getElem?_eq_getElem hix
   have d1:x.items.drop i=x.items[i]::x.items.drop (i+1):=qaj hix
   have hlt:(i:Int)<(x.items.length:Int):=by omega
   have hw:=kc0 (n:=i) (by omega)
   have e2:y.items[i]?=some y.items[i]:=List.getElem?_eq_getElem hj
   have d2:y.items.drop i=y.items[i]::y.items.drop (i+1):=qaj hj
   have b1:decide ((i:Int)<(x.items.length:Int))=true:=qf hlt
   have hne:((i:Int) == (y.items.length:Int))=false:=by rw [qz];omega
   have hc:=kqi n x.items[i] y.items[i] (by have:=kaaq (qr hix);omega) (wx _ (qr hix)) (wy _ (qr hj))
   by_cases h0:cmpV x.items[i] y.items[i]=0
   ·refine .inl ⟨?_,?_⟩
    ·have b2:(cmpV x.items[i] y.items[i] != 0)=false:=by rw [h0];rfl
     simp only [kca,b1,kal,e1,e2,hne,hc,b2,hw,qd,qb,qa]
    ·simp only [d1,d2,outC,h0,ne_eq,not_true_eq_false,if_false]
   ·refine .inr ?_
    have b2:(cmpV x.items[i] y.items[i] != 0)=true:=by simpa using h0
    simp only [d1,d2,outC,ne_eq,h0,not_false_eq_true,if_true,kca,b1,kal,e1,e2,hne,hc,b2,hw,qd,qb,qa]) (by
   rcases hmm with h | h
   ·have d1:x.items.drop m=[]:=qai (by omega)
    have hlt:¬ (m:Int)<(x.items.length:Int):=by omega
    simp only [d1,outC]
    simp [kca,hlt]
   ·by_cases hlx:m=x.items.length
    ·have d1:x.items.drop m=[]:=qai (by omega)
     have hlt:¬ (m:Int)<(x.items.length:Int):=by omega
     simp only [d1,outC]
     simp [kca,hlt]
    ·have hix:m<x.items.length:=by omega
     have e1:x.items[m]?=some x.items[m]:=List.getElem?_eq_getElem hix
     have d1:x.items.drop m=x.items[m]::x.items.drop (m+1):=qaj hix
     have d2:y.items.drop m=[]:=qai (by omega)
     have hlt:(m:Int)<(x.items.length:Int):=by omega
     have he:((m:Int) == (y.items.length:Int))=true:=by rw [beq_iff_eq];omega
     simp only [d1,d2,outC,kca,qf hlt,kal,e1,he,qd,qa])
  have hl':kaa (kca x y (kc9 n)) fuel 0=some (outC x.items y.items):=by simpa using hl
  have hs:=k08 x.items y.items
  simp only [h1,h2,h3,h4,h5',h6,decide_false,qb,if_false,qaz,hl',qa,← hs]
  cases outC x.items y.items with
  | inl u=>
   simp only [qg]
   by_cases hlt:(x.items.length:Int)<(y.items.length:Int) <;> simp [hlt]
  | inr c=>rfl
theorem kmv (b:Bool):kfg b=some (if b=true then -1 else 1):=by cases b <;> rfl
def outR:List Va→List Va→Unit ⊕ Int
 | x::l,y::m=>if cmpV x y≠0 then .inr (cmpV x y) else outR l m
 | _,_ => .inl ()
theorem k2b:∀ l m:List Va,Sum.elim (fun _=>if (l.length:Int)=(m.length:Int) then 0 else if (l.length:Int)<(m.length:Int) then -1 else (1:Int)) id (outR l m)=khm l m
 | [],[]=>rfl
 | [],y::m=>by
  simp only [outR,khm,qg,qn,qi]
  rw [if_neg (by omega),if_pos (by omega)]
 | x::l,[]=>by
  simp only [outR,khm,qg,qn,qi]
  rw [if_neg (by omega),if_neg (by omega)]
 | x::l,y::m=>by
  have ih:=k2b l m
  rw [outR,khm]
  by_cases h:cmpV x y≠0
  ·rw [if_pos h,if_pos h];rfl
  ·rw [if_neg h,if_neg h,← ih]
   simp
theorem ksv:∀ (n:Nat),(∀ x y:Va,2*depV x<n+1→kim 9223372036854775807 x→kim 9223372036854775807 y→ka8 n x y=some (cmpV x y)) ∧
  ∀ l m:List Va,2*kry l<n→l.length≤9223372036854775807→m.length≤9223372036854775807→(∀ x∈l,kim 9223372036854775807 x)→(∀ x∈m,kim 9223372036854775807 x)→kcy n l m=some (khm l m)
 | 0=>⟨fun x y h=>by cases x;simp [depV] at h,fun l m h=>by omega⟩
 | n+1=>by
  obtain ⟨ih1,ih2⟩:=ksv n
  refine ⟨fun x y hd hx hy=>?_,fun l m hd hl hm wl wm=>?_⟩
  ·show kda (ka8 n) (kcy n) x y=_
   obtain ⟨lx,wx⟩:=knt hx
   obtain ⟨ly,wy⟩:=knt hy
   have hA:=ih2 x.items y.items (by cases x;simp only [depV,Va.items] at hd ⊢; omega) lx ly wx wy
   rw [kth]
   unfold kda
   by_cases h1:x.type=y.type
   ·have b1:(x.type != y.type)=false:=by simp [h1]
    rw [if_neg (by omega),if_neg (by omega)]
    by_cases h2:x.num=y.num
    ·have b2:(x.num != y.num)=false:=by simp [h2]
     rw [if_neg (by omega),if_neg (by omega)]
     by_cases h3:x.text.toList=y.text.toList
     ·have b3:(!(x.text.toList == y.text.toList))=false:=by simp [h3]
      have e1:kgv x.text y.text=false:=by unfold kgv;rw [h3];exact knf _
      have e2:kgv y.text x.text=false:=by unfold kgv;rw [h3];exact knf _
      rw [e1,e2,b1,b2,b3]
      simp [hA]
     ·have b3:(!(x.text.toList == y.text.toList))=true:=by simp [h3]
      rw [b1,b2,b3]
      simp only [qb,qd,kmv,qa]
      cases h4:kgv x.text y.text with
      | true=>
       have:Op.bytesLess x.text.toList y.text.toList=true:=h4
       simp [this]
      | false=>
       have h4':Op.bytesLess x.text.toList y.text.toList=false:=h4
       cases h5:kgv y.text x.text with
       | true=>simp [h4']
       | false=>exact absurd (kuj _ _ h4' h5) h3
    ·have b2:(x.num != y.num)=true:=by simp [h2]
     rw [b1,b2]
     simp only [qb,qd,kmv,qa]
     by_cases h4:x.num<y.num
     ·simp [h4]
     ·have:y.num<x.num:=by omega
      simp [h4,this]
   ·have b1:(x.type != y.type)=true:=by simp [h1]
    rw [b1]
    simp only [qb,qd,kmv,qa]
    by_cases h4:x.type<y.type
    ·simp [h4]
    ·have:y.type<x.type:=by omega
     simp [h4,this]
  ·show kci (ka8 n) (kcy n) l m=_
   obtain ⟨k,hk⟩:∃ k,k=Nat.min l.length m.length:=⟨_,rfl⟩
   have hkl:k≤l.length:=hk ▸ Nat.min_le_left _ _
   have hkm:k≤m.length:=hk ▸ Nat.min_le_right _ _
   have hkk:k=l.length∨k=m.length:=by
    rw [hk]
    rcases Nat.le_total l.length m.length with h | h
    ·exact .inl (Nat.min_eq_left h)
    ·exact .inr (Nat.min_eq_right h)
   have hl:=kmu (step:=kbd l m (ka8 n)) k (by omega) (fun i=>(i:Int)) (fun i=>outR (l.drop i) (m.drop i)) (fun i hi=>by
    have hix:i<l.length:=by omega
    have hj:i<m.length:=by omega
    have e1:l[i]?=some l[i]:=List.getElem?_eq_getElem hix
    have d1:l.drop i=l[i]::l.drop (i+1):=qaj hix
    have hw:=kc0 (n:=i) (by omega)
    have e2:m[i]?=some m[i]:=List.getElem?_eq_getElem hj
    have d2:m.drop i=m[i]::m.drop (i+1):=qaj hj
    have b1:decide ((i:Int)<(l.length:Int))=true:=qf (by omega)
    have b0:decide ((i:Int)<(m.length:Int))=true:=qf (by omega)
    have hc:=ih1 l[i] m[i] (by have:=kv8 (qr hix);omega) (wl _ (qr hix)) (wm _ (qr hj))
    by_cases h0:cmpV l[i] m[i]=0
    ·have b2:(cmpV l[i] m[i] != 0)=false:=by rw [h0];rfl
     refine .inl ⟨?_,?_⟩
     ·simp only [kbd,b1,b0,kal,e1,e2,hc,b2,hw,qd,qb,qa]
     ·simp only [d1,d2,outR,h0,ne_eq,not_true_eq_false,if_false]
    ·have b2:(cmpV l[i] m[i] != 0)=true:=by simpa using h0
     refine .inr ?_
     simp only [d1,d2,outR,ne_eq,h0,not_false_eq_true,if_true,kbd,b1,b0,kal,e1,e2,hc,b2,hw,qd,qb,qa]) (by
    by_cases hlx:k=l.length
    ·have d1:l.drop k=[]:=qai (by omega)
     have b1:decide ((k:Int)<(l.length:Int))=false:=qe (by omega)
     simp only [d1,outR,kbd,b1,qb,qa]
    ·have hkm2:k=m.length:=hkk.resolve_left hlx
     have d2:m.drop k=[]:=qai (by omega)
     have b1:decide ((k:Int)<(l.length:Int))=true:=qf (by omega)
     have b0:decide ((k:Int)<(m.length:Int))=false:=qe (by omega)
     have:outR (l.drop k) (m.drop k) = .inl ():=by rw [d2];cases l.drop k <;> rfl
     simp only [this,kbd,b1,b0,qd,qb,qa])
   have hl':kaa (kbd l m (ka8 n)) fuel 0=some (outR l m):=by simpa using hl
   unfold kci
   rw [hl',qa,← k2b l m]
   cases outR l m with
   | inl u=>
    simp only [qg,kmv,qa]
    by_cases h1:(l.length:Int)=(m.length:Int)
    ·simp [h1]
    ·by_cases h2:(l.length:Int)<(m.length:Int)
     ·rw [if_neg h1,if_pos h2,qf h2,qz.2 h1];rfl
     ·rw [if_neg h1,if_neg h2,qe h2,qz.2 h1];rfl
   | inr c=>rfl
def okV (v:Va):Prop:=depV v≤1000000∧kim 9223372036854775807 v
theorem ksm {x y:Va} (hx:okV x) (hy:okV y):kge x y=some (eqV x y):=by
 unfold kge
 rw [kqi fuel x y (kec (by have:=hx.1;omega)) hx.2 hy.2]
 simp only [qa,eqV]
 by_cases h:cmpV x y=0 <;> simp [h]
theorem kvf {x y:Va} (hx:okV x) (hy:okV y):kcd x y=some (eqV x y):=by
 unfold kcd
 rw [(ksv fuel).1 x y (Nat.lt_succ_of_lt (kec (by have:=hx.1;omega))) hx.2 hy.2]
 simp only [qa,eqV]
 by_cases h:cmpV x y=0 <;> simp [h]
theorem kmo (s:BA) (n:Nat):byt s (n:Int)=(s.data.toList[n]?).map fun c=>(c.toNat:Int):=by
 rw [kahf]
 congr 1
 by_cases h:n<s.size
 ·rw [getElem?_pos s n h]
  have h':n<s.data.size:=h
  rw [Array.getElem?_toList,Array.getElem?_eq_getElem h']
  rfl
 ·rw [getElem?_neg s n h]
  have h':¬ n<s.data.size:=h
  rw [Array.getElem?_toList,Array.getElem?_eq_none (by omega)]
theorem kar (s:BA):s.size=s.data.toList.length:=by rw [qaw];rfl
def kls (c:UInt8):Bool:=decide (32≤c.toNat) && decide (c.toNat≤126)
theorem kwb (c:UInt8):(bif decide ((c.toNat:Int)<32) then some true else (some (decide (126<(c.toNat:Int))):Option Bool))=some (!kls c):=by
 unfold kls
 by_cases h:c.toNat<32
 ·have h1:decide ((c.toNat:Int)<32)=true:=qf (by omega)
  have h2:decide (32≤c.toNat)=false:=qe (by omega)
  rw [h1,h2];rfl
 ·have h1:decide ((c.toNat:Int)<32)=false:=qe (by omega)
  have h2:decide (32≤c.toNat)=true:=qf (by omega)
  rw [h1,h2]
  by_cases h3:c.toNat≤126
  ·have h4:decide (126<(c.toNat:Int))=false:=qe (by omega)
   rw [h4,qf h3];rfl
  ·have h4:decide (126<(c.toNat:Int))=true:=qf (by omega)
   rw [h4,qe h3];rfl
theorem kmt (s:BA) (hs:s.size≤9223372036854775807):kkr s=some (s.data.toList.all kls):=by
 have hl:=kmu (step:=kgn s) s.size (by omega) (fun i=>(i:Int)) (fun i=>if (s.data.toList.drop i).all kls=true then .inl () else .inr false) (fun i hi=>by
  have hi':i<s.data.toList.length:=by rw [← kar];exact hi
  have e1:byt s (i:Int)=some (s.data.toList[i].toNat:Int):=by rw [kmo,List.getElem?_eq_getElem hi'];rfl
  have d1:s.data.toList.drop i=s.data.toList[i]::s.data.toList.drop (i+1):=qaj hi'
  have b1:decide ((i:Int)<(s.size:Int))=true:=qf (by omega)
  have hw:=kc0 (n:=i) (by omega)
  cases hg:kls s.data.toList[i] with
  | true=>
   refine .inl ⟨?_,?_⟩
   ·simp only [kgn,b1,e1,qd,qa,kwb,hg,q9,qb,hw]
   ·simp only [d1,List.all_cons,hg,Bool.true_and]
  | false=>
   refine .inr ?_
   simp only [kgn,b1,e1,qd,qa,kwb,hg,qat,d1,List.all_cons,Bool.false_and,qaz,if_false]) (by
  have b1:decide ((s.size:Int)<(s.size:Int))=false:=qe (by omega)
  have d1:s.data.toList.drop s.size=[]:=qai (by rw [← kar];omega)
  simp only [kgn,b1,qb,d1,List.all_nil,if_true])
 have hl':kaa (kgn s) fuel 0=some (if s.data.toList.all kls=true then .inl () else .inr false):=by simpa using hl
 unfold kkr
 rw [hl',qa]
 cases s.data.toList.all kls <;> rfl
theorem k4d (s:BA) (a b:Int) (hs:s.size≤9223372036854775807):kf8 s a b=khp s a b:=by
 have hl:=kmu (step:=kdq s) s.size (by omega) (fun i=>(i:Int)) (fun i=>if (s.data.toList.drop i).all kls=true then .inl () else .inr 1) (fun i hi=>by
  have hi':i<s.data.toList.length:=by rw [← kar];exact hi
  have e1:byt s (i:Int)=some (s.data.toList[i].toNat:Int):=by rw [kmo,List.getElem?_eq_getElem hi'];rfl
  have d1:s.data.toList.drop i=s.data.toList[i]::s.data.toList.drop (i+1):=qaj hi'
  have b1:decide ((i:Int)<(s.size:Int))=true:=qf (by omega)
  have hw:=kc0 (n:=i) (by omega)
  cases hg:kls s.data.toList[i] with
  | true=>
   refine .inl ⟨?_,?_⟩
   ·simp only [kdq,b1,e1,qd,qa,kwb,hg,q9,qb,hw]
   ·simp only [d1,List.all_cons,hg,Bool.true_and]
  | false=>
   refine .inr ?_
   simp only [kdq,b1,e1,qd,qa,kwb,hg,qat,d1,List.all_cons,Bool.false_and,qaz,if_false]) (by
  have b1:decide ((s.size:Int)<(s.size:Int))=false:=qe (by omega)
  have d1:s.data.toList.drop s.size=[]:=qai (by rw [← kar];omega)
  simp only [kdq,b1,qb,d1,List.all_nil,if_true])
 have hl':kaa (kdq s) fuel 0=some (if s.data.toList.all kls=true then .inl () else .inr 1):=by simpa using hl
 unfold kf8 khp
 rw [hl',kmt s hs]
 simp only [qa]
 cases s.data.toList.all kls <;> rfl
theorem knr (s:BA) (a b:Int) (hs:s.size≤9223372036854775807):∃ c,khp s a b=some c:=by
 unfold khp
 rw [kmt s hs]
 simp only [qa]
 by_cases h1:(s.size:Int)<a <;> by_cases h2:b<(s.size:Int) <;> cases s.data.toList.all kls <;> simp [h1,h2]
mutual
def klm:Va→Prop
 | .mk _ _ s l=>s.size≤9223372036854775807∧ksl l
def ksl:List Va→Prop
 | []=>True
 | x::l=>klm x∧ksl l
end
theorem k55 {v:Va} (h:klm v):v.text.size≤9223372036854775807∧∀ x∈v.items,klm x:=by
 cases v with
 | mk t n s l=>
  refine ⟨h.1,?_⟩
  have:∀ l:List Va,ksl l→∀ x∈l,klm x:=fun l=>by
   induction l with
   | nil=>intro _ x hx;cases hx
   | cons y l ih=>
    intro h x hx
    rcases qs.1 hx with rfl | hx
    ·exact h.1
    ·exact ih h.2 x hx
  exact this l h.2
end Go.Proofs.YtaimpcnpifoidaaGreatDoor
set_option linter.unusedVariables false
set_option linter.unusedSimpArgs false
namespace Go.Proofs.YtaimpcnpifoidaaGreatDoor
open Go Go.RowKit
theorem kaig (l:List Va):decide (0<(l.length:Int))=!((l.length:Int) == 0):=by
 cases l <;> simp <;> omega
theorem khr (m a b:Int):∃ c,kg3 m a b=some c∧keh m a b=some c:=by
 unfold kg3 keh
 by_cases h1:m<a <;> by_cases h2:b<m <;> simp [h1,h2]
end Go.Proofs.YtaimpcnpifoidaaGreatDoor
