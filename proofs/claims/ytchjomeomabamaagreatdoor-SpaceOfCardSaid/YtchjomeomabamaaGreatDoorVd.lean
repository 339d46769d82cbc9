import Derived.Test.YtchjomeomabamaaGreatDoorDf
import Derived.Test.YtchjomeomabamaaGreatDoorZE
set_option linter.all false
namespace Go.Proofs.YtchjomeomabamaaGreatDoor
open Go Go.RowKit
mutual
def kl3 (B:Nat):Va->Prop
 | .mk _ _ _ l=>l.length<=B/\kxo B l
def kxo (B:Nat):List Va->Prop
 | []=>True
 | x::l=>kl3 B x/\kxo B l
end
theorem ktz:∀ {l:List Va} {x:Va},x∈l->depV x<=kq8 l
 | y::l,x,h=>by
  simp only [kq8];rcases qam.1 h with rfl | h;exact Nat.le_max_left _ _
  ·exact qav (ktz h) (Nat.le_max_right _ _)
theorem kw6 {B:Nat}:∀ {l:List Va} {x:Va},kxo B l->x∈l->kl3 B x
 | y::l,x,a,h=>by
  rcases qam.1 h with rfl | h;exact a.1
  ·exact kw6 a.2 h
theorem k8q {v x:Va} (h:x∈v.items):depV x<depV v:=by cases v;exact Nat.lt_succ_of_le (ktz h)
theorem kmz {B:Nat} {v:Va} (h:kl3 B v):v.items.length<=B/\∀ x∈v.items,kl3 B x:=by cases v;exact ⟨h.1,fun x a=>kw6 h.2 a⟩
theorem ksy (x y:Va):cmpV x y=if x.type<y.type then -1 else if y.type<x.type then 1 else if x.num<y.num then -1 else if y.num<x.num then 1 else if kgz x.text y.text=true then -1 else if kgz y.text x.text=true then 1 else kh0 x.items y.items:=by cases x;cases y;rw [cmpV];rfl
theorem kz0 (a b:BA):(!(Op.bytesLess a.toList b.toList || a.toList == b.toList))=kgz b a:=by
 have asym:∀ l m:List UInt8,Op.bytesLess l m=true->Op.bytesLess m l=false:=by
  intro l
  induction l with
  | nil=>intro m _;cases m <;> rfl
  | cons x l ih=>
   intro m h;cases m with
   | nil=>cases h
   | cons y m=>
    simp only [Op.bytesLess,qbv,qa6,qv,beq_iff_eq] at h;simp only [Op.bytesLess,Bool.or_eq_false_iff,qbh,Bool.and_eq_false_iff,qa2];rcases h with h | ⟨rfl,h⟩;exact ⟨UInt8.not_lt.2 (UInt8.le_of_lt h), .inl (UInt8.ne_of_lt h).symm⟩
    ·exact ⟨UInt8.lt_irrefl _, .inr (ih m h)⟩
 unfold kgz;cases h:Op.bytesLess b.toList a.toList with
 | true=>
  have c:=asym _ _ h;have d:(a.toList == b.toList)=false:=by rw [qa2];intro e;rw [e,kmt] at h;cases h
  rw [c,d];rfl
 | false=>
  cases c:Op.bytesLess a.toList b.toList with
  | true=>rfl
  | false=>
   have:=ksk _ _ c h;rw [this];simp
def outC:List Va->List Va->Unit ⊕ Int
 | [],_ => .inl ()
 | _::_,[] => .inr 1
 | x::l,y::m=>if cmpV x y≠0 then .inr (cmpV x y) else outC l m
theorem ky3:∀ l m:List Va,Sum.elim (fun _=>if (l.length:Int)<(m.length:Int) then -1 else (0:Int)) id (outC l m)=kh0 l m
 | [],[]=>rfl
 | [],y::m=>by simp [outC,kh0]
 | x::l,[]=>by simp [outC,kh0]
 | x::l,y::m=>by
  have ih:=ky3 l m;rw [outC,kh0];by_cases h:cmpV x y≠0;rw [qp h,qp h];rfl
  ·rw [ql h,ql h,<- ih];simp
theorem kp0:∀ (n:Nat) (x y:Va),depV x<n->kl3 9223372036854775807 x->kl3 9223372036854775807 y->kcl n x y=some (cmpV x y)
 | 0,x,y,h,_,_=>by omega
 | n+1,x,y,A,s,hy=>by
  show kg6 (kcl n) x y=_;rw [ksy];unfold kg6;simp only [kz0];by_cases h1:x.type<y.type;simp [h1];by_cases e:y.type<x.type;simp [h1,e];by_cases f:x.num<y.num;simp [h1,e,f];by_cases j:y.num<x.num;simp [h1,e,f,j];cases p:kgz x.text y.text with
  | true=>
   have d:Op.bytesLess x.text.toList y.text.toList=true:=p;simp [h1,e,f,j,d]
  | false=>
  have d:Op.bytesLess x.text.toList y.text.toList=false:=p;cases q:kgz y.text x.text with
  | true=>simp [h1,e,f,j,d,q]
  | false=>
  obtain ⟨lx,wx⟩:=kmz s;obtain ⟨ly,wy⟩:=kmz hy;obtain ⟨m,hm⟩:∃ m,m=Nat.min x.items.length y.items.length:=⟨_,rfl⟩;have t:m<=x.items.length:=hm ▸ Nat.min_le_left _ _;have v:m<=y.items.length:=hm ▸ Nat.min_le_right _ _;have k:m=x.items.length\/m=y.items.length:=by
   rw [hm];rcases Nat.le_total x.items.length y.items.length with h | h;exact .inl (Nat.min_eq_left h)
   ·exact .inr (Nat.min_eq_right h)
  have hl:=kjj (kbu x y (kcl n)) m (fun i=>(i:Int)) (fun i=>outC (x.items.drop i) (y.items.drop i)) (fun i hi=>by
   have b:i<x.items.length:=(by omega);have l:i<y.items.length:=(by omega);have e1:x.items[i]?=some x.items[i]:=qa b;have d1:x.items.drop i=x.items[i]::x.items.drop (i+1):=qay b;have a:(i:Int)<(x.items.length:Int):=(by omega);have r:=kbh i;have e2:y.items[i]?=some y.items[i]:=qa l;have d2:y.items.drop i=y.items[i]::y.items.drop (i+1):=qay l;have b1:decide ((i:Int)<(x.items.length:Int))=true:=qh a;have g:((i:Int) == (y.items.length:Int))=false:=(by rw [qa2];omega);have hc:=kp0 n x.items[i] y.items[i] (by have:=k8q (qi b);omega) (wx _ (qi b)) (wy _ (qi l));by_cases h0:cmpV x.items[i] y.items[i]=0
   ·refine .inl ⟨?_,?_⟩;have b2:(cmpV x.items[i] y.items[i] != 0)=false:=(by rw [h0];rfl);simp only [kbu,b1,kac,e1,e2,g,hc,b2,r,qe,qd,qb]
    ·simp only [d1,d2,outC,h0,ne_eq,not_true_eq_false,if_false]
   ·refine .inr ?_;have b2:(cmpV x.items[i] y.items[i] != 0)=true:=(by simpa using h0);simp only [d1,d2,outC,ne_eq,h0,not_false_eq_true,if_true,kbu,b1,kac,e1,e2,g,hc,b2,r,qe,qd,qb]) (by
   rcases k with h | h;have d1:x.items.drop m=[]:=qbo (by omega);have a:¬ (m:Int)<(x.items.length:Int):=(by omega);simp only [d1,outC];simp [kbu,a]
   ·by_cases w:m=x.items.length;have d1:x.items.drop m=[]:=qbo (by omega);have a:¬ (m:Int)<(x.items.length:Int):=(by omega);simp only [d1,outC];simp [kbu,a]
    ·have b:m<x.items.length:=(by omega);have e1:x.items[m]?=some x.items[m]:=qa b;have d1:x.items.drop m=x.items[m]::x.items.drop (m+1):=qay b;have d2:y.items.drop m=[]:=qbo (by omega);have a:(m:Int)<(x.items.length:Int):=(by omega);have z:((m:Int) == (y.items.length:Int))=true:=(by rw [beq_iff_eq];omega);simp only [d1,d2,outC,kbu,qh a,kac,e1,z,qe,qb])
  have o:kab (kbu x y (kcl n)) fuel 0=some (outC x.items y.items):=by simpa using hl
  have hs:=ky3 x.items y.items;simp only [h1,e,f,j,d,q,decide_false,qd,if_false,Bool.false_eq_true,o,qb,<- hs];cases outC x.items y.items with
  | inl u=>
   simp only [q9];by_cases a:(x.items.length:Int)<(y.items.length:Int) <;> simp [a]
  | inr c=>rfl
theorem kmi (b:Bool):ke0 b=some (if b=true then -1 else 1):=by cases b <;> rfl
def outR:List Va->List Va->Unit ⊕ Int
 | x::l,y::m=>if cmpV x y≠0 then .inr (cmpV x y) else outR l m
 | _,_ => .inl ()
theorem kzt:∀ l m:List Va,Sum.elim (fun _=>if (l.length:Int)=(m.length:Int) then 0 else if (l.length:Int)<(m.length:Int) then -1 else (1:Int)) id (outR l m)=kh0 l m
 | [],[]=>rfl
 | [],y::m=>by simp only [outR,kh0,q9,qb1,qbd];rw [ql (by omega),qp (by omega)]
 | x::l,[]=>by simp only [outR,kh0,q9,qb1,qbd];rw [ql (by omega),ql (by omega)]
 | x::l,y::m=>by
  have ih:=kzt l m;rw [outR,kh0];by_cases h:cmpV x y≠0;rw [qp h,qp h];rfl
  ·rw [ql h,ql h,<- ih];simp
theorem krq:∀ (n:Nat),(∀ x y:Va,2*depV x<n+1->kl3 9223372036854775807 x->kl3 9223372036854775807 y->kaw n x y=some (cmpV x y)) /\
  ∀ l m:List Va,2*kq8 l<n->l.length<=9223372036854775807->m.length<=9223372036854775807->(∀ x∈l,kl3 9223372036854775807 x)->(∀ x∈m,kl3 9223372036854775807 x)->kb9 n l m=some (kh0 l m)
 | 0=>⟨fun x y h=>by cases x;simp [depV] at h,fun l m h=>by omega⟩
 | n+1=>by
  obtain ⟨ih1,ih2⟩:=krq n;refine ⟨fun x y q t hy=>?_,fun l m q hl hm wl wm=>?_⟩
  ·show kco (kaw n) (kb9 n) x y=_;obtain ⟨lx,wx⟩:=kmz t;obtain ⟨ly,wy⟩:=kmz hy;have hA:=ih2 x.items y.items (by cases x;simp only [depV,Va.items] at q ⊢; omega) lx ly wx wy;rw [ksy];unfold kco;by_cases h1:x.type=y.type
   ·have b1:(x.type != y.type)=false:=(by simp [h1]);rw [ql (by omega),ql (by omega)];by_cases d:x.num=y.num
    ·have b2:(x.num != y.num)=false:=(by simp [d]);rw [ql (by omega),ql (by omega)];by_cases e:x.text.toList=y.text.toList;have b3:(!(x.text.toList == y.text.toList))=false:=(by simp [e]);have e1:kgz x.text y.text=false:=(by unfold kgz;rw [e];exact kmt _);have e2:kgz y.text x.text=false:=(by unfold kgz;rw [e];exact kmt _);rw [e1,e2,b1,b2,b3];simp [hA]
     ·have b3:(!(x.text.toList == y.text.toList))=true:=(by simp [e]);rw [b1,b2,b3];simp only [qd,qe,kmi,qb];cases b:kgz x.text y.text with
      | true=>
       have:Op.bytesLess x.text.toList y.text.toList=true:=b;simp [this]
      | false=>
       have f:Op.bytesLess x.text.toList y.text.toList=false:=b;cases v:kgz y.text x.text with
       | true=>simp [f]
       | false=>exact absurd (ksk _ _ f v) e
    ·have b2:(x.num != y.num)=true:=(by simp [d]);rw [b1,b2];simp only [qd,qe,kmi,qb];by_cases b:x.num<y.num;simp [b]
     ·have:y.num<x.num:=(by omega);simp [b,this]
   ·have b1:(x.type != y.type)=true:=(by simp [h1]);rw [b1];simp only [qd,qe,kmi,qb];by_cases b:x.type<y.type;simp [b]
    ·have:y.type<x.type:=(by omega);simp [b,this]
  ·show kbz (kaw n) (kb9 n) l m=_;obtain ⟨k,hk⟩:∃ k,k=Nat.min l.length m.length:=⟨_,rfl⟩;have w:k<=l.length:=hk ▸ Nat.min_le_left _ _;have z:k<=m.length:=hk ▸ Nat.min_le_right _ _;have g:k=l.length\/k=m.length:=by
    rw [hk];rcases Nat.le_total l.length m.length with h | h;exact .inl (Nat.min_eq_left h)
    ·exact .inr (Nat.min_eq_right h)
   have hl:=kjj (kaz l m (kaw n)) k (fun i=>(i:Int)) (fun i=>outR (l.drop i) (m.drop i)) (fun i hi=>by
    have a:i<l.length:=(by omega);have j:i<m.length:=(by omega);have e1:l[i]?=some l[i]:=qa a;have d1:l.drop i=l[i]::l.drop (i+1):=qay a;have r:=kbh i;have e2:m[i]?=some m[i]:=qa j;have d2:m.drop i=m[i]::m.drop (i+1):=qay j;have b1:decide ((i:Int)<(l.length:Int))=true:=qh (by omega);have b0:decide ((i:Int)<(m.length:Int))=true:=qh (by omega);have hc:=ih1 l[i] m[i] (by have:=ktz (qi a);omega) (wl _ (qi a)) (wm _ (qi j));by_cases h0:cmpV l[i] m[i]=0
    ·have b2:(cmpV l[i] m[i] != 0)=false:=(by rw [h0];rfl);refine .inl ⟨?_,?_⟩;simp only [kaz,b1,b0,kac,e1,e2,hc,b2,r,qe,qd,qb]
     ·simp only [d1,d2,outR,h0,ne_eq,not_true_eq_false,if_false]
    ·have b2:(cmpV l[i] m[i] != 0)=true:=(by simpa using h0);refine .inr ?_;simp only [d1,d2,outR,ne_eq,h0,not_false_eq_true,if_true,kaz,b1,b0,kac,e1,e2,hc,b2,r,qe,qd,qb]) (by
    by_cases o:k=l.length;have d1:l.drop k=[]:=qbo (by omega);have b1:decide ((k:Int)<(l.length:Int))=false:=qg (by omega);simp only [d1,outR,kaz,b1,qd,qb]
    ·have s:k=m.length:=g.resolve_left o;have d2:m.drop k=[]:=qbo (by omega);have b1:decide ((k:Int)<(l.length:Int))=true:=qh (by omega);have b0:decide ((k:Int)<(m.length:Int))=false:=qg (by omega);have:outR (l.drop k) (m.drop k) = .inl ():=(by rw [d2];cases l.drop k <;> rfl);simp only [this,kaz,b1,b0,qe,qd,qb])
   have p:kab (kaz l m (kaw n)) fuel 0=some (outR l m):=(by simpa using hl);unfold kbz;rw [p,qb,<- kzt l m];cases outR l m with
   | inl u=>
    simp only [q9,kmi,qb];by_cases h1:(l.length:Int)=(m.length:Int);simp [h1]
    ·by_cases d:(l.length:Int)<(m.length:Int);rw [ql h1,qp d,qh d,qa2.2 h1];rfl
     ·rw [ql h1,ql d,qg d,qa2.2 h1];rfl
   | inr c=>rfl
def okV (v:Va):Prop:=depV v<=1000000/\kl3 9223372036854775807 v
theorem krt {x y:Va} (a:okV x) (hy:okV y):kg0 x y=some (eqV x y):=by unfold kg0;rw [kp0 fuel x y (kb7 (by have:=a.1;omega)) a.2 hy.2];simp only [qb,eqV];by_cases h:cmpV x y=0 <;> simp [h]
theorem k1t {x y:Va} (a:okV x) (hy:okV y):kb8 x y=some (eqV x y):=by unfold kb8;rw [(krq fuel).1 x y (Nat.lt_succ_of_lt (kb7 (by have:=a.1;omega))) a.2 hy.2];simp only [qb,eqV];by_cases h:cmpV x y=0 <;> simp [h]
theorem kvz (s:BA) (n:Nat):byt s (n:Int)=(s.data.toList[n]?).map fun c=>(c.toNat:Int):=by
 rw [kacc];congr 1;by_cases h:n<s.size;rw [getElem?_pos s n h];have a:n<s.data.size:=h;rw [qa4,qby a];rfl
 ·rw [getElem?_neg s n h];have a:¬ n<s.data.size:=h;rw [qa4,Array.getElem?_eq_none (by omega)]
theorem kmk (s:BA):s.size=s.data.toList.length:=by rw [qa3];rfl
def kl0 (c:UInt8):Bool:=decide (32<=c.toNat) && decide (c.toNat<=126)
theorem ku4 (c:UInt8):(bif (c.toNat:Int)<32 then some true else (some (decide (126<(c.toNat:Int))):Option Bool))=some (!kl0 c):=by
 unfold kl0;by_cases h:c.toNat<32;have h1:decide ((c.toNat:Int)<32)=true:=qh (by omega);have a:decide (32<=c.toNat)=false:=qg (by omega);rw [h1,a];rfl
 ·have h1:decide ((c.toNat:Int)<32)=false:=qg (by omega);have a:decide (32<=c.toNat)=true:=qh (by omega);rw [h1,a];by_cases d:c.toNat<=126;have b:decide (126<(c.toNat:Int))=false:=qg (by omega);rw [b,qh d];rfl
  ·have b:decide (126<(c.toNat:Int))=true:=qh (by omega);rw [b,qg d];rfl
theorem kqc (s:BA) (hs:s.size<=9223372036854775807):kkk s=some (s.data.toList.all kl0):=by
 have hl:=kjj (kgp s) s.size (fun i=>(i:Int)) (fun i=>if (s.data.toList.drop i).all kl0=true then .inl () else .inr false) (fun i hi=>by
  have a:i<s.data.toList.length:=by rw [<- kmk];exact hi
  have e1:byt s (i:Int)=some (s.data.toList[i].toNat:Int):=by rw [kvz,qa a];rfl
  have d1:s.data.toList.drop i=s.data.toList[i]::s.data.toList.drop (i+1):=qay a;have b1:decide ((i:Int)<(s.size:Int))=true:=qh (by omega);have d:=kbh i;cases b:kl0 s.data.toList[i] with
  | true=>
   refine .inl ⟨?_,?_⟩;simp only [kgp,b1,e1,qe,qb,ku4,b,qa9,qd,d]
   ·simp only [d1,List.all_cons,b,Bool.true_and]
  | false=>
   refine .inr ?_;simp only [kgp,b1,e1,qe,qb,ku4,b,Bool.not_false,d1,List.all_cons,Bool.false_and,Bool.false_eq_true,if_false]) (by
  have b1:decide ((s.size:Int)<(s.size:Int))=false:=qg (by omega);have d1:s.data.toList.drop s.size=[]:=qbo (by rw [<- kmk];omega);simp only [kgp,b1,qd,d1,List.all_nil,if_true])
 have c:kab (kgp s) fuel 0=some (if s.data.toList.all kl0=true then .inl () else .inr false):=by simpa using hl
 unfold kkk;rw [c,qb];cases s.data.toList.all kl0 <;> rfl
theorem k2f (s:BA) (a b:Int) (hs:s.size<=9223372036854775807):kfs s a b=kjr s a b:=by
 have hl:=kjj (kc3 s) s.size (fun i=>(i:Int)) (fun i=>if (s.data.toList.drop i).all kl0=true then .inl () else .inr 1) (fun i hi=>by
  have c:i<s.data.toList.length:=by rw [<- kmk];exact hi
  have e1:byt s (i:Int)=some (s.data.toList[i].toNat:Int):=by rw [kvz,qa c];rfl
  have d1:s.data.toList.drop i=s.data.toList[i]::s.data.toList.drop (i+1):=qay c;have b1:decide ((i:Int)<(s.size:Int))=true:=qh (by omega);have f:=kbh i;cases d:kl0 s.data.toList[i] with
  | true=>
   refine .inl ⟨?_,?_⟩;simp only [kc3,b1,e1,qe,qb,ku4,d,qa9,qd,f]
   ·simp only [d1,List.all_cons,d,Bool.true_and]
  | false=>
   refine .inr ?_;simp only [kc3,b1,e1,qe,qb,ku4,d,Bool.not_false,d1,List.all_cons,Bool.false_and,Bool.false_eq_true,if_false]) (by
  have b1:decide ((s.size:Int)<(s.size:Int))=false:=qg (by omega);have d1:s.data.toList.drop s.size=[]:=qbo (by rw [<- kmk];omega);simp only [kc3,b1,qd,d1,List.all_nil,if_true])
 have e:kab (kc3 s) fuel 0=some (if s.data.toList.all kl0=true then .inl () else .inr 1):=by simpa using hl
 unfold kfs kjr;rw [e,kqc s hs];simp only [qb];cases s.data.toList.all kl0 <;> rfl
theorem k5n (s:BA) (a b:Int) (hs:s.size<=9223372036854775807):∃ c,kjr s a b=some c:=by unfold kjr;rw [kqc s hs];simp only [qb];by_cases h1:(s.size:Int)<a <;> by_cases d:b<(s.size:Int) <;> cases s.data.toList.all kl0 <;> simp [h1,d]
mutual
def kru:Va->Prop
 | .mk _ _ s l=>s.size<=9223372036854775807/\kuu l
def kuu:List Va->Prop
 | []=>True
 | x::l=>kru x/\kuu l
end
theorem k3r {v:Va} (h:kru v):v.text.size<=9223372036854775807/\∀ x∈v.items,kru x:=by
 cases v with
 | mk t n s l=>
  refine ⟨h.1,?_⟩;have:∀ l:List Va,kuu l->∀ x∈l,kru x:=fun l=>by
   induction l with
   | nil=>intro _ x a;cases a
   | cons y l ih=>
    intro h x a;rcases qam.1 a with rfl | a;exact h.1
    ·exact ih h.2 x a
  exact this l h.2
theorem kaek (l:List Va):decide (0<(l.length:Int))=!((l.length:Int) == 0):=by cases l <;> simp <;> omega
theorem kri (m a b:Int):∃ c,ki7 m a b=some c/\kdu m a b=some c:=by unfold ki7 kdu;by_cases h1:m<a <;> by_cases d:b<m <;> simp [h1,d]
end Go.Proofs.YtchjomeomabamaaGreatDoor
