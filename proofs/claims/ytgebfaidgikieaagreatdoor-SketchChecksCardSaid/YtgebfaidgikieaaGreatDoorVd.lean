import Derived.Test.YtgebfaidgikieaaGreatDoorOpr
import Derived.Test.YtgebfaidgikieaaGreatDoorZE
set_option linter.all false
namespace Go.Proofs.YtgebfaidgikieaaGreatDoor
open Go Go.RowKit
mutual
def kna (B:Nat):Va->Prop
 | .mk _ _ _ l=>l.length<=B/\k1l B l
def k1l (B:Nat):List Va->Prop
 | []=>True
 | x::l=>kna B x/\k1l B l
end
theorem kw2:∀ {l:List Va} {x:Va},x∈l->depV x<=kth l
 | y::l,x,h=>by
  simp only [kth];rcases qab.1 h with rfl | h;exact Nat.le_max_left _ _
  ·exact qa1 (kw2 h) (Nat.le_max_right _ _)
theorem k09 {B:Nat}:∀ {l:List Va} {x:Va},k1l B l->x∈l->kna B x
 | y::l,x,a,h=>by
  rcases qab.1 h with rfl | h;exact a.1
  ·exact k09 a.2 h
theorem kadg {v x:Va} (h:x∈v.items):depV x<depV v:=by cases v;exact Nat.lt_succ_of_le (kw2 h)
theorem kon {B:Nat} {v:Va} (h:kna B v):v.items.length<=B/\∀ x∈v.items,kna B x:=by cases v;exact ⟨h.1,fun x hx=>k09 h.2 hx⟩
theorem kvk (x y:Va):cmpV x y=if x.type<y.type then -1 else if y.type<x.type then 1 else if x.num<y.num then -1 else if y.num<x.num then 1 else if kf6 x.text y.text=true then -1 else if kf6 y.text x.text=true then 1 else khc x.items y.items:=by cases x;cases y;rw [cmpV];rfl
theorem k4a (a b:BA):(!(Op.bytesLess a.toList b.toList || a.toList == b.toList))=kf6 b a:=by
 have asym:∀ l m:List UInt8,Op.bytesLess l m=true->Op.bytesLess m l=false:=by
  intro l
  induction l with
  | nil=>intro m _;cases m <;> rfl
  | cons x l ih=>
   intro m h;cases m with
   | nil=>cases h
   | cons y m=>
    simp only [Op.bytesLess,Bool.or_eq_true,decide_eq_true_eq,qo,beq_iff_eq] at h;simp only [Op.bytesLess,Bool.or_eq_false_iff,decide_eq_false_iff_not,Bool.and_eq_false_iff,qam];rcases h with h | ⟨rfl,h⟩;exact ⟨UInt8.not_lt.2 (UInt8.le_of_lt h), .inl (UInt8.ne_of_lt h).symm⟩
    ·exact ⟨UInt8.lt_irrefl _, .inr (ih m h)⟩
 unfold kf6;cases h:Op.bytesLess b.toList a.toList with
 | true=>
  have c:=asym _ _ h;have d:(a.toList == b.toList)=false:=by rw [qam];intro e;rw [e,kof] at h;cases h
  rw [c,d];rfl
 | false=>
  cases c:Op.bytesLess a.toList b.toList with
  | true=>rfl
  | false=>
   have:=ku1 _ _ c h;rw [this];simp
def outC:List Va->List Va->Unit ⊕ Int
 | [],_ => .inl ()
 | _::_,[] => .inr 1
 | x::l,y::m=>if cmpV x y≠0 then .inr (cmpV x y) else outC l m
theorem k3b:∀ l m:List Va,Sum.elim (fun _=>if (l.length:Int)<(m.length:Int) then -1 else (0:Int)) id (outC l m)=khc l m
 | [],[]=>rfl
 | [],y::m=>by simp [outC,khc]
 | x::l,[]=>by simp [outC,khc]
 | x::l,y::m=>by
  have ih:=k3b l m;rw [outC,khc];by_cases h:cmpV x y≠0;rw [qs h,qs h];rfl
  ·rw [ql h,ql h,<- ih];simp
theorem kr9:∀ (n:Nat) (x y:Va),depV x<n->kna 9223372036854775807 x->kna 9223372036854775807 y->kct n x y=some (cmpV x y)
 | 0,x,y,h,_,_=>by omega
 | n+1,x,y,hd,hx,hy=>by
  show kgb (kct n) x y=_;rw [kvk];unfold kgb;simp only [k4a];by_cases h1:x.type<y.type;simp [h1];by_cases e:y.type<x.type;simp [h1,e];by_cases f:x.num<y.num;simp [h1,e,f];by_cases j:y.num<x.num;simp [h1,e,f,j];cases p:kf6 x.text y.text with
  | true=>
   have d:Op.bytesLess x.text.toList y.text.toList=true:=p;simp [h1,e,f,j,d]
  | false=>
  have d:Op.bytesLess x.text.toList y.text.toList=false:=p;cases q:kf6 y.text x.text with
  | true=>simp [h1,e,f,j,d,q]
  | false=>
  obtain ⟨lx,wx⟩:=kon hx;obtain ⟨ly,wy⟩:=kon hy;obtain ⟨m,hm⟩:∃ m,m=Nat.min x.items.length y.items.length:=⟨_,rfl⟩;have s:m<=x.items.length:=hm ▸ Nat.min_le_left _ _;have t:m<=y.items.length:=hm ▸ Nat.min_le_right _ _;have k:m=x.items.length\/m=y.items.length:=by
   rw [hm];rcases Nat.le_total x.items.length y.items.length with h | h;exact .inl (Nat.min_eq_left h)
   ·exact .inr (Nat.min_eq_right h)
  have hl:=ki5 (kb1 x y (kct n)) m (fun i=>(i:Int)) (fun i=>outC (x.items.drop i) (y.items.drop i)) (fun i hi=>by
   have b:i<x.items.length:=(by omega);have l:i<y.items.length:=(by omega);have e1:x.items[i]?=some x.items[i]:=qb b;have d1:x.items.drop i=x.items[i]::x.items.drop (i+1):=qac b;have a:(i:Int)<(x.items.length:Int):=(by omega);have r:=ka1 i;have e2:y.items[i]?=some y.items[i]:=qb l;have d2:y.items.drop i=y.items[i]::y.items.drop (i+1):=qac l;have b1:decide ((i:Int)<(x.items.length:Int))=true:=qh a;have g:((i:Int) == (y.items.length:Int))=false:=(by rw [qam];omega);have hc:=kr9 n x.items[i] y.items[i] (by have:=kadg (qv b);omega) (wx _ (qv b)) (wy _ (qv l));by_cases h0:cmpV x.items[i] y.items[i]=0
   ·refine .inl ⟨?_,?_⟩;have b2:(cmpV x.items[i] y.items[i] != 0)=false:=(by rw [h0];rfl);simp only [kb1,b1,kag,e1,e2,g,hc,b2,r,qe,qd,qa]
    ·simp only [d1,d2,outC,h0,ne_eq,not_true_eq_false,if_false]
   ·refine .inr ?_;have b2:(cmpV x.items[i] y.items[i] != 0)=true:=(by simpa using h0);simp only [d1,d2,outC,ne_eq,h0,not_false_eq_true,if_true,kb1,b1,kag,e1,e2,g,hc,b2,r,qe,qd,qa]) (by
   rcases k with h | h;have d1:x.items.drop m=[]:=qax (by omega);have a:¬ (m:Int)<(x.items.length:Int):=(by omega);simp only [d1,outC];simp [kb1,a]
   ·by_cases v:m=x.items.length;have d1:x.items.drop m=[]:=qax (by omega);have a:¬ (m:Int)<(x.items.length:Int):=(by omega);simp only [d1,outC];simp [kb1,a]
    ·have b:m<x.items.length:=(by omega);have e1:x.items[m]?=some x.items[m]:=qb b;have d1:x.items.drop m=x.items[m]::x.items.drop (m+1):=qac b;have d2:y.items.drop m=[]:=qax (by omega);have a:(m:Int)<(x.items.length:Int):=(by omega);have w:((m:Int) == (y.items.length:Int))=true:=(by rw [beq_iff_eq];omega);simp only [d1,d2,outC,kb1,qh a,kag,e1,w,qe,qa])
  have o:kab (kb1 x y (kct n)) fuel 0=some (outC x.items y.items):=by simpa using hl
  have hs:=k3b x.items y.items;simp only [h1,e,f,j,d,q,decide_false,qd,if_false,Bool.false_eq_true,o,qa,<- hs];cases outC x.items y.items with
  | inl u=>
   simp only [qaa];by_cases a:(x.items.length:Int)<(y.items.length:Int) <;> simp [a]
  | inr c=>rfl
theorem knu (b:Bool):kep b=some (if b=true then -1 else 1):=by cases b <;> rfl
def outR:List Va->List Va->Unit ⊕ Int
 | x::l,y::m=>if cmpV x y≠0 then .inr (cmpV x y) else outR l m
 | _,_ => .inl ()
theorem k35:∀ l m:List Va,Sum.elim (fun _=>if (l.length:Int)=(m.length:Int) then 0 else if (l.length:Int)<(m.length:Int) then -1 else (1:Int)) id (outR l m)=khc l m
 | [],[]=>rfl
 | [],y::m=>by simp only [outR,khc,qaa,qat,qad];rw [ql (by omega),qs (by omega)]
 | x::l,[]=>by simp only [outR,khc,qaa,qat,qad];rw [ql (by omega),ql (by omega)]
 | x::l,y::m=>by
  have ih:=k35 l m;rw [outR,khc];by_cases h:cmpV x y≠0;rw [qs h,qs h];rfl
  ·rw [ql h,ql h,<- ih];simp
theorem kt1:∀ (n:Nat),(∀ x y:Va,2*depV x<n+1->kna 9223372036854775807 x->kna 9223372036854775807 y->kav n x y=some (cmpV x y)) /\
  ∀ l m:List Va,2*kth l<n->l.length<=9223372036854775807->m.length<=9223372036854775807->(∀ x∈l,kna 9223372036854775807 x)->(∀ x∈m,kna 9223372036854775807 x)->kch n l m=some (khc l m)
 | 0=>⟨fun x y h=>by cases x;simp [depV] at h,fun l m h=>by omega⟩
 | n+1=>by
  obtain ⟨ih1,ih2⟩:=kt1 n;refine ⟨fun x y hd hx hy=>?_,fun l m hd hl hm wl wm=>?_⟩
  ·show kcv (kav n) (kch n) x y=_;obtain ⟨lx,wx⟩:=kon hx;obtain ⟨ly,wy⟩:=kon hy;have hA:=ih2 x.items y.items (by cases x;simp only [depV,Va.items] at hd ⊢; omega) lx ly wx wy;rw [kvk];unfold kcv;by_cases h1:x.type=y.type
   ·have b1:(x.type != y.type)=false:=(by simp [h1]);rw [ql (by omega),ql (by omega)];by_cases d:x.num=y.num
    ·have b2:(x.num != y.num)=false:=(by simp [d]);rw [ql (by omega),ql (by omega)];by_cases e:x.text.toList=y.text.toList;have b3:(!(x.text.toList == y.text.toList))=false:=(by simp [e]);have e1:kf6 x.text y.text=false:=(by unfold kf6;rw [e];exact kof _);have e2:kf6 y.text x.text=false:=(by unfold kf6;rw [e];exact kof _);rw [e1,e2,b1,b2,b3];simp [hA]
     ·have b3:(!(x.text.toList == y.text.toList))=true:=(by simp [e]);rw [b1,b2,b3];simp only [qd,qe,knu,qa];cases b:kf6 x.text y.text with
      | true=>
       have:Op.bytesLess x.text.toList y.text.toList=true:=b;simp [this]
      | false=>
       have f:Op.bytesLess x.text.toList y.text.toList=false:=b;cases s:kf6 y.text x.text with
       | true=>simp [f]
       | false=>exact absurd (ku1 _ _ f s) e
    ·have b2:(x.num != y.num)=true:=(by simp [d]);rw [b1,b2];simp only [qd,qe,knu,qa];by_cases b:x.num<y.num;simp [b]
     ·have:y.num<x.num:=(by omega);simp [b,this]
   ·have b1:(x.type != y.type)=true:=(by simp [h1]);rw [b1];simp only [qd,qe,knu,qa];by_cases b:x.type<y.type;simp [b]
    ·have:y.type<x.type:=(by omega);simp [b,this]
  ·show kb6 (kav n) (kch n) l m=_;obtain ⟨k,hk⟩:∃ k,k=Nat.min l.length m.length:=⟨_,rfl⟩;have t:k<=l.length:=hk ▸ Nat.min_le_left _ _;have v:k<=m.length:=hk ▸ Nat.min_le_right _ _;have g:k=l.length\/k=m.length:=by
    rw [hk];rcases Nat.le_total l.length m.length with h | h;exact .inl (Nat.min_eq_left h)
    ·exact .inr (Nat.min_eq_right h)
   have hl:=ki5 (ka0 l m (kav n)) k (fun i=>(i:Int)) (fun i=>outR (l.drop i) (m.drop i)) (fun i hi=>by
    have a:i<l.length:=(by omega);have j:i<m.length:=(by omega);have e1:l[i]?=some l[i]:=qb a;have d1:l.drop i=l[i]::l.drop (i+1):=qac a;have q:=ka1 i;have e2:m[i]?=some m[i]:=qb j;have d2:m.drop i=m[i]::m.drop (i+1):=qac j;have b1:decide ((i:Int)<(l.length:Int))=true:=qh (by omega);have b0:decide ((i:Int)<(m.length:Int))=true:=qh (by omega);have hc:=ih1 l[i] m[i] (by have:=kw2 (qv a);omega) (wl _ (qv a)) (wm _ (qv j));by_cases h0:cmpV l[i] m[i]=0
    ·have b2:(cmpV l[i] m[i] != 0)=false:=(by rw [h0];rfl);refine .inl ⟨?_,?_⟩;simp only [ka0,b1,b0,kag,e1,e2,hc,b2,q,qe,qd,qa]
     ·simp only [d1,d2,outR,h0,ne_eq,not_true_eq_false,if_false]
    ·have b2:(cmpV l[i] m[i] != 0)=true:=(by simpa using h0);refine .inr ?_;simp only [d1,d2,outR,ne_eq,h0,not_false_eq_true,if_true,ka0,b1,b0,kag,e1,e2,hc,b2,q,qe,qd,qa]) (by
    by_cases o:k=l.length;have d1:l.drop k=[]:=qax (by omega);have b1:decide ((k:Int)<(l.length:Int))=false:=qf (by omega);simp only [d1,outR,ka0,b1,qd,qa]
    ·have r:k=m.length:=g.resolve_left o;have d2:m.drop k=[]:=qax (by omega);have b1:decide ((k:Int)<(l.length:Int))=true:=qh (by omega);have b0:decide ((k:Int)<(m.length:Int))=false:=qf (by omega);have:outR (l.drop k) (m.drop k) = .inl ():=(by rw [d2];cases l.drop k <;> rfl);simp only [this,ka0,b1,b0,qe,qd,qa])
   have p:kab (ka0 l m (kav n)) fuel 0=some (outR l m):=(by simpa using hl);unfold kb6;rw [p,qa,<- k35 l m];cases outR l m with
   | inl u=>
    simp only [qaa,knu,qa];by_cases h1:(l.length:Int)=(m.length:Int);simp [h1]
    ·by_cases d:(l.length:Int)<(m.length:Int);rw [ql h1,qs d,qh d,qam.2 h1];rfl
     ·rw [ql h1,ql d,qf d,qam.2 h1];rfl
   | inr c=>rfl
def okV (v:Va):Prop:=depV v<=1000000/\kna 9223372036854775807 v
theorem kt6 {x y:Va} (hx:okV x) (hy:okV y):kf7 x y=some (eqV x y):=by unfold kf7;rw [kr9 fuel x y (ka9 (by have:=hx.1;omega)) hx.2 hy.2];simp only [qa,eqV];by_cases h:cmpV x y=0 <;> simp [h]
theorem k6c {x y:Va} (hx:okV x) (hy:okV y):kcg x y=some (eqV x y):=by unfold kcg;rw [(kt1 fuel).1 x y (Nat.lt_succ_of_lt (ka9 (by have:=hx.1;omega))) hx.2 hy.2];simp only [qa,eqV];by_cases h:cmpV x y=0 <;> simp [h]
theorem krr (s:BA) (n:Nat):byt s (n:Int)=(s.data.toList[n]?).map fun c=>(c.toNat:Int):=by
 rw [kagy];congr 1;by_cases h:n<s.size;rw [getElem?_pos s n h];have a:n<s.data.size:=h;rw [qas,qbb a];rfl
 ·rw [getElem?_neg s n h];have a:¬ n<s.data.size:=h;rw [qas,Array.getElem?_eq_none (by omega)]
theorem kbo (s:BA):s.size=s.data.toList.length:=by rw [qak];rfl
def klv (c:UInt8):Bool:=decide (32<=c.toNat) && decide (c.toNat<=126)
theorem kyl (c:UInt8):(bif (c.toNat:Int)<32 then some true else (some (decide (126<(c.toNat:Int))):Option Bool))=some (!klv c):=by
 unfold klv;by_cases h:c.toNat<32;have h1:decide ((c.toNat:Int)<32)=true:=qh (by omega);have a:decide (32<=c.toNat)=false:=qf (by omega);rw [h1,a];rfl
 ·have h1:decide ((c.toNat:Int)<32)=false:=qf (by omega);have a:decide (32<=c.toNat)=true:=qh (by omega);rw [h1,a];by_cases d:c.toNat<=126;have b:decide (126<(c.toNat:Int))=false:=qf (by omega);rw [b,qh d];rfl
  ·have b:decide (126<(c.toNat:Int))=true:=qh (by omega);rw [b,qf d];rfl
theorem knj (s:BA) (hs:s.size<=9223372036854775807):kkq s=some (s.data.toList.all klv):=by
 have hl:=ki5 (kfr s) s.size (fun i=>(i:Int)) (fun i=>if (s.data.toList.drop i).all klv=true then .inl () else .inr false) (fun i hi=>by
  have a:i<s.data.toList.length:=by rw [<- kbo];exact hi
  have e1:byt s (i:Int)=some (s.data.toList[i].toNat:Int):=by rw [krr,qb a];rfl
  have d1:s.data.toList.drop i=s.data.toList[i]::s.data.toList.drop (i+1):=qac a;have b1:decide ((i:Int)<(s.size:Int))=true:=qh (by omega);have d:=ka1 i;cases b:klv s.data.toList[i] with
  | true=>
   refine .inl ⟨?_,?_⟩;simp only [kfr,b1,e1,qe,qa,kyl,b,qbo,qd,d]
   ·simp only [d1,List.all_cons,b,Bool.true_and]
  | false=>
   refine .inr ?_;simp only [kfr,b1,e1,qe,qa,kyl,b,Bool.not_false,d1,List.all_cons,Bool.false_and,Bool.false_eq_true,if_false]) (by
  have b1:decide ((s.size:Int)<(s.size:Int))=false:=qf (by omega);have d1:s.data.toList.drop s.size=[]:=qax (by rw [<- kbo];omega);simp only [kfr,b1,qd,d1,List.all_nil,if_true])
 have c:kab (kfr s) fuel 0=some (if s.data.toList.all klv=true then .inl () else .inr false):=by simpa using hl
 unfold kkq;rw [c,qa];cases s.data.toList.all klv <;> rfl
theorem k6x (s:BA) (a b:Int) (hs:s.size<=9223372036854775807):kfd s a b=kha s a b:=by
 have hl:=ki5 (kc5 s) s.size (fun i=>(i:Int)) (fun i=>if (s.data.toList.drop i).all klv=true then .inl () else .inr 1) (fun i hi=>by
  have c:i<s.data.toList.length:=by rw [<- kbo];exact hi
  have e1:byt s (i:Int)=some (s.data.toList[i].toNat:Int):=by rw [krr,qb c];rfl
  have d1:s.data.toList.drop i=s.data.toList[i]::s.data.toList.drop (i+1):=qac c;have b1:decide ((i:Int)<(s.size:Int))=true:=qh (by omega);have f:=ka1 i;cases d:klv s.data.toList[i] with
  | true=>
   refine .inl ⟨?_,?_⟩;simp only [kc5,b1,e1,qe,qa,kyl,d,qbo,qd,f]
   ·simp only [d1,List.all_cons,d,Bool.true_and]
  | false=>
   refine .inr ?_;simp only [kc5,b1,e1,qe,qa,kyl,d,Bool.not_false,d1,List.all_cons,Bool.false_and,Bool.false_eq_true,if_false]) (by
  have b1:decide ((s.size:Int)<(s.size:Int))=false:=qf (by omega);have d1:s.data.toList.drop s.size=[]:=qax (by rw [<- kbo];omega);simp only [kc5,b1,qd,d1,List.all_nil,if_true])
 have e:kab (kc5 s) fuel 0=some (if s.data.toList.all klv=true then .inl () else .inr 1):=by simpa using hl
 unfold kfd kha;rw [e,knj s hs];simp only [qa];cases s.data.toList.all klv <;> rfl
theorem kod (s:BA) (a b:Int) (hs:s.size<=9223372036854775807):∃ c,kha s a b=some c:=by unfold kha;rw [knj s hs];simp only [qa];by_cases h1:(s.size:Int)<a <;> by_cases d:b<(s.size:Int) <;> cases s.data.toList.all klv <;> simp [h1,d]
mutual
def kua:Va->Prop
 | .mk _ _ s l=>s.size<=9223372036854775807/\kyb l
def kyb:List Va->Prop
 | []=>True
 | x::l=>kua x/\kyb l
end
theorem k78 {v:Va} (h:kua v):v.text.size<=9223372036854775807/\∀ x∈v.items,kua x:=by
 cases v with
 | mk t n s l=>
  refine ⟨h.1,?_⟩;have:∀ l:List Va,kyb l->∀ x∈l,kua x:=fun l=>by
   induction l with
   | nil=>intro _ x hx;cases hx
   | cons y l ih=>
    intro h x hx;rcases qab.1 hx with rfl | hx;exact h.1
    ·exact ih h.2 x hx
  exact this l h.2
theorem kaiv (l:List Va):decide (0<(l.length:Int))=!((l.length:Int) == 0):=by cases l <;> simp <;> omega
theorem khe (m a b:Int):∃ c,kgi m a b=some c/\kds m a b=some c:=by unfold kgi kds;by_cases h1:m<a <;> by_cases d:b<m <;> simp [h1,d]
end Go.Proofs.YtgebfaidgikieaaGreatDoor
