import Derived.Test.YtjpkdegjcilndaaGreatDoorSk
import Derived.Test.YtjpkdegjcilndaaGreatDoorZE
set_option linter.all false
namespace Go.Proofs.YtjpkdegjcilndaaGreatDoor
open Go Go.RowKit
mutual
def km6 (B:Nat):Va->Prop
 | .mk _ _ _ l=>l.length<=B/\k12 B l
def k12 (B:Nat):List Va->Prop
 | []=>True
 | x::l=>km6 B x/\k12 B l
end
theorem kw3:∀ {l:List Va} {x:Va},x∈l->depV x<=ks4 l
 | y::l,x,h=>by
  simp only [ks4];rcases qac.1 h with rfl | h;exact Nat.le_max_left _ _
  ·exact qav (kw3 h) (Nat.le_max_right _ _)
theorem k1m {B:Nat}:∀ {l:List Va} {x:Va},k12 B l->x∈l->km6 B x
 | y::l,x,a,h=>by
  rcases qac.1 h with rfl | h;exact a.1
  ·exact k1m a.2 h
theorem kafb {v x:Va} (h:x∈v.items):depV x<depV v:=by cases v;exact Nat.lt_succ_of_le (kw3 h)
theorem kn9 {B:Nat} {v:Va} (h:km6 B v):v.items.length<=B/\∀ x∈v.items,km6 B x:=by cases v;exact ⟨h.1,fun x hx=>k1m h.2 hx⟩
theorem kvo (x y:Va):cmpV x y=if x.type<y.type then -1 else if y.type<x.type then 1 else if x.num<y.num then -1 else if y.num<x.num then 1 else if kf9 x.text y.text=true then -1 else if kf9 y.text x.text=true then 1 else khi x.items y.items:=by cases x;cases y;rw [cmpV];rfl
theorem k48 (a b:BA):(!(Op.bytesLess a.toList b.toList || a.toList == b.toList))=kf9 b a:=by
 have asym:∀ l m:List UInt8,Op.bytesLess l m=true->Op.bytesLess m l=false:=by
  intro l
  induction l with
  | nil=>intro m _;cases m <;> rfl
  | cons x l ih=>
   intro m h;cases m with
   | nil=>cases h
   | cons y m=>
    simp only [Op.bytesLess,qb1,qbx,qp,beq_iff_eq] at h;simp only [Op.bytesLess,Bool.or_eq_false_iff,decide_eq_false_iff_not,Bool.and_eq_false_iff,qar];rcases h with h | ⟨rfl,h⟩;exact ⟨UInt8.not_lt.2 (UInt8.le_of_lt h), .inl (UInt8.ne_of_lt h).symm⟩
    ·exact ⟨UInt8.lt_irrefl _, .inr (ih m h)⟩
 unfold kf9;cases h:Op.bytesLess b.toList a.toList with
 | true=>
  have c:=asym _ _ h;have d:(a.toList == b.toList)=false:=by rw [qar];intro e;rw [e,kn2] at h;cases h
  rw [c,d];rfl
 | false=>
  cases c:Op.bytesLess a.toList b.toList with
  | true=>rfl
  | false=>
   have:=ku1 _ _ c h;rw [this];simp
def outC:List Va->List Va->Unit ⊕ Int
 | [],_ => .inl ()
 | _::_,[] => .inr 1
 | x::l,y::m=>if cmpV x y≠0 then .inr (cmpV x y) else outC l m
theorem k36:∀ l m:List Va,Sum.elim (fun _=>if (l.length:Int)<(m.length:Int) then -1 else (0:Int)) id (outC l m)=khi l m
 | [],[]=>rfl
 | [],y::m=>by simp [outC,khi]
 | x::l,[]=>by simp [outC,khi]
 | x::l,y::m=>by
  have ih:=k36 l m;rw [outC,khi];by_cases h:cmpV x y≠0;rw [qo h,qo h];rfl
  ·rw [qi h,qi h,<- ih];simp
theorem krv:∀ (n:Nat) (x y:Va),depV x<n->km6 9223372036854775807 x->km6 9223372036854775807 y->kcp n x y=some (cmpV x y)
 | 0,x,y,h,_,_=>by omega
 | n+1,x,y,hd,hx,hy=>by
  show kge (kcp n) x y=_;rw [kvo];unfold kge;simp only [k48];by_cases h1:x.type<y.type;simp [h1];by_cases e:y.type<x.type;simp [h1,e];by_cases f:x.num<y.num;simp [h1,e,f];by_cases j:y.num<x.num;simp [h1,e,f,j];cases p:kf9 x.text y.text with
  | true=>
   have d:Op.bytesLess x.text.toList y.text.toList=true:=p;simp [h1,e,f,j,d]
  | false=>
  have d:Op.bytesLess x.text.toList y.text.toList=false:=p;cases q:kf9 y.text x.text with
  | true=>simp [h1,e,f,j,d,q]
  | false=>
  obtain ⟨lx,wx⟩:=kn9 hx;obtain ⟨ly,wy⟩:=kn9 hy;obtain ⟨m,hm⟩:∃ m,m=Nat.min x.items.length y.items.length:=⟨_,rfl⟩;have s:m<=x.items.length:=hm ▸ Nat.min_le_left _ _;have t:m<=y.items.length:=hm ▸ Nat.min_le_right _ _;have k:m=x.items.length\/m=y.items.length:=by
   rw [hm];rcases Nat.le_total x.items.length y.items.length with h | h;exact .inl (Nat.min_eq_left h)
   ·exact .inr (Nat.min_eq_right h)
  have hl:=kkf (kbv x y (kcp n)) m (fun i=>(i:Int)) (fun i=>outC (x.items.drop i) (y.items.drop i)) (fun i hi=>by
   have b:i<x.items.length:=(by omega);have l:i<y.items.length:=(by omega);have e1:x.items[i]?=some x.items[i]:=qb b;have d1:x.items.drop i=x.items[i]::x.items.drop (i+1):=qan b;have a:(i:Int)<(x.items.length:Int):=(by omega);have r:=kaj i;have e2:y.items[i]?=some y.items[i]:=qb l;have d2:y.items.drop i=y.items[i]::y.items.drop (i+1):=qan l;have b1:decide ((i:Int)<(x.items.length:Int))=true:=qj a;have g:((i:Int) == (y.items.length:Int))=false:=(by rw [qar];omega);have hc:=krv n x.items[i] y.items[i] (by have:=kafb (q9 b);omega) (wx _ (q9 b)) (wy _ (q9 l));by_cases h0:cmpV x.items[i] y.items[i]=0
   ·refine .inl ⟨?_,?_⟩;have b2:(cmpV x.items[i] y.items[i] != 0)=false:=(by rw [h0];rfl);simp only [kbv,b1,kag,e1,e2,g,hc,b2,r,qe,qd,qa]
    ·simp only [d1,d2,outC,h0,ne_eq,not_true_eq_false,if_false]
   ·refine .inr ?_;have b2:(cmpV x.items[i] y.items[i] != 0)=true:=(by simpa using h0);simp only [d1,d2,outC,ne_eq,h0,not_false_eq_true,if_true,kbv,b1,kag,e1,e2,g,hc,b2,r,qe,qd,qa]) (by
   rcases k with h | h;have d1:x.items.drop m=[]:=qbe (by omega);have a:¬ (m:Int)<(x.items.length:Int):=(by omega);simp only [d1,outC];simp [kbv,a]
   ·by_cases v:m=x.items.length;have d1:x.items.drop m=[]:=qbe (by omega);have a:¬ (m:Int)<(x.items.length:Int):=(by omega);simp only [d1,outC];simp [kbv,a]
    ·have b:m<x.items.length:=(by omega);have e1:x.items[m]?=some x.items[m]:=qb b;have d1:x.items.drop m=x.items[m]::x.items.drop (m+1):=qan b;have d2:y.items.drop m=[]:=qbe (by omega);have a:(m:Int)<(x.items.length:Int):=(by omega);have w:((m:Int) == (y.items.length:Int))=true:=(by rw [beq_iff_eq];omega);simp only [d1,d2,outC,kbv,qj a,kag,e1,w,qe,qa])
  have o:kab (kbv x y (kcp n)) fuel 0=some (outC x.items y.items):=by simpa using hl
  have hs:=k36 x.items y.items;simp only [h1,e,f,j,d,q,decide_false,qd,if_false,Bool.false_eq_true,o,qa,<- hs];cases outC x.items y.items with
  | inl u=>
   simp only [qaf];by_cases a:(x.items.length:Int)<(y.items.length:Int) <;> simp [a]
  | inr c=>rfl
theorem knk (b:Bool):keh b=some (if b=true then -1 else 1):=by cases b <;> rfl
def outR:List Va->List Va->Unit ⊕ Int
 | x::l,y::m=>if cmpV x y≠0 then .inr (cmpV x y) else outR l m
 | _,_ => .inl ()
theorem k42:∀ l m:List Va,Sum.elim (fun _=>if (l.length:Int)=(m.length:Int) then 0 else if (l.length:Int)<(m.length:Int) then -1 else (1:Int)) id (outR l m)=khi l m
 | [],[]=>rfl
 | [],y::m=>by simp only [outR,khi,qaf,qbn,qy];rw [qi (by omega),qo (by omega)]
 | x::l,[]=>by simp only [outR,khi,qaf,qbn,qy];rw [qi (by omega),qi (by omega)]
 | x::l,y::m=>by
  have ih:=k42 l m;rw [outR,khi];by_cases h:cmpV x y≠0;rw [qo h,qo h];rfl
  ·rw [qi h,qi h,<- ih];simp
theorem kty:∀ (n:Nat),(∀ x y:Va,2*depV x<n+1->km6 9223372036854775807 x->km6 9223372036854775807 y->kaq n x y=some (cmpV x y)) /\
  ∀ l m:List Va,2*ks4 l<n->l.length<=9223372036854775807->m.length<=9223372036854775807->(∀ x∈l,km6 9223372036854775807 x)->(∀ x∈m,km6 9223372036854775807 x)->kcf n l m=some (khi l m)
 | 0=>⟨fun x y h=>by cases x;simp [depV] at h,fun l m h=>by omega⟩
 | n+1=>by
  obtain ⟨ih1,ih2⟩:=kty n;refine ⟨fun x y hd hx hy=>?_,fun l m hd hl hm wl wm=>?_⟩
  ·show kcr (kaq n) (kcf n) x y=_;obtain ⟨lx,wx⟩:=kn9 hx;obtain ⟨ly,wy⟩:=kn9 hy;have hA:=ih2 x.items y.items (by cases x;simp only [depV,Va.items] at hd ⊢; omega) lx ly wx wy;rw [kvo];unfold kcr;by_cases h1:x.type=y.type
   ·have b1:(x.type != y.type)=false:=(by simp [h1]);rw [qi (by omega),qi (by omega)];by_cases d:x.num=y.num
    ·have b2:(x.num != y.num)=false:=(by simp [d]);rw [qi (by omega),qi (by omega)];by_cases e:x.text.toList=y.text.toList;have b3:(!(x.text.toList == y.text.toList))=false:=(by simp [e]);have e1:kf9 x.text y.text=false:=(by unfold kf9;rw [e];exact kn2 _);have e2:kf9 y.text x.text=false:=(by unfold kf9;rw [e];exact kn2 _);rw [e1,e2,b1,b2,b3];simp [hA]
     ·have b3:(!(x.text.toList == y.text.toList))=true:=(by simp [e]);rw [b1,b2,b3];simp only [qd,qe,knk,qa];cases b:kf9 x.text y.text with
      | true=>
       have:Op.bytesLess x.text.toList y.text.toList=true:=b;simp [this]
      | false=>
       have f:Op.bytesLess x.text.toList y.text.toList=false:=b;cases s:kf9 y.text x.text with
       | true=>simp [f]
       | false=>exact absurd (ku1 _ _ f s) e
    ·have b2:(x.num != y.num)=true:=(by simp [d]);rw [b1,b2];simp only [qd,qe,knk,qa];by_cases b:x.num<y.num;simp [b]
     ·have:y.num<x.num:=(by omega);simp [b,this]
   ·have b1:(x.type != y.type)=true:=(by simp [h1]);rw [b1];simp only [qd,qe,knk,qa];by_cases b:x.type<y.type;simp [b]
    ·have:y.type<x.type:=(by omega);simp [b,this]
  ·show kb2 (kaq n) (kcf n) l m=_;obtain ⟨k,hk⟩:∃ k,k=Nat.min l.length m.length:=⟨_,rfl⟩;have t:k<=l.length:=hk ▸ Nat.min_le_left _ _;have v:k<=m.length:=hk ▸ Nat.min_le_right _ _;have g:k=l.length\/k=m.length:=by
    rw [hk];rcases Nat.le_total l.length m.length with h | h;exact .inl (Nat.min_eq_left h)
    ·exact .inr (Nat.min_eq_right h)
   have hl:=kkf (kav l m (kaq n)) k (fun i=>(i:Int)) (fun i=>outR (l.drop i) (m.drop i)) (fun i hi=>by
    have a:i<l.length:=(by omega);have j:i<m.length:=(by omega);have e1:l[i]?=some l[i]:=qb a;have d1:l.drop i=l[i]::l.drop (i+1):=qan a;have q:=kaj i;have e2:m[i]?=some m[i]:=qb j;have d2:m.drop i=m[i]::m.drop (i+1):=qan j;have b1:decide ((i:Int)<(l.length:Int))=true:=qj (by omega);have b0:decide ((i:Int)<(m.length:Int))=true:=qj (by omega);have hc:=ih1 l[i] m[i] (by have:=kw3 (q9 a);omega) (wl _ (q9 a)) (wm _ (q9 j));by_cases h0:cmpV l[i] m[i]=0
    ·have b2:(cmpV l[i] m[i] != 0)=false:=(by rw [h0];rfl);refine .inl ⟨?_,?_⟩;simp only [kav,b1,b0,kag,e1,e2,hc,b2,q,qe,qd,qa]
     ·simp only [d1,d2,outR,h0,ne_eq,not_true_eq_false,if_false]
    ·have b2:(cmpV l[i] m[i] != 0)=true:=(by simpa using h0);refine .inr ?_;simp only [d1,d2,outR,ne_eq,h0,not_false_eq_true,if_true,kav,b1,b0,kag,e1,e2,hc,b2,q,qe,qd,qa]) (by
    by_cases o:k=l.length;have d1:l.drop k=[]:=qbe (by omega);have b1:decide ((k:Int)<(l.length:Int))=false:=qf (by omega);simp only [d1,outR,kav,b1,qd,qa]
    ·have r:k=m.length:=g.resolve_left o;have d2:m.drop k=[]:=qbe (by omega);have b1:decide ((k:Int)<(l.length:Int))=true:=qj (by omega);have b0:decide ((k:Int)<(m.length:Int))=false:=qf (by omega);have:outR (l.drop k) (m.drop k) = .inl ():=(by rw [d2];cases l.drop k <;> rfl);simp only [this,kav,b1,b0,qe,qd,qa])
   have p:kab (kav l m (kaq n)) fuel 0=some (outR l m):=(by simpa using hl);unfold kb2;rw [p,qa,<- k42 l m];cases outR l m with
   | inl u=>
    simp only [qaf,knk,qa];by_cases h1:(l.length:Int)=(m.length:Int);simp [h1]
    ·by_cases d:(l.length:Int)<(m.length:Int);rw [qi h1,qo d,qj d,qar.2 h1];rfl
     ·rw [qi h1,qi d,qf d,qar.2 h1];rfl
   | inr c=>rfl
def okV (v:Va):Prop:=depV v<=1000000/\km6 9223372036854775807 v
theorem kt3 {x y:Va} (hx:okV x) (hy:okV y):kga x y=some (eqV x y):=by unfold kga;rw [krv fuel x y (ka7 (by have:=hx.1;omega)) hx.2 hy.2];simp only [qa,eqV];by_cases h:cmpV x y=0 <;> simp [h]
theorem k69 {x y:Va} (hx:okV x) (hy:okV y):kce x y=some (eqV x y):=by unfold kce;rw [(kty fuel).1 x y (Nat.lt_succ_of_lt (ka7 (by have:=hx.1;omega))) hx.2 hy.2];simp only [qa,eqV];by_cases h:cmpV x y=0 <;> simp [h]
theorem kzr (s:BA) (n:Nat):byt s (n:Int)=(s.data.toList[n]?).map fun c=>(c.toNat:Int):=by
 rw [kai8];congr 1;by_cases h:n<s.size;rw [getElem?_pos s n h];have a:n<s.data.size:=h;rw [qat,qbf a];rfl
 ·rw [getElem?_neg s n h];have a:¬ n<s.data.size:=h;rw [qat,Array.getElem?_eq_none (by omega)]
theorem knn (s:BA):s.size=s.data.toList.length:=by rw [qal];rfl
def km4 (c:UInt8):Bool:=decide (32<=c.toNat) && decide (c.toNat<=126)
theorem kyl (c:UInt8):(bif (c.toNat:Int)<32 then some true else (some (decide (126<(c.toNat:Int))):Option Bool))=some (!km4 c):=by
 unfold km4;by_cases h:c.toNat<32;have h1:decide ((c.toNat:Int)<32)=true:=qj (by omega);have a:decide (32<=c.toNat)=false:=qf (by omega);rw [h1,a];rfl
 ·have h1:decide ((c.toNat:Int)<32)=false:=qf (by omega);have a:decide (32<=c.toNat)=true:=qj (by omega);rw [h1,a];by_cases d:c.toNat<=126;have b:decide (126<(c.toNat:Int))=false:=qf (by omega);rw [b,qj d];rfl
  ·have b:decide (126<(c.toNat:Int))=true:=qj (by omega);rw [b,qf d];rfl
theorem kr7 (s:BA) (hs:s.size<=9223372036854775807):kkw s=some (s.data.toList.all km4):=by
 have hl:=kkf (kfx s) s.size (fun i=>(i:Int)) (fun i=>if (s.data.toList.drop i).all km4=true then .inl () else .inr false) (fun i hi=>by
  have a:i<s.data.toList.length:=by rw [<- knn];exact hi
  have e1:byt s (i:Int)=some (s.data.toList[i].toNat:Int):=by rw [kzr,qb a];rfl
  have d1:s.data.toList.drop i=s.data.toList[i]::s.data.toList.drop (i+1):=qan a;have b1:decide ((i:Int)<(s.size:Int))=true:=qj (by omega);have d:=kaj i;cases b:km4 s.data.toList[i] with
  | true=>
   refine .inl ⟨?_,?_⟩;simp only [kfx,b1,e1,qe,qa,kyl,b,qbo,qd,d]
   ·simp only [d1,List.all_cons,b,Bool.true_and]
  | false=>
   refine .inr ?_;simp only [kfx,b1,e1,qe,qa,kyl,b,Bool.not_false,d1,List.all_cons,Bool.false_and,Bool.false_eq_true,if_false]) (by
  have b1:decide ((s.size:Int)<(s.size:Int))=false:=qf (by omega);have d1:s.data.toList.drop s.size=[]:=qbe (by rw [<- knn];omega);simp only [kfx,b1,qd,d1,List.all_nil,if_true])
 have c:kab (kfx s) fuel 0=some (if s.data.toList.all km4=true then .inl () else .inr false):=by simpa using hl
 unfold kkw;rw [c,qa];cases s.data.toList.all km4 <;> rfl
theorem k7t (s:BA) (a b:Int) (hs:s.size<=9223372036854775807):kfc s a b=kjl s a b:=by
 have hl:=kkf (kcx s) s.size (fun i=>(i:Int)) (fun i=>if (s.data.toList.drop i).all km4=true then .inl () else .inr 1) (fun i hi=>by
  have c:i<s.data.toList.length:=by rw [<- knn];exact hi
  have e1:byt s (i:Int)=some (s.data.toList[i].toNat:Int):=by rw [kzr,qb c];rfl
  have d1:s.data.toList.drop i=s.data.toList[i]::s.data.toList.drop (i+1):=qan c;have b1:decide ((i:Int)<(s.size:Int))=true:=qj (by omega);have f:=kaj i;cases d:km4 s.data.toList[i] with
  | true=>
   refine .inl ⟨?_,?_⟩;simp only [kcx,b1,e1,qe,qa,kyl,d,qbo,qd,f]
   ·simp only [d1,List.all_cons,d,Bool.true_and]
  | false=>
   refine .inr ?_;simp only [kcx,b1,e1,qe,qa,kyl,d,Bool.not_false,d1,List.all_cons,Bool.false_and,Bool.false_eq_true,if_false]) (by
  have b1:decide ((s.size:Int)<(s.size:Int))=false:=qf (by omega);have d1:s.data.toList.drop s.size=[]:=qbe (by rw [<- knn];omega);simp only [kcx,b1,qd,d1,List.all_nil,if_true])
 have e:kab (kcx s) fuel 0=some (if s.data.toList.all km4=true then .inl () else .inr 1):=by simpa using hl
 unfold kfc kjl;rw [e,kr7 s hs];simp only [qa];cases s.data.toList.all km4 <;> rfl
theorem kabl (s:BA) (a b:Int) (hs:s.size<=9223372036854775807):∃ c,kjl s a b=some c:=by unfold kjl;rw [kr7 s hs];simp only [qa];by_cases h1:(s.size:Int)<a <;> by_cases d:b<(s.size:Int) <;> cases s.data.toList.all km4 <;> simp [h1,d]
mutual
def kt7:Va->Prop
 | .mk _ _ s l=>s.size<=9223372036854775807/\kya l
def kya:List Va->Prop
 | []=>True
 | x::l=>kt7 x/\kya l
end
theorem k83 {v:Va} (h:kt7 v):v.text.size<=9223372036854775807/\∀ x∈v.items,kt7 x:=by
 cases v with
 | mk t n s l=>
  refine ⟨h.1,?_⟩;have:∀ l:List Va,kya l->∀ x∈l,kt7 x:=fun l=>by
   induction l with
   | nil=>intro _ x hx;cases hx
   | cons y l ih=>
    intro h x hx;rcases qac.1 hx with rfl | hx;exact h.1
    ·exact ih h.2 x hx
  exact this l h.2
theorem kalc (l:List Va):decide (0<(l.length:Int))=!((l.length:Int) == 0):=by cases l <;> simp <;> omega
theorem ktl (m a b:Int):∃ c,kim m a b=some c/\kdk m a b=some c:=by unfold kim kdk;by_cases h1:m<a <;> by_cases d:b<m <;> simp [h1,d]
end Go.Proofs.YtjpkdegjcilndaaGreatDoor
