import Derived.Test.YtjbonbdomgoklaaGreatDoorSa
import Derived.Test.YtjbonbdomgoklaaGreatDoorZE
set_option linter.all false
namespace Go.Proofs.YtjbonbdomgoklaaGreatDoor
open Go Go.RowKit
mutual
def kov (B:Nat):Va->Prop
 | .mk _ _ _ l=>l.length<=B/\k05 B l
def k05 (B:Nat):List Va->Prop
 | []=>True
 | x::l=>kov B x/\k05 B l
end
theorem kw2:∀ {l:List Va} {x:Va},x∈l->depV x<=kt0 l
 | y::l,x,h=>by
  simp only [kt0];rcases qan.1 h with rfl | h;exact Nat.le_max_left _ _
  ·exact qag (kw2 h) (Nat.le_max_right _ _)
theorem k0n {B:Nat}:∀ {l:List Va} {x:Va},k05 B l->x∈l->kov B x
 | y::l,x,a,h=>by
  rcases qan.1 h with rfl | h;exact a.1
  ·exact k0n a.2 h
theorem kadt {v x:Va} (h:x∈v.items):depV x<depV v:=by cases v;exact Nat.lt_succ_of_le (kw2 h)
theorem kp3 {B:Nat} {v:Va} (h:kov B v):v.items.length<=B/\∀ x∈v.items,kov B x:=by cases v;exact ⟨h.1,fun x a=>k0n h.2 a⟩
theorem kv0 (x y:Va):cmpV x y=if x.type<y.type then -1 else if y.type<x.type then 1 else if x.num<y.num then -1 else if y.num<x.num then 1 else if kh5 x.text y.text=true then -1 else if kh5 y.text x.text=true then 1 else kja x.items y.items:=by cases x;cases y;rw [cmpV];rfl
theorem k32 (a b:BA):(!(Op.bytesLess a.toList b.toList || a.toList == b.toList))=kh5 b a:=by
 have asym:∀ l m:List UInt8,Op.bytesLess l m=true->Op.bytesLess m l=false:=by
  intro l
  induction l with
  | nil=>intro m _;cases m <;> rfl
  | cons x l ih=>
   intro m h;cases m with
   | nil=>cases h
   | cons y m=>
    simp only [Op.bytesLess,qb9,qbm,qv,beq_iff_eq] at h;simp only [Op.bytesLess,Bool.or_eq_false_iff,qb1,Bool.and_eq_false_iff,qaw];rcases h with h | ⟨rfl,h⟩;exact ⟨UInt8.not_lt.2 (UInt8.le_of_lt h), .inl (UInt8.ne_of_lt h).symm⟩
    ·exact ⟨UInt8.lt_irrefl _, .inr (ih m h)⟩
 unfold kh5;cases h:Op.bytesLess b.toList a.toList with
 | true=>
  have c:=asym _ _ h;have d:(a.toList == b.toList)=false:=by rw [qaw];intro e;rw [e,kpt] at h;cases h
  rw [c,d];rfl
 | false=>
  cases c:Op.bytesLess a.toList b.toList with
  | true=>rfl
  | false=>
   have:=kvj _ _ c h;rw [this];simp
def outC:List Va->List Va->Unit ⊕ Int
 | [],_ => .inl ()
 | _::_,[] => .inr 1
 | x::l,y::m=>if cmpV x y≠0 then .inr (cmpV x y) else outC l m
theorem k26:∀ l m:List Va,Sum.elim (fun _=>if (l.length:Int)<(m.length:Int) then -1 else (0:Int)) id (outC l m)=kja l m
 | [],[]=>rfl
 | [],y::m=>by simp [outC,kja]
 | x::l,[]=>by simp [outC,kja]
 | x::l,y::m=>by
  have ih:=k26 l m;rw [outC,kja];by_cases h:cmpV x y≠0;rw [ql h,ql h];rfl
  ·rw [qi h,qi h,<- ih];simp
theorem kss:∀ (n:Nat) (x y:Va),depV x<n->kov 9223372036854775807 x->kov 9223372036854775807 y->kdl n x y=some (cmpV x y)
 | 0,x,y,h,_,_=>by omega
 | n+1,x,y,A,s,hy=>by
  show kib (kdl n) x y=_;rw [kv0];unfold kib;simp only [k32];by_cases h1:x.type<y.type;simp [h1];by_cases e:y.type<x.type;simp [h1,e];by_cases f:x.num<y.num;simp [h1,e,f];by_cases j:y.num<x.num;simp [h1,e,f,j];cases p:kh5 x.text y.text with
  | true=>
   have d:Op.bytesLess x.text.toList y.text.toList=true:=p;simp [h1,e,f,j,d]
  | false=>
  have d:Op.bytesLess x.text.toList y.text.toList=false:=p;cases q:kh5 y.text x.text with
  | true=>simp [h1,e,f,j,d,q]
  | false=>
  obtain ⟨lx,wx⟩:=kp3 s;obtain ⟨ly,wy⟩:=kp3 hy;obtain ⟨m,hm⟩:∃ m,m=Nat.min x.items.length y.items.length:=⟨_,rfl⟩;have t:m<=x.items.length:=hm ▸ Nat.min_le_left _ _;have v:m<=y.items.length:=hm ▸ Nat.min_le_right _ _;have k:m=x.items.length\/m=y.items.length:=by
   rw [hm];rcases Nat.le_total x.items.length y.items.length with h | h;exact .inl (qce h)
   ·exact .inr (Nat.min_eq_right h)
  have hl:=kk2 (kco x y (kdl n)) m (fun i=>(i:Int)) (fun i=>outC (x.items.drop i) (y.items.drop i)) (fun i hi=>by
   have b:i<x.items.length:=(by omega);have l:i<y.items.length:=(by omega);have e1:x.items[i]?=some x.items[i]:=qb b;have d1:x.items.drop i=x.items[i]::x.items.drop (i+1):=qav b;have a:(i:Int)<(x.items.length:Int):=(by omega);have r:=keq i;have e2:y.items[i]?=some y.items[i]:=qb l;have d2:y.items.drop i=y.items[i]::y.items.drop (i+1):=qav l;have b1:decide ((i:Int)<(x.items.length:Int))=true:=qj a;have g:((i:Int) == (y.items.length:Int))=false:=(by rw [qaw];omega);have hc:=kss n x.items[i] y.items[i] (by have:=kadt (qn b);omega) (wx _ (qn b)) (wy _ (qn l));by_cases h0:cmpV x.items[i] y.items[i]=0
   ·refine .inl ⟨?_,?_⟩;have b2:(cmpV x.items[i] y.items[i] != 0)=false:=(by rw [h0];rfl);simp only [kco,b1,kaf,e1,e2,g,hc,b2,r,qd,qc,qa]
    ·simp only [d1,d2,outC,h0,ne_eq,not_true_eq_false,if_false]
   ·refine .inr ?_;have b2:(cmpV x.items[i] y.items[i] != 0)=true:=(by simpa using h0);simp only [d1,d2,outC,ne_eq,h0,not_false_eq_true,if_true,kco,b1,kaf,e1,e2,g,hc,b2,r,qd,qc,qa]) (by
   rcases k with h | h;have d1:x.items.drop m=[]:=qbs (by omega);have a:¬ (m:Int)<(x.items.length:Int):=(by omega);simp only [d1,outC];simp [kco,a]
   ·by_cases w:m=x.items.length;have d1:x.items.drop m=[]:=qbs (by omega);have a:¬ (m:Int)<(x.items.length:Int):=(by omega);simp only [d1,outC];simp [kco,a]
    ·have b:m<x.items.length:=(by omega);have e1:x.items[m]?=some x.items[m]:=qb b;have d1:x.items.drop m=x.items[m]::x.items.drop (m+1):=qav b;have d2:y.items.drop m=[]:=qbs (by omega);have a:(m:Int)<(x.items.length:Int):=(by omega);have z:((m:Int) == (y.items.length:Int))=true:=(by rw [beq_iff_eq];omega);simp only [d1,d2,outC,kco,qj a,kaf,e1,z,qd,qa])
  have o:kac (kco x y (kdl n)) fuel 0=some (outC x.items y.items):=by simpa using hl
  have hs:=k26 x.items y.items;simp only [h1,e,f,j,d,q,decide_false,qc,if_false,Bool.false_eq_true,o,qa,<- hs];cases outC x.items y.items with
  | inl u=>
   simp only [qy];by_cases a:(x.items.length:Int)<(y.items.length:Int) <;> simp [a]
  | inr c=>rfl
theorem kpf (b:Bool):kf2 b=some (if b=true then -1 else 1):=by cases b <;> rfl
def outR:List Va->List Va->Unit ⊕ Int
 | x::l,y::m=>if cmpV x y≠0 then .inr (cmpV x y) else outR l m
 | _,_ => .inl ()
theorem k3u:∀ l m:List Va,Sum.elim (fun _=>if (l.length:Int)=(m.length:Int) then 0 else if (l.length:Int)<(m.length:Int) then -1 else (1:Int)) id (outR l m)=kja l m
 | [],[]=>rfl
 | [],y::m=>by simp only [outR,kja,qy,qbx,qat];rw [qi (by omega),ql (by omega)]
 | x::l,[]=>by simp only [outR,kja,qy,qbx,qat];rw [qi (by omega),qi (by omega)]
 | x::l,y::m=>by
  have ih:=k3u l m;rw [outR,kja];by_cases h:cmpV x y≠0;rw [ql h,ql h];rfl
  ·rw [qi h,qi h,<- ih];simp
theorem kuo:∀ (n:Nat),(∀ x y:Va,2*depV x<n+1->kov 9223372036854775807 x->kov 9223372036854775807 y->ka1 n x y=some (cmpV x y)) /\
  ∀ l m:List Va,2*kt0 l<n->l.length<=9223372036854775807->m.length<=9223372036854775807->(∀ x∈l,kov 9223372036854775807 x)->(∀ x∈m,kov 9223372036854775807 x)->kc9 n l m=some (kja l m)
 | 0=>⟨fun x y h=>by cases x;simp [depV] at h,fun l m h=>by omega⟩
 | n+1=>by
  obtain ⟨ih1,ih2⟩:=kuo n;refine ⟨fun x y q t hy=>?_,fun l m q hl hm wl wm=>?_⟩
  ·show kdn (ka1 n) (kc9 n) x y=_;obtain ⟨lx,wx⟩:=kp3 t;obtain ⟨ly,wy⟩:=kp3 hy;have hA:=ih2 x.items y.items (by cases x;simp only [depV,Va.items] at q ⊢; omega) lx ly wx wy;rw [kv0];unfold kdn;by_cases h1:x.type=y.type
   ·have b1:(x.type != y.type)=false:=(by simp [h1]);rw [qi (by omega),qi (by omega)];by_cases d:x.num=y.num
    ·have b2:(x.num != y.num)=false:=(by simp [d]);rw [qi (by omega),qi (by omega)];by_cases e:x.text.toList=y.text.toList;have b3:(!(x.text.toList == y.text.toList))=false:=(by simp [e]);have e1:kh5 x.text y.text=false:=(by unfold kh5;rw [e];exact kpt _);have e2:kh5 y.text x.text=false:=(by unfold kh5;rw [e];exact kpt _);rw [e1,e2,b1,b2,b3];simp [hA]
     ·have b3:(!(x.text.toList == y.text.toList))=true:=(by simp [e]);rw [b1,b2,b3];simp only [qc,qd,kpf,qa];cases b:kh5 x.text y.text with
      | true=>
       have:Op.bytesLess x.text.toList y.text.toList=true:=b;simp [this]
      | false=>
       have f:Op.bytesLess x.text.toList y.text.toList=false:=b;cases v:kh5 y.text x.text with
       | true=>simp [f]
       | false=>exact absurd (kvj _ _ f v) e
    ·have b2:(x.num != y.num)=true:=(by simp [d]);rw [b1,b2];simp only [qc,qd,kpf,qa];by_cases b:x.num<y.num;simp [b]
     ·have:y.num<x.num:=(by omega);simp [b,this]
   ·have b1:(x.type != y.type)=true:=(by simp [h1]);rw [b1];simp only [qc,qd,kpf,qa];by_cases b:x.type<y.type;simp [b]
    ·have:y.type<x.type:=(by omega);simp [b,this]
  ·show kcx (ka1 n) (kc9 n) l m=_;obtain ⟨k,hk⟩:∃ k,k=Nat.min l.length m.length:=⟨_,rfl⟩;have w:k<=l.length:=hk ▸ Nat.min_le_left _ _;have z:k<=m.length:=hk ▸ Nat.min_le_right _ _;have g:k=l.length\/k=m.length:=by
    rw [hk];rcases Nat.le_total l.length m.length with h | h;exact .inl (qce h)
    ·exact .inr (Nat.min_eq_right h)
   have hl:=kk2 (ka6 l m (ka1 n)) k (fun i=>(i:Int)) (fun i=>outR (l.drop i) (m.drop i)) (fun i hi=>by
    have a:i<l.length:=(by omega);have j:i<m.length:=(by omega);have e1:l[i]?=some l[i]:=qb a;have d1:l.drop i=l[i]::l.drop (i+1):=qav a;have r:=keq i;have e2:m[i]?=some m[i]:=qb j;have d2:m.drop i=m[i]::m.drop (i+1):=qav j;have b1:decide ((i:Int)<(l.length:Int))=true:=qj (by omega);have b0:decide ((i:Int)<(m.length:Int))=true:=qj (by omega);have hc:=ih1 l[i] m[i] (by have:=kw2 (qn a);omega) (wl _ (qn a)) (wm _ (qn j));by_cases h0:cmpV l[i] m[i]=0
    ·have b2:(cmpV l[i] m[i] != 0)=false:=(by rw [h0];rfl);refine .inl ⟨?_,?_⟩;simp only [ka6,b1,b0,kaf,e1,e2,hc,b2,r,qd,qc,qa]
     ·simp only [d1,d2,outR,h0,ne_eq,not_true_eq_false,if_false]
    ·have b2:(cmpV l[i] m[i] != 0)=true:=(by simpa using h0);refine .inr ?_;simp only [d1,d2,outR,ne_eq,h0,not_false_eq_true,if_true,ka6,b1,b0,kaf,e1,e2,hc,b2,r,qd,qc,qa]) (by
    by_cases o:k=l.length;have d1:l.drop k=[]:=qbs (by omega);have b1:decide ((k:Int)<(l.length:Int))=false:=qg (by omega);simp only [d1,outR,ka6,b1,qc,qa]
    ·have s:k=m.length:=g.resolve_left o;have d2:m.drop k=[]:=qbs (by omega);have b1:decide ((k:Int)<(l.length:Int))=true:=qj (by omega);have b0:decide ((k:Int)<(m.length:Int))=false:=qg (by omega);have:outR (l.drop k) (m.drop k) = .inl ():=(by rw [d2];cases l.drop k <;> rfl);simp only [this,ka6,b1,b0,qd,qc,qa])
   have p:kac (ka6 l m (ka1 n)) fuel 0=some (outR l m):=(by simpa using hl);unfold kcx;rw [p,qa,<- k3u l m];cases outR l m with
   | inl u=>
    simp only [qy,kpf,qa];by_cases h1:(l.length:Int)=(m.length:Int);simp [h1]
    ·by_cases d:(l.length:Int)<(m.length:Int);rw [qi h1,ql d,qj d,qaw.2 h1];rfl
     ·rw [qi h1,qi d,qg d,qaw.2 h1];rfl
   | inr c=>rfl
def okV (v:Va):Prop:=depV v<=1000000/\kov 9223372036854775807 v
theorem kuu {x y:Va} (a:okV x) (hy:okV y):kh6 x y=some (eqV x y):=by unfold kh6;rw [kss fuel x y (kfu (by have:=a.1;omega)) a.2 hy.2];simp only [qa,eqV];by_cases h:cmpV x y=0 <;> simp [h]
theorem k54 {x y:Va} (a:okV x) (hy:okV y):kc8 x y=some (eqV x y):=by unfold kc8;rw [(kuo fuel).1 x y (Nat.lt_succ_of_lt (kfu (by have:=a.1;omega))) a.2 hy.2];simp only [qa,eqV];by_cases h:cmpV x y=0 <;> simp [h]
theorem ky5 (s:BA) (n:Nat):byt s (n:Int)=(s.data.toList[n]?).map fun c=>(c.toNat:Int):=by
 rw [kaho];congr 1;by_cases h:n<s.size;rw [getElem?_pos s n h];have a:n<s.data.size:=h;rw [qbb,qb2 a];rfl
 ·rw [getElem?_neg s n h];have a:¬ n<s.data.size:=h;rw [qbb,Array.getElem?_eq_none (by omega)]
theorem kph (s:BA):s.size=s.data.toList.length:=by rw [qa9];rfl
def kot (c:UInt8):Bool:=decide (32<=c.toNat) && decide (c.toNat<=126)
theorem kya (c:UInt8):(bif (c.toNat:Int)<32 then some true else (some (decide (126<(c.toNat:Int))):Option Bool))=some (!kot c):=by
 unfold kot;by_cases h:c.toNat<32;have h1:decide ((c.toNat:Int)<32)=true:=qj (by omega);have a:decide (32<=c.toNat)=false:=qg (by omega);rw [h1,a];rfl
 ·have h1:decide ((c.toNat:Int)<32)=false:=qg (by omega);have a:decide (32<=c.toNat)=true:=qj (by omega);rw [h1,a];by_cases d:c.toNat<=126;have b:decide (126<(c.toNat:Int))=false:=qg (by omega);rw [b,qj d];rfl
  ·have b:decide (126<(c.toNat:Int))=true:=qj (by omega);rw [b,qg d];rfl
theorem ks3 (s:BA) (hs:s.size<=9223372036854775807):kmy s=some (s.data.toList.all kot):=by
 have hl:=kk2 (khv s) s.size (fun i=>(i:Int)) (fun i=>if (s.data.toList.drop i).all kot=true then .inl () else .inr false) (fun i hi=>by
  have a:i<s.data.toList.length:=by rw [<- kph];exact hi
  have e1:byt s (i:Int)=some (s.data.toList[i].toNat:Int):=by rw [ky5,qb a];rfl
  have d1:s.data.toList.drop i=s.data.toList[i]::s.data.toList.drop (i+1):=qav a;have b1:decide ((i:Int)<(s.size:Int))=true:=qj (by omega);have c:=keq i;cases hg:kot s.data.toList[i] with
  | true=>
   refine .inl ⟨?_,?_⟩;simp only [khv,b1,e1,qd,qa,kya,hg,qbc,qc,c]
   ·simp only [d1,List.all_cons,hg,Bool.true_and]
  | false=>
   refine .inr ?_;simp only [khv,b1,e1,qd,qa,kya,hg,Bool.not_false,d1,List.all_cons,Bool.false_and,Bool.false_eq_true,if_false]) (by
  have b1:decide ((s.size:Int)<(s.size:Int))=false:=qg (by omega);have d1:s.data.toList.drop s.size=[]:=qbs (by rw [<- kph];omega);simp only [khv,b1,qc,d1,List.all_nil,if_true])
 have b:kac (khv s) fuel 0=some (if s.data.toList.all kot=true then .inl () else .inr false):=by simpa using hl
 unfold kmy;rw [b,qa];cases s.data.toList.all kot <;> rfl
theorem k6n (s:BA) (a b:Int) (hs:s.size<=9223372036854775807):kg2 s a b=klh s a b:=by
 have hl:=kk2 (kd0 s) s.size (fun i=>(i:Int)) (fun i=>if (s.data.toList.drop i).all kot=true then .inl () else .inr 1) (fun i hi=>by
  have c:i<s.data.toList.length:=by rw [<- kph];exact hi
  have e1:byt s (i:Int)=some (s.data.toList[i].toNat:Int):=by rw [ky5,qb c];rfl
  have d1:s.data.toList.drop i=s.data.toList[i]::s.data.toList.drop (i+1):=qav c;have b1:decide ((i:Int)<(s.size:Int))=true:=qj (by omega);have e:=keq i;cases hg:kot s.data.toList[i] with
  | true=>
   refine .inl ⟨?_,?_⟩;simp only [kd0,b1,e1,qd,qa,kya,hg,qbc,qc,e]
   ·simp only [d1,List.all_cons,hg,Bool.true_and]
  | false=>
   refine .inr ?_;simp only [kd0,b1,e1,qd,qa,kya,hg,Bool.not_false,d1,List.all_cons,Bool.false_and,Bool.false_eq_true,if_false]) (by
  have b1:decide ((s.size:Int)<(s.size:Int))=false:=qg (by omega);have d1:s.data.toList.drop s.size=[]:=qbs (by rw [<- kph];omega);simp only [kd0,b1,qc,d1,List.all_nil,if_true])
 have d:kac (kd0 s) fuel 0=some (if s.data.toList.all kot=true then .inl () else .inr 1):=by simpa using hl
 unfold kg2 klh;rw [d,ks3 s hs];simp only [qa];cases s.data.toList.all kot <;> rfl
theorem kaaf (s:BA) (a b:Int) (hs:s.size<=9223372036854775807):∃ c,klh s a b=some c:=by unfold klh;rw [ks3 s hs];simp only [qa];by_cases h1:(s.size:Int)<a <;> by_cases d:b<(s.size:Int) <;> cases s.data.toList.all kot <;> simp [h1,d]
mutual
def kuw:Va->Prop
 | .mk _ _ s l=>s.size<=9223372036854775807/\kx0 l
def kx0:List Va->Prop
 | []=>True
 | x::l=>kuw x/\kx0 l
end
theorem k72 {v:Va} (h:kuw v):v.text.size<=9223372036854775807/\∀ x∈v.items,kuw x:=by
 cases v with
 | mk t n s l=>
  refine ⟨h.1,?_⟩;have:∀ l:List Va,kx0 l->∀ x∈l,kuw x:=fun l=>by
   induction l with
   | nil=>intro _ x a;cases a
   | cons y l ih=>
    intro h x a;rcases qan.1 a with rfl | a;exact h.1
    ·exact ih h.2 x a
  exact this l h.2
theorem kaj1 (l:List Va):decide (0<(l.length:Int))=!((l.length:Int) == 0):=by cases l <;> simp <;> omega
theorem kud (m a b:Int):∃ c,kkd m a b=some c/\kew m a b=some c:=by unfold kkd kew;by_cases h1:m<a <;> by_cases d:b<m <;> simp [h1,d]
end Go.Proofs.YtjbonbdomgoklaaGreatDoor
