import Derived.Test.YtpnnpkmjohkgiaaGreatDoorDb
import Derived.Test.YtpnnpkmjohkgiaaGreatDoorZE
set_option linter.all false
namespace Go.Proofs.YtpnnpkmjohkgiaaGreatDoor
open Go Go.RowKit
mutual
def kho (B:Nat):Va->Prop
 | .mk _ _ _ l=>l.length<=B/\kqf B l
def kqf (B:Nat):List Va->Prop
 | []=>True
 | x::l=>kho B x/\kqf B l
end
theorem knh:∀ {l:List Va} {x:Va},x∈l->depV x<=kld l
 | y::l,x,h=>by
  simp only [kld];rcases qaw.1 h with rfl | h;exact Nat.le_max_left _ _
  ·exact qap (knh h) (Nat.le_max_right _ _)
theorem kp2 {B:Nat}:∀ {l:List Va} {x:Va},kqf B l->x∈l->kho B x
 | y::l,x,a,h=>by
  rcases qaw.1 h with rfl | h;exact a.1
  ·exact kp2 a.2 h
theorem kz5 {v x:Va} (h:x∈v.items):depV x<depV v:=by cases v;exact Nat.lt_succ_of_le (knh h)
theorem kih {B:Nat} {v:Va} (h:kho B v):v.items.length<=B/\∀ x∈v.items,kho B x:=by cases v;exact ⟨h.1,fun x a=>kp2 h.2 a⟩
theorem kmv (x y:Va):cmpV x y=if x.type<y.type then -1 else if y.type<x.type then 1 else if x.num<y.num then -1 else if y.num<x.num then 1 else if kdv x.text y.text=true then -1 else if kdv y.text x.text=true then 1 else keq x.items y.items:=by cases x;cases y;rw [cmpV];rfl
theorem ksb (a b:BA):(!(Op.bytesLess a.toList b.toList || a.toList == b.toList))=kdv b a:=by
 have asym:∀ l m:List UInt8,Op.bytesLess l m=true->Op.bytesLess m l=false:=by
  intro l
  induction l with
  | nil=>intro m _;cases m <;> rfl
  | cons x l ih=>
   intro m h;cases m with
   | nil=>cases h
   | cons y m=>
    simp only [Op.bytesLess,Bool.or_eq_true,qa3,qp,beq_iff_eq] at h;simp only [Op.bytesLess,Bool.or_eq_false_iff,qbe,Bool.and_eq_false_iff,qar];rcases h with h | ⟨rfl,h⟩;exact ⟨UInt8.not_lt.2 (UInt8.le_of_lt h), .inl (UInt8.ne_of_lt h).symm⟩
    ·exact ⟨UInt8.lt_irrefl _, .inr (ih m h)⟩
 unfold kdv;cases h:Op.bytesLess b.toList a.toList with
 | true=>
  have c:=asym _ _ h;have d:(a.toList == b.toList)=false:=by rw [qar];intro e;rw [e,kic] at h;cases h
  rw [c,d];rfl
 | false=>
  cases c:Op.bytesLess a.toList b.toList with
  | true=>rfl
  | false=>
   have:=kmi _ _ c h;rw [this];simp
def outC:List Va->List Va->Unit ⊕ Int
 | [],_ => .inl ()
 | _::_,[] => .inr 1
 | x::l,y::m=>if cmpV x y≠0 then .inr (cmpV x y) else outC l m
theorem krq:∀ l m:List Va,Sum.elim (fun _=>if (l.length:Int)<(m.length:Int) then -1 else (0:Int)) id (outC l m)=keq l m
 | [],[]=>rfl
 | [],y::m=>by simp [outC,keq]
 | x::l,[]=>by simp [outC,keq]
 | x::l,y::m=>by
  have ih:=krq l m;rw [outC,keq];by_cases h:cmpV x y≠0;rw [qq h,qq h];rfl
  ·rw [ql h,ql h,<- ih];simp
theorem kkg:∀ (n:Nat) (x y:Va),depV x<n->kho 9223372036854775807 x->kho 9223372036854775807 y->kbv n x y=some (cmpV x y)
 | 0,x,y,h,_,_=>by omega
 | n+1,x,y,A,s,hy=>by
  show kd2 (kbv n) x y=_;rw [kmv];unfold kd2;simp only [ksb];by_cases h1:x.type<y.type;simp [h1];by_cases e:y.type<x.type;simp [h1,e];by_cases f:x.num<y.num;simp [h1,e,f];by_cases j:y.num<x.num;simp [h1,e,f,j];cases p:kdv x.text y.text with
  | true=>
   have d:Op.bytesLess x.text.toList y.text.toList=true:=p;simp [h1,e,f,j,d]
  | false=>
  have d:Op.bytesLess x.text.toList y.text.toList=false:=p;cases q:kdv y.text x.text with
  | true=>simp [h1,e,f,j,d,q]
  | false=>
  obtain ⟨lx,wx⟩:=kih s;obtain ⟨ly,wy⟩:=kih hy;obtain ⟨m,hm⟩:∃ m,m=Nat.min x.items.length y.items.length:=⟨_,rfl⟩;have t:m<=x.items.length:=hm ▸ Nat.min_le_left _ _;have v:m<=y.items.length:=hm ▸ Nat.min_le_right _ _;have k:m=x.items.length\/m=y.items.length:=by
   rw [hm];rcases Nat.le_total x.items.length y.items.length with h | h;exact .inl (Nat.min_eq_left h)
   ·exact .inr (Nat.min_eq_right h)
  have hl:=kgb (step:=kbf x y (kbv n)) m (by omega) (fun i=>(i:Int)) (fun i=>outC (x.items.drop i) (y.items.drop i)) (fun i hi=>by
   have b:i<x.items.length:=(by omega);have l:i<y.items.length:=(by omega);have e1:x.items[i]?=some x.items[i]:=qa b;have d1:x.items.drop i=x.items[i]::x.items.drop (i+1):=qak b;have a:(i:Int)<(x.items.length:Int):=(by omega);have r:=kch (n:=i) (by omega);have e2:y.items[i]?=some y.items[i]:=qa l;have d2:y.items.drop i=y.items[i]::y.items.drop (i+1):=qak l;have b1:decide ((i:Int)<(x.items.length:Int))=true:=qk a;have g:((i:Int) == (y.items.length:Int))=false:=(by rw [qar];omega);have hc:=kkg n x.items[i] y.items[i] (by have:=kz5 (qs b);omega) (wx _ (qs b)) (wy _ (qs l));by_cases h0:cmpV x.items[i] y.items[i]=0
   ·refine .inl ⟨?_,?_⟩;have b2:(cmpV x.items[i] y.items[i] != 0)=false:=(by rw [h0];rfl);simp only [kbf,b1,kaj,e1,e2,g,hc,b2,r,qd,qe,qb]
    ·simp only [d1,d2,outC,h0,ne_eq,not_true_eq_false,if_false]
   ·refine .inr ?_;have b2:(cmpV x.items[i] y.items[i] != 0)=true:=(by simpa using h0);simp only [d1,d2,outC,ne_eq,h0,not_false_eq_true,if_true,kbf,b1,kaj,e1,e2,g,hc,b2,r,qd,qe,qb]) (by
   rcases k with h | h;have d1:x.items.drop m=[]:=qa5 (by omega);have a:¬ (m:Int)<(x.items.length:Int):=(by omega);simp only [d1,outC];simp [kbf,a]
   ·by_cases w:m=x.items.length;have d1:x.items.drop m=[]:=qa5 (by omega);have a:¬ (m:Int)<(x.items.length:Int):=(by omega);simp only [d1,outC];simp [kbf,a]
    ·have b:m<x.items.length:=(by omega);have e1:x.items[m]?=some x.items[m]:=qa b;have d1:x.items.drop m=x.items[m]::x.items.drop (m+1):=qak b;have d2:y.items.drop m=[]:=qa5 (by omega);have a:(m:Int)<(x.items.length:Int):=(by omega);have z:((m:Int) == (y.items.length:Int))=true:=(by rw [beq_iff_eq];omega);simp only [d1,d2,outC,kbf,qk a,kaj,e1,z,qd,qb])
  have o:kac (kbf x y (kbv n)) fuel 0=some (outC x.items y.items):=by simpa using hl
  have hs:=krq x.items y.items;simp only [h1,e,f,j,d,q,decide_false,qe,if_false,Bool.false_eq_true,o,qb,<- hs];cases outC x.items y.items with
  | inl u=>
   simp only [qf];by_cases a:(x.items.length:Int)<(y.items.length:Int) <;> simp [a]
  | inr c=>rfl
theorem kh2 (b:Bool):kc1 b=some (if b=true then -1 else 1):=by cases b <;> rfl
def outR:List Va->List Va->Unit ⊕ Int
 | x::l,y::m=>if cmpV x y≠0 then .inr (cmpV x y) else outR l m
 | _,_ => .inl ()
theorem kr8:∀ l m:List Va,Sum.elim (fun _=>if (l.length:Int)=(m.length:Int) then 0 else if (l.length:Int)<(m.length:Int) then -1 else (1:Int)) id (outR l m)=keq l m
 | [],[]=>rfl
 | [],y::m=>by simp only [outR,keq,qf,List.length_nil,List.length_cons];rw [ql (by omega),qq (by omega)]
 | x::l,[]=>by simp only [outR,keq,qf,List.length_nil,List.length_cons];rw [ql (by omega),ql (by omega)]
 | x::l,y::m=>by
  have ih:=kr8 l m;rw [outR,keq];by_cases h:cmpV x y≠0;rw [qq h,qq h];rfl
  ·rw [ql h,ql h,<- ih];simp
theorem klt:∀ (n:Nat),(∀ x y:Va,2*depV x<n+1->kho 9223372036854775807 x->kho 9223372036854775807 y->kan n x y=some (cmpV x y)) /\
  ∀ l m:List Va,2*kld l<n->l.length<=9223372036854775807->m.length<=9223372036854775807->(∀ x∈l,kho 9223372036854775807 x)->(∀ x∈m,kho 9223372036854775807 x)->kbo n l m=some (keq l m)
 | 0=>⟨fun x y h=>by cases x;simp [depV] at h,fun l m h=>by omega⟩
 | n+1=>by
  obtain ⟨ih1,ih2⟩:=klt n;refine ⟨fun x y q t hy=>?_,fun l m q hl hm wl wm=>?_⟩
  ·show kbx (kan n) (kbo n) x y=_;obtain ⟨lx,wx⟩:=kih t;obtain ⟨ly,wy⟩:=kih hy;have hA:=ih2 x.items y.items (by cases x;simp only [depV,Va.items] at q ⊢; omega) lx ly wx wy;rw [kmv];unfold kbx;by_cases h1:x.type=y.type
   ·have b1:(x.type != y.type)=false:=(by simp [h1]);rw [ql (by omega),ql (by omega)];by_cases d:x.num=y.num
    ·have b2:(x.num != y.num)=false:=(by simp [d]);rw [ql (by omega),ql (by omega)];by_cases e:x.text.toList=y.text.toList;have b3:(!(x.text.toList == y.text.toList))=false:=(by simp [e]);have e1:kdv x.text y.text=false:=(by unfold kdv;rw [e];exact kic _);have e2:kdv y.text x.text=false:=(by unfold kdv;rw [e];exact kic _);rw [e1,e2,b1,b2,b3];simp [hA]
     ·have b3:(!(x.text.toList == y.text.toList))=true:=(by simp [e]);rw [b1,b2,b3];simp only [qe,qd,kh2,qb];cases b:kdv x.text y.text with
      | true=>
       have:Op.bytesLess x.text.toList y.text.toList=true:=b;simp [this]
      | false=>
       have f:Op.bytesLess x.text.toList y.text.toList=false:=b;cases v:kdv y.text x.text with
       | true=>simp [f]
       | false=>exact absurd (kmi _ _ f v) e
    ·have b2:(x.num != y.num)=true:=(by simp [d]);rw [b1,b2];simp only [qe,qd,kh2,qb];by_cases b:x.num<y.num;simp [b]
     ·have:y.num<x.num:=(by omega);simp [b,this]
   ·have b1:(x.type != y.type)=true:=(by simp [h1]);rw [b1];simp only [qe,qd,kh2,qb];by_cases b:x.type<y.type;simp [b]
    ·have:y.type<x.type:=(by omega);simp [b,this]
  ·show kbi (kan n) (kbo n) l m=_;obtain ⟨k,hk⟩:∃ k,k=Nat.min l.length m.length:=⟨_,rfl⟩;have w:k<=l.length:=hk ▸ Nat.min_le_left _ _;have z:k<=m.length:=hk ▸ Nat.min_le_right _ _;have g:k=l.length\/k=m.length:=by
    rw [hk];rcases Nat.le_total l.length m.length with h | h;exact .inl (Nat.min_eq_left h)
    ·exact .inr (Nat.min_eq_right h)
   have hl:=kgb (step:=kas l m (kan n)) k (by omega) (fun i=>(i:Int)) (fun i=>outR (l.drop i) (m.drop i)) (fun i hi=>by
    have a:i<l.length:=(by omega);have j:i<m.length:=(by omega);have e1:l[i]?=some l[i]:=qa a;have d1:l.drop i=l[i]::l.drop (i+1):=qak a;have r:=kch (n:=i) (by omega);have e2:m[i]?=some m[i]:=qa j;have d2:m.drop i=m[i]::m.drop (i+1):=qak j;have b1:decide ((i:Int)<(l.length:Int))=true:=qk (by omega);have b0:decide ((i:Int)<(m.length:Int))=true:=qk (by omega);have hc:=ih1 l[i] m[i] (by have:=knh (qs a);omega) (wl _ (qs a)) (wm _ (qs j));by_cases h0:cmpV l[i] m[i]=0
    ·have b2:(cmpV l[i] m[i] != 0)=false:=(by rw [h0];rfl);refine .inl ⟨?_,?_⟩;simp only [kas,b1,b0,kaj,e1,e2,hc,b2,r,qd,qe,qb]
     ·simp only [d1,d2,outR,h0,ne_eq,not_true_eq_false,if_false]
    ·have b2:(cmpV l[i] m[i] != 0)=true:=(by simpa using h0);refine .inr ?_;simp only [d1,d2,outR,ne_eq,h0,not_false_eq_true,if_true,kas,b1,b0,kaj,e1,e2,hc,b2,r,qd,qe,qb]) (by
    by_cases o:k=l.length;have d1:l.drop k=[]:=qa5 (by omega);have b1:decide ((k:Int)<(l.length:Int))=false:=qi (by omega);simp only [d1,outR,kas,b1,qe,qb]
    ·have s:k=m.length:=g.resolve_left o;have d2:m.drop k=[]:=qa5 (by omega);have b1:decide ((k:Int)<(l.length:Int))=true:=qk (by omega);have b0:decide ((k:Int)<(m.length:Int))=false:=qi (by omega);have:outR (l.drop k) (m.drop k) = .inl ():=(by rw [d2];cases l.drop k <;> rfl);simp only [this,kas,b1,b0,qd,qe,qb])
   have p:kac (kas l m (kan n)) fuel 0=some (outR l m):=(by simpa using hl);unfold kbi;rw [p,qb,<- kr8 l m];cases outR l m with
   | inl u=>
    simp only [qf,kh2,qb];by_cases h1:(l.length:Int)=(m.length:Int);simp [h1]
    ·by_cases d:(l.length:Int)<(m.length:Int);rw [ql h1,qq d,qk d,qar.2 h1];rfl
     ·rw [ql h1,ql d,qi d,qar.2 h1];rfl
   | inr c=>rfl
def okV (v:Va):Prop:=depV v<=1000000/\kho 9223372036854775807 v
theorem klx {x y:Va} (a:okV x) (hy:okV y):kdx x y=some (eqV x y):=by unfold kdx;rw [kkg fuel x y (kit (by have:=a.1;omega)) a.2 hy.2];simp only [qb,eqV];by_cases h:cmpV x y=0 <;> simp [h]
theorem ktq {x y:Va} (a:okV x) (hy:okV y):kbn x y=some (eqV x y):=by unfold kbn;rw [(klt fuel).1 x y (Nat.lt_succ_of_lt (kit (by have:=a.1;omega))) a.2 hy.2];simp only [qb,eqV];by_cases h:cmpV x y=0 <;> simp [h]
theorem ko5 (s:BA) (n:Nat):byt s (n:Int)=(s.data.toList[n]?).map fun c=>(c.toNat:Int):=by
 rw [k35];congr 1;by_cases h:n<s.size;rw [getElem?_pos s n h];have a:n<s.data.size:=h;rw [qai,qba a];rfl
 ·rw [getElem?_neg s n h];have a:¬ n<s.data.size:=h;rw [qai,Array.getElem?_eq_none (by omega)]
theorem kh5 (s:BA):s.size=s.data.toList.length:=by rw [qas];rfl
def khm (c:UInt8):Bool:=decide (32<=c.toNat) && decide (c.toNat<=126)
theorem koi (c:UInt8):(bif decide ((c.toNat:Int)<32) then some true else (some (decide (126<(c.toNat:Int))):Option Bool))=some (!khm c):=by
 unfold khm;by_cases h:c.toNat<32;have h1:decide ((c.toNat:Int)<32)=true:=qk (by omega);have a:decide (32<=c.toNat)=false:=qi (by omega);rw [h1,a];rfl
 ·have h1:decide ((c.toNat:Int)<32)=false:=qi (by omega);have a:decide (32<=c.toNat)=true:=qk (by omega);rw [h1,a];by_cases d:c.toNat<=126;have b:decide (126<(c.toNat:Int))=false:=qi (by omega);rw [b,qk d];rfl
  ·have b:decide (126<(c.toNat:Int))=true:=qk (by omega);rw [b,qi d];rfl
theorem kko (s:BA) (hs:s.size<=9223372036854775807):kgo s=some (s.data.toList.all khm):=by
 have hl:=kgb (step:=kdp s) s.size (by omega) (fun i=>(i:Int)) (fun i=>if (s.data.toList.drop i).all khm=true then .inl () else .inr false) (fun i hi=>by
  have a:i<s.data.toList.length:=by rw [<- kh5];exact hi
  have e1:byt s (i:Int)=some (s.data.toList[i].toNat:Int):=by rw [ko5,qa a];rfl
  have d1:s.data.toList.drop i=s.data.toList[i]::s.data.toList.drop (i+1):=qak a;have b1:decide ((i:Int)<(s.size:Int))=true:=qk (by omega);have d:=kch (n:=i) (by omega);cases b:khm s.data.toList[i] with
  | true=>
   refine .inl ⟨?_,?_⟩;simp only [kdp,b1,e1,qd,qb,koi,b,qa9,qe,d]
   ·simp only [d1,List.all_cons,b,Bool.true_and]
  | false=>
   refine .inr ?_;simp only [kdp,b1,e1,qd,qb,koi,b,Bool.not_false,d1,List.all_cons,Bool.false_and,Bool.false_eq_true,if_false]) (by
  have b1:decide ((s.size:Int)<(s.size:Int))=false:=qi (by omega);have d1:s.data.toList.drop s.size=[]:=qa5 (by rw [<- kh5];omega);simp only [kdp,b1,qe,d1,List.all_nil,if_true])
 have c:kac (kdp s) fuel 0=some (if s.data.toList.all khm=true then .inl () else .inr false):=by simpa using hl
 unfold kgo;rw [c,qb];cases s.data.toList.all khm <;> rfl
theorem kt5 (s:BA) (a b:Int) (hs:s.size<=9223372036854775807):kdd s a b=kfz s a b:=by
 have hl:=kgb (step:=kb3 s) s.size (by omega) (fun i=>(i:Int)) (fun i=>if (s.data.toList.drop i).all khm=true then .inl () else .inr 1) (fun i hi=>by
  have c:i<s.data.toList.length:=by rw [<- kh5];exact hi
  have e1:byt s (i:Int)=some (s.data.toList[i].toNat:Int):=by rw [ko5,qa c];rfl
  have d1:s.data.toList.drop i=s.data.toList[i]::s.data.toList.drop (i+1):=qak c;have b1:decide ((i:Int)<(s.size:Int))=true:=qk (by omega);have f:=kch (n:=i) (by omega);cases d:khm s.data.toList[i] with
  | true=>
   refine .inl ⟨?_,?_⟩;simp only [kb3,b1,e1,qd,qb,koi,d,qa9,qe,f]
   ·simp only [d1,List.all_cons,d,Bool.true_and]
  | false=>
   refine .inr ?_;simp only [kb3,b1,e1,qd,qb,koi,d,Bool.not_false,d1,List.all_cons,Bool.false_and,Bool.false_eq_true,if_false]) (by
  have b1:decide ((s.size:Int)<(s.size:Int))=false:=qi (by omega);have d1:s.data.toList.drop s.size=[]:=qa5 (by rw [<- kh5];omega);simp only [kb3,b1,qe,d1,List.all_nil,if_true])
 have e:kac (kb3 s) fuel 0=some (if s.data.toList.all khm=true then .inl () else .inr 1):=by simpa using hl
 unfold kdd kfz;rw [e,kko s hs];simp only [qb];cases s.data.toList.all khm <;> rfl
theorem kwq (s:BA) (a b:Int) (hs:s.size<=9223372036854775807):∃ c,kfz s a b=some c:=by unfold kfz;rw [kko s hs];simp only [qb];by_cases h1:(s.size:Int)<a <;> by_cases d:b<(s.size:Int) <;> cases s.data.toList.all khm <;> simp [h1,d]
mutual
def klz:Va->Prop
 | .mk _ _ s l=>s.size<=9223372036854775807/\kn6 l
def kn6:List Va->Prop
 | []=>True
 | x::l=>klz x/\kn6 l
end
theorem ku3 {v:Va} (h:klz v):v.text.size<=9223372036854775807/\∀ x∈v.items,klz x:=by
 cases v with
 | mk t n s l=>
  refine ⟨h.1,?_⟩;have:∀ l:List Va,kn6 l->∀ x∈l,klz x:=fun l=>by
   induction l with
   | nil=>intro _ x a;cases a
   | cons y l ih=>
    intro h x a;rcases qaw.1 a with rfl | a;exact h.1
    ·exact ih h.2 x a
  exact this l h.2
theorem k6b (l:List Va):decide (0<(l.length:Int))=!((l.length:Int) == 0):=by cases l <;> simp <;> omega
theorem kln (m a b:Int):∃ c,kfg m a b=some c/\kck m a b=some c:=by unfold kfg kck;by_cases h1:m<a <;> by_cases d:b<m <;> simp [h1,d]
end Go.Proofs.YtpnnpkmjohkgiaaGreatDoor
