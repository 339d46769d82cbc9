import Derived.Test.YtpcfkflhnkfjjaaGreatPl
import Derived.Test.YtpcfkflhnkfjjaaGreatZE
set_option linter.all false
namespace Go.Proofs.YtpcfkflhnkfjjaaGreat
open Go Go.RowKit
mutual
def kkh (B:Nat):Va->Prop
 | .mk _ _ _ l=>l.length<=B/\kvd B l
def kvd (B:Nat):List Va->Prop
 | []=>True
 | x::l=>kkh B x/\kvd B l
end
theorem kr7:∀ {l:List Va} {x:Va},x∈l->depV x<=ko9 l
 | y::l,x,h=>by
  simp only [ko9];rcases qar.1 h with rfl | h;exact Nat.le_max_left _ _
  ·exact qaf (kr7 h) (Nat.le_max_right _ _)
theorem kuz {B:Nat}:∀ {l:List Va} {x:Va},kvd B l->x∈l->kkh B x
 | y::l,x,a,h=>by
  rcases qar.1 h with rfl | h;exact a.1
  ·exact kuz a.2 h
theorem k40 {v x:Va} (h:x∈v.items):depV x<depV v:=by cases v;exact Nat.lt_succ_of_le (kr7 h)
theorem klb {B:Nat} {v:Va} (h:kkh B v):v.items.length<=B/\∀ x∈v.items,kkh B x:=by cases v;exact ⟨h.1,fun x a=>kuz h.2 a⟩
theorem kq4 (x y:Va):cmpV x y=if x.type<y.type then -1 else if y.type<x.type then 1 else if x.num<y.num then -1 else if y.num<x.num then 1 else if kfs x.text y.text=true then -1 else if kfs y.text x.text=true then 1 else kgq x.items y.items:=by cases x;cases y;rw [cmpV];rfl
theorem kxi (a b:BA):(!(Op.bytesLess a.toList b.toList || a.toList == b.toList))=kfs b a:=by
 have asym:∀ l m:List UInt8,Op.bytesLess l m=true->Op.bytesLess m l=false:=by
  intro l
  induction l with
  | nil=>intro m _;cases m <;> rfl
  | cons x l ih=>
   intro m h;cases m with
   | nil=>cases h
   | cons y m=>
    simp only [Op.bytesLess,Bool.or_eq_true,qbm,qy,beq_iff_eq] at h;simp only [Op.bytesLess,Bool.or_eq_false_iff,qbb,Bool.and_eq_false_iff,qat];rcases h with h | ⟨rfl,h⟩;exact ⟨UInt8.not_lt.2 (UInt8.le_of_lt h), .inl (UInt8.ne_of_lt h).symm⟩
    ·exact ⟨UInt8.lt_irrefl _, .inr (ih m h)⟩
 unfold kfs;cases h:Op.bytesLess b.toList a.toList with
 | true=>
  have c:=asym _ _ h;have d:(a.toList == b.toList)=false:=by rw [qat];intro e;rw [e,kk2] at h;cases h
  rw [c,d];rfl
 | false=>
  cases c:Op.bytesLess a.toList b.toList with
  | true=>rfl
  | false=>
   have:=kqr _ _ c h;rw [this];simp
def outC:List Va->List Va->Unit ⊕ Int
 | [],_ => .inl ()
 | _::_,[] => .inr 1
 | x::l,y::m=>if cmpV x y≠0 then .inr (cmpV x y) else outC l m
theorem kwu:∀ l m:List Va,Sum.elim (fun _=>if (l.length:Int)<(m.length:Int) then -1 else (0:Int)) id (outC l m)=kgq l m
 | [],[]=>rfl
 | [],y::m=>by simp [outC,kgq]
 | x::l,[]=>by simp [outC,kgq]
 | x::l,y::m=>by
  have ih:=kwu l m;rw [outC,kgq];by_cases h:cmpV x y≠0;rw [qn h,qn h];rfl
  ·rw [qk h,qk h,<- ih];simp
theorem kn2:∀ (n:Nat) (x y:Va),depV x<n->kkh 9223372036854775807 x->kkh 9223372036854775807 y->kb5 n x y=some (cmpV x y)
 | 0,x,y,h,_,_=>by omega
 | n+1,x,y,B,s,t=>by
  show kfx (kb5 n) x y=_;rw [kq4];unfold kfx;simp only [kxi];by_cases h1:x.type<y.type;simp [h1];by_cases e:y.type<x.type;simp [h1,e];by_cases f:x.num<y.num;simp [h1,e,f];by_cases j:y.num<x.num;simp [h1,e,f,j];cases p:kfs x.text y.text with
  | true=>
   have d:Op.bytesLess x.text.toList y.text.toList=true:=p;simp [h1,e,f,j,d]
  | false=>
  have d:Op.bytesLess x.text.toList y.text.toList=false:=p;cases q:kfs y.text x.text with
  | true=>simp [h1,e,f,j,d,q]
  | false=>
  obtain ⟨lx,wx⟩:=klb s;obtain ⟨ly,wy⟩:=klb t;obtain ⟨m,hm⟩:∃ m,m=Nat.min x.items.length y.items.length:=⟨_,rfl⟩;have v:m<=x.items.length:=hm ▸ Nat.min_le_left _ _;have w:m<=y.items.length:=hm ▸ Nat.min_le_right _ _;have k:m=x.items.length\/m=y.items.length:=by
   rw [hm];rcases Nat.le_total x.items.length y.items.length with h | h;exact .inl (Nat.min_eq_left h)
   ·exact .inr (Nat.min_eq_right h)
  have hl:=kio (step:=kbm x y (kb5 n)) m (by omega) (fun i=>(i:Int)) (fun i=>outC (x.items.drop i) (y.items.drop i)) (fun i hi=>by
   have b:i<x.items.length:=(by omega);have l:i<y.items.length:=(by omega);have e1:x.items[i]?=some x.items[i]:=qb b;have d1:x.items.drop i=x.items[i]::x.items.drop (i+1):=qah b;have a:(i:Int)<(x.items.length:Int):=(by omega);have r:=kcv (n:=i) (by omega);have e2:y.items[i]?=some y.items[i]:=qb l;have d2:y.items.drop i=y.items[i]::y.items.drop (i+1):=qah l;have b1:decide ((i:Int)<(x.items.length:Int))=true:=qh a;have g:((i:Int) == (y.items.length:Int))=false:=(by rw [qat];omega);have hc:=kn2 n x.items[i] y.items[i] (by have:=k40 (qq b);omega) (wx _ (qq b)) (wy _ (qq l));by_cases h0:cmpV x.items[i] y.items[i]=0
   ·refine .inl ⟨?_,?_⟩;have b2:(cmpV x.items[i] y.items[i] != 0)=false:=(by rw [h0];rfl);simp only [kbm,b1,kaf,e1,e2,g,hc,b2,r,qf,qc,qa]
    ·simp only [d1,d2,outC,h0,ne_eq,not_true_eq_false,if_false]
   ·refine .inr ?_;have b2:(cmpV x.items[i] y.items[i] != 0)=true:=(by simpa using h0);simp only [d1,d2,outC,ne_eq,h0,not_false_eq_true,if_true,kbm,b1,kaf,e1,e2,g,hc,b2,r,qf,qc,qa]) (by
   rcases k with h | h;have d1:x.items.drop m=[]:=qa8 (by omega);have a:¬ (m:Int)<(x.items.length:Int):=(by omega);simp only [d1,outC];simp [kbm,a]
   ·by_cases z:m=x.items.length;have d1:x.items.drop m=[]:=qa8 (by omega);have a:¬ (m:Int)<(x.items.length:Int):=(by omega);simp only [d1,outC];simp [kbm,a]
    ·have b:m<x.items.length:=(by omega);have e1:x.items[m]?=some x.items[m]:=qb b;have d1:x.items.drop m=x.items[m]::x.items.drop (m+1):=qah b;have d2:y.items.drop m=[]:=qa8 (by omega);have a:(m:Int)<(x.items.length:Int):=(by omega);have A:((m:Int) == (y.items.length:Int))=true:=(by rw [beq_iff_eq];omega);simp only [d1,d2,outC,kbm,qh a,kaf,e1,A,qf,qa])
  have o:kab (kbm x y (kb5 n)) fuel 0=some (outC x.items y.items):=by simpa using hl
  have hs:=kwu x.items y.items;simp only [h1,e,f,j,d,q,decide_false,qc,if_false,Bool.false_eq_true,o,qa,<- hs];cases outC x.items y.items with
  | inl u=>
   simp only [qg];by_cases a:(x.items.length:Int)<(y.items.length:Int) <;> simp [a]
  | inr c=>rfl
theorem kkq (b:Bool):kd4 b=some (if b=true then -1 else 1):=by cases b <;> rfl
def outR:List Va->List Va->Unit ⊕ Int
 | x::l,y::m=>if cmpV x y≠0 then .inr (cmpV x y) else outR l m
 | _,_ => .inl ()
theorem kxc:∀ l m:List Va,Sum.elim (fun _=>if (l.length:Int)=(m.length:Int) then 0 else if (l.length:Int)<(m.length:Int) then -1 else (1:Int)) id (outR l m)=kgq l m
 | [],[]=>rfl
 | [],y::m=>by simp only [outR,kgq,qg,qa9,qax];rw [qk (by omega),qn (by omega)]
 | x::l,[]=>by simp only [outR,kgq,qg,qa9,qax];rw [qk (by omega),qk (by omega)]
 | x::l,y::m=>by
  have ih:=kxc l m;rw [outR,kgq];by_cases h:cmpV x y≠0;rw [qn h,qn h];rfl
  ·rw [qk h,qk h,<- ih];simp
theorem kp2:∀ (n:Nat),(∀ x y:Va,2*depV x<n+1->kkh 9223372036854775807 x->kkh 9223372036854775807 y->kar n x y=some (cmpV x y)) /\
  ∀ l m:List Va,2*ko9 l<n->l.length<=9223372036854775807->m.length<=9223372036854775807->(∀ x∈l,kkh 9223372036854775807 x)->(∀ x∈m,kkh 9223372036854775807 x)->kbx n l m=some (kgq l m)
 | 0=>⟨fun x y h=>by cases x;simp [depV] at h,fun l m h=>by omega⟩
 | n+1=>by
  obtain ⟨ih1,ih2⟩:=kp2 n;refine ⟨fun x y q t v=>?_,fun l m q hl hm wl wm=>?_⟩
  ·show kb8 (kar n) (kbx n) x y=_;obtain ⟨lx,wx⟩:=klb t;obtain ⟨ly,wy⟩:=klb v;have hA:=ih2 x.items y.items (by cases x;simp only [depV,Va.items] at q ⊢; omega) lx ly wx wy;rw [kq4];unfold kb8;by_cases h1:x.type=y.type
   ·have b1:(x.type != y.type)=false:=(by simp [h1]);rw [qk (by omega),qk (by omega)];by_cases d:x.num=y.num
    ·have b2:(x.num != y.num)=false:=(by simp [d]);rw [qk (by omega),qk (by omega)];by_cases e:x.text.toList=y.text.toList;have b3:(!(x.text.toList == y.text.toList))=false:=(by simp [e]);have e1:kfs x.text y.text=false:=(by unfold kfs;rw [e];exact kk2 _);have e2:kfs y.text x.text=false:=(by unfold kfs;rw [e];exact kk2 _);rw [e1,e2,b1,b2,b3];simp [hA]
     ·have b3:(!(x.text.toList == y.text.toList))=true:=(by simp [e]);rw [b1,b2,b3];simp only [qc,qf,kkq,qa];cases b:kfs x.text y.text with
      | true=>
       have:Op.bytesLess x.text.toList y.text.toList=true:=b;simp [this]
      | false=>
       have f:Op.bytesLess x.text.toList y.text.toList=false:=b;cases w:kfs y.text x.text with
       | true=>simp [f]
       | false=>exact absurd (kqr _ _ f w) e
    ·have b2:(x.num != y.num)=true:=(by simp [d]);rw [b1,b2];simp only [qc,qf,kkq,qa];by_cases b:x.num<y.num;simp [b]
     ·have:y.num<x.num:=(by omega);simp [b,this]
   ·have b1:(x.type != y.type)=true:=(by simp [h1]);rw [b1];simp only [qc,qf,kkq,qa];by_cases b:x.type<y.type;simp [b]
    ·have:y.type<x.type:=(by omega);simp [b,this]
  ·show kbs (kar n) (kbx n) l m=_;obtain ⟨k,hk⟩:∃ k,k=Nat.min l.length m.length:=⟨_,rfl⟩;have z:k<=l.length:=hk ▸ Nat.min_le_left _ _;have A:k<=m.length:=hk ▸ Nat.min_le_right _ _;have g:k=l.length\/k=m.length:=by
    rw [hk];rcases Nat.le_total l.length m.length with h | h;exact .inl (Nat.min_eq_left h)
    ·exact .inr (Nat.min_eq_right h)
   have hl:=kio (step:=kax l m (kar n)) k (by omega) (fun i=>(i:Int)) (fun i=>outR (l.drop i) (m.drop i)) (fun i hi=>by
    have a:i<l.length:=(by omega);have j:i<m.length:=(by omega);have e1:l[i]?=some l[i]:=qb a;have d1:l.drop i=l[i]::l.drop (i+1):=qah a;have r:=kcv (n:=i) (by omega);have e2:m[i]?=some m[i]:=qb j;have d2:m.drop i=m[i]::m.drop (i+1):=qah j;have b1:decide ((i:Int)<(l.length:Int))=true:=qh (by omega);have b0:decide ((i:Int)<(m.length:Int))=true:=qh (by omega);have hc:=ih1 l[i] m[i] (by have:=kr7 (qq a);omega) (wl _ (qq a)) (wm _ (qq j));by_cases h0:cmpV l[i] m[i]=0
    ·have b2:(cmpV l[i] m[i] != 0)=false:=(by rw [h0];rfl);refine .inl ⟨?_,?_⟩;simp only [kax,b1,b0,kaf,e1,e2,hc,b2,r,qf,qc,qa]
     ·simp only [d1,d2,outR,h0,ne_eq,not_true_eq_false,if_false]
    ·have b2:(cmpV l[i] m[i] != 0)=true:=(by simpa using h0);refine .inr ?_;simp only [d1,d2,outR,ne_eq,h0,not_false_eq_true,if_true,kax,b1,b0,kaf,e1,e2,hc,b2,r,qf,qc,qa]) (by
    by_cases o:k=l.length;have d1:l.drop k=[]:=qa8 (by omega);have b1:decide ((k:Int)<(l.length:Int))=false:=qe (by omega);simp only [d1,outR,kax,b1,qc,qa]
    ·have s:k=m.length:=g.resolve_left o;have d2:m.drop k=[]:=qa8 (by omega);have b1:decide ((k:Int)<(l.length:Int))=true:=qh (by omega);have b0:decide ((k:Int)<(m.length:Int))=false:=qe (by omega);have:outR (l.drop k) (m.drop k) = .inl ():=(by rw [d2];cases l.drop k <;> rfl);simp only [this,kax,b1,b0,qf,qc,qa])
   have p:kab (kax l m (kar n)) fuel 0=some (outR l m):=(by simpa using hl);unfold kbs;rw [p,qa,<- kxc l m];cases outR l m with
   | inl u=>
    simp only [qg,kkq,qa];by_cases h1:(l.length:Int)=(m.length:Int);simp [h1]
    ·by_cases d:(l.length:Int)<(m.length:Int);rw [qk h1,qn d,qh d,qat.2 h1];rfl
     ·rw [qk h1,qk d,qe d,qat.2 h1];rfl
   | inr c=>rfl
def okV (v:Va):Prop:=depV v<=1000000/\kkh 9223372036854775807 v
theorem kp5 {x y:Va} (a:okV x) (b:okV y):kft x y=some (eqV x y):=by unfold kft;rw [kn2 fuel x y (ke5 (by have:=a.1;omega)) a.2 b.2];simp only [qa,eqV];by_cases h:cmpV x y=0 <;> simp [h]
theorem kyq {x y:Va} (a:okV x) (b:okV y):kbw x y=some (eqV x y):=by unfold kbw;rw [(kp2 fuel).1 x y (Nat.lt_succ_of_lt (ke5 (by have:=a.1;omega))) a.2 b.2];simp only [qa,eqV];by_cases h:cmpV x y=0 <;> simp [h]
theorem ktu (s:BA) (n:Nat):byt s (n:Int)=(s.data.toList[n]?).map fun c=>(c.toNat:Int):=by
 rw [k8g];congr 1;by_cases h:n<s.size;rw [getElem?_pos s n h];have a:n<s.data.size:=h;rw [qa7,qbl a];rfl
 ·rw [getElem?_neg s n h];have a:¬ n<s.data.size:=h;rw [qa7,Array.getElem?_eq_none (by omega)]
theorem kku (s:BA):s.size=s.data.toList.length:=by rw [qa4];rfl
def kkg (c:UInt8):Bool:=decide (32<=c.toNat) && decide (c.toNat<=126)
theorem ks3 (c:UInt8):(bif decide ((c.toNat:Int)<32) then some true else (some (decide (126<(c.toNat:Int))):Option Bool))=some (!kkg c):=by
 unfold kkg;by_cases h:c.toNat<32;have h1:decide ((c.toNat:Int)<32)=true:=qh (by omega);have a:decide (32<=c.toNat)=false:=qe (by omega);rw [h1,a];rfl
 ·have h1:decide ((c.toNat:Int)<32)=false:=qe (by omega);have a:decide (32<=c.toNat)=true:=qh (by omega);rw [h1,a];by_cases d:c.toNat<=126;have b:decide (126<(c.toNat:Int))=false:=qe (by omega);rw [b,qh d];rfl
  ·have b:decide (126<(c.toNat:Int))=true:=qh (by omega);rw [b,qe d];rfl
theorem koc (s:BA) (hs:s.size<=9223372036854775807):ki1 s=some (s.data.toList.all kkg):=by
 have hl:=kio (step:=kfh s) s.size (by omega) (fun i=>(i:Int)) (fun i=>if (s.data.toList.drop i).all kkg=true then .inl () else .inr false) (fun i hi=>by
  have a:i<s.data.toList.length:=by rw [<- kku];exact hi
  have e1:byt s (i:Int)=some (s.data.toList[i].toNat:Int):=by rw [ktu,qb a];rfl
  have d1:s.data.toList.drop i=s.data.toList[i]::s.data.toList.drop (i+1):=qah a;have b1:decide ((i:Int)<(s.size:Int))=true:=qh (by omega);have d:=kcv (n:=i) (by omega);cases b:kkg s.data.toList[i] with
  | true=>
   refine .inl ⟨?_,?_⟩;simp only [kfh,b1,e1,qf,qa,ks3,b,qa6,qc,d]
   ·simp only [d1,List.all_cons,b,Bool.true_and]
  | false=>
   refine .inr ?_;simp only [kfh,b1,e1,qf,qa,ks3,b,Bool.not_false,d1,List.all_cons,Bool.false_and,Bool.false_eq_true,if_false]) (by
  have b1:decide ((s.size:Int)<(s.size:Int))=false:=qe (by omega);have d1:s.data.toList.drop s.size=[]:=qa8 (by rw [<- kku];omega);simp only [kfh,b1,qc,d1,List.all_nil,if_true])
 have c:kab (kfh s) fuel 0=some (if s.data.toList.all kkg=true then .inl () else .inr false):=by simpa using hl
 unfold ki1;rw [c,qa];cases s.data.toList.all kkg <;> rfl
theorem ky4 (s:BA) (a b:Int) (hs:s.size<=9223372036854775807):ket s a b=kh5 s a b:=by
 have hl:=kio (step:=kcg s) s.size (by omega) (fun i=>(i:Int)) (fun i=>if (s.data.toList.drop i).all kkg=true then .inl () else .inr 1) (fun i hi=>by
  have c:i<s.data.toList.length:=by rw [<- kku];exact hi
  have e1:byt s (i:Int)=some (s.data.toList[i].toNat:Int):=by rw [ktu,qb c];rfl
  have d1:s.data.toList.drop i=s.data.toList[i]::s.data.toList.drop (i+1):=qah c;have b1:decide ((i:Int)<(s.size:Int))=true:=qh (by omega);have f:=kcv (n:=i) (by omega);cases d:kkg s.data.toList[i] with
  | true=>
   refine .inl ⟨?_,?_⟩;simp only [kcg,b1,e1,qf,qa,ks3,d,qa6,qc,f]
   ·simp only [d1,List.all_cons,d,Bool.true_and]
  | false=>
   refine .inr ?_;simp only [kcg,b1,e1,qf,qa,ks3,d,Bool.not_false,d1,List.all_cons,Bool.false_and,Bool.false_eq_true,if_false]) (by
  have b1:decide ((s.size:Int)<(s.size:Int))=false:=qe (by omega);have d1:s.data.toList.drop s.size=[]:=qa8 (by rw [<- kku];omega);simp only [kcg,b1,qc,d1,List.all_nil,if_true])
 have e:kab (kcg s) fuel 0=some (if s.data.toList.all kkg=true then .inl () else .inr 1):=by simpa using hl
 unfold ket kh5;rw [e,koc s hs];simp only [qa];cases s.data.toList.all kkg <;> rfl
theorem k1y (s:BA) (a b:Int) (hs:s.size<=9223372036854775807):∃ c,kh5 s a b=some c:=by unfold kh5;rw [koc s hs];simp only [qa];by_cases h1:(s.size:Int)<a <;> by_cases d:b<(s.size:Int) <;> cases s.data.toList.all kkg <;> simp [h1,d]
mutual
def kp6:Va->Prop
 | .mk _ _ s l=>s.size<=9223372036854775807/\ksu l
def ksu:List Va->Prop
 | []=>True
 | x::l=>kp6 x/\ksu l
end
theorem k0d {v:Va} (h:kp6 v):v.text.size<=9223372036854775807/\∀ x∈v.items,kp6 x:=by
 cases v with
 | mk t n s l=>
  refine ⟨h.1,?_⟩;have:∀ l:List Va,ksu l->∀ x∈l,kp6 x:=fun l=>by
   induction l with
   | nil=>intro _ x a;cases a
   | cons y l ih=>
    intro h x a;rcases qar.1 a with rfl | a;exact h.1
    ·exact ih h.2 x a
  exact this l h.2
theorem kaac (l:List Va):decide (0<(l.length:Int))=!((l.length:Int) == 0):=by cases l <;> simp <;> omega
theorem kpv (m a b:Int):∃ c,kho m a b=some c/\kc1 m a b=some c:=by unfold kho kc1;by_cases h1:m<a <;> by_cases d:b<m <;> simp [h1,d]
end Go.Proofs.YtpcfkflhnkfjjaaGreat
