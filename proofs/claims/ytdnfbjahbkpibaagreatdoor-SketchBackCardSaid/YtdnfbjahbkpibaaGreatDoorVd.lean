import Derived.Test.YtdnfbjahbkpibaaGreatDoorSk
import Derived.Test.YtdnfbjahbkpibaaGreatDoorZE
set_option linter.all false
namespace Go.Proofs.YtdnfbjahbkpibaaGreatDoor
open Go Go.RowKit
mutual
def kl2 (B:Nat):Va->Prop
 | .mk _ _ _ l=>l.length<=B/\kzt B l
def kzt (B:Nat):List Va->Prop
 | []=>True
 | x::l=>kl2 B x/\kzt B l
end
theorem ku0:∀ {l:List Va} {x:Va},x∈l->depV x<=krk l
 | y::l,x,h=>by
  simp only [krk];rcases qae.1 h with rfl | h;exact Nat.le_max_left _ _
  ·exact qay (ku0 h) (Nat.le_max_right _ _)
theorem kzg {B:Nat}:∀ {l:List Va} {x:Va},kzt B l->x∈l->kl2 B x
 | y::l,x,a,h=>by
  rcases qae.1 h with rfl | h;exact a.1
  ·exact kzg a.2 h
theorem kadb {v x:Va} (h:x∈v.items):depV x<depV v:=by cases v;exact Nat.lt_succ_of_le (ku0 h)
theorem kne {B:Nat} {v:Va} (h:kl2 B v):v.items.length<=B/\∀ x∈v.items,kl2 B x:=by cases v;exact ⟨h.1,fun x hx=>kzg h.2 hx⟩
theorem kto (x y:Va):cmpV x y=if x.type<y.type then -1 else if y.type<x.type then 1 else if x.num<y.num then -1 else if y.num<x.num then 1 else if ke7 x.text y.text=true then -1 else if ke7 y.text x.text=true then 1 else kgc x.items y.items:=by cases x;cases y;rw [cmpV];rfl
theorem k2u (a b:BA):(!(Op.bytesLess a.toList b.toList || a.toList == b.toList))=ke7 b a:=by
 have asym:∀ l m:List UInt8,Op.bytesLess l m=true->Op.bytesLess m l=false:=by
  intro l
  induction l with
  | nil=>intro m _;cases m <;> rfl
  | cons x l ih=>
   intro m h;cases m with
   | nil=>cases h
   | cons y m=>
    simp only [Op.bytesLess,qb1,qbn,qr,beq_iff_eq] at h;simp only [Op.bytesLess,Bool.or_eq_false_iff,decide_eq_false_iff_not,Bool.and_eq_false_iff,qas];rcases h with h | ⟨rfl,h⟩;exact ⟨UInt8.not_lt.2 (UInt8.le_of_lt h), .inl (UInt8.ne_of_lt h).symm⟩
    ·exact ⟨UInt8.lt_irrefl _, .inr (ih m h)⟩
 unfold ke7;cases h:Op.bytesLess b.toList a.toList with
 | true=>
  have c:=asym _ _ h;have d:(a.toList == b.toList)=false:=by rw [qas];intro e;rw [e,km4] at h;cases h
  rw [c,d];rfl
 | false=>
  cases c:Op.bytesLess a.toList b.toList with
  | true=>rfl
  | false=>
   have:=ks5 _ _ c h;rw [this];simp
def outC:List Va->List Va->Unit ⊕ Int
 | [],_ => .inl ()
 | _::_,[] => .inr 1
 | x::l,y::m=>if cmpV x y≠0 then .inr (cmpV x y) else outC l m
theorem k1p:∀ l m:List Va,Sum.elim (fun _=>if (l.length:Int)<(m.length:Int) then -1 else (0:Int)) id (outC l m)=kgc l m
 | [],[]=>rfl
 | [],y::m=>by simp [outC,kgc]
 | x::l,[]=>by simp [outC,kgc]
 | x::l,y::m=>by
  have ih:=k1p l m;rw [outC,kgc];by_cases h:cmpV x y≠0;rw [qo h,qo h];rfl
  ·rw [qi h,qi h,<- ih];simp
theorem kqi:∀ (n:Nat) (x y:Va),depV x<n->kl2 9223372036854775807 x->kl2 9223372036854775807 y->kca n x y=some (cmpV x y)
 | 0,x,y,h,_,_=>by omega
 | n+1,x,y,hd,hx,hy=>by
  show kfe (kca n) x y=_;rw [kto];unfold kfe;simp only [k2u];by_cases h1:x.type<y.type;simp [h1];by_cases e:y.type<x.type;simp [h1,e];by_cases f:x.num<y.num;simp [h1,e,f];by_cases j:y.num<x.num;simp [h1,e,f,j];cases p:ke7 x.text y.text with
  | true=>
   have d:Op.bytesLess x.text.toList y.text.toList=true:=p;simp [h1,e,f,j,d]
  | false=>
  have d:Op.bytesLess x.text.toList y.text.toList=false:=p;cases q:ke7 y.text x.text with
  | true=>simp [h1,e,f,j,d,q]
  | false=>
  obtain ⟨lx,wx⟩:=kne hx;obtain ⟨ly,wy⟩:=kne hy;obtain ⟨m,hm⟩:∃ m,m=Nat.min x.items.length y.items.length:=⟨_,rfl⟩;have s:m<=x.items.length:=hm ▸ Nat.min_le_left _ _;have t:m<=y.items.length:=hm ▸ Nat.min_le_right _ _;have k:m=x.items.length\/m=y.items.length:=by
   rw [hm];rcases Nat.le_total x.items.length y.items.length with h | h;exact .inl (Nat.min_eq_left h)
   ·exact .inr (Nat.min_eq_right h)
  have hl:=kh5 (kbq x y (kca n)) m (fun i=>(i:Int)) (fun i=>outC (x.items.drop i) (y.items.drop i)) (fun i hi=>by
   have b:i<x.items.length:=(by omega);have l:i<y.items.length:=(by omega);have e1:x.items[i]?=some x.items[i]:=qb b;have d1:x.items.drop i=x.items[i]::x.items.drop (i+1):=qao b;have a:(i:Int)<(x.items.length:Int):=(by omega);have r:=kai i;have e2:y.items[i]?=some y.items[i]:=qb l;have d2:y.items.drop i=y.items[i]::y.items.drop (i+1):=qao l;have b1:decide ((i:Int)<(x.items.length:Int))=true:=ql a;have g:((i:Int) == (y.items.length:Int))=false:=(by rw [qas];omega);have hc:=kqi n x.items[i] y.items[i] (by have:=kadb (q9 b);omega) (wx _ (q9 b)) (wy _ (q9 l));by_cases h0:cmpV x.items[i] y.items[i]=0
   ·refine .inl ⟨?_,?_⟩;have b2:(cmpV x.items[i] y.items[i] != 0)=false:=(by rw [h0];rfl);simp only [kbq,b1,kag,e1,e2,g,hc,b2,r,qe,qd,qa]
    ·simp only [d1,d2,outC,h0,ne_eq,not_true_eq_false,if_false]
   ·refine .inr ?_;have b2:(cmpV x.items[i] y.items[i] != 0)=true:=(by simpa using h0);simp only [d1,d2,outC,ne_eq,h0,not_false_eq_true,if_true,kbq,b1,kag,e1,e2,g,hc,b2,r,qe,qd,qa]) (by
   rcases k with h | h;have d1:x.items.drop m=[]:=qbj (by omega);have a:¬ (m:Int)<(x.items.length:Int):=(by omega);simp only [d1,outC];simp [kbq,a]
   ·by_cases v:m=x.items.length;have d1:x.items.drop m=[]:=qbj (by omega);have a:¬ (m:Int)<(x.items.length:Int):=(by omega);simp only [d1,outC];simp [kbq,a]
    ·have b:m<x.items.length:=(by omega);have e1:x.items[m]?=some x.items[m]:=qb b;have d1:x.items.drop m=x.items[m]::x.items.drop (m+1):=qao b;have d2:y.items.drop m=[]:=qbj (by omega);have a:(m:Int)<(x.items.length:Int):=(by omega);have w:((m:Int) == (y.items.length:Int))=true:=(by rw [beq_iff_eq];omega);simp only [d1,d2,outC,kbq,ql a,kag,e1,w,qe,qa])
  have o:kab (kbq x y (kca n)) fuel 0=some (outC x.items y.items):=by simpa using hl
  have hs:=k1p x.items y.items;simp only [h1,e,f,j,d,q,decide_false,qd,if_false,qb0,o,qa,<- hs];cases outC x.items y.items with
  | inl u=>
   simp only [qan];by_cases a:(x.items.length:Int)<(y.items.length:Int) <;> simp [a]
  | inr c=>rfl
theorem kmk (b:Bool):kf1 b=some (if b=true then -1 else 1):=by cases b <;> rfl
def outR:List Va->List Va->Unit ⊕ Int
 | x::l,y::m=>if cmpV x y≠0 then .inr (cmpV x y) else outR l m
 | _,_ => .inl ()
theorem k2q:∀ l m:List Va,Sum.elim (fun _=>if (l.length:Int)=(m.length:Int) then 0 else if (l.length:Int)<(m.length:Int) then -1 else (1:Int)) id (outR l m)=kgc l m
 | [],[]=>rfl
 | [],y::m=>by simp only [outR,kgc,qan,qbf,qag];rw [qi (by omega),qo (by omega)]
 | x::l,[]=>by simp only [outR,kgc,qan,qbf,qag];rw [qi (by omega),qi (by omega)]
 | x::l,y::m=>by
  have ih:=k2q l m;rw [outR,kgc];by_cases h:cmpV x y≠0;rw [qo h,qo h];rfl
  ·rw [qi h,qi h,<- ih];simp
theorem kr2:∀ (n:Nat),(∀ x y:Va,2*depV x<n+1->kl2 9223372036854775807 x->kl2 9223372036854775807 y->kav n x y=some (cmpV x y)) /\
  ∀ l m:List Va,2*krk l<n->l.length<=9223372036854775807->m.length<=9223372036854775807->(∀ x∈l,kl2 9223372036854775807 x)->(∀ x∈m,kl2 9223372036854775807 x)->kco n l m=some (kgc l m)
 | 0=>⟨fun x y h=>by cases x;simp [depV] at h,fun l m h=>by omega⟩
 | n+1=>by
  obtain ⟨ih1,ih2⟩:=kr2 n;refine ⟨fun x y hd hx hy=>?_,fun l m hd hl hm wl wm=>?_⟩
  ·show kdv (kav n) (kco n) x y=_;obtain ⟨lx,wx⟩:=kne hx;obtain ⟨ly,wy⟩:=kne hy;have hA:=ih2 x.items y.items (by cases x;simp only [depV,Va.items] at hd ⊢; omega) lx ly wx wy;rw [kto];unfold kdv;by_cases h1:x.type=y.type
   ·have b1:(x.type != y.type)=false:=(by simp [h1]);rw [qi (by omega),qi (by omega)];by_cases d:x.num=y.num
    ·have b2:(x.num != y.num)=false:=(by simp [d]);rw [qi (by omega),qi (by omega)];by_cases e:x.text.toList=y.text.toList;have b3:(!(x.text.toList == y.text.toList))=false:=(by simp [e]);have e1:ke7 x.text y.text=false:=(by unfold ke7;rw [e];exact km4 _);have e2:ke7 y.text x.text=false:=(by unfold ke7;rw [e];exact km4 _);rw [e1,e2,b1,b2,b3];simp [hA]
     ·have b3:(!(x.text.toList == y.text.toList))=true:=(by simp [e]);rw [b1,b2,b3];simp only [qd,qe,kmk,qa];cases b:ke7 x.text y.text with
      | true=>
       have:Op.bytesLess x.text.toList y.text.toList=true:=b;simp [this]
      | false=>
       have f:Op.bytesLess x.text.toList y.text.toList=false:=b;cases s:ke7 y.text x.text with
       | true=>simp [f]
       | false=>exact absurd (ks5 _ _ f s) e
    ·have b2:(x.num != y.num)=true:=(by simp [d]);rw [b1,b2];simp only [qd,qe,kmk,qa];by_cases b:x.num<y.num;simp [b]
     ·have:y.num<x.num:=(by omega);simp [b,this]
   ·have b1:(x.type != y.type)=true:=(by simp [h1]);rw [b1];simp only [qd,qe,kmk,qa];by_cases b:x.type<y.type;simp [b]
    ·have:y.type<x.type:=(by omega);simp [b,this]
  ·show kc1 (kav n) (kco n) l m=_;obtain ⟨k,hk⟩:∃ k,k=Nat.min l.length m.length:=⟨_,rfl⟩;have t:k<=l.length:=hk ▸ Nat.min_le_left _ _;have v:k<=m.length:=hk ▸ Nat.min_le_right _ _;have g:k=l.length\/k=m.length:=by
    rw [hk];rcases Nat.le_total l.length m.length with h | h;exact .inl (Nat.min_eq_left h)
    ·exact .inr (Nat.min_eq_right h)
   have hl:=kh5 (kaw l m (kav n)) k (fun i=>(i:Int)) (fun i=>outR (l.drop i) (m.drop i)) (fun i hi=>by
    have a:i<l.length:=(by omega);have j:i<m.length:=(by omega);have e1:l[i]?=some l[i]:=qb a;have d1:l.drop i=l[i]::l.drop (i+1):=qao a;have q:=kai i;have e2:m[i]?=some m[i]:=qb j;have d2:m.drop i=m[i]::m.drop (i+1):=qao j;have b1:decide ((i:Int)<(l.length:Int))=true:=ql (by omega);have b0:decide ((i:Int)<(m.length:Int))=true:=ql (by omega);have hc:=ih1 l[i] m[i] (by have:=ku0 (q9 a);omega) (wl _ (q9 a)) (wm _ (q9 j));by_cases h0:cmpV l[i] m[i]=0
    ·have b2:(cmpV l[i] m[i] != 0)=false:=(by rw [h0];rfl);refine .inl ⟨?_,?_⟩;simp only [kaw,b1,b0,kag,e1,e2,hc,b2,q,qe,qd,qa]
     ·simp only [d1,d2,outR,h0,ne_eq,not_true_eq_false,if_false]
    ·have b2:(cmpV l[i] m[i] != 0)=true:=(by simpa using h0);refine .inr ?_;simp only [d1,d2,outR,ne_eq,h0,not_false_eq_true,if_true,kaw,b1,b0,kag,e1,e2,hc,b2,q,qe,qd,qa]) (by
    by_cases o:k=l.length;have d1:l.drop k=[]:=qbj (by omega);have b1:decide ((k:Int)<(l.length:Int))=false:=qg (by omega);simp only [d1,outR,kaw,b1,qd,qa]
    ·have r:k=m.length:=g.resolve_left o;have d2:m.drop k=[]:=qbj (by omega);have b1:decide ((k:Int)<(l.length:Int))=true:=ql (by omega);have b0:decide ((k:Int)<(m.length:Int))=false:=qg (by omega);have:outR (l.drop k) (m.drop k) = .inl ():=(by rw [d2];cases l.drop k <;> rfl);simp only [this,kaw,b1,b0,qe,qd,qa])
   have p:kab (kaw l m (kav n)) fuel 0=some (outR l m):=(by simpa using hl);unfold kc1;rw [p,qa,<- k2q l m];cases outR l m with
   | inl u=>
    simp only [qan,kmk,qa];by_cases h1:(l.length:Int)=(m.length:Int);simp [h1]
    ·by_cases d:(l.length:Int)<(m.length:Int);rw [qi h1,qo d,ql d,qas.2 h1];rfl
     ·rw [qi h1,qi d,qg d,qas.2 h1];rfl
   | inr c=>rfl
def okV (v:Va):Prop:=depV v<=1000000/\kl2 9223372036854775807 v
theorem kr6 {x y:Va} (hx:okV x) (hy:okV y):ke8 x y=some (eqV x y):=by unfold ke8;rw [kqi fuel x y (kan (by have:=hx.1;omega)) hx.2 hy.2];simp only [qa,eqV];by_cases h:cmpV x y=0 <;> simp [h]
theorem k40 {x y:Va} (hx:okV x) (hy:okV y):kc7 x y=some (eqV x y):=by unfold kc7;rw [(kr2 fuel).1 x y (Nat.lt_succ_of_lt (kan (by have:=hx.1;omega))) hx.2 hy.2];simp only [qa,eqV];by_cases h:cmpV x y=0 <;> simp [h]
theorem kxn (s:BA) (n:Nat):byt s (n:Int)=(s.data.toList[n]?).map fun c=>(c.toNat:Int):=by
 rw [kag7];congr 1;by_cases h:n<s.size;rw [getElem?_pos s n h];have a:n<s.data.size:=h;rw [qal,qa6 a];rfl
 ·rw [getElem?_neg s n h];have a:¬ n<s.data.size:=h;rw [qal,qb2 (by omega)]
theorem kmo (s:BA):s.size=s.data.toList.length:=by rw [qaf];rfl
def kl0 (c:UInt8):Bool:=decide (32<=c.toNat) && decide (c.toNat<=126)
theorem kwf (c:UInt8):(bif (c.toNat:Int)<32 then some true else (some (decide (126<(c.toNat:Int))):Option Bool))=some (!kl0 c):=by
 unfold kl0;by_cases h:c.toNat<32;have h1:decide ((c.toNat:Int)<32)=true:=ql (by omega);have a:decide (32<=c.toNat)=false:=qg (by omega);rw [h1,a];rfl
 ·have h1:decide ((c.toNat:Int)<32)=false:=qg (by omega);have a:decide (32<=c.toNat)=true:=ql (by omega);rw [h1,a];by_cases d:c.toNat<=126;have b:decide (126<(c.toNat:Int))=false:=qg (by omega);rw [b,ql d];rfl
  ·have b:decide (126<(c.toNat:Int))=true:=ql (by omega);rw [b,qg d];rfl
theorem kqu (s:BA) (hs:s.size<=9223372036854775807):kkc s=some (s.data.toList.all kl0):=by
 have hl:=kh5 (ker s) s.size (fun i=>(i:Int)) (fun i=>if (s.data.toList.drop i).all kl0=true then .inl () else .inr false) (fun i hi=>by
  have a:i<s.data.toList.length:=by rw [<- kmo];exact hi
  have e1:byt s (i:Int)=some (s.data.toList[i].toNat:Int):=by rw [kxn,qb a];rfl
  have d1:s.data.toList.drop i=s.data.toList[i]::s.data.toList.drop (i+1):=qao a;have b1:decide ((i:Int)<(s.size:Int))=true:=ql (by omega);have d:=kai i;cases b:kl0 s.data.toList[i] with
  | true=>
   refine .inl ⟨?_,?_⟩;simp only [ker,b1,e1,qe,qa,kwf,b,qbv,qd,d]
   ·simp only [d1,List.all_cons,b,Bool.true_and]
  | false=>
   refine .inr ?_;simp only [ker,b1,e1,qe,qa,kwf,b,Bool.not_false,d1,List.all_cons,Bool.false_and,qb0,if_false]) (by
  have b1:decide ((s.size:Int)<(s.size:Int))=false:=qg (by omega);have d1:s.data.toList.drop s.size=[]:=qbj (by rw [<- kmo];omega);simp only [ker,b1,qd,d1,List.all_nil,if_true])
 have c:kab (ker s) fuel 0=some (if s.data.toList.all kl0=true then .inl () else .inr false):=by simpa using hl
 unfold kkc;rw [c,qa];cases s.data.toList.all kl0 <;> rfl
theorem k5l (s:BA) (a b:Int) (hs:s.size<=9223372036854775807):khe s a b=kil s a b:=by
 have hl:=kh5 (kc4 s) s.size (fun i=>(i:Int)) (fun i=>if (s.data.toList.drop i).all kl0=true then .inl () else .inr 1) (fun i hi=>by
  have c:i<s.data.toList.length:=by rw [<- kmo];exact hi
  have e1:byt s (i:Int)=some (s.data.toList[i].toNat:Int):=by rw [kxn,qb c];rfl
  have d1:s.data.toList.drop i=s.data.toList[i]::s.data.toList.drop (i+1):=qao c;have b1:decide ((i:Int)<(s.size:Int))=true:=ql (by omega);have f:=kai i;cases d:kl0 s.data.toList[i] with
  | true=>
   refine .inl ⟨?_,?_⟩;simp only [kc4,b1,e1,qe,qa,kwf,d,qbv,qd,f]
   ·simp only [d1,List.all_cons,d,Bool.true_and]
  | false=>
   refine .inr ?_;simp only [kc4,b1,e1,qe,qa,kwf,d,Bool.not_false,d1,List.all_cons,Bool.false_and,qb0,if_false]) (by
  have b1:decide ((s.size:Int)<(s.size:Int))=false:=qg (by omega);have d1:s.data.toList.drop s.size=[]:=qbj (by rw [<- kmo];omega);simp only [kc4,b1,qd,d1,List.all_nil,if_true])
 have e:kab (kc4 s) fuel 0=some (if s.data.toList.all kl0=true then .inl () else .inr 1):=by simpa using hl
 unfold khe kil;rw [e,kqu s hs];simp only [qa];cases s.data.toList.all kl0 <;> rfl
theorem k86 (s:BA) (a b:Int) (hs:s.size<=9223372036854775807):∃ c,kil s a b=some c:=by unfold kil;rw [kqu s hs];simp only [qa];by_cases h1:(s.size:Int)<a <;> by_cases d:b<(s.size:Int) <;> cases s.data.toList.all kl0 <;> simp [h1,d]
mutual
def kr9:Va->Prop
 | .mk _ _ s l=>s.size<=9223372036854775807/\kv3 l
def kv3:List Va->Prop
 | []=>True
 | x::l=>kr9 x/\kv3 l
end
theorem k61 {v:Va} (h:kr9 v):v.text.size<=9223372036854775807/\∀ x∈v.items,kr9 x:=by
 cases v with
 | mk t n s l=>
  refine ⟨h.1,?_⟩;have:∀ l:List Va,kv3 l->∀ x∈l,kr9 x:=fun l=>by
   induction l with
   | nil=>intro _ x hx;cases hx
   | cons y l ih=>
    intro h x hx;rcases qae.1 hx with rfl | hx;exact h.1
    ·exact ih h.2 x hx
  exact this l h.2
theorem kajc (l:List Va):decide (0<(l.length:Int))=!((l.length:Int) == 0):=by cases l <;> simp <;> omega
theorem krs (m a b:Int):∃ c,khp m a b=some c/\kez m a b=some c:=by unfold khp kez;by_cases h1:m<a <;> by_cases d:b<m <;> simp [h1,d]
end Go.Proofs.YtdnfbjahbkpibaaGreatDoor
