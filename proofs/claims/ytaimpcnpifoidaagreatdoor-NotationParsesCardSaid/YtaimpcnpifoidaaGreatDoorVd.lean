import Derived.Test.YtaimpcnpifoidaaGreatDoorLang
import Derived.Test.YtaimpcnpifoidaaGreatDoorOpm
import Derived.Test.YtaimpcnpifoidaaGreatDoorOpr
import Derived.Test.YtaimpcnpifoidaaGreatDoorZE
set_option linter.all false
namespace Go.Proofs.YtaimpcnpifoidaaGreatDoor
open Go Go.RowKit
def kho (a b:BA):Bool:=Op.bytesLess a.toList b.toList
mutual
def cmpV:Va->Va->Int
 | .mk t n s l, .mk t' n' s' l'=>
  if t<t' then -1 else if t'<t then 1 else if n<n' then -1 else if n'<n then 1 else if kho s s'=true then -1 else if kho s' s=true then 1 else kiv l l'
def kiv:List Va->List Va->Int
 | [],[]=>0
 | [],_::_ => -1
 | _::_,[]=>1
 | x::l,y::m=>if cmpV x y≠0 then cmpV x y else kiv l m
end
def eqV (a b:Va):Bool:=decide (cmpV a b=0)
theorem kpo:∀ l:List UInt8,Op.bytesLess l l=false
 | []=>rfl
 | x::l=>by simp [Op.bytesLess,kpo l]
theorem kwq:∀ l m:List UInt8,Op.bytesLess l m=false->Op.bytesLess m l=false->l=m
 | [],[],_,_=>rfl
 | [],y::m,h,_=>by simp [Op.bytesLess] at h
 | x::l,[],_,h=>by simp [Op.bytesLess] at h
 | x::l,y::m,h,a=>by
  simp only [Op.bytesLess,Bool.or_eq_false_iff,Bool.and_eq_false_iff,decide_eq_false_iff_not,qae] at h a;have b:x=y:=by have h1:=h.1;have h2:=a.1;exact UInt8.le_antisymm (UInt8.not_lt.1 h2) (UInt8.not_lt.1 h1)
  subst b;rw [kwq l m (h.2.resolve_left fun h=>h rfl) (a.2.resolve_left fun h=>h rfl)]
theorem kkn {a b:BA} (h:a.toList=b.toList):a=b:=by rw [ByteArray.toList_eq,ByteArray.toList_eq] at h;obtain ⟨⟨a⟩⟩:=a;obtain ⟨⟨b⟩⟩:=b;simp at h;rw [h]
theorem k1o (a:BA):kho a a=false:=kpo _
theorem k6w {a b:BA} (h:kho a b=false) (c:kho b a=false):a=b:=kkn (kwq _ _ h c)
theorem kaca (l:List Va) (h:∀ x∈l,cmpV x x=0):kiv l l=0:=by
 induction l with
 | nil=>rfl
 | cons x l ih=>
  rw [kiv,qg (by simp [h x (by simp)])];exact ih fun y a=>h y (by simp [a])
theorem kad7 (v:Va):cmpV v v=0:=by
 induction v using Va.ind with
 | h t n s l ih=>
  rw [cmpV,qg (by omega),qg (by omega),qg (by omega),qg (by omega),k1o];simp only [qbc,qa4];exact kaca l ih
theorem k78:∀ (l m:List Va),(∀ x∈l,∀ y,cmpV x y=0->x=y)->kiv l m=0->l=m
 | [],[],_,_=>rfl
 | [],_::_,_,h=>by simp [kiv] at h
 | _::_,[],_,h=>by simp [kiv] at h
 | x::l,y::m,ih,h=>by
  rw [kiv] at h;split at h;rename_i h1;exact absurd h h1
  ·rename_i h1;have h1:cmpV x y=0:=(by omega);rw [ih x (by simp) y h1,k78 l m (fun z a=>ih z (by simp [a])) h]
theorem k94 (v:Va):∀ u,cmpV v u=0->v=u:=by
 induction v using Va.ind with
 | h t n s l ih=>
  rintro ⟨t',n',s',l'⟩ h;rw [cmpV] at h
  repeat' split at h
  all_goals try (exfalso;omega)
  rename_i h1 h2 h3 c a b;obtain rfl:t=t':=by omega
  obtain rfl:n=n':=by omega
  obtain rfl:s=s':=k6w (by simpa using a) (by simpa using b);rw [k78 l l' ih h]
theorem k7j (v:Va):eqV v v=true:=by unfold eqV;rw [kad7];rfl
theorem eqV_iff {v u:Va}:eqV v u=true↔v=u:=⟨fun h=>k94 v u (qal h),fun h=>by rw [h,k7j]⟩
theorem knj:fuel=18446744073709551615+1:=rfl
theorem kbk {n:Nat} (h:n<18446744073709551616):n<fuel:=h
theorem kdn {n:Int} (h : -9223372036854775808<=n) (h2:n<=9223372036854775807):w64 n=n:=by
 unfold w64 IntKind.wrap IntKind.signed IntKind.bits;simp only;rw [show (2:Int) ^ 64=18446744073709551616 from rfl];by_cases h0:0<=n;have:n % 18446744073709551616=n:=Int.emod_eq_of_lt h0 (by omega);simp [this];omega
 ·have:n % 18446744073709551616=n+18446744073709551616:=by rw [<- Int.add_emod_right,Int.emod_eq_of_lt (by omega) (by omega)]
  simp [this];omega
theorem kcf {n:Nat} (h:n<=9223372036854775806):w64 ((n:Int)+1)=((n+1:Nat):Int):=by rw [kdn (by omega) (by omega)];omega
theorem kak {α:Type} (xs:List α) (n:Nat):idx xs (n:Int)=xs[n]?:=by unfold idx;rw [qj (by omega)];simp
theorem kalt (s:BA) (n:Nat):byt s (n:Int)=(s[n]?).map fun c=>(c.toNat:Int):=by unfold byt;rw [qj (by omega)];simp
theorem ki2 {α:Type} {b:Nat} {xs ys:List α} (h:(xs.length+ys.length)*(b+1)<=140737488355328):app b xs ys=some (xs++ys):=by unfold app;rw [qj h]
theorem k8a {s u:BA} (h:s.size+u.size<=9223372036854775807):cat s u=some (s++u):=by unfold cat;rw [qj h]
section
variable {σ β:Type} {step:σ->Option (σ ⊕ β)}
theorem k67 (n:Nat) (S:Nat->σ) (out:Nat->β) (hs:∀ i,i<n->(step (S i)=some (.inl (S (i+1)))/\out i=out (i+1))\/step (S i)=some (.inr (out i))) (a:step (S n)=some (.inr (out n))):
  ∀ (k i:Nat),i<=n->n - i<k->kaa step k (S i)=some (out i)
 | 0,i,_,h=>by omega
 | k+1,i,hi,hk=>by
  rw [kaa];by_cases h:i=n;subst h;rw [a]
  ·rcases hs i (by omega) with ⟨h1,h2⟩ | h1;rw [h1,h2];exact k67 n S out hs a k (i+1) (by omega) (by omega)
   ·rw [h1]
theorem klu (n:Nat) (hn:n<18446744073709551616) (S:Nat->σ) (out:Nat->β) (hs:∀ i,i<n->(step (S i)=some (.inl (S (i+1)))/\out i=out (i+1))\/step (S i)=some (.inr (out i))) (a:step (S n)=some (.inr (out n))):
  kaa step fuel (S 0)=some (out 0):=k67 n S out hs a fuel 0 (qz _) (kbk (by omega))
theorem kwv (n:Nat) (hn:n<18446744073709551616) (S:Nat->σ) (b:β) (hs:∀ i,i<n->step (S i)=some (.inl (S (i+1)))) (a:step (S n)=some (.inr b)):kaa step fuel (S 0)=some b:=
 klu n hn S (fun _=>b) (fun i hi => .inl ⟨hs i hi,rfl⟩) a
theorem krr {step':σ->Option (σ ⊕ β)} (n:Nat) (hn:n<18446744073709551616) (S:Nat->σ) (hs:∀ i,i<n->(step (S i)=some (.inl (S (i+1)))/\step' (S i)=some (.inl (S (i+1))))\/∃ b,step (S i)=some (.inr b)/\step' (S i)=some (.inr b))
  (b:β) (d:step (S n)=some (.inr b)) (a:step' (S n)=some (.inr b)):∃ r,kaa step fuel (S 0)=some r/\kaa step' fuel (S 0)=some r:=by
 have key:∀ (k i:Nat),i<=n->n - i<k->∃ r,kaa step k (S i)=some r/\kaa step' k (S i)=some r:=by
  intro k
  induction k with
  | zero=>intro i _ h;omega
  | succ k ih=>
   intro i hi hk;rw [kaa,kaa];by_cases h:i=n;subst h;rw [d,a];exact ⟨b,rfl,rfl⟩
   ·rcases hs i (by omega) with ⟨h1,h2⟩ | ⟨c,h1,h2⟩;rw [h1,h2];exact ih (i+1) (by omega) (by omega)
    ·rw [h1,h2];exact ⟨c,rfl,rfl⟩
 exact key fuel 0 (qz _) (kbk (by omega))
end
theorem kj9 {σ β σ' β':Type} {step:σ->Option (σ ⊕ β)} {step':σ'->Option (σ' ⊕ β')} (n:Nat) (hn:n<18446744073709551616) (S:Nat->σ) (S':Nat->σ') (Q:β->β'->Prop)
  (hs:∀ i,i<n->(step (S i)=some (.inl (S (i+1)))/\step' (S' i)=some (.inl (S' (i+1))))\/∃ b b',step (S i)=some (.inr b)/\step' (S' i)=some (.inr b')/\Q b b')
  (a:∃ b b',step (S n)=some (.inr b)/\step' (S' n)=some (.inr b')/\Q b b'):∃ r r',kaa step fuel (S 0)=some r/\kaa step' fuel (S' 0)=some r'/\Q r r':=by
 have key:∀ (k i:Nat),i<=n->n - i<k->∃ r r',kaa step k (S i)=some r/\kaa step' k (S' i)=some r'/\Q r r':=by
  intro k
  induction k with
  | zero=>intro i _ h;omega
  | succ k ih=>
   intro i hi hk;rw [kaa,kaa];by_cases h:i=n;subst h;obtain ⟨b,b',h1,h2,h3⟩:=a;rw [h1,h2];exact ⟨b,b',rfl,rfl,h3⟩
   ·rcases hs i (by omega) with ⟨h1,h2⟩ | ⟨b,b',h1,h2,h3⟩;rw [h1,h2];exact ih (i+1) (by omega) (by omega)
    ·rw [h1,h2];exact ⟨b,b',rfl,rfl,h3⟩
 exact key fuel 0 (qz _) (kbk (by omega))
def runL {σ α β:Type} (f:σ->α->Option (σ ⊕ β)):List α->σ->Option (σ ⊕ β)
 | [],s=>some (.inl s)
 | x::l,s=>Option.bind (f s x) (Sum.elim (fun s'=>runL f l s') (fun b=>some (.inr b)))
theorem kagt {σ α β τ γ:Type} {step:τ->Option (τ ⊕ γ)} (xs:List α) (f:σ->α->Option (σ ⊕ β)) (mk:σ->Int->τ) (out:σ ⊕ β->γ) (c:xs.length<=9223372036854775807)
  (h:∀ (i:Nat) (x:α) (s:σ),xs[i]?=some x->step (mk s (i:Int))=(f s x).map (Sum.elim (fun s' => .inl (mk s' ((i+1:Nat):Int))) (fun b => .inr (out (.inr b)))))
  (d:∀ s,step (mk s (xs.length:Int))=some (.inr (out (.inl s)))) (s:σ):kaa step fuel (mk s 0)=(runL f xs s).map out:=by
 have key:∀ (k i:Nat) (s:σ),i<=xs.length->xs.length - i<k->kaa step k (mk s (i:Int))=(runL f (xs.drop i) s).map out:=by
  intro k
  induction k with
  | zero=>intro i s _ h;omega
  | succ k ih=>
   intro i s hi hk;rw [kaa];by_cases hn:i=xs.length;subst hn;rw [d,qaq (qy _)];rfl
   ·have a:i<xs.length:=(by omega);rw [h i xs[i] s (qc a),qaa a,runL];cases f s xs[i] with
    | none=>rfl
    | some r=>
     cases r with
     | inl s'=>
      simp only [qbk,qh,qa];exact ih (i+1) s' (by omega) (by omega)
     | inr b=>rfl
 have:=key fuel 0 s (qz _) (kbk (by omega));simpa using this
theorem kbd {n i:Nat} (h:i<n):decide ((i:Int)<(n:Int))=true:=qe (by omega)
theorem kfm (n:Nat):decide ((n:Int)<(n:Int))=false:=qb (by omega)
theorem ki3 {n m:Nat} (h:n<m) (hm:m<=9223372036854775807):w64 ((n:Int)+1)=((n+1:Nat):Int):=kcf (by omega)
theorem k6c {α:Type} {xs:List α} {i:Nat} {x:α} (h:xs[i]?=some x):i<xs.length:=(qo.1 h).1
theorem k0l {α σ τ:Type} {step:τ->Option (τ ⊕ σ)} (xs:List α) (r:σ->α->Option σ) (mk:Int->σ->τ) (a:xs.length<=9223372036854775807)
  (hs:∀ (i:Nat) (x:α) (s:σ),xs[i]?=some x->step (mk (i:Int) s)=(r s x).map fun v => .inl (mk ((i+1:Nat):Int) v)) (c:∀ s,step (mk (xs.length:Int) s)=some (.inr s)) (s:σ):kaa step fuel (mk 0 s)=xs.foldlM r s:=by
 have h:=kagt (step:=step) xs (fun s x=>(r s x).map (.inl:σ->σ ⊕ Empty)) (fun s i=>mk i s) (Sum.elim id (fun b:Empty=>nomatch b)) a (fun i x s d=>by rw [hs i x s d];cases r s x <;> rfl) (fun s=>c s) s;rw [h];clear h hs c
 induction xs generalizing s with
 | nil=>rfl
 | cons x xs ih=>
  rw [runL,List.foldlM_cons];cases hr:r s x with
  | none=>rfl
  | some v=>
   simp only [qbk,qa,qh];exact ih (by simp only [qu] at a;omega) v
set_option maxRecDepth 100000
def Ev {α:Type} (x:Option α) (P:α->Prop):Prop:=∃ v,x=some v/\P v
theorem kaf {α:Type} {v:α} {P:α->Prop} (h:P v):Ev (some v) P:=⟨v,rfl,h⟩
theorem Ev.eq {α:Type} {x:Option α} {v:α} (h:Ev x (·=v)):x=some v:=by obtain ⟨u,h1,rfl⟩:=h;exact h1
theorem Ev.mono {α:Type} {x:Option α} {P Q:α->Prop} (h:Ev x P) (hp:∀ v,P v->Q v):Ev x Q:=by obtain ⟨v,h1,h2⟩:=h;exact ⟨v,h1,hp v h2⟩
theorem ked {α β:Type} {x:Option α} {k:α->Option β} {P:β->Prop} (h:Ev x fun v=>Ev (k v) P):Ev (Option.bind x k) P:=by obtain ⟨v,rfl,u,h1,h2⟩:=h;exact ⟨u,h1,h2⟩
theorem kdx {α:Type} {c:Bool} {x y:Option α} {P:α->Prop} (h1:c=true->Ev x P) (h0:c=false->Ev y P):Ev (bif c then x else y) P:=by
 cases c;exact h0 rfl
 ·exact h1 rfl
theorem kj5 {σ β:Type} {step:σ->Option (σ ⊕ β)} {s0:σ} {Q:β->Prop} (n:Nat) (I:Nat->σ->Prop) (hn:n<18446744073709551616) (h0:I 0 s0)
  (hs:∀ i s,i<n->I i s->Ev (step s) (Sum.elim (I (i+1)) Q)) (c:∀ s,I n s->Ev (step s) fun r=>∃ b,r = .inr b/\Q b):Ev (kaa step fuel s0) Q:=by
 have key:∀ (k m N:Nat) (s:σ),m+k=n->k<N->I m s->Ev (kaa step N s) Q:=by
  intro k
  induction k with
  | zero=>
   intro m N s hm d a;obtain ⟨N,rfl⟩:∃ j,N=j+1:=⟨N - 1,by omega⟩;obtain rfl:m=n:=(by omega);obtain ⟨r,h1,b,rfl,h2⟩:=c s a;exact ⟨b,by rw [kaa,h1],h2⟩
  | succ k ih=>
   intro m N s hm d a;obtain ⟨N,rfl⟩:∃ j,N=j+1:=⟨N - 1,by omega⟩;obtain ⟨r,h1,h2⟩:=hs m s (by omega) a;cases r with
   | inl s'=>
    obtain ⟨b,h3,e⟩:=ih (m+1) N s' (by omega) (by omega) h2;exact ⟨b,by rw [kaa,h1];exact h3,e⟩
   | inr b=>exact ⟨b,by rw [kaa,h1],h2⟩
 exact key n 0 fuel s0 (by omega) (kbk hn) h0
theorem knn {σ β:Type} {x:Option (σ ⊕ β)} {s:σ} {P:σ->Prop} {Q:β->Prop} (h:x=some (.inl s)) (hp:P s):Ev x (Sum.elim P Q):=⟨_,h,hp⟩
theorem kni {σ β:Type} {x:Option (σ ⊕ β)} {b:β} {P:σ->Prop} {Q:β->Prop} (h:x=some (.inr b)) (a:Q b):Ev x (Sum.elim P Q):=⟨_,h,a⟩
theorem knl {σ β:Type} {x:Option (σ ⊕ β)} {b:β} {Q:β->Prop} (h:x=some (.inr b)) (a:Q b):Ev x fun r=>∃ b,r = .inr b/\Q b:=⟨_,h,b,rfl,a⟩
def selN (p:Nat->Bool) (n:Nat):List Nat:=(List.range n).filter p
theorem k5x {p:Nat->Bool} {n:Nat} (h:p n=true):selN p (n+1)=selN p n++[n]:=by simp [selN,List.range_succ,List.filter_append,h]
theorem k9y {p:Nat->Bool} {n:Nat} (h:p n=false):selN p (n+1)=selN p n:=by simp [selN,List.range_succ,List.filter_append,h]
theorem kz8 (p:Nat->Bool) (n:Nat):(selN p n).length<=n:=by have:=List.length_filter_le p (List.range n);simpa [selN] using this
theorem mem_selN {p:Nat->Bool} {n i:Nat}:i∈selN p n↔i<n/\p i=true:=by simp [selN]
mutual
def kjo (B:Nat):Va->Prop
 | .mk _ _ _ l=>l.length<=B/\ksq B l
def ksq (B:Nat):List Va->Prop
 | []=>True
 | x::l=>kjo B x/\ksq B l
end
theorem kx7:∀ {l:List Va} {x:Va},x∈l->depV x<=kt8 l
 | y::l,x,h=>by
  simp only [kt8];rcases qac.1 h with rfl | h;exact Nat.le_max_left _ _
  ·exact qbd (kx7 h) (Nat.le_max_right _ _)
theorem k16 {B:Nat}:∀ {l:List Va} {x:Va},ksq B l->x∈l->kjo B x
 | y::l,x,a,h=>by
  rcases qac.1 h with rfl | h;exact a.1
  ·exact k16 a.2 h
theorem kaed {v x:Va} (h:x∈v.items):depV x<depV v:=by cases v;exact Nat.lt_succ_of_le (kx7 h)
theorem kpg {B:Nat} {v:Va} (h:kjo B v):v.items.length<=B/\∀ x∈v.items,kjo B x:=by cases v;exact ⟨h.1,fun x a=>k16 h.2 a⟩
theorem kv3 (x y:Va):cmpV x y=if x.type<y.type then -1 else if y.type<x.type then 1 else if x.num<y.num then -1 else if y.num<x.num then 1 else if kho x.text y.text=true then -1 else if kho y.text x.text=true then 1 else kiv x.items y.items:=by cases x;cases y;rw [cmpV];rfl
theorem k34 (a b:BA):(!(Op.bytesLess a.toList b.toList || a.toList == b.toList))=kho b a:=by
 have asym:∀ l m:List UInt8,Op.bytesLess l m=true->Op.bytesLess m l=false:=by
  intro l
  induction l with
  | nil=>intro m _;cases m <;> rfl
  | cons x l ih=>
   intro m h;cases m with
   | nil=>cases h
   | cons y m=>
    simp only [Op.bytesLess,Bool.or_eq_true,decide_eq_true_eq,q8,beq_iff_eq] at h;simp only [Op.bytesLess,Bool.or_eq_false_iff,decide_eq_false_iff_not,Bool.and_eq_false_iff,qae];rcases h with h | ⟨rfl,h⟩;exact ⟨UInt8.not_lt.2 (UInt8.le_of_lt h), .inl (UInt8.ne_of_lt h).symm⟩
    ·exact ⟨UInt8.lt_irrefl _, .inr (ih m h)⟩
 unfold kho;cases h:Op.bytesLess b.toList a.toList with
 | true=>
  have h2:=asym _ _ h;have h3:(a.toList == b.toList)=false:=by rw [qae];intro e;rw [e,kpo] at h;cases h
  rw [h2,h3];rfl
 | false=>
  cases h2:Op.bytesLess a.toList b.toList with
  | true=>rfl
  | false=>
   have:=kwq _ _ h2 h;rw [this];simp
def outC:List Va->List Va->Unit ⊕ Int
 | [],_ => .inl ()
 | _::_,[] => .inr 1
 | x::l,y::m=>if cmpV x y≠0 then .inr (cmpV x y) else outC l m
theorem k40:∀ l m:List Va,Sum.elim (fun _=>if (l.length:Int)<(m.length:Int) then -1 else (0:Int)) id (outC l m)=kiv l m
 | [],[]=>rfl
 | [],y::m=>by simp [outC,kiv]
 | x::l,[]=>by simp [outC,kiv]
 | x::l,y::m=>by
  have ih:=k40 l m;rw [outC,kiv];by_cases h:cmpV x y≠0;rw [qj h,qj h];rfl
  ·rw [qg h,qg h,<- ih];simp
theorem ksu:∀ (n:Nat) (x y:Va),depV x<n->kjo 9223372036854775807 x->kjo 9223372036854775807 y->kdp n x y=some (cmpV x y)
 | 0,x,y,h,_,_=>by omega
 | n+1,x,y,hd,p,q=>by
  show khz (kdp n) x y=_;rw [kv3];unfold khz;simp only [k34];by_cases h1:x.type<y.type;simp [h1];by_cases h2:y.type<x.type;simp [h1,h2];by_cases h3:x.num<y.num;simp [h1,h2,h3];by_cases e:y.num<x.num;simp [h1,h2,h3,e];cases k:kho x.text y.text with
  | true=>
   have d:Op.bytesLess x.text.toList y.text.toList=true:=k;simp [h1,h2,h3,e,d]
  | false=>
  have d:Op.bytesLess x.text.toList y.text.toList=false:=k;cases l:kho y.text x.text with
  | true=>simp [h1,h2,h3,e,d,l]
  | false=>
  obtain ⟨lx,wx⟩:=kpg p;obtain ⟨ly,wy⟩:=kpg q;obtain ⟨m,hm⟩:∃ m,m=Nat.min x.items.length y.items.length:=⟨_,rfl⟩;have r:m<=x.items.length:=hm ▸ Nat.min_le_left _ _;have s:m<=y.items.length:=hm ▸ Nat.min_le_right _ _;have f:m=x.items.length\/m=y.items.length:=by
   rw [hm];rcases Nat.le_total x.items.length y.items.length with h | h;exact .inl (Nat.min_eq_left h)
   ·exact .inr (Nat.min_eq_right h)
  have hl:=klu (step:=kcm x y (kdp n)) m (by omega) (fun i=>(i:Int)) (fun i=>outC (x.items.drop i) (y.items.drop i)) (fun i hi=>by
   have b:i<x.items.length:=(by omega);have g:i<y.items.length:=(by omega);have e1:x.items[i]?=some x.items[i]:=qc b;have d1:x.items.drop i=x.items[i]::x.items.drop (i+1):=qaa b;have a:(i:Int)<(x.items.length:Int):=(by omega);have o:=kcf (n:=i) (by omega);have e2:y.items[i]?=some y.items[i]:=qc g;have d2:y.items.drop i=y.items[i]::y.items.drop (i+1):=qaa g;have b1:decide ((i:Int)<(x.items.length:Int))=true:=qe a;have hne:((i:Int) == (y.items.length:Int))=false:=(by rw [qae];omega);have hc:=ksu n x.items[i] y.items[i] (by have:=kaed (qv b);omega) (wx _ (qv b)) (wy _ (qv g));by_cases h0:cmpV x.items[i] y.items[i]=0
   ·refine .inl ⟨?_,?_⟩;have b2:(cmpV x.items[i] y.items[i] != 0)=false:=(by rw [h0];rfl);simp only [kcm,b1,kak,e1,e2,hne,hc,b2,o,qf,qd,qa]
    ·simp only [d1,d2,outC,h0,ne_eq,not_true_eq_false,qa4]
   ·refine .inr ?_;have b2:(cmpV x.items[i] y.items[i] != 0)=true:=(by simpa using h0);simp only [d1,d2,outC,ne_eq,h0,not_false_eq_true,qa6,kcm,b1,kak,e1,e2,hne,hc,b2,o,qf,qd,qa]) (by
   rcases f with h | h;have d1:x.items.drop m=[]:=qaq (by omega);have a:¬ (m:Int)<(x.items.length:Int):=(by omega);simp only [d1,outC];simp [kcm,a]
   ·by_cases t:m=x.items.length;have d1:x.items.drop m=[]:=qaq (by omega);have a:¬ (m:Int)<(x.items.length:Int):=(by omega);simp only [d1,outC];simp [kcm,a]
    ·have b:m<x.items.length:=(by omega);have e1:x.items[m]?=some x.items[m]:=qc b;have d1:x.items.drop m=x.items[m]::x.items.drop (m+1):=qaa b;have d2:y.items.drop m=[]:=qaq (by omega);have a:(m:Int)<(x.items.length:Int):=(by omega);have v:((m:Int) == (y.items.length:Int))=true:=(by rw [beq_iff_eq];omega);simp only [d1,d2,outC,kcm,qe a,kak,e1,v,qf,qa])
  have j:kaa (kcm x y (kdp n)) fuel 0=some (outC x.items y.items):=by simpa using hl
  have hs:=k40 x.items y.items;simp only [h1,h2,h3,e,d,l,decide_false,qd,qa4,qbc,j,qa,<- hs];cases outC x.items y.items with
  | inl u=>
   simp only [qh];by_cases a:(x.items.length:Int)<(y.items.length:Int) <;> simp [a]
  | inr c=>rfl
theorem ko7 (b:Bool):kfs b=some (if b=true then -1 else 1):=by cases b <;> rfl
def outR:List Va->List Va->Unit ⊕ Int
 | x::l,y::m=>if cmpV x y≠0 then .inr (cmpV x y) else outR l m
 | _,_ => .inl ()
theorem k4s:∀ l m:List Va,Sum.elim (fun _=>if (l.length:Int)=(m.length:Int) then 0 else if (l.length:Int)<(m.length:Int) then -1 else (1:Int)) id (outR l m)=kiv l m
 | [],[]=>rfl
 | [],y::m=>by simp only [outR,kiv,qh,qaf,qu];rw [qg (by omega),qj (by omega)]
 | x::l,[]=>by simp only [outR,kiv,qh,qaf,qu];rw [qg (by omega),qg (by omega)]
 | x::l,y::m=>by
  have ih:=k4s l m;rw [outR,kiv];by_cases h:cmpV x y≠0;rw [qj h,qj h];rfl
  ·rw [qg h,qg h,<- ih];simp
theorem kvi:∀ (n:Nat),(∀ x y:Va,2*depV x<n+1->kjo 9223372036854775807 x->kjo 9223372036854775807 y->kbf n x y=some (cmpV x y)) /\
  ∀ l m:List Va,2*kt8 l<n->l.length<=9223372036854775807->m.length<=9223372036854775807->(∀ x∈l,kjo 9223372036854775807 x)->(∀ x∈m,kjo 9223372036854775807 x)->kdf n l m=some (kiv l m)
 | 0=>⟨fun x y h=>by cases x;simp [depV] at h,fun l m h=>by omega⟩
 | n+1=>by
  obtain ⟨ih1,ih2⟩:=kvi n;refine ⟨fun x y hd q r=>?_,fun l m hd hl hm wl wm=>?_⟩
  ·show kdq (kbf n) (kdf n) x y=_;obtain ⟨lx,wx⟩:=kpg q;obtain ⟨ly,wy⟩:=kpg r;have hA:=ih2 x.items y.items (by cases x;simp only [depV,Va.items] at hd ⊢; omega) lx ly wx wy;rw [kv3];unfold kdq;by_cases h1:x.type=y.type
   ·have b1:(x.type != y.type)=false:=(by simp [h1]);rw [qg (by omega),qg (by omega)];by_cases h2:x.num=y.num
    ·have b2:(x.num != y.num)=false:=(by simp [h2]);rw [qg (by omega),qg (by omega)];by_cases h3:x.text.toList=y.text.toList;have b3:(!(x.text.toList == y.text.toList))=false:=(by simp [h3]);have e1:kho x.text y.text=false:=(by unfold kho;rw [h3];exact kpo _);have e2:kho y.text x.text=false:=(by unfold kho;rw [h3];exact kpo _);rw [e1,e2,b1,b2,b3];simp [hA]
     ·have b3:(!(x.text.toList == y.text.toList))=true:=(by simp [h3]);rw [b1,b2,b3];simp only [qd,qf,ko7,qa];cases b:kho x.text y.text with
      | true=>
       have:Op.bytesLess x.text.toList y.text.toList=true:=b;simp [this]
      | false=>
       have d:Op.bytesLess x.text.toList y.text.toList=false:=b;cases s:kho y.text x.text with
       | true=>simp [d]
       | false=>exact absurd (kwq _ _ d s) h3
    ·have b2:(x.num != y.num)=true:=(by simp [h2]);rw [b1,b2];simp only [qd,qf,ko7,qa];by_cases b:x.num<y.num;simp [b]
     ·have:y.num<x.num:=(by omega);simp [b,this]
   ·have b1:(x.type != y.type)=true:=(by simp [h1]);rw [b1];simp only [qd,qf,ko7,qa];by_cases b:x.type<y.type;simp [b]
    ·have:y.type<x.type:=(by omega);simp [b,this]
  ·show kct (kbf n) (kdf n) l m=_;obtain ⟨k,hk⟩:∃ k,k=Nat.min l.length m.length:=⟨_,rfl⟩;have t:k<=l.length:=hk ▸ Nat.min_le_left _ _;have v:k<=m.length:=hk ▸ Nat.min_le_right _ _;have e:k=l.length\/k=m.length:=by
    rw [hk];rcases Nat.le_total l.length m.length with h | h;exact .inl (Nat.min_eq_left h)
    ·exact .inr (Nat.min_eq_right h)
   have hl:=klu (step:=kbl l m (kbf n)) k (by omega) (fun i=>(i:Int)) (fun i=>outR (l.drop i) (m.drop i)) (fun i hi=>by
    have a:i<l.length:=(by omega);have f:i<m.length:=(by omega);have e1:l[i]?=some l[i]:=qc a;have d1:l.drop i=l[i]::l.drop (i+1):=qaa a;have o:=kcf (n:=i) (by omega);have e2:m[i]?=some m[i]:=qc f;have d2:m.drop i=m[i]::m.drop (i+1):=qaa f;have b1:decide ((i:Int)<(l.length:Int))=true:=qe (by omega);have b0:decide ((i:Int)<(m.length:Int))=true:=qe (by omega);have hc:=ih1 l[i] m[i] (by have:=kx7 (qv a);omega) (wl _ (qv a)) (wm _ (qv f));by_cases h0:cmpV l[i] m[i]=0
    ·have b2:(cmpV l[i] m[i] != 0)=false:=(by rw [h0];rfl);refine .inl ⟨?_,?_⟩;simp only [kbl,b1,b0,kak,e1,e2,hc,b2,o,qf,qd,qa]
     ·simp only [d1,d2,outR,h0,ne_eq,not_true_eq_false,qa4]
    ·have b2:(cmpV l[i] m[i] != 0)=true:=(by simpa using h0);refine .inr ?_;simp only [d1,d2,outR,ne_eq,h0,not_false_eq_true,qa6,kbl,b1,b0,kak,e1,e2,hc,b2,o,qf,qd,qa]) (by
    by_cases g:k=l.length;have d1:l.drop k=[]:=qaq (by omega);have b1:decide ((k:Int)<(l.length:Int))=false:=qb (by omega);simp only [d1,outR,kbl,b1,qd,qa]
    ·have p:k=m.length:=e.resolve_left g;have d2:m.drop k=[]:=qaq (by omega);have b1:decide ((k:Int)<(l.length:Int))=true:=qe (by omega);have b0:decide ((k:Int)<(m.length:Int))=false:=qb (by omega);have:outR (l.drop k) (m.drop k) = .inl ():=(by rw [d2];cases l.drop k <;> rfl);simp only [this,kbl,b1,b0,qf,qd,qa])
   have j:kaa (kbl l m (kbf n)) fuel 0=some (outR l m):=(by simpa using hl);unfold kct;rw [j,qa,<- k4s l m];cases outR l m with
   | inl u=>
    simp only [qh,ko7,qa];by_cases h1:(l.length:Int)=(m.length:Int);simp [h1]
    ·by_cases h2:(l.length:Int)<(m.length:Int);rw [qg h1,qj h2,qe h2,qae.2 h1];rfl
     ·rw [qg h1,qg h2,qb h2,qae.2 h1];rfl
   | inr c=>rfl
def okV (v:Va):Prop:=depV v<=1000000/\kjo 9223372036854775807 v
theorem kqb {x y:Va} (a:okV x) (b:okV y):kg1 x y=some (eqV x y):=by unfold kg1;rw [ksu fuel x y (kbk (by have:=a.1;omega)) a.2 b.2];simp only [qa,eqV];by_cases h:cmpV x y=0 <;> simp [h]
theorem ks8 {x y:Va} (a:okV x) (b:okV y):kcd x y=some (eqV x y):=by unfold kcd;rw [(kvi fuel).1 x y (Nat.lt_succ_of_lt (kbk (by have:=a.1;omega))) a.2 b.2];simp only [qa,eqV];by_cases h:cmpV x y=0 <;> simp [h]
theorem ko0 (s:BA) (n:Nat):byt s (n:Int)=(s.data.toList[n]?).map fun c=>(c.toNat:Int):=by
 rw [kalt];congr 1;by_cases h:n<s.size;rw [getElem?_pos s n h];have a:n<s.data.size:=h;rw [qay,qaw a];rfl
 ·rw [getElem?_neg s n h];have a:¬ n<s.data.size:=h;rw [qay,Array.getElem?_eq_none (by omega)]
theorem ka9 (s:BA):s.size=s.data.toList.length:=by rw [qas];rfl
def knv (c:UInt8):Bool:=decide (32<=c.toNat) && decide (c.toNat<=126)
theorem ky2 (c:UInt8):(bif decide ((c.toNat:Int)<32) then some true else (some (decide (126<(c.toNat:Int))):Option Bool))=some (!knv c):=by
 unfold knv;by_cases h:c.toNat<32;have h1:decide ((c.toNat:Int)<32)=true:=qe (by omega);have h2:decide (32<=c.toNat)=false:=qb (by omega);rw [h1,h2];rfl
 ·have h1:decide ((c.toNat:Int)<32)=false:=qb (by omega);have h2:decide (32<=c.toNat)=true:=qe (by omega);rw [h1,h2];by_cases h3:c.toNat<=126;have a:decide (126<(c.toNat:Int))=false:=qb (by omega);rw [a,qe h3];rfl
  ·have a:decide (126<(c.toNat:Int))=true:=qe (by omega);rw [a,qb h3];rfl
theorem kov (s:BA) (hs:s.size<=9223372036854775807):kl6 s=some (s.data.toList.all knv):=by
 have hl:=klu (step:=kg9 s) s.size (by omega) (fun i=>(i:Int)) (fun i=>if (s.data.toList.drop i).all knv=true then .inl () else .inr false) (fun i hi=>by
  have a:i<s.data.toList.length:=by rw [<- ka9];exact hi
  have e1:byt s (i:Int)=some (s.data.toList[i].toNat:Int):=by rw [ko0,qc a];rfl
  have d1:s.data.toList.drop i=s.data.toList[i]::s.data.toList.drop (i+1):=qaa a;have b1:decide ((i:Int)<(s.size:Int))=true:=qe (by omega);have d:=kcf (n:=i) (by omega);cases b:knv s.data.toList[i] with
  | true=>
   refine .inl ⟨?_,?_⟩;simp only [kg9,b1,e1,qf,qa,ky2,b,qab,qd,d]
   ·simp only [d1,List.all_cons,b,Bool.true_and]
  | false=>
   refine .inr ?_;simp only [kg9,b1,e1,qf,qa,ky2,b,qbb,d1,List.all_cons,Bool.false_and,qbc,qa4]) (by
  have b1:decide ((s.size:Int)<(s.size:Int))=false:=qb (by omega);have d1:s.data.toList.drop s.size=[]:=qaq (by rw [<- ka9];omega);simp only [kg9,b1,qd,d1,List.all_nil,qa6])
 have c:kaa (kg9 s) fuel 0=some (if s.data.toList.all knv=true then .inl () else .inr false):=by simpa using hl
 unfold kl6;rw [c,qa];cases s.data.toList.all knv <;> rfl
theorem k7v (s:BA) (a b:Int) (hs:s.size<=9223372036854775807):kgo s a b=kio s a b:=by
 have hl:=klu (step:=kdy s) s.size (by omega) (fun i=>(i:Int)) (fun i=>if (s.data.toList.drop i).all knv=true then .inl () else .inr 1) (fun i hi=>by
  have c:i<s.data.toList.length:=by rw [<- ka9];exact hi
  have e1:byt s (i:Int)=some (s.data.toList[i].toNat:Int):=by rw [ko0,qc c];rfl
  have d1:s.data.toList.drop i=s.data.toList[i]::s.data.toList.drop (i+1):=qaa c;have b1:decide ((i:Int)<(s.size:Int))=true:=qe (by omega);have f:=kcf (n:=i) (by omega);cases d:knv s.data.toList[i] with
  | true=>
   refine .inl ⟨?_,?_⟩;simp only [kdy,b1,e1,qf,qa,ky2,d,qab,qd,f]
   ·simp only [d1,List.all_cons,d,Bool.true_and]
  | false=>
   refine .inr ?_;simp only [kdy,b1,e1,qf,qa,ky2,d,qbb,d1,List.all_cons,Bool.false_and,qbc,qa4]) (by
  have b1:decide ((s.size:Int)<(s.size:Int))=false:=qb (by omega);have d1:s.data.toList.drop s.size=[]:=qaq (by rw [<- ka9];omega);simp only [kdy,b1,qd,d1,List.all_nil,qa6])
 have e:kaa (kdy s) fuel 0=some (if s.data.toList.all knv=true then .inl () else .inr 1):=by simpa using hl
 unfold kgo kio;rw [e,kov s hs];simp only [qa];cases s.data.toList.all knv <;> rfl
theorem kpc (s:BA) (a b:Int) (hs:s.size<=9223372036854775807):∃ c,kio s a b=some c:=by unfold kio;rw [kov s hs];simp only [qa];by_cases h1:(s.size:Int)<a <;> by_cases h2:b<(s.size:Int) <;> cases s.data.toList.all knv <;> simp [h1,h2]
mutual
def kvb:Va->Prop
 | .mk _ _ s l=>s.size<=9223372036854775807/\kzl l
def kzl:List Va->Prop
 | []=>True
 | x::l=>kvb x/\kzl l
end
theorem k8r {v:Va} (h:kvb v):v.text.size<=9223372036854775807/\∀ x∈v.items,kvb x:=by
 cases v with
 | mk t n s l=>
  refine ⟨h.1,?_⟩;have:∀ l:List Va,kzl l->∀ x∈l,kvb x:=fun l=>by
   induction l with
   | nil=>intro _ x a;cases a
   | cons y l ih=>
    intro h x a;rcases qac.1 a with rfl | a;exact h.1
    ·exact ih h.2 x a
  exact this l h.2
theorem kak0 (l:List Va):decide (0<(l.length:Int))=!((l.length:Int) == 0):=by cases l <;> simp <;> omega
theorem kiw (m a b:Int):∃ c,kh4 m a b=some c/\kev m a b=some c:=by unfold kh4 kev;by_cases h1:m<a <;> by_cases h2:b<m <;> simp [h1,h2]
end Go.Proofs.YtaimpcnpifoidaaGreatDoor
