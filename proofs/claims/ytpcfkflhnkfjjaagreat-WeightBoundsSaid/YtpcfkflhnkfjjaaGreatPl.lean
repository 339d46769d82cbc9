import Derived.Test.YtpcfkflhnkfjjaaGreatLang
import Derived.Test.YtpcfkflhnkfjjaaGreatOpm
set_option linter.all false
namespace Go.Proofs.YtpcfkflhnkfjjaaGreat
open Go Go.RowKit
def kfs (a b:BA):Bool:=Op.bytesLess a.toList b.toList
mutual
def cmpV:Va->Va->Int
 | .mk t n s l, .mk t' n' s' l'=>
  if t<t' then -1 else if t'<t then 1 else if n<n' then -1 else if n'<n then 1 else if kfs s s'=true then -1 else if kfs s' s=true then 1 else kgq l l'
def kgq:List Va->List Va->Int
 | [],[]=>0
 | [],_::_ => -1
 | _::_,[]=>1
 | x::l,y::m=>if cmpV x y≠0 then cmpV x y else kgq l m
end
def eqV (a b:Va):Bool:=decide (cmpV a b=0)
theorem kk2:∀ l:List UInt8,Op.bytesLess l l=false
 | []=>rfl
 | x::l=>by simp [Op.bytesLess,kk2 l]
theorem kqr:∀ l m:List UInt8,Op.bytesLess l m=false->Op.bytesLess m l=false->l=m
 | [],[],_,_=>rfl
 | [],y::m,h,_=>by simp [Op.bytesLess] at h
 | x::l,[],_,h=>by simp [Op.bytesLess] at h
 | x::l,y::m,h,a=>by
  simp only [Op.bytesLess,Bool.or_eq_false_iff,Bool.and_eq_false_iff,qbb,qat] at h a;have b:x=y:=by have h1:=h.1;have c:=a.1;exact UInt8.le_antisymm (UInt8.not_lt.1 c) (UInt8.not_lt.1 h1)
  subst b;rw [kqr l m (h.2.resolve_left fun h=>h rfl) (a.2.resolve_left fun h=>h rfl)]
theorem krj {a b:BA} (h:a.toList=b.toList):a=b:=by rw [ByteArray.toList_eq,ByteArray.toList_eq] at h;obtain ⟨⟨a⟩⟩:=a;obtain ⟨⟨b⟩⟩:=b;simp at h;rw [h]
theorem kvh (a:BA):kfs a a=false:=kk2 _
theorem kzu {a b:BA} (h:kfs a b=false) (c:kfs b a=false):a=b:=krj (kqr _ _ h c)
theorem k1s (l:List Va) (h:∀ x∈l,cmpV x x=0):kgq l l=0:=by
 induction l with
 | nil=>rfl
 | cons x l ih=>
  rw [kgq,qk (by simp [h x (by simp)])];exact ih fun y a=>h y (by simp [a])
theorem k4e (v:Va):cmpV v v=0:=by
 induction v using Va.ind with
 | h t n s l ih=>
  rw [cmpV,qk (by omega),qk (by omega),qk (by omega),qk (by omega),kvh];simp only [Bool.false_eq_true,if_false];exact k1s l ih
theorem kzv:∀ (l m:List Va),(∀ x∈l,∀ y,cmpV x y=0->x=y)->kgq l m=0->l=m
 | [],[],_,_=>rfl
 | [],_::_,_,h=>by simp [kgq] at h
 | _::_,[],_,h=>by simp [kgq] at h
 | x::l,y::m,ih,h=>by
  rw [kgq] at h;split at h;rename_i h1;exact absurd h h1
  ·rename_i h1;have h1:cmpV x y=0:=(by omega);rw [ih x (by simp) y h1,kzv l m (fun z a=>ih z (by simp [a])) h]
theorem k81 (v:Va):∀ u,cmpV v u=0->v=u:=by
 induction v using Va.ind with
 | h t n s l ih=>
  rintro ⟨t',n',s',l'⟩ h;rw [cmpV] at h
  repeat' split at h
  all_goals try (exfalso;omega)
  rename_i h1 c d e a b;obtain rfl:t=t':=by omega
  obtain rfl:n=n':=by omega
  obtain rfl:s=s':=kzu (by simpa using a) (by simpa using b);rw [kzv l l' ih h]
theorem k5m (v:Va):eqV v v=true:=by unfold eqV;rw [k4e];rfl
theorem ko8:fuel=18446744073709551615+1:=rfl
theorem ke5 {n:Nat} (h:n<18446744073709551616):n<fuel:=h
theorem kbq {n:Int} (h : -9223372036854775808<=n) (a:n<=9223372036854775807):w64 n=n:=by
 unfold w64 IntKind.wrap IntKind.signed IntKind.bits;simp only;rw [show (2:Int) ^ 64=18446744073709551616 from rfl];by_cases h0:0<=n;have:n % 18446744073709551616=n:=Int.emod_eq_of_lt h0 (by omega);simp [this];omega
 ·have:n % 18446744073709551616=n+18446744073709551616:=by rw [<- Int.add_emod_right,Int.emod_eq_of_lt (by omega) (by omega)]
  simp [this];omega
theorem kcv {n:Nat} (h:n<=9223372036854775806):w64 ((n:Int)+1)=((n+1:Nat):Int):=by rw [kbq (by omega) (by omega)];omega
theorem kaf {α:Type} (xs:List α) (n:Nat):idx xs (n:Int)=xs[n]?:=by unfold idx;rw [qn (by omega)];simp
theorem k8g (s:BA) (n:Nat):byt s (n:Int)=(s[n]?).map fun c=>(c.toNat:Int):=by unfold byt;rw [qn (by omega)];simp
theorem keh {α:Type} {b:Nat} {xs ys:List α} (h:(xs.length+ys.length)*(b+1)<=140737488355328):app b xs ys=some (xs++ys):=by unfold app;rw [qn h]
section
variable {σ β:Type} {step:σ->Option (σ ⊕ β)}
theorem kzy (n:Nat) (S:Nat->σ) (out:Nat->β) (hs:∀ i,i<n->(step (S i)=some (.inl (S (i+1)))/\out i=out (i+1))\/step (S i)=some (.inr (out i))) (a:step (S n)=some (.inr (out n))):
  ∀ (k i:Nat),i<=n->n - i<k->kab step k (S i)=some (out i)
 | 0,i,_,h=>by omega
 | k+1,i,hi,hk=>by
  rw [kab];by_cases h:i=n;subst h;rw [a]
  ·rcases hs i (by omega) with ⟨h1,b⟩ | h1;rw [h1,b];exact kzy n S out hs a k (i+1) (by omega) (by omega)
   ·rw [h1]
theorem kio (n:Nat) (hn:n<18446744073709551616) (S:Nat->σ) (out:Nat->β) (hs:∀ i,i<n->(step (S i)=some (.inl (S (i+1)))/\out i=out (i+1))\/step (S i)=some (.inr (out i))) (a:step (S n)=some (.inr (out n))):
  kab step fuel (S 0)=some (out 0):=kzy n S out hs a fuel 0 (qaj _) (ke5 (by omega))
theorem kfg (n:Nat) (hn:n<18446744073709551616) (S:Nat->σ) (b:β) (hs:∀ i,i<n->step (S i)=some (.inl (S (i+1)))) (a:step (S n)=some (.inr b)):kab step fuel (S 0)=some b:=
 kio n hn S (fun _=>b) (fun i hi => .inl ⟨hs i hi,rfl⟩) a
theorem ko5 {step':σ->Option (σ ⊕ β)} (n:Nat) (hn:n<18446744073709551616) (S:Nat->σ) (hs:∀ i,i<n->(step (S i)=some (.inl (S (i+1)))/\step' (S i)=some (.inl (S (i+1))))\/∃ b,step (S i)=some (.inr b)/\step' (S i)=some (.inr b))
  (b:β) (e:step (S n)=some (.inr b)) (a:step' (S n)=some (.inr b)):∃ r,kab step fuel (S 0)=some r/\kab step' fuel (S 0)=some r:=by
 have key:∀ (k i:Nat),i<=n->n - i<k->∃ r,kab step k (S i)=some r/\kab step' k (S i)=some r:=by
  intro k
  induction k with
  | zero=>intro i _ h;omega
  | succ k ih=>
   intro i hi hk;rw [kab,kab];by_cases h:i=n;subst h;rw [e,a];exact ⟨b,rfl,rfl⟩
   ·rcases hs i (by omega) with ⟨h1,d⟩ | ⟨c,h1,d⟩;rw [h1,d];exact ih (i+1) (by omega) (by omega)
    ·rw [h1,d];exact ⟨c,rfl,rfl⟩
 exact key fuel 0 (qaj _) (ke5 (by omega))
end
theorem kjg {σ β σ' β':Type} {step:σ->Option (σ ⊕ β)} {step':σ'->Option (σ' ⊕ β')} (n:Nat) (hn:n<18446744073709551616) (S:Nat->σ) (S':Nat->σ') (Q:β->β'->Prop)
  (hs:∀ i,i<n->(step (S i)=some (.inl (S (i+1)))/\step' (S' i)=some (.inl (S' (i+1))))\/∃ b b',step (S i)=some (.inr b)/\step' (S' i)=some (.inr b')/\Q b b')
  (d:∃ b b',step (S n)=some (.inr b)/\step' (S' n)=some (.inr b')/\Q b b'):∃ r r',kab step fuel (S 0)=some r/\kab step' fuel (S' 0)=some r'/\Q r r':=by
 have key:∀ (k i:Nat),i<=n->n - i<k->∃ r r',kab step k (S i)=some r/\kab step' k (S' i)=some r'/\Q r r':=by
  intro k
  induction k with
  | zero=>intro i _ h;omega
  | succ k ih=>
   intro i hi hk;rw [kab,kab];by_cases h:i=n;subst h;obtain ⟨b,b',h1,a,c⟩:=d;rw [h1,a];exact ⟨b,b',rfl,rfl,c⟩
   ·rcases hs i (by omega) with ⟨h1,a⟩ | ⟨b,b',h1,a,c⟩;rw [h1,a];exact ih (i+1) (by omega) (by omega)
    ·rw [h1,a];exact ⟨b,b',rfl,rfl,c⟩
 exact key fuel 0 (qaj _) (ke5 (by omega))
end Go.Proofs.YtpcfkflhnkfjjaaGreat
