import Derived.Test.YtaimpcnpifoidaaGreatDoorLang
import Derived.Test.YtaimpcnpifoidaaGreatDoorOpm
import Derived.Test.YtaimpcnpifoidaaGreatDoorOpo
set_option linter.unusedVariables false
set_option linter.unusedSimpArgs false
namespace Go.Proofs.YtaimpcnpifoidaaGreatDoor
open Go Go.RowKit
def kgv (a b:BA):Bool:=Op.bytesLess a.toList b.toList
mutual
def cmpV:Va→Va→Int
 | .mk t n s l, .mk t' n' s' l'=>
  if t<t' then -1 else if t'<t then 1 else if n<n' then -1 else if n'<n then 1 else if kgv s s'=true then -1 else if kgv s' s=true then 1 else khm l l'
def khm:List Va→List Va→Int
 | [],[]=>0
 | [],_::_ => -1
 | _::_,[]=>1
 | x::l,y::m=>if cmpV x y≠0 then cmpV x y else khm l m
end
def eqV (a b:Va):Bool:=decide (cmpV a b=0)
theorem knf:∀ l:List UInt8,Op.bytesLess l l=false
 | []=>rfl
 | x::l=>by simp [Op.bytesLess,knf l]
theorem kuj:∀ l m:List UInt8,Op.bytesLess l m=false→Op.bytesLess m l=false→l=m
 | [],[],_,_=>rfl
 | [],y::m,h,_=>by simp [Op.bytesLess] at h
 | x::l,[],_,h=>by simp [Op.bytesLess] at h
 | x::l,y::m,h,h'=>by
  simp only [Op.bytesLess,Bool.or_eq_false_iff,Bool.and_eq_false_iff,decide_eq_false_iff_not,qz] at h h'
  have hxy:x=y:=by
   have h1:=h.1
   have h2:=h'.1
   exact UInt8.le_antisymm (UInt8.not_lt.1 h2) (UInt8.not_lt.1 h1)
  subst hxy
  rw [kuj l m (h.2.resolve_left fun h=>h rfl) (h'.2.resolve_left fun h=>h rfl)]
theorem kjh {a b:BA} (h:a.toList=b.toList):a=b:=by
 rw [ByteArray.toList_eq,ByteArray.toList_eq] at h
 obtain ⟨⟨a⟩⟩:=a
 obtain ⟨⟨b⟩⟩:=b
 simp at h
 rw [h]
theorem kzc (a:BA):kgv a a=false:=knf _
theorem k5s {a b:BA} (h:kgv a b=false) (h':kgv b a=false):a=b:=kjh (kuj _ _ h h')
theorem k77 (l:List Va) (h:∀ x∈l,cmpV x x=0):khm l l=0:=by
 induction l with
 | nil=>rfl
 | cons x l ih=>
  rw [khm,if_neg (by simp [h x (by simp)])]
  exact ih fun y hy=>h y (by simp [hy])
theorem kaa3 (v:Va):cmpV v v=0:=by
 induction v using Va.ind with
 | h t n s l ih=>
  rw [cmpV,if_neg (by omega),if_neg (by omega),if_neg (by omega),if_neg (by omega),kzc]
  simp only [qaz,if_false]
  exact k77 l ih
theorem k41:∀ (l m:List Va),(∀ x∈l,∀ y,cmpV x y=0→x=y)→khm l m=0→l=m
 | [],[],_,_=>rfl
 | [],_::_,_,h=>by simp [khm] at h
 | _::_,[],_,h=>by simp [khm] at h
 | x::l,y::m,ih,h=>by
  rw [khm] at h
  split at h
  ·rename_i h1;exact absurd h h1
  ·rename_i h1
   have h1:cmpV x y=0:=by omega
   rw [ih x (by simp) y h1,k41 l m (fun z hz=>ih z (by simp [hz])) h]
theorem k6r (v:Va):∀ u,cmpV v u=0→v=u:=by
 induction v using Va.ind with
 | h t n s l ih=>
  rintro ⟨t',n',s',l'⟩ h
  rw [cmpV] at h
  repeat' split at h
  all_goals try (exfalso;omega)
  rename_i h1 h2 h3 h4 h5 h6
  obtain rfl:t=t':=by omega
  obtain rfl:n=n':=by omega
  obtain rfl:s=s':=k5s (by simpa using h5) (by simpa using h6)
  rw [k41 l l' ih h]
theorem k4u (v:Va):eqV v v=true:=by unfold eqV;rw [kaa3];rfl
theorem k6t {v u:Va}:eqV v u=true↔v=u:=⟨fun h=>k6r v u (qaf h),fun h=>by rw [h,k4u]⟩
end Go.Proofs.YtaimpcnpifoidaaGreatDoor
set_option linter.unusedVariables false
set_option linter.unusedSimpArgs false
namespace Go.Proofs.YtaimpcnpifoidaaGreatDoor
open Go Go.RowKit
theorem kmx:fuel=18446744073709551615+1:=rfl
theorem kec {n:Nat} (h:n<18446744073709551616):n<fuel:=h
theorem kf0 {n:Int} (h : -9223372036854775808≤n) (h2:n≤9223372036854775807):w64 n=n:=by
 unfold w64 IntKind.wrap IntKind.signed IntKind.bits
 simp only
 rw [show (2:Int) ^ 64=18446744073709551616 from rfl]
 by_cases h0:0≤n
 ·have:n % 18446744073709551616=n:=Int.emod_eq_of_lt h0 (by omega)
  simp [this]
  omega
 ·have:n % 18446744073709551616=n+18446744073709551616:=by
   rw [← Int.add_emod_right,Int.emod_eq_of_lt (by omega) (by omega)]
  simp [this]
  omega
theorem kc0 {n:Nat} (h:n≤9223372036854775806):w64 ((n:Int)+1)=((n+1:Nat):Int):=by
 rw [kf0 (by omega) (by omega)];omega
theorem kal {α:Type} (xs:List α) (n:Nat):idx xs (n:Int)=xs[n]?:=by
 unfold idx
 rw [if_pos (by omega)]
 simp
theorem kahf (s:BA) (n:Nat):byt s (n:Int)=(s[n]?).map fun c=>(c.toNat:Int):=by
 unfold byt
 rw [if_pos (by omega)]
 simp
theorem kil {α:Type} {b:Nat} {xs ys:List α} (h:(xs.length+ys.length)*(b+1)≤140737488355328):app b xs ys=some (xs++ys):=by
 unfold app
 rw [if_pos h]
theorem kake {s u:BA} (h:s.size+u.size≤9223372036854775807):cat s u=some (s++u):=by
 unfold cat
 rw [if_pos h]
section
variable {σ β:Type} {step:σ→Option (σ ⊕ β)}
theorem k33 (n:Nat) (S:Nat→σ) (out:Nat→β) (hs:∀ i,i<n→(step (S i)=some (.inl (S (i+1)))∧out i=out (i+1))∨step (S i)=some (.inr (out i))) (he:step (S n)=some (.inr (out n))):
  ∀ (k i:Nat),i≤n→n - i<k→kaa step k (S i)=some (out i)
 | 0,i,_,h=>by omega
 | k+1,i,hi,hk=>by
  rw [kaa]
  by_cases h:i=n
  ·subst h;rw [he]
  ·rcases hs i (by omega) with ⟨h1,h2⟩ | h1
   ·rw [h1,h2]
    exact k33 n S out hs he k (i+1) (by omega) (by omega)
   ·rw [h1]
theorem kmu (n:Nat) (hn:n<18446744073709551616) (S:Nat→σ) (out:Nat→β) (hs:∀ i,i<n→(step (S i)=some (.inl (S (i+1)))∧out i=out (i+1))∨step (S i)=some (.inr (out i))) (he:step (S n)=some (.inr (out n))):
  kaa step fuel (S 0)=some (out 0):=k33 n S out hs he fuel 0 (qab _) (kec (by omega))
theorem kyc (n:Nat) (hn:n<18446744073709551616) (S:Nat→σ) (b:β) (hs:∀ i,i<n→step (S i)=some (.inl (S (i+1)))) (he:step (S n)=some (.inr b)):kaa step fuel (S 0)=some b:=
 kmu n hn S (fun _=>b) (fun i hi => .inl ⟨hs i hi,rfl⟩) he
theorem kr5 {step':σ→Option (σ ⊕ β)} (n:Nat) (hn:n<18446744073709551616) (S:Nat→σ) (hs:∀ i,i<n→(step (S i)=some (.inl (S (i+1)))∧step' (S i)=some (.inl (S (i+1))))∨∃ b,step (S i)=some (.inr b)∧step' (S i)=some (.inr b))
  (b:β) (he:step (S n)=some (.inr b)) (he':step' (S n)=some (.inr b)):∃ r,kaa step fuel (S 0)=some r∧kaa step' fuel (S 0)=some r:=by
 have key:∀ (k i:Nat),i≤n→n - i<k→∃ r,kaa step k (S i)=some r∧kaa step' k (S i)=some r:=by
  intro k
  induction k with
  | zero=>intro i _ h;omega
  | succ k ih=>
   intro i hi hk
   rw [kaa,kaa]
   by_cases h:i=n
   ·subst h;rw [he,he'];exact ⟨b,rfl,rfl⟩
   ·rcases hs i (by omega) with ⟨h1,h2⟩ | ⟨c,h1,h2⟩
    ·rw [h1,h2]
     exact ih (i+1) (by omega) (by omega)
    ·rw [h1,h2];exact ⟨c,rfl,rfl⟩
 exact key fuel 0 (qab _) (kec (by omega))
end
theorem kjt {σ β σ' β':Type} {step:σ→Option (σ ⊕ β)} {step':σ'→Option (σ' ⊕ β')} (n:Nat) (hn:n<18446744073709551616) (S:Nat→σ) (S':Nat→σ') (Q:β→β'→Prop)
  (hs:∀ i,i<n→(step (S i)=some (.inl (S (i+1)))∧step' (S' i)=some (.inl (S' (i+1))))∨∃ b b',step (S i)=some (.inr b)∧step' (S' i)=some (.inr b')∧Q b b')
  (he:∃ b b',step (S n)=some (.inr b)∧step' (S' n)=some (.inr b')∧Q b b'):∃ r r',kaa step fuel (S 0)=some r∧kaa step' fuel (S' 0)=some r'∧Q r r':=by
 have key:∀ (k i:Nat),i≤n→n - i<k→∃ r r',kaa step k (S i)=some r∧kaa step' k (S' i)=some r'∧Q r r':=by
  intro k
  induction k with
  | zero=>intro i _ h;omega
  | succ k ih=>
   intro i hi hk
   rw [kaa,kaa]
   by_cases h:i=n
   ·subst h
    obtain ⟨b,b',h1,h2,h3⟩:=he
    rw [h1,h2];exact ⟨b,b',rfl,rfl,h3⟩
   ·rcases hs i (by omega) with ⟨h1,h2⟩ | ⟨b,b',h1,h2,h3⟩
    ·rw [h1,h2]
     exact ih (i+1) (by omega) (by omega)
    ·rw [h1,h2];exact ⟨b,b',rfl,rfl,h3⟩
 exact key fuel 0 (qab _) (kec (by omega))
end Go.Proofs.YtaimpcnpifoidaaGreatDoor
set_option linter.unusedVariables false
set_option linter.unusedSimpArgs false
namespace Go.Proofs.YtaimpcnpifoidaaGreatDoor
open Go Go.RowKit
theorem kbe {n i:Nat} (h:i<n):decide ((i:Int)<(n:Int))=true:=qf (by omega)
theorem ket (n:Nat):decide ((n:Int)<(n:Int))=false:=qe (by omega)
theorem kjq {n m:Nat} (h:n<m) (hm:m≤9223372036854775807):w64 ((n:Int)+1)=((n+1:Nat):Int):=kc0 (by omega)
end Go.Proofs.YtaimpcnpifoidaaGreatDoor
set_option linter.unusedVariables false
set_option linter.unusedSimpArgs false
set_option maxRecDepth 100000
namespace Go.Proofs.YtaimpcnpifoidaaGreatDoor
open Go Go.RowKit
def Ev {α:Type} (x:Option α) (P:α→Prop):Prop:=∃ v,x=some v∧P v
theorem kac {α:Type} {v:α} {P:α→Prop} (h:P v):Ev (some v) P:=⟨v,rfl,h⟩
theorem Ev.eq {α:Type} {x:Option α} {v:α} (h:Ev x (·=v)):x=some v:=by obtain ⟨u,h1,rfl⟩:=h;exact h1
theorem Ev.mono {α:Type} {x:Option α} {P Q:α→Prop} (h:Ev x P) (hp:∀ v,P v→Q v):Ev x Q:=by obtain ⟨v,h1,h2⟩:=h;exact ⟨v,h1,hp v h2⟩
theorem kcx {α β:Type} {x:Option α} {k:α→Option β} {P:β→Prop} (h:Ev x fun v=>Ev (k v) P):Ev (Option.bind x k) P:=by
 obtain ⟨v,rfl,u,h1,h2⟩:=h
 exact ⟨u,h1,h2⟩
theorem kcw {α:Type} {c:Bool} {x y:Option α} {P:α→Prop} (h1:c=true→Ev x P) (h0:c=false→Ev y P):Ev (bif c then x else y) P:=by
 cases c
 ·exact h0 rfl
 ·exact h1 rfl
theorem k40 {α:Type} {c:Bool} {x y:Option α} {P:α→Prop} (h:c=true) (h1:Ev x P):Ev (bif c then x else y) P:=by subst h;exact h1
theorem kh2 {σ β:Type} {step:σ→Option (σ ⊕ β)} {s0:σ} {Q:β→Prop} (n:Nat) (I:Nat→σ→Prop) (hn:n<18446744073709551616) (h0:I 0 s0)
  (hs:∀ i s,i<n→I i s→Ev (step s) (Sum.elim (I (i+1)) Q)) (he:∀ s,I n s→Ev (step s) fun r=>∃ b,r = .inr b∧Q b):Ev (kaa step fuel s0) Q:=by
 have key:∀ (k m N:Nat) (s:σ),m+k=n→k<N→I m s→Ev (kaa step N s) Q:=by
  intro k
  induction k with
  | zero=>
   intro m N s hm hN hI
   obtain ⟨N,rfl⟩:∃ j,N=j+1:=⟨N - 1,by omega⟩
   obtain rfl:m=n:=by omega
   obtain ⟨r,h1,b,rfl,h2⟩:=he s hI
   exact ⟨b,by rw [kaa,h1],h2⟩
  | succ k ih=>
   intro m N s hm hN hI
   obtain ⟨N,rfl⟩:∃ j,N=j+1:=⟨N - 1,by omega⟩
   obtain ⟨r,h1,h2⟩:=hs m s (by omega) hI
   cases r with
   | inl s'=>
    obtain ⟨b,h3,h4⟩:=ih (m+1) N s' (by omega) (by omega) h2
    exact ⟨b,by rw [kaa,h1];exact h3,h4⟩
   | inr b=>exact ⟨b,by rw [kaa,h1],h2⟩
 exact key n 0 fuel s0 (by omega) (kec hn) h0
theorem kafb {σ β:Type} {step:σ→Option (σ ⊕ β)} {s0:σ} {Q:β→Prop} (I:σ→Prop) (μ:σ→Nat) (hn:μ s0<18446744073709551616) (h0:I s0)
  (hs:∀ s,I s→Ev (step s) (Sum.elim (fun s'=>I s'∧μ s'<μ s) Q)):Ev (kaa step fuel s0) Q:=by
 have key:∀ (N:Nat) (s:σ),μ s<N→I s→Ev (kaa step N s) Q:=by
  intro N
  induction N with
  | zero=>intro s h;omega
  | succ N ih=>
   intro s h hI
   obtain ⟨r,h1,h2⟩:=hs s hI
   cases r with
   | inl s'=>
    obtain ⟨b,h3,h4⟩:=ih s' (by have:=h2.2;omega) h2.1
    exact ⟨b,by rw [kaa,h1];exact h3,h4⟩
   | inr b=>exact ⟨b,by rw [kaa,h1],h2⟩
 exact key fuel s0 (kec hn) h0
theorem kk2 {σ β:Type} {x:Option (σ ⊕ β)} {s:σ} {P:σ→Prop} {Q:β→Prop} (h:x=some (.inl s)) (hp:P s):Ev x (Sum.elim P Q):=⟨_,h,hp⟩
theorem kn8 {σ β:Type} {x:Option (σ ⊕ β)} {b:β} {P:σ→Prop} {Q:β→Prop} (h:x=some (.inr b)) (hq:Q b):Ev x (Sum.elim P Q):=⟨_,h,hq⟩
theorem kkp {σ β:Type} {x:Option (σ ⊕ β)} {b:β} {Q:β→Prop} (h:x=some (.inr b)) (hq:Q b):Ev x fun r=>∃ b,r = .inr b∧Q b:=⟨_,h,b,rfl,hq⟩
end Go.Proofs.YtaimpcnpifoidaaGreatDoor
