import Derived.Test.YtaimpcnpifoidaaGreatDoorEnc
import Derived.Test.YtaimpcnpifoidaaGreatDoorOpm
import Derived.Test.YtaimpcnpifoidaaGreatDoorOpo
set_option linter.unusedVariables false
set_option linter.unusedSimpArgs false
namespace Go.Proofs.YtaimpcnpifoidaaGreatDoor
open Go Go.RowKit
def kgx (a b:BA):Bool:=Op.bytesLess a.toList b.toList
mutual
def cmpV:Va→Va→Int
 | .mk t n s l, .mk t' n' s' l'=>
  if t<t' then -1 else if t'<t then 1 else if n<n' then -1 else if n'<n then 1 else if kgx s s'=true then -1 else if kgx s' s=true then 1 else kh2 l l'
def kh2:List Va→List Va→Int
 | [],[]=>0
 | [],_::_ => -1
 | _::_,[]=>1
 | x::l,y::m=>if cmpV x y≠0 then cmpV x y else kh2 l m
end
def eqV (a b:Va):Bool:=decide (cmpV a b=0)
theorem knk:∀ l:List UInt8,Op.bytesLess l l=false
 | []=>rfl
 | x::l=>by simp [Op.bytesLess,knk l]
theorem ktp:∀ l m:List UInt8,Op.bytesLess l m=false→Op.bytesLess m l=false→l=m
 | [],[],_,_=>rfl
 | [],y::m,h,_=>by simp [Op.bytesLess] at h
 | x::l,[],_,h=>by simp [Op.bytesLess] at h
 | x::l,y::m,h,h'=>by
  simp only [Op.bytesLess,Bool.or_eq_false_iff,Bool.and_eq_false_iff,decide_eq_false_iff_not,qq] at h h'
  have hxy:x=y:=by
   have h1:=h.1
   have h2:=h'.1
   exact UInt8.le_antisymm (UInt8.not_lt.1 h2) (UInt8.not_lt.1 h1)
  subst hxy
  rw [ktp l m (h.2.resolve_left fun h=>h rfl) (h'.2.resolve_left fun h=>h rfl)]
theorem kkp {a b:BA} (h:a.toList=b.toList):a=b:=by
 rw [ByteArray.toList_eq,ByteArray.toList_eq] at h
 obtain ⟨⟨a⟩⟩:=a
 obtain ⟨⟨b⟩⟩:=b
 simp at h
 rw [h]
theorem kzq (a:BA):kgx a a=false:=knk _
theorem k3d {a b:BA} (h:kgx a b=false) (h':kgx b a=false):a=b:=kkp (ktp _ _ h h')
theorem k69 (l:List Va) (h:∀ x∈l,cmpV x x=0):kh2 l l=0:=by
 induction l with
 | nil=>rfl
 | cons x l ih=>
  rw [kh2,if_neg (by simp [h x (by simp)])]
  exact ih fun y hy=>h y (by simp [hy])
theorem k9t (v:Va):cmpV v v=0:=by
 induction v using Va.ind with
 | h t n s l ih=>
  rw [cmpV,if_neg (by omega),if_neg (by omega),if_neg (by omega),if_neg (by omega),kzq]
  simp only [qat,if_false]
  exact k69 l ih
theorem k3o:∀ (l m:List Va),(∀ x∈l,∀ y,cmpV x y=0→x=y)→kh2 l m=0→l=m
 | [],[],_,_=>rfl
 | [],_::_,_,h=>by simp [kh2] at h
 | _::_,[],_,h=>by simp [kh2] at h
 | x::l,y::m,ih,h=>by
  rw [kh2] at h
  split at h
  ·rename_i h1;exact absurd h h1
  ·rename_i h1
   have h1:cmpV x y=0:=by omega
   rw [ih x (by simp) y h1,k3o l m (fun z hz=>ih z (by simp [hz])) h]
theorem k6u (v:Va):∀ u,cmpV v u=0→v=u:=by
 induction v using Va.ind with
 | h t n s l ih=>
  rintro ⟨t',n',s',l'⟩ h
  rw [cmpV] at h
  repeat' split at h
  all_goals try (exfalso;omega)
  rename_i h1 h2 h3 h4 h5 h6
  obtain rfl:t=t':=by omega
  obtain rfl:n=n':=by omega
  obtain rfl:s=s':=k3d (by simpa using h5) (by simpa using h6)
  rw [k3o l l' ih h]
theorem k2m (v:Va):eqV v v=true:=by unfold eqV;rw [k9t];rfl
theorem k5q {v u:Va}:eqV v u=true↔v=u:=⟨fun h=>k6u v u (qae h),fun h=>by rw [h,k2m]⟩
end Go.Proofs.YtaimpcnpifoidaaGreatDoor
set_option linter.unusedVariables false
set_option linter.unusedSimpArgs false
namespace Go.Proofs.YtaimpcnpifoidaaGreatDoor
open Go Go.RowKit
theorem klr:fuel=18446744073709551615+1:=rfl
theorem kdf {n:Nat} (h:n<18446744073709551616):n<fuel:=h
theorem kcd {n:Int} (h : -9223372036854775808≤n) (h2:n≤9223372036854775807):w64 n=n:=by
 unfold w64 IntKind.wrap IntKind.signed IntKind.bits
 simp only
 rw [show (2:Int) ^ 64=18446744073709551616 from rfl]
 by_cases h0:0≤n
 ·have:n % 18446744073709551616=n:=Int.emod_eq_of_lt h0 (by omega)
  simp [this]
  omega
 ·have:n % 18446744073709551616=n+18446744073709551616:=by
   rw [← Int.add_emod_right,Int.emod_eq_of_lt (by omega) (by omega)]
  simp [this]
  omega
theorem kdr {n:Nat} (h:n≤9223372036854775806):w64 ((n:Int)+1)=((n+1:Nat):Int):=by
 rw [kcd (by omega) (by omega)];omega
theorem kaz {α:Type} (xs:List α) (n:Nat):idx xs (n:Int)=xs[n]?:=by
 unfold idx
 rw [if_pos (by omega)]
 simp
theorem kahe (s:BA) (n:Nat):byt s (n:Int)=(s[n]?).map fun c=>(c.toNat:Int):=by
 unfold byt
 rw [if_pos (by omega)]
 simp
theorem kfx {α:Type} {b:Nat} {xs ys:List α} (h:(xs.length+ys.length)*(b+1)≤140737488355328):app b xs ys=some (xs++ys):=by
 unfold app
 rw [if_pos h]
theorem k4g {s u:BA} (h:s.size+u.size≤9223372036854775807):cat s u=some (s++u):=by
 unfold cat
 rw [if_pos h]
section
variable {σ β:Type} {step:σ→Option (σ ⊕ β)}
theorem k3x (n:Nat) (S:Nat→σ) (out:Nat→β) (hs:∀ i,i<n→(step (S i)=some (.inl (S (i+1)))∧out i=out (i+1))∨step (S i)=some (.inr (out i))) (he:step (S n)=some (.inr (out n))):
  ∀ (k i:Nat),i≤n→n - i<k→kab step k (S i)=some (out i)
 | 0,i,_,h=>by omega
 | k+1,i,hi,hk=>by
  rw [kab]
  by_cases h:i=n
  ·subst h;rw [he]
  ·rcases hs i (by omega) with ⟨h1,h2⟩ | h1
   ·rw [h1,h2]
    exact k3x n S out hs he k (i+1) (by omega) (by omega)
   ·rw [h1]
theorem km6 (n:Nat) (hn:n<18446744073709551616) (S:Nat→σ) (out:Nat→β) (hs:∀ i,i<n→(step (S i)=some (.inl (S (i+1)))∧out i=out (i+1))∨step (S i)=some (.inr (out i))) (he:step (S n)=some (.inr (out n))):
  kab step fuel (S 0)=some (out 0):=k3x n S out hs he fuel 0 (qad _) (kdf (by omega))
theorem kxx (n:Nat) (hn:n<18446744073709551616) (S:Nat→σ) (b:β) (hs:∀ i,i<n→step (S i)=some (.inl (S (i+1)))) (he:step (S n)=some (.inr b)):kab step fuel (S 0)=some b:=
 km6 n hn S (fun _=>b) (fun i hi => .inl ⟨hs i hi,rfl⟩) he
theorem krx {step':σ→Option (σ ⊕ β)} (n:Nat) (hn:n<18446744073709551616) (S:Nat→σ) (hs:∀ i,i<n→(step (S i)=some (.inl (S (i+1)))∧step' (S i)=some (.inl (S (i+1))))∨∃ b,step (S i)=some (.inr b)∧step' (S i)=some (.inr b))
  (b:β) (he:step (S n)=some (.inr b)) (he':step' (S n)=some (.inr b)):∃ r,kab step fuel (S 0)=some r∧kab step' fuel (S 0)=some r:=by
 have key:∀ (k i:Nat),i≤n→n - i<k→∃ r,kab step k (S i)=some r∧kab step' k (S i)=some r:=by
  intro k
  induction k with
  | zero=>intro i _ h;omega
  | succ k ih=>
   intro i hi hk
   rw [kab,kab]
   by_cases h:i=n
   ·subst h;rw [he,he'];exact ⟨b,rfl,rfl⟩
   ·rcases hs i (by omega) with ⟨h1,h2⟩ | ⟨c,h1,h2⟩
    ·rw [h1,h2]
     exact ih (i+1) (by omega) (by omega)
    ·rw [h1,h2];exact ⟨c,rfl,rfl⟩
 exact key fuel 0 (qad _) (kdf (by omega))
end
theorem kll {σ β σ' β':Type} {step:σ→Option (σ ⊕ β)} {step':σ'→Option (σ' ⊕ β')} (n:Nat) (hn:n<18446744073709551616) (S:Nat→σ) (S':Nat→σ') (Q:β→β'→Prop)
  (hs:∀ i,i<n→(step (S i)=some (.inl (S (i+1)))∧step' (S' i)=some (.inl (S' (i+1))))∨∃ b b',step (S i)=some (.inr b)∧step' (S' i)=some (.inr b')∧Q b b')
  (he:∃ b b',step (S n)=some (.inr b)∧step' (S' n)=some (.inr b')∧Q b b'):∃ r r',kab step fuel (S 0)=some r∧kab step' fuel (S' 0)=some r'∧Q r r':=by
 have key:∀ (k i:Nat),i≤n→n - i<k→∃ r r',kab step k (S i)=some r∧kab step' k (S' i)=some r'∧Q r r':=by
  intro k
  induction k with
  | zero=>intro i _ h;omega
  | succ k ih=>
   intro i hi hk
   rw [kab,kab]
   by_cases h:i=n
   ·subst h
    obtain ⟨b,b',h1,h2,h3⟩:=he
    rw [h1,h2];exact ⟨b,b',rfl,rfl,h3⟩
   ·rcases hs i (by omega) with ⟨h1,h2⟩ | ⟨b,b',h1,h2,h3⟩
    ·rw [h1,h2]
     exact ih (i+1) (by omega) (by omega)
    ·rw [h1,h2];exact ⟨b,b',rfl,rfl,h3⟩
 exact key fuel 0 (qad _) (kdf (by omega))
end Go.Proofs.YtaimpcnpifoidaaGreatDoor
set_option linter.unusedVariables false
set_option linter.unusedSimpArgs false
namespace Go.Proofs.YtaimpcnpifoidaaGreatDoor
open Go Go.RowKit
theorem kb6 {n i:Nat} (h:i<n):decide ((i:Int)<(n:Int))=true:=qe (by omega)
theorem kho (n:Nat):decide ((n:Int)<(n:Int))=false:=qc (by omega)
theorem kvq {n m:Nat} (h:n<m) (hm:m≤9223372036854775807):w64 ((n:Int)+1)=((n+1:Nat):Int):=kdr (by omega)
end Go.Proofs.YtaimpcnpifoidaaGreatDoor
set_option linter.unusedVariables false
set_option linter.unusedSimpArgs false
set_option maxRecDepth 100000
namespace Go.Proofs.YtaimpcnpifoidaaGreatDoor
open Go Go.RowKit
def Ev {α:Type} (x:Option α) (P:α→Prop):Prop:=∃ v,x=some v∧P v
theorem kaa {α:Type} {v:α} {P:α→Prop} (h:P v):Ev (some v) P:=⟨v,rfl,h⟩
theorem Ev.eq {α:Type} {x:Option α} {v:α} (h:Ev x (·=v)):x=some v:=by obtain ⟨u,h1,rfl⟩:=h;exact h1
theorem Ev.mono {α:Type} {x:Option α} {P Q:α→Prop} (h:Ev x P) (hp:∀ v,P v→Q v):Ev x Q:=by obtain ⟨v,h1,h2⟩:=h;exact ⟨v,h1,hp v h2⟩
theorem kc5 {α β:Type} {x:Option α} {k:α→Option β} {P:β→Prop} (h:Ev x fun v=>Ev (k v) P):Ev (Option.bind x k) P:=by
 obtain ⟨v,rfl,u,h1,h2⟩:=h
 exact ⟨u,h1,h2⟩
theorem kc2 {α:Type} {c:Bool} {x y:Option α} {P:α→Prop} (h1:c=true→Ev x P) (h0:c=false→Ev y P):Ev (bif c then x else y) P:=by
 cases c
 ·exact h0 rfl
 ·exact h1 rfl
theorem k4d {α:Type} {c:Bool} {x y:Option α} {P:α→Prop} (h:c=true) (h1:Ev x P):Ev (bif c then x else y) P:=by subst h;exact h1
theorem kqf {σ β:Type} {step:σ→Option (σ ⊕ β)} {s0:σ} {Q:β→Prop} (n:Nat) (I:Nat→σ→Prop) (hn:n<18446744073709551616) (h0:I 0 s0)
  (hs:∀ i s,i<n→I i s→Ev (step s) (Sum.elim (I (i+1)) Q)) (he:∀ s,I n s→Ev (step s) fun r=>∃ b,r = .inr b∧Q b):Ev (kab step fuel s0) Q:=by
 have key:∀ (k m N:Nat) (s:σ),m+k=n→k<N→I m s→Ev (kab step N s) Q:=by
  intro k
  induction k with
  | zero=>
   intro m N s hm hN hI
   obtain ⟨N,rfl⟩:∃ j,N=j+1:=⟨N - 1,by omega⟩
   obtain rfl:m=n:=by omega
   obtain ⟨r,h1,b,rfl,h2⟩:=he s hI
   exact ⟨b,by rw [kab,h1],h2⟩
  | succ k ih=>
   intro m N s hm hN hI
   obtain ⟨N,rfl⟩:∃ j,N=j+1:=⟨N - 1,by omega⟩
   obtain ⟨r,h1,h2⟩:=hs m s (by omega) hI
   cases r with
   | inl s'=>
    obtain ⟨b,h3,h4⟩:=ih (m+1) N s' (by omega) (by omega) h2
    exact ⟨b,by rw [kab,h1];exact h3,h4⟩
   | inr b=>exact ⟨b,by rw [kab,h1],h2⟩
 exact key n 0 fuel s0 (by omega) (kdf hn) h0
theorem kqw {σ β:Type} {step:σ→Option (σ ⊕ β)} {s0:σ} {Q:β→Prop} (I:σ→Prop) (μ:σ→Nat) (hn:μ s0<18446744073709551616) (h0:I s0)
  (hs:∀ s,I s→Ev (step s) (Sum.elim (fun s'=>I s'∧μ s'<μ s) Q)):Ev (kab step fuel s0) Q:=by
 have key:∀ (N:Nat) (s:σ),μ s<N→I s→Ev (kab step N s) Q:=by
  intro N
  induction N with
  | zero=>intro s h;omega
  | succ N ih=>
   intro s h hI
   obtain ⟨r,h1,h2⟩:=hs s hI
   cases r with
   | inl s'=>
    obtain ⟨b,h3,h4⟩:=ih s' (by have:=h2.2;omega) h2.1
    exact ⟨b,by rw [kab,h1];exact h3,h4⟩
   | inr b=>exact ⟨b,by rw [kab,h1],h2⟩
 exact key fuel s0 (kdf hn) h0
theorem kmp {σ β:Type} {x:Option (σ ⊕ β)} {s:σ} {P:σ→Prop} {Q:β→Prop} (h:x=some (.inl s)) (hp:P s):Ev x (Sum.elim P Q):=⟨_,h,hp⟩
theorem kd2 {σ β:Type} {x:Option (σ ⊕ β)} {b:β} {P:σ→Prop} {Q:β→Prop} (h:x=some (.inr b)) (hq:Q b):Ev x (Sum.elim P Q):=⟨_,h,hq⟩
theorem kzg {σ β:Type} {x:Option (σ ⊕ β)} {b:β} {Q:β→Prop} (h:x=some (.inr b)) (hq:Q b):Ev x fun r=>∃ b,r = .inr b∧Q b:=⟨_,h,b,rfl,hq⟩
end Go.Proofs.YtaimpcnpifoidaaGreatDoor
