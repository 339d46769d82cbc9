import Derived.Test.YtaimpcnpifoidaaGreatDoorFin
import Derived.Test.YtaimpcnpifoidaaGreatDoorOpm
import Derived.Test.YtaimpcnpifoidaaGreatDoorOpo
set_option linter.unusedVariables false
set_option linter.unusedSimpArgs false
namespace Go.Proofs.YtaimpcnpifoidaaGreatDoor
open Go Go.RowKit
def kgt (a b:BA):Bool:=Op.bytesLess a.toList b.toList
mutual
def cmpV:Va→Va→Int
 | .mk t n s l, .mk t' n' s' l'=>
  if t<t' then -1 else if t'<t then 1 else if n<n' then -1 else if n'<n then 1 else if kgt s s'=true then -1 else if kgt s' s=true then 1 else khn l l'
def khn:List Va→List Va→Int
 | [],[]=>0
 | [],_::_ => -1
 | _::_,[]=>1
 | x::l,y::m=>if cmpV x y≠0 then cmpV x y else khn l m
end
def eqV (a b:Va):Bool:=decide (cmpV a b=0)
theorem kn4:∀ l:List UInt8,Op.bytesLess l l=false
 | []=>rfl
 | x::l=>by simp [Op.bytesLess,kn4 l]
theorem ktk:∀ l m:List UInt8,Op.bytesLess l m=false→Op.bytesLess m l=false→l=m
 | [],[],_,_=>rfl
 | [],y::m,h,_=>by simp [Op.bytesLess] at h
 | x::l,[],_,h=>by simp [Op.bytesLess] at h
 | x::l,y::m,h,h'=>by
  simp only [Op.bytesLess,Bool.or_eq_false_iff,Bool.and_eq_false_iff,decide_eq_false_iff_not,qy] at h h'
  have hxy:x=y:=by
   have h1:=h.1
   have h2:=h'.1
   exact UInt8.le_antisymm (UInt8.not_lt.1 h2) (UInt8.not_lt.1 h1)
  subst hxy
  rw [ktk l m (h.2.resolve_left fun h=>h rfl) (h'.2.resolve_left fun h=>h rfl)]
theorem kjp {a b:BA} (h:a.toList=b.toList):a=b:=by
 rw [ByteArray.toList_eq,ByteArray.toList_eq] at h
 obtain ⟨⟨a⟩⟩:=a
 obtain ⟨⟨b⟩⟩:=b
 simp at h
 rw [h]
theorem ky4 (a:BA):kgt a a=false:=kn4 _
theorem k3k {a b:BA} (h:kgt a b=false) (h':kgt b a=false):a=b:=kjp (ktk _ _ h h')
theorem k93 (l:List Va) (h:∀ x∈l,cmpV x x=0):khn l l=0:=by
 induction l with
 | nil=>rfl
 | cons x l ih=>
  rw [khn,if_neg (by simp [h x (by simp)])]
  exact ih fun y hy=>h y (by simp [hy])
theorem kaaj (v:Va):cmpV v v=0:=by
 induction v using Va.ind with
 | h t n s l ih=>
  rw [cmpV,if_neg (by omega),if_neg (by omega),if_neg (by omega),if_neg (by omega),ky4]
  simp only [qax,if_false]
  exact k93 l ih
theorem k5k:∀ (l m:List Va),(∀ x∈l,∀ y,cmpV x y=0→x=y)→khn l m=0→l=m
 | [],[],_,_=>rfl
 | [],_::_,_,h=>by simp [khn] at h
 | _::_,[],_,h=>by simp [khn] at h
 | x::l,y::m,ih,h=>by
  rw [khn] at h
  split at h
  ·rename_i h1;exact absurd h h1
  ·rename_i h1
   have h1:cmpV x y=0:=by omega
   rw [ih x (by simp) y h1,k5k l m (fun z hz=>ih z (by simp [hz])) h]
theorem k7d (v:Va):∀ u,cmpV v u=0→v=u:=by
 induction v using Va.ind with
 | h t n s l ih=>
  rintro ⟨t',n',s',l'⟩ h
  rw [cmpV] at h
  repeat' split at h
  all_goals try (exfalso;omega)
  rename_i h1 h2 h3 h4 h5 h6
  obtain rfl:t=t':=by omega
  obtain rfl:n=n':=by omega
  obtain rfl:s=s':=k3k (by simpa using h5) (by simpa using h6)
  rw [k5k l l' ih h]
theorem k32 (v:Va):eqV v v=true:=by unfold eqV;rw [kaaj];rfl
theorem k0x {v u:Va}:eqV v u=true↔v=u:=⟨fun h=>k7d v u (q9 h),fun h=>by rw [h,k32]⟩
end Go.Proofs.YtaimpcnpifoidaaGreatDoor
set_option linter.unusedVariables false
set_option linter.unusedSimpArgs false
namespace Go.Proofs.YtaimpcnpifoidaaGreatDoor
open Go Go.RowKit
theorem kne:fuel=18446744073709551615+1:=rfl
theorem kbg {n:Nat} (h:n<18446744073709551616):n<fuel:=h
theorem kei {n:Int} (h : -9223372036854775808≤n) (h2:n≤9223372036854775807):w64 n=n:=by
 unfold w64 IntKind.wrap IntKind.signed IntKind.bits
 simp only
 rw [show (2:Int) ^ 64=18446744073709551616 from rfl]
 by_cases h0:0≤n
 ·have:n % 18446744073709551616=n:=Int.emod_eq_of_lt h0 (by omega)
  simp [this]
  omega
 ·have:n % 18446744073709551616=n+18446744073709551616:=by
   rw [← Int.add_emod_right,Int.emod_eq_of_lt (by omega) (by omega)]
  simp [this]
  omega
theorem kb9 {n:Nat} (h:n≤9223372036854775806):w64 ((n:Int)+1)=((n+1:Nat):Int):=by
 rw [kei (by omega) (by omega)];omega
theorem kak {α:Type} (xs:List α) (n:Nat):idx xs (n:Int)=xs[n]?:=by
 unfold idx
 rw [if_pos (by omega)]
 simp
theorem kaib (s:BA) (n:Nat):byt s (n:Int)=(s[n]?).map fun c=>(c.toNat:Int):=by
 unfold byt
 rw [if_pos (by omega)]
 simp
theorem kk9 {α:Type} {b:Nat} {xs ys:List α} (h:(xs.length+ys.length)*(b+1)≤140737488355328):app b xs ys=some (xs++ys):=by
 unfold app
 rw [if_pos h]
theorem kakf {s u:BA} (h:s.size+u.size≤9223372036854775807):cat s u=some (s++u):=by
 unfold cat
 rw [if_pos h]
section
variable {σ β:Type} {step:σ→Option (σ ⊕ β)}
theorem k3u (n:Nat) (S:Nat→σ) (out:Nat→β) (hs:∀ i,i<n→(step (S i)=some (.inl (S (i+1)))∧out i=out (i+1))∨step (S i)=some (.inr (out i))) (he:step (S n)=some (.inr (out n))):
  ∀ (k i:Nat),i≤n→n - i<k→kaa step k (S i)=some (out i)
 | 0,i,_,h=>by omega
 | k+1,i,hi,hk=>by
  rw [kaa]
  by_cases h:i=n
  ·subst h;rw [he]
  ·rcases hs i (by omega) with ⟨h1,h2⟩ | h1
   ·rw [h1,h2]
    exact k3u n S out hs he k (i+1) (by omega) (by omega)
   ·rw [h1]
theorem kkp (n:Nat) (hn:n<18446744073709551616) (S:Nat→σ) (out:Nat→β) (hs:∀ i,i<n→(step (S i)=some (.inl (S (i+1)))∧out i=out (i+1))∨step (S i)=some (.inr (out i))) (he:step (S n)=some (.inr (out n))):
  kaa step fuel (S 0)=some (out 0):=k3u n S out hs he fuel 0 (qx _) (kbg (by omega))
theorem kum (n:Nat) (hn:n<18446744073709551616) (S:Nat→σ) (b:β) (hs:∀ i,i<n→step (S i)=some (.inl (S (i+1)))) (he:step (S n)=some (.inr b)):kaa step fuel (S 0)=some b:=
 kkp n hn S (fun _=>b) (fun i hi => .inl ⟨hs i hi,rfl⟩) he
theorem kpr {step':σ→Option (σ ⊕ β)} (n:Nat) (hn:n<18446744073709551616) (S:Nat→σ) (hs:∀ i,i<n→(step (S i)=some (.inl (S (i+1)))∧step' (S i)=some (.inl (S (i+1))))∨∃ b,step (S i)=some (.inr b)∧step' (S i)=some (.inr b))
  (b:β) (he:step (S n)=some (.inr b)) (he':step' (S n)=some (.inr b)):∃ r,kaa step fuel (S 0)=some r∧kaa step' fuel (S 0)=some r:=by
 have key:∀ (k i:Nat),i≤n→n - i<k→∃ r,kaa step k (S i)=some r∧kaa step' k (S i)=some r:=by
  intro k
  induction k with
  | zero=>intro i _ h;omega
  | succ k ih=>
   intro i hi hk
   rw [kaa,kaa]
   by_cases h:i=n
   ·subst h;rw [he,he'];exact ⟨b,rfl,rfl⟩
   ·rcases hs i (by omega) with ⟨h1,h2⟩ | ⟨c,h1,h2⟩
    ·rw [h1,h2]
     exact ih (i+1) (by omega) (by omega)
    ·rw [h1,h2];exact ⟨c,rfl,rfl⟩
 exact key fuel 0 (qx _) (kbg (by omega))
end
theorem kjf {σ β σ' β':Type} {step:σ→Option (σ ⊕ β)} {step':σ'→Option (σ' ⊕ β')} (n:Nat) (hn:n<18446744073709551616) (S:Nat→σ) (S':Nat→σ') (Q:β→β'→Prop)
  (hs:∀ i,i<n→(step (S i)=some (.inl (S (i+1)))∧step' (S' i)=some (.inl (S' (i+1))))∨∃ b b',step (S i)=some (.inr b)∧step' (S' i)=some (.inr b')∧Q b b')
  (he:∃ b b',step (S n)=some (.inr b)∧step' (S' n)=some (.inr b')∧Q b b'):∃ r r',kaa step fuel (S 0)=some r∧kaa step' fuel (S' 0)=some r'∧Q r r':=by
 have key:∀ (k i:Nat),i≤n→n - i<k→∃ r r',kaa step k (S i)=some r∧kaa step' k (S' i)=some r'∧Q r r':=by
  intro k
  induction k with
  | zero=>intro i _ h;omega
  | succ k ih=>
   intro i hi hk
   rw [kaa,kaa]
   by_cases h:i=n
   ·subst h
    obtain ⟨b,b',h1,h2,h3⟩:=he
    rw [h1,h2];exact ⟨b,b',rfl,rfl,h3⟩
   ·rcases hs i (by omega) with ⟨h1,h2⟩ | ⟨b,b',h1,h2,h3⟩
    ·rw [h1,h2]
     exact ih (i+1) (by omega) (by omega)
    ·rw [h1,h2];exact ⟨b,b',rfl,rfl,h3⟩
 exact key fuel 0 (qx _) (kbg (by omega))
end Go.Proofs.YtaimpcnpifoidaaGreatDoor
set_option linter.unusedVariables false
set_option linter.unusedSimpArgs false
namespace Go.Proofs.YtaimpcnpifoidaaGreatDoor
open Go Go.RowKit
def runL {σ α β:Type} (f:σ→α→Option (σ ⊕ β)):List α→σ→Option (σ ⊕ β)
 | [],s=>some (.inl s)
 | x::l,s=>Option.bind (f s x) (Sum.elim (fun s'=>runL f l s') (fun b=>some (.inr b)))
theorem kac7 {σ α β τ γ:Type} {step:τ→Option (τ ⊕ γ)} (xs:List α) (f:σ→α→Option (σ ⊕ β)) (mk:σ→Int→τ) (out:σ ⊕ β→γ) (hlen:xs.length≤9223372036854775807)
  (h:∀ (i:Nat) (x:α) (s:σ),xs[i]?=some x→step (mk s (i:Int))=(f s x).map (Sum.elim (fun s' => .inl (mk s' ((i+1:Nat):Int))) (fun b => .inr (out (.inr b)))))
  (he:∀ s,step (mk s (xs.length:Int))=some (.inr (out (.inl s)))) (s:σ):kaa step fuel (mk s 0)=(runL f xs s).map out:=by
 have key:∀ (k i:Nat) (s:σ),i≤xs.length→xs.length - i<k→kaa step k (mk s (i:Int))=(runL f (xs.drop i) s).map out:=by
  intro k
  induction k with
  | zero=>intro i s _ h;omega
  | succ k ih=>
   intro i s hi hk
   rw [kaa]
   by_cases hn:i=xs.length
   ·subst hn
    rw [he,qaf (qw _)]
    rfl
   ·have hlt:i<xs.length:=by omega
    rw [h i xs[i] s (List.getElem?_eq_getElem hlt),qv hlt,runL]
    cases f s xs[i] with
    | none=>rfl
    | some r=>
     cases r with
     | inl s'=>
      simp only [qa6,qf,qa]
      exact ih (i+1) s' (by omega) (by omega)
     | inr b=>rfl
 have:=key fuel 0 s (qx _) (kbg (by omega))
 simpa using this
theorem kbb {n i:Nat} (h:i<n):decide ((i:Int)<(n:Int))=true:=qe (by omega)
theorem kez (n:Nat):decide ((n:Int)<(n:Int))=false:=qc (by omega)
theorem kg9 {n m:Nat} (h:n<m) (hm:m≤9223372036854775807):w64 ((n:Int)+1)=((n+1:Nat):Int):=kb9 (by omega)
theorem k4v {α:Type} {xs:List α} {i:Nat} {x:α} (h:xs[i]?=some x):i<xs.length:=(List.getElem?_eq_some_iff.1 h).1
theorem kxr {α σ τ:Type} {step:τ→Option (τ ⊕ σ)} (xs:List α) (r:σ→α→Option σ) (mk:Int→σ→τ) (hlen:xs.length≤9223372036854775807)
  (hs:∀ (i:Nat) (x:α) (s:σ),xs[i]?=some x→step (mk (i:Int) s)=(r s x).map fun v => .inl (mk ((i+1:Nat):Int) v)) (he:∀ s,step (mk (xs.length:Int) s)=some (.inr s)) (s:σ):kaa step fuel (mk 0 s)=xs.foldlM r s:=by
 have h:=kac7 (step:=step) xs (fun s x=>(r s x).map (.inl:σ→σ ⊕ Empty)) (fun s i=>mk i s) (Sum.elim id (fun b:Empty=>nomatch b)) hlen (fun i x s hx=>by
  rw [hs i x s hx]
  cases r s x <;> rfl) (fun s=>he s) s
 rw [h]
 clear h hs he
 induction xs generalizing s with
 | nil=>rfl
 | cons x xs ih=>
  rw [runL,List.foldlM_cons]
  cases hr:r s x with
  | none=>rfl
  | some v=>
   simp only [qa6,qa,qf]
   exact ih (by simp only [qq] at hlen;omega) v
end Go.Proofs.YtaimpcnpifoidaaGreatDoor
set_option linter.unusedVariables false
set_option linter.unusedSimpArgs false
set_option maxRecDepth 100000
namespace Go.Proofs.YtaimpcnpifoidaaGreatDoor
open Go Go.RowKit
def Ev {α:Type} (x:Option α) (P:α→Prop):Prop:=∃ v,x=some v∧P v
theorem kaf {α:Type} {v:α} {P:α→Prop} (h:P v):Ev (some v) P:=⟨v,rfl,h⟩
theorem Ev.eq {α:Type} {x:Option α} {v:α} (h:Ev x (·=v)):x=some v:=by obtain ⟨u,h1,rfl⟩:=h;exact h1
theorem Ev.mono {α:Type} {x:Option α} {P Q:α→Prop} (h:Ev x P) (hp:∀ v,P v→Q v):Ev x Q:=by obtain ⟨v,h1,h2⟩:=h;exact ⟨v,h1,hp v h2⟩
theorem kdy {α β:Type} {x:Option α} {k:α→Option β} {P:β→Prop} (h:Ev x fun v=>Ev (k v) P):Ev (Option.bind x k) P:=by
 obtain ⟨v,rfl,u,h1,h2⟩:=h
 exact ⟨u,h1,h2⟩
theorem kdk {α:Type} {c:Bool} {x y:Option α} {P:α→Prop} (h1:c=true→Ev x P) (h0:c=false→Ev y P):Ev (bif c then x else y) P:=by
 cases c
 ·exact h0 rfl
 ·exact h1 rfl
theorem ki5 {σ β:Type} {step:σ→Option (σ ⊕ β)} {s0:σ} {Q:β→Prop} (n:Nat) (I:Nat→σ→Prop) (hn:n<18446744073709551616) (h0:I 0 s0)
  (hs:∀ i s,i<n→I i s→Ev (step s) (Sum.elim (I (i+1)) Q)) (he:∀ s,I n s→Ev (step s) fun r=>∃ b,r = .inr b∧Q b):Ev (kaa step fuel s0) Q:=by
 have key:∀ (k m N:Nat) (s:σ),m+k=n→k<N→I m s→Ev (kaa step N s) Q:=by
  intro k
  induction k with
  | zero=>
   intro m N s hm hN hI
   obtain ⟨N,rfl⟩:∃ j,N=j+1:=⟨N - 1,by omega⟩
   obtain rfl:m=n:=by omega
   obtain ⟨r,h1,b,rfl,h2⟩:=he s hI
   exact ⟨b,by rw [kaa,h1],h2⟩
  | succ k ih=>
   intro m N s hm hN hI
   obtain ⟨N,rfl⟩:∃ j,N=j+1:=⟨N - 1,by omega⟩
   obtain ⟨r,h1,h2⟩:=hs m s (by omega) hI
   cases r with
   | inl s'=>
    obtain ⟨b,h3,h4⟩:=ih (m+1) N s' (by omega) (by omega) h2
    exact ⟨b,by rw [kaa,h1];exact h3,h4⟩
   | inr b=>exact ⟨b,by rw [kaa,h1],h2⟩
 exact key n 0 fuel s0 (by omega) (kbg hn) h0
theorem km0 {σ β:Type} {x:Option (σ ⊕ β)} {s:σ} {P:σ→Prop} {Q:β→Prop} (h:x=some (.inl s)) (hp:P s):Ev x (Sum.elim P Q):=⟨_,h,hp⟩
theorem kow {σ β:Type} {x:Option (σ ⊕ β)} {b:β} {P:σ→Prop} {Q:β→Prop} (h:x=some (.inr b)) (hq:Q b):Ev x (Sum.elim P Q):=⟨_,h,hq⟩
theorem klu {σ β:Type} {x:Option (σ ⊕ β)} {b:β} {Q:β→Prop} (h:x=some (.inr b)) (hq:Q b):Ev x fun r=>∃ b,r = .inr b∧Q b:=⟨_,h,b,rfl,hq⟩
def selN (p:Nat→Bool) (n:Nat):List Nat:=(List.range n).filter p
theorem kaeg {p:Nat→Bool} {n:Nat} (h:p n=true):selN p (n+1)=selN p n++[n]:=by simp [selN,List.range_succ,List.filter_append,h]
theorem kahi {p:Nat→Bool} {n:Nat} (h:p n=false):selN p (n+1)=selN p n:=by simp [selN,List.range_succ,List.filter_append,h]
theorem kxg (p:Nat→Bool) (n:Nat):(selN p n).length≤n:=by
 have:=List.length_filter_le p (List.range n)
 simpa [selN] using this
theorem mem_selN {p:Nat→Bool} {n i:Nat}:i∈selN p n↔i<n∧p i=true:=by simp [selN]
theorem k5w (p:Nat→Bool) (n:Nat):(selN p n).Pairwise (·<·):=List.Pairwise.filter _ List.pairwise_lt_range
end Go.Proofs.YtaimpcnpifoidaaGreatDoor
