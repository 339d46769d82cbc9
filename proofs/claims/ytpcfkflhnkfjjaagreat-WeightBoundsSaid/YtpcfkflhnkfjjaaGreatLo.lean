import Derived.Test.YtpcfkflhnkfjjaaGreatPl
import Derived.Test.YtpcfkflhnkfjjaaGreatOpo
set_option linter.all false
namespace Go.Proofs.YtpcfkflhnkfjjaaGreat
open Go Go.RowKit
def runL {σ α β:Type} (f:σ->α->Option (σ ⊕ β)):List α->σ->Option (σ ⊕ β)
 | [],s=>some (.inl s)
 | x::l,s=>Option.bind (f s x) (Sum.elim (fun s'=>runL f l s') (fun b=>some (.inr b)))
theorem kyj {σ α β τ γ:Type} {step:τ->Option (τ ⊕ γ)} (xs:List α) (f:σ->α->Option (σ ⊕ β)) (mk:σ->Int->τ) (out:σ ⊕ β->γ) (c:xs.length<=9223372036854775807)
  (h:∀ (i:Nat) (x:α) (s:σ),xs[i]?=some x->step (mk s (i:Int))=(f s x).map (Sum.elim (fun s' => .inl (mk s' ((i+1:Nat):Int))) (fun b => .inr (out (.inr b)))))
  (d:∀ s,step (mk s (xs.length:Int))=some (.inr (out (.inl s)))) (s:σ):kab step fuel (mk s 0)=(runL f xs s).map out:=by
 have key:∀ (k i:Nat) (s:σ),i<=xs.length->xs.length - i<k->kab step k (mk s (i:Int))=(runL f (xs.drop i) s).map out:=by
  intro k
  induction k with
  | zero=>intro i s _ h;omega
  | succ k ih=>
   intro i s hi hk;rw [kab];by_cases hn:i=xs.length;subst hn;rw [d,qa8 (qx _)];rfl
   ·have a:i<xs.length:=(by omega);rw [h i xs[i] s (qb a),qah a,runL];cases f s xs[i] with
    | none=>rfl
    | some r=>
     cases r with
     | inl s'=>
      simp only [qbf,qg,qa];exact ih (i+1) s' (by omega) (by omega)
     | inr b=>rfl
 have:=key fuel 0 s (qaj _) (ke5 (by omega));simpa using this
theorem kav {n i:Nat} (h:i<n):decide ((i:Int)<(n:Int))=true:=qh (by omega)
theorem kaq (n:Nat):decide ((n:Int)<(n:Int))=false:=qe (by omega)
theorem kal {n m:Nat} (h:n<m) (hm:m<=9223372036854775807):w64 ((n:Int)+1)=((n+1:Nat):Int):=kcv (by omega)
theorem kc6 {α:Type} {xs:List α} {i:Nat} {x:α} (h:xs[i]?=some x):i<xs.length:=(qj.1 h).1
theorem kjm {β:Type} {step:Int->Option (Int ⊕ β)} (n:Nat) (hn:n<18446744073709551616) (bad:Nat->Bool) (b:Nat->β) (miss:β) (hs:∀ i,i<n->step (i:Int)=if bad i=true then some (.inr (b i)) else some (.inl ((i+1:Nat):Int))) (f:step (n:Int)=some (.inr miss)):
  (∃ i,i<n/\bad i=true/\(∀ j,j<i->bad j=false)/\kab step fuel 0=some (b i))\/((∀ i,i<n->bad i=false)/\kab step fuel 0=some miss):=by
 have key:∀ (k i:Nat),i<=n->n - i<k->(∀ j,j<i->bad j=false)->(∃ m,m<n/\bad m=true/\(∀ j,j<m->bad j=false)/\kab step k (i:Int)=some (b m))\/((∀ i,i<n->bad i=false)/\kab step k (i:Int)=some miss):=by
  intro k
  induction k with
  | zero=>intro i _ h;omega
  | succ k ih=>
   intro i hi hk c;rw [kab];by_cases d:i=n;subst d;rw [f];exact .inr ⟨c,rfl⟩
   ·rw [hs i (by omega)];by_cases a:bad i=true;rw [qn a];exact .inl ⟨i,by omega,a,c,rfl⟩
    ·rw [qk a];exact ih (i+1) (by omega) (by omega) fun j g=>by
      by_cases e:j=i;subst e;simpa using a
      ·exact c j (by omega)
 have:=key fuel 0 (qaj _) (ke5 (by omega)) fun j g=>by omega
 simpa using this
theorem kn6 {α σ τ:Type} {step:τ->Option (τ ⊕ σ)} (xs:List α) (r:σ->α->Option σ) (mk:Int->σ->τ) (a:xs.length<=9223372036854775807)
  (hs:∀ (i:Nat) (x:α) (s:σ),xs[i]?=some x->step (mk (i:Int) s)=(r s x).map fun v => .inl (mk ((i+1:Nat):Int) v)) (c:∀ s,step (mk (xs.length:Int) s)=some (.inr s)) (s:σ):kab step fuel (mk 0 s)=xs.foldlM r s:=by
 have h:=kyj (step:=step) xs (fun s x=>(r s x).map (.inl:σ->σ ⊕ Empty)) (fun s i=>mk i s) (Sum.elim id (fun b:Empty=>nomatch b)) a (fun i x s d=>by rw [hs i x s d];cases r s x <;> rfl) (fun s=>c s) s;rw [h];clear h hs c
 induction xs generalizing s with
 | nil=>rfl
 | cons x xs ih=>
  rw [runL,List.foldlM_cons];cases hr:r s x with
  | none=>rfl
  | some v=>
   simp only [qbf,qa,qg];exact ih (by simp only [qax] at a;omega) v
theorem kmp {α:Type} (b:Nat) (z:α) (n:Nat) (h:(b+1)*n<=281474976710656):mkL b z (n:Int)=some (List.replicate n z):=by
 unfold mkL;have c:b*n+n<=281474976710656:=by rw [Nat.add_mul,Nat.one_mul] at h;exact h
 have a:(b:Int)*(n:Int)=((b*n:Nat):Int):=(Int.natCast_mul b n).symm;rw [qn ⟨by omega,by rw [a];omega,by omega⟩];simp
end Go.Proofs.YtpcfkflhnkfjjaaGreat
