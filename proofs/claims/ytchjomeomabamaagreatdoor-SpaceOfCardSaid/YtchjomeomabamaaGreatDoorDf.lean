import Derived.Test.YtchjomeomabamaaGreatDoorDrawE
import Derived.Test.YtchjomeomabamaaGreatDoorOpm
import Derived.Test.YtchjomeomabamaaGreatDoorDrz
import Derived.Test.YtchjomeomabamaaGreatDoorZE
set_option linter.all false
namespace Go.Proofs.YtchjomeomabamaaGreatDoor
open Go Go.RowKit
def kgz (a b:BA):Bool:=Op.bytesLess a.toList b.toList
mutual
def cmpV:Va->Va->Int
 | .mk t n s l, .mk t' n' s' l'=>
  if t<t' then -1 else if t'<t then 1 else if n<n' then -1 else if n'<n then 1 else if kgz s s'=true then -1 else if kgz s' s=true then 1 else kh0 l l'
def kh0:List Va->List Va->Int
 | [],[]=>0
 | [],_::_ => -1
 | _::_,[]=>1
 | x::l,y::m=>if cmpV x y≠0 then cmpV x y else kh0 l m
end
def eqV (a b:Va):Bool:=decide (cmpV a b=0)
theorem kmt:∀ l:List UInt8,Op.bytesLess l l=false
 | []=>rfl
 | x::l=>by simp [Op.bytesLess,kmt l]
theorem ksk:∀ l m:List UInt8,Op.bytesLess l m=false->Op.bytesLess m l=false->l=m
 | [],[],_,_=>rfl
 | [],y::m,h,_=>by simp [Op.bytesLess] at h
 | x::l,[],_,h=>by simp [Op.bytesLess] at h
 | x::l,y::m,h,a=>by
  simp only [Op.bytesLess,Bool.or_eq_false_iff,Bool.and_eq_false_iff,qbh,qa2] at h a;have b:x=y:=by have h1:=h.1;have c:=a.1;exact UInt8.le_antisymm (UInt8.not_lt.1 c) (UInt8.not_lt.1 h1)
  subst b;rw [ksk l m (h.2.resolve_left fun h=>h rfl) (a.2.resolve_left fun h=>h rfl)]
theorem kti {a b:BA} (h:a.toList=b.toList):a=b:=by rw [ByteArray.toList_eq,ByteArray.toList_eq] at h;obtain ⟨⟨a⟩⟩:=a;obtain ⟨⟨b⟩⟩:=b;simp at h;rw [h]
theorem kxq (a:BA):kgz a a=false:=kmt _
theorem k25 {a b:BA} (h:kgz a b=false) (c:kgz b a=false):a=b:=kti (ksk _ _ h c)
theorem k5j (l:List Va) (h:∀ x∈l,cmpV x x=0):kh0 l l=0:=by
 induction l with
 | nil=>rfl
 | cons x l ih=>
  rw [kh0,ql (by simp [h x (by simp)])];exact ih fun y hy=>h y (by simp [hy])
theorem k7y (v:Va):cmpV v v=0:=by
 induction v using Va.ind with
 | h t n s l ih=>
  rw [cmpV,ql (by omega),ql (by omega),ql (by omega),ql (by omega),kxq];simp only [Bool.false_eq_true,if_false];exact k5j l ih
theorem k26:∀ (l m:List Va),(∀ x∈l,∀ y,cmpV x y=0->x=y)->kh0 l m=0->l=m
 | [],[],_,_=>rfl
 | [],_::_,_,h=>by simp [kh0] at h
 | _::_,[],_,h=>by simp [kh0] at h
 | x::l,y::m,ih,h=>by
  rw [kh0] at h;split at h;rename_i h1;exact absurd h h1
  ·rename_i h1;have h1:cmpV x y=0:=(by omega);rw [ih x (by simp) y h1,k26 l m (fun z a=>ih z (by simp [a])) h]
theorem kac1 (v:Va):∀ u,cmpV v u=0->v=u:=by
 induction v using Va.ind with
 | h t n s l ih=>
  rintro ⟨t',n',s',l'⟩ h;rw [cmpV] at h
  repeat' split at h
  all_goals try (exfalso;omega)
  rename_i h1 c d e a b;obtain rfl:t=t':=by omega
  obtain rfl:n=n':=by omega
  obtain rfl:s=s':=k25 (by simpa using a) (by simpa using b);rw [k26 l l' ih h]
theorem k9j (v:Va):eqV v v=true:=by unfold eqV;rw [k7y];rfl
theorem koh:fuel=18446744073709551615+1:=rfl
theorem kb7 {n:Nat} (h:n<18446744073709551616):n<fuel:=h
theorem kgv {n:Int} (h: -9223372036854775808<=n:=by omega) (a:n<=9223372036854775807:=by omega):w64 n=n:=by
 unfold w64 IntKind.wrap IntKind.signed IntKind.bits;simp only;rw [show (2:Int) ^ 64=18446744073709551616 from rfl];by_cases h0:0<=n;have:n % 18446744073709551616=n:=Int.emod_eq_of_lt h0 (by omega);simp [this];omega
 ·have:n % 18446744073709551616=n+18446744073709551616:=by rw [<- Int.add_emod_right,Int.emod_eq_of_lt (by omega) (by omega)]
  simp [this];omega
theorem kbh (n:Nat) (h:n<=9223372036854775806:=by omega):w64 ((n:Int)+1)=((n+1:Nat):Int):=by rw [kgv];omega
theorem kac {α:Type} (xs:List α) (n:Nat):idx xs (n:Int)=xs[n]?:=by unfold idx;rw [qp (by omega)];simp
theorem kacc (s:BA) (n:Nat):byt s (n:Int)=(s[n]?).map fun c=>(c.toNat:Int):=by unfold byt;rw [qp (by omega)];simp
theorem kcv {α:Type} {b:Nat} {xs ys:List α} (h:(xs.length+ys.length)*(b+1)<=140737488355328):app b xs ys=some (xs++ys):=by unfold app;rw [qp h]
variable {σ β:Type} {step:σ->Option (σ ⊕ β)}
theorem k3a (n:Nat) (S:Nat->σ) (out:Nat->β) (hs:∀ i,i<n->(step (S i)=some (.inl (S (i+1)))/\out i=out (i+1))\/step (S i)=some (.inr (out i))) (a:step (S n)=some (.inr (out n))):
  ∀ (k i:Nat),i<=n->n - i<k->kab step k (S i)=some (out i)
 | 0,i,_,h=>by omega
 | k+1,i,hi,hk=>by
  rw [kab];by_cases h:i=n;subst h;rw [a]
  ·rcases hs i (by omega) with ⟨h1,b⟩ | h1;rw [h1,b];exact k3a n S out hs a k (i+1) (by omega) (by omega)
   ·rw [h1]
theorem kjj (step:σ->Option (σ ⊕ β)) (n:Nat) (S:Nat->σ) (out:Nat->β) (hs:∀ i,i<n->(step (S i)=some (.inl (S (i+1)))/\out i=out (i+1))\/step (S i)=some (.inr (out i))) (a:step (S n)=some (.inr (out n))) (hn:n<18446744073709551616:=by omega):
  kab step fuel (S 0)=some (out 0):=k3a n S out hs a fuel 0 (qau _) (kb7 (by omega))
theorem kin (step:σ->Option (σ ⊕ β)) (n:Nat) (S:Nat->σ) (b:β) (hs:∀ i,i<n->step (S i)=some (.inl (S (i+1)))) (a:step (S n)=some (.inr b)) (hn:n<18446744073709551616:=by omega):kab step fuel (S 0)=some b:=
 kjj _ n S (fun _=>b) (fun i hi => .inl ⟨hs i hi,rfl⟩) a (hn:=hn)
theorem koe (step:σ->Option (σ ⊕ β)) (step':σ->Option (σ ⊕ β)) (n:Nat) (S:Nat->σ) (hs:∀ i,i<n->(step (S i)=some (.inl (S (i+1)))/\step' (S i)=some (.inl (S (i+1))))\/∃ b,step (S i)=some (.inr b)/\step' (S i)=some (.inr b)) (b:β) (e:step (S n)=some (.inr b)) (a:step' (S n)=some (.inr b)) (hn:n<18446744073709551616:=by omega):∃ r,kab step fuel (S 0)=some r/\kab step' fuel (S 0)=some r:=by
 have key:∀ (k i:Nat),i<=n->n - i<k->∃ r,kab step k (S i)=some r/\kab step' k (S i)=some r:=by
  intro k
  induction k with
  | zero=>intro i _ h;omega
  | succ k ih=>
   intro i hi hk;rw [kab,kab];by_cases h:i=n;subst h;rw [e,a];exact ⟨b,rfl,rfl⟩
   ·rcases hs i (by omega) with ⟨h1,d⟩ | ⟨c,h1,d⟩;rw [h1,d];exact ih (i+1) (by omega) (by omega)
    ·rw [h1,d];exact ⟨c,rfl,rfl⟩
 exact key fuel 0 (qau _) (kb7 (by omega))
theorem kkb {σ β σ' β':Type} {step:σ->Option (σ ⊕ β)} {step':σ'->Option (σ' ⊕ β')} (n:Nat) (hn:n<18446744073709551616) (S:Nat->σ) (S':Nat->σ') (Q:β->β'->Prop)
  (hs:∀ i,i<n->(step (S i)=some (.inl (S (i+1)))/\step' (S' i)=some (.inl (S' (i+1))))\/∃ b b',step (S i)=some (.inr b)/\step' (S' i)=some (.inr b')/\Q b b')
  (d:∃ b b',step (S n)=some (.inr b)/\step' (S' n)=some (.inr b')/\Q b b'):∃ r r',kab step fuel (S 0)=some r/\kab step' fuel (S' 0)=some r'/\Q r r':=by
 have key:∀ (k i:Nat),i<=n->n - i<k->∃ r r',kab step k (S i)=some r/\kab step' k (S' i)=some r'/\Q r r':=by
  intro k
  induction k with
  | zero=>intro i _ h;omega
  | succ k ih=>
   intro i hi hk;rw [kab,kab];by_cases h:i=n;subst h;obtain ⟨b,b',h1,a,c⟩:=d;rw [h1,a];exact ⟨b,b',rfl,rfl,c⟩
   ·rcases hs i (by omega) with ⟨h1,a⟩ | ⟨b,b',h1,a,c⟩;rw [h1,a];exact ih (i+1) (by omega) (by omega)
    ·rw [h1,a];exact ⟨b,b',rfl,rfl,c⟩
 exact key fuel 0 (qau _) (kb7 (by omega))
def runL {σ α β:Type} (f:σ->α->Option (σ ⊕ β)):List α->σ->Option (σ ⊕ β)
 | [],s=>some (.inl s)
 | x::l,s=>Option.bind (f s x) (Sum.elim (fun s'=>runL f l s') (fun b=>some (.inr b)))
theorem k9w {σ α β τ γ:Type} (step:τ->Option (τ ⊕ γ)) (xs:List α) (f:σ->α->Option (σ ⊕ β)) (mk:σ->Int->τ) (out:σ ⊕ β->γ) (c:xs.length<=9223372036854775807) (h:∀ (i:Nat) (x:α) (s:σ),xs[i]?=some x->step (mk s (i:Int))=(f s x).map (Sum.elim (fun s' => .inl (mk s' ((i+1:Nat):Int))) (fun b => .inr (out (.inr b))))) (d:∀ s,step (mk s (xs.length:Int))=some (.inr (out (.inl s)))) (s:σ):kab step fuel (mk s 0)=(runL f xs s).map out:=by
 have key:∀ (k i:Nat) (s:σ),i<=xs.length->xs.length - i<k->kab step k (mk s (i:Int))=(runL f (xs.drop i) s).map out:=by
  intro k
  induction k with
  | zero=>intro i s _ h;omega
  | succ k ih=>
   intro i s hi hk;rw [kab];by_cases hn:i=xs.length;subst hn;rw [d,qbo (qx _)];rfl
   ·have a:i<xs.length:=(by omega);rw [h i xs[i] s (qa a),qay a,runL];cases f s xs[i] with
    | none=>rfl
    | some r=>
     cases r with
     | inl s'=>
      simp only [qax,q9,qb];exact ih (i+1) s' (by omega) (by omega)
     | inr b=>rfl
 have:=key fuel 0 s (qau _) (kb7 (by omega));simpa using this
theorem kaq {n i:Nat} (h:i<n):decide ((i:Int)<(n:Int))=true:=qh (by omega)
theorem kal (n:Nat):decide ((n:Int)<(n:Int))=false:=qg (by omega)
theorem kaj {n m:Nat} (h:n<m) (hm:m<=9223372036854775807):w64 ((n:Int)+1)=((n+1:Nat):Int):=kbh _
theorem kcg {α:Type} {xs:List α} {i:Nat} {x:α} (h:xs[i]?=some x):i<xs.length:=(qf.1 h).1
theorem kjo {β:Type} (step:Int->Option (Int ⊕ β)) (n:Nat) (bad:Nat->Bool) (b:Nat->β) (miss:β) (hs:∀ i,i<n->step (i:Int)=if bad i=true then some (.inr (b i)) else some (.inl ((i+1:Nat):Int))) (f:step (n:Int)=some (.inr miss)) (hn:n<18446744073709551616:=by omega):
  (∃ i,i<n/\bad i=true/\(∀ j,j<i->bad j=false)/\kab step fuel 0=some (b i))\/((∀ i,i<n->bad i=false)/\kab step fuel 0=some miss):=by
 have key:∀ (k i:Nat),i<=n->n - i<k->(∀ j,j<i->bad j=false)->(∃ m,m<n/\bad m=true/\(∀ j,j<m->bad j=false)/\kab step k (i:Int)=some (b m))\/((∀ i,i<n->bad i=false)/\kab step k (i:Int)=some miss):=by
  intro k
  induction k with
  | zero=>intro i _ h;omega
  | succ k ih=>
   intro i hi hk c;rw [kab];by_cases d:i=n;subst d;rw [f];exact .inr ⟨c,rfl⟩
   ·rw [hs i (by omega)];by_cases a:bad i=true;rw [qp a];exact .inl ⟨i,by omega,a,c,rfl⟩
    ·rw [ql a];exact ih (i+1) (by omega) (by omega) fun j g=>by
      by_cases e:j=i;subst e;simpa using a
      ·exact c j (by omega)
 have:=key fuel 0 (qau _) (kb7 (by omega)) fun j g=>by omega
 simpa using this
theorem kwm {α σ τ:Type} {step:τ->Option (τ ⊕ σ)} (xs:List α) (r:σ->α->Option σ) (mk:Int->σ->τ) (a:xs.length<=9223372036854775807)
  (hs:∀ (i:Nat) (x:α) (s:σ),xs[i]?=some x->step (mk (i:Int) s)=(r s x).map fun v => .inl (mk ((i+1:Nat):Int) v)) (c:∀ s,step (mk (xs.length:Int) s)=some (.inr s)) (s:σ):kab step fuel (mk 0 s)=xs.foldlM r s:=by
 have h:=k9w step xs (fun s x=>(r s x).map (.inl:σ->σ ⊕ Empty)) (fun s i=>mk i s) (Sum.elim id (fun b:Empty=>nomatch b)) a (fun i x s d=>by rw [hs i x s d];cases r s x <;> rfl) (fun s=>c s) s;rw [h];clear h hs c
 induction xs generalizing s with
 | nil=>rfl
 | cons x xs ih=>
  rw [runL,List.foldlM_cons];cases hr:r s x with
  | none=>rfl
  | some v=>
   simp only [qax,qb,q9];exact ih (by simp only [qbd] at a;omega) v
theorem krz {α:Type} (b:Nat) (z:α) (n:Nat) (h:(b+1)*n<=281474976710656:=by omega):mkL b z (n:Int)=some (List.replicate n z):=by
 unfold mkL;have c:b*n+n<=281474976710656:=by rw [qbg,Nat.one_mul] at h;exact h
 have a:(b:Int)*(n:Int)=((b*n:Nat):Int):=(Int.natCast_mul b n).symm;rw [qp ⟨by omega,by rw [a];omega,by omega⟩];simp
set_option maxRecDepth 100000
def Ev {α:Type} (x:Option α) (P:α->Prop):Prop:=∃ v,x=some v/\P v
theorem Ev.eq {α:Type} {x:Option α} {v:α} (h:Ev x (·=v)):x=some v:=by obtain ⟨u,h1,rfl⟩:=h;exact h1
theorem Ev.mono {α:Type} {x:Option α} {P Q:α->Prop} (h:Ev x P) (hp:∀ v,P v->Q v):Ev x Q:=by obtain ⟨v,h1,a⟩:=h;exact ⟨v,h1,hp v a⟩
theorem kdp {α β:Type} {x:Option α} {k:α->Option β} {P:β->Prop} (h:Ev x fun v=>Ev (k v) P):Ev (Option.bind x k) P:=by obtain ⟨v,rfl,u,h1,a⟩:=h;exact ⟨u,h1,a⟩
theorem kj2 {σ β:Type} {step:σ->Option (σ ⊕ β)} {s0:σ} {Q:β->Prop} (n:Nat) (I:Nat->σ->Prop) (hn:n<18446744073709551616) (h0:I 0 s0)
  (hs:∀ i s,i<n->I i s->Ev (step s) (Sum.elim (I (i+1)) Q)) (d:∀ s,I n s->Ev (step s) fun r=>∃ b,r = .inr b/\Q b):Ev (kab step fuel s0) Q:=by
 have key:∀ (k m N:Nat) (s:σ),m+k=n->k<N->I m s->Ev (kab step N s) Q:=by
  intro k
  induction k with
  | zero=>
   intro m N s hm e c;obtain ⟨N,rfl⟩:∃ j,N=j+1:=⟨N - 1,by omega⟩;obtain rfl:m=n:=(by omega);obtain ⟨r,h1,b,rfl,a⟩:=d s c;exact ⟨b,by rw [kab,h1],a⟩
  | succ k ih=>
   intro m N s hm e c;obtain ⟨N,rfl⟩:∃ j,N=j+1:=⟨N - 1,by omega⟩;obtain ⟨r,h1,a⟩:=hs m s (by omega) c;cases r with
   | inl s'=>
    obtain ⟨b,f,g⟩:=ih (m+1) N s' (by omega) (by omega) a;exact ⟨b,by rw [kab,h1];exact f,g⟩
   | inr b=>exact ⟨b,by rw [kab,h1],a⟩
 exact key n 0 fuel s0 (by omega) (kb7 hn) h0
theorem kpv {σ β:Type} {step:σ->Option (σ ⊕ β)} {s0:σ} {Q:β->Prop} (I:σ->Prop) (μ:σ->Nat) (hn:μ s0<18446744073709551616) (h0:I s0)
  (hs:∀ s,I s->Ev (step s) (Sum.elim (fun s'=>I s'/\μ s'<μ s) Q)):Ev (kab step fuel s0) Q:=by
 have key:∀ (N:Nat) (s:σ),μ s<N->I s->Ev (kab step N s) Q:=by
  intro N
  induction N with
  | zero=>intro s h;omega
  | succ N ih=>
   intro s h c;obtain ⟨r,h1,a⟩:=hs s c;cases r with
   | inl s'=>
    obtain ⟨b,d,e⟩:=ih s' (by have:=a.2;omega) a.1;exact ⟨b,by rw [kab,h1];exact d,e⟩
   | inr b=>exact ⟨b,by rw [kab,h1],a⟩
 exact key fuel s0 (kb7 hn) h0
theorem kcy {α σ τ β:Type} {xs:List α} {step:σ->Option (σ ⊕ β)} {Q:β->Prop} (mk:Nat->τ->σ) (I:Nat->τ->Prop) {t0:τ} (hn:xs.length<=9223372036854775807) (h0:I 0 t0)
  (hs:∀ i t (hi:i<xs.length),I i t->Ev (step (mk i t)) (Sum.elim (fun s=>∃ t',s=mk (i+1) t'/\I (i+1) t') Q)) (a:∀ t,I xs.length t->Ev (step (mk xs.length t)) fun r=>∃ b,r = .inr b/\Q b):Ev (kab step fuel (mk 0 t0)) Q:=by
 refine kj2 xs.length (fun i s=>∃ t,s=mk i t/\I i t) (by omega) ⟨t0,rfl,h0⟩ (fun i s hi ⟨t,e,h⟩=>?_) (fun s ⟨t,e,h⟩=>?_);subst e;exact hs i t hi h
 ·subst e;exact a t h
abbrev Opn:=Sac
abbrev Nod:=Saa
abbrev Spa:=Sad
mutual
inductive Bt (ns:List Nod):Nat->Tm->Prop where
 | mk {i:Nat} {n:Nod} {o:Opn} {ts:List Tm} (hn:ns[i]?=some n) (ho:o∈n.yc) (hs:Bts ns o.yb ts):Bt ns i (Tm.mk o.yd ts)
inductive Bts (ns:List Nod):List Int->List Tm->Prop where
 | nil:Bts ns [] []
 | cons {a:Int} {vs:List Int} {t:Tm} {ts:List Tm} (h0:0<=a) (ht:Bt ns a.toNat t) (hs:Bts ns vs ts):Bts ns (a::vs) (t::ts)
end
theorem Bt.inv {ns:List Nod} {i:Nat} {t:Tm} (h:Bt ns i t):∃ n o ts,ns[i]?=some n/\o∈n.yc/\t=Tm.mk o.yd ts/\Bts ns o.yb ts:=by
 cases h with
 | mk hn ho hs=>exact ⟨_,_,_,hn,ho,rfl,hs⟩
theorem Bts.mem {ns:List Nod}:∀ {vs:List Int} {ts:List Tm},Bts ns vs ts->∀ a∈vs,0<=a/\∃ t,Bt ns a.toNat t
 | _,_, .nil,a,h=>by simp at h
 | _,_, .cons h0 ht hs,a,h=>by
  rcases qam.1 h with rfl | h;exact ⟨h0,_,ht⟩
  ·exact hs.mem a h
theorem Bts.map {ns ns':List Nod} {f:Int->Int}:∀ {vs:List Int} {ts:List Tm},Bts ns vs ts->(∀ a∈vs,0<=f a)->(∀ a∈vs,∀ t∈ts,Bt ns a.toNat t->Bt ns' (f a).toNat t)->Bts ns' (vs.map f) ts
 | _,_, .nil,_,_ => .nil
 | _,_, .cons h0 ht hs,hf,hm => .cons (hf _ (qn ..)) (hm _ (qn ..) _ (qn ..) ht) (hs.map (fun a ha=>hf a (qj _ ha)) fun a ha t b=>hm a (qj _ ha) t (qj _ b))
theorem Bts.unmap {ns ns':List Nod} {f:Int->Int}:∀ {vs:List Int} {ts:List Tm},Bts ns' (vs.map f) ts->(∀ a∈vs,0<=a)->(∀ a∈vs,∀ t∈ts,Bt ns' (f a).toNat t->Bt ns a.toNat t)->Bts ns vs ts
 | [],_,h,_,_=>by cases h;exact .nil
 | a::vs,_,h,hf,hm=>by
  cases h with
  | cons h0 ht hs=>exact .cons (hf _ (qn ..)) (hm _ (qn ..) _ (qn ..) ht) (Bts.unmap hs (fun a ha=>hf a (qj _ ha)) fun a ha t b=>hm a (qj _ ha) t (qj _ b))
def cmpI:List Int->List Int->Int
 | [],[]=>0
 | [],_::_ => -1
 | _::_,[]=>1
 | x::xs,y::ys=>if x<y then -1 else if y<x then 1 else cmpI xs ys
def kjk (a b:Opn):Int:=if a.yd≠b.yd then cmpI [a.yd] [b.yd] else cmpI a.yb b.yb
theorem k1q {f:Int->Int} {p:Int->Prop} (hf:∀ a b,p a->p b->a<b->f a<f b):∀ (xs ys:List Int),(∀ x∈xs,p x)->(∀ y∈ys,p y)->cmpI (xs.map f) (ys.map f)=cmpI xs ys
 | [],[],_,_=>rfl
 | [],_::_,_,_=>rfl
 | _::_,[],_,_=>rfl
 | x::xs,y::ys,c,hy=>by
  have px:=c x (qn ..);have py:=hy y (qn ..);simp only [qas,cmpI];rcases Int.lt_trichotomy x y with h | h | h;rw [qp h,qp (hf x y px py h)];subst h;rw [ql (Int.lt_irrefl _),ql (Int.lt_irrefl _),ql (Int.lt_irrefl _),ql (Int.lt_irrefl _)];exact k1q hf xs ys (fun a ha=>c a (qj _ ha)) fun a ha=>hy a (qj _ ha)
  ·have:=hf y x py px h;rw [ql (show ¬ f x<f y by omega),qp this,ql (show ¬ x<y by omega),qp h]
def AscP (l:List Int) (n:Nat):Prop:=(∀ x∈l,0<=x/\x<(n:Int))/\∀ (i:Nat) (x y:Int),l[i]?=some x->l[i+1]?=some y->x<y
def szAt (ns:List Nod) (a:Int):Int:=((ns[a.toNat]?).map (·.yg)).getD 0
def syAt (ns:List Nod) (a:Int):Int:=((ns[a.toNat]?).map (·.ye)).getD 0
structure OptP (ns:List Nod) (i:Nat) (n:Nod) (o:Opn):Prop where
 rule:0<=o.yd
 args:∀ a∈o.yb,0<=a/\a<(i:Int)
 size:1+(o.yb.map (szAt ns)).sum=n.yg
structure NodP (ns:List Nod) (i:Nat) (n:Nod):Prop where
 sym:0<=n.ye
 size:1<=n.yg/\n.yg<=24
 opt:∀ o∈n.yc,OptP ns i n o
 asc:∀ (k:Nat) (o p:Opn),n.yc[k]?=some o->n.yc[k+1]?=some p->kjk o p<0
def optN (ns:List Nod):Nat:=(ns.map fun n=>n.yc.length).sum
def ConP (ns:List Nod):Prop:=∀ (i k:Nat) (n m:Nod) (o p:Opn),ns[i]?=some n->ns[k]?=some m->o∈n.yc->p∈m.yc->o.yd=p.yd ->
 n.ye=m.ye/\o.yb.map (syAt ns)=p.yb.map (syAt ns)
structure kc6 (s:Spa):Prop where
 nodes:s.ya.length<=4096
 roots:AscP s.yf s.ya.length
 node:∀ (i:Nat) (n:Nod),s.ya[i]?=some n->NodP s.ya i n
 opts:optN s.ya<=32768
 con:ConP s.ya
theorem k5z {ns:List Nod} {i:Nat} {t:Tm} (h:Bt ns i t):i<ns.length:=by obtain ⟨n,o,ts,hn,_⟩:=h.inv;exact (qf.1 hn).1
def InS (s:Spa) (t:Tm):Prop:=∃ r∈s.yf,0<=r/\Bt s.ya r.toNat t
def cntP (p:Nat->Bool) (n:Nat):Nat:=((List.range n).filter p).length
theorem kz7 (p:Nat->Bool) (n:Nat):cntP p (n+1)=cntP p n+(if p n=true then 1 else 0):=by
 unfold cntP;rw [List.range_succ,List.filter_append,qag];congr 1;by_cases h:p n=true;simp [h]
 ·simp [h]
theorem k69 (p:Nat->Bool) (m n:Nat) (h:m<=n):cntP p m<=cntP p n:=by
 induction n with
 | zero=>rw [show m=0 by omega];exact qx _
 | succ n ih=>
  by_cases hm:m=n+1;rw [hm];exact qx _
  ·have:=ih (by omega);rw [kz7];omega
theorem kyx (p:Nat->Bool) (m n:Nat) (hp:p m=true) (h:m<n:=by omega):cntP p m<cntP p n:=by have:=k69 p (m+1) n h;rw [kz7,qp hp] at this;omega
theorem k4q (p:Nat->Bool) (n:Nat):cntP p n<=n:=by unfold cntP;have:=List.length_filter_le p (List.range n);rw [List.length_range] at this;exact this
theorem kagp {p:Nat->Bool} {n i:Nat} (h:i<n) (hp:p i=true):((List.range n).filter p)[cntP p i]?=some i:=by
 induction n with
 | zero=>omega
 | succ n ih=>
  rw [List.range_succ,List.filter_append];by_cases hi:i=n;subst hi;show (List.filter p (List.range i)++List.filter p [i])[(List.filter p (List.range i)).length]?=some i;rw [qak (qx _),Nat.sub_self];simp [hp]
  ·have h1:=ih (by omega);rw [qy (by exact (qf.1 h1).1)];exact h1
theorem kad1 {p:Nat->Bool} {n j i:Nat} (h:((List.range n).filter p)[j]?=some i):i<n/\p i=true/\cntP p i=j:=by
 induction n with
 | zero=>simp at h
 | succ n ih=>
  rw [List.range_succ,List.filter_append] at h;by_cases a:j<((List.range n).filter p).length;rw [qy a] at h;obtain ⟨h1,b,c⟩:=ih h;exact ⟨by omega,b,c⟩
  ·rw [qak (by omega)] at h;by_cases hp:p n=true;rw [List.filter_cons_of_pos hp,List.filter_nil] at h;have d:j - ((List.range n).filter p).length=0:=(by have:=(qf.1 h).1;simpa using this);rw [d] at h;simp at h;subst h;refine ⟨by omega,hp,?_⟩;unfold cntP;omega
   ·rw [List.filter_cons_of_neg (by simpa using hp),List.filter_nil] at h;simp at h
def numI (p:Nat->Bool) (a:Int):Int:=(cntP p a.toNat:Int)
def kkd (p:Nat->Bool) (o:Opn):Opn:=⟨o.yd,o.yb.map (numI p)⟩
def kb1 (f:Nat->Bool) (o:Opn):Bool:=o.yb.all fun a=>f a.toNat
def knu (f p:Nat->Bool) (n:Nod):Nod:=⟨n.ye,n.yg,(n.yc.filter (kb1 f)).map (kkd p)⟩
def nodD:Nod:=⟨0,0,[]⟩
def kgr (f p:Nat->Bool) (s:Spa):Spa:=⟨((List.range s.ya.length).filter p).map fun i=>knu f p ((s.ya[i]?).getD nodD),(s.yf.filter fun r=>f r.toNat).map (numI p)⟩
structure kqr (s:Spa) (f p:Nat->Bool):Prop where
 full:∀ (i:Nat) (t:Tm),Bt s.ya i t->f i=true
 root:∀ r∈s.yf,f r.toNat=true->p r.toNat=true
 arg:∀ (i:Nat) (n:Nod) (o:Opn),p i=true->s.ya[i]?=some n->o∈n.yc->kb1 f o=true->∀ a∈o.yb,p a.toNat=true
variable {s:Spa} {f p:Nat->Bool}
theorem kyp {i:Nat} {n:Nod} (hn:s.ya[i]?=some n) (hp:p i=true):(kgr f p s).ya[cntP p i]?=some (knu f p n):=by have hi:=(qf.1 hn).1;show (List.map _ _)[_]?=_;rw [qr,kagp hi hp,qax,hn,qah]
theorem ktb {j:Nat} {m:Nod} (h:(kgr f p s).ya[j]?=some m):∃ i n,s.ya[i]?=some n/\p i=true/\cntP p i=j/\m=knu f p n:=by have a:(List.map (fun i=>knu f p ((s.ya[i]?).getD nodD)) ((List.range s.ya.length).filter p))[j]?=some m:=h;rw [qr,qu] at a;obtain ⟨i,h1,rfl⟩:=a;obtain ⟨b,c,d⟩:=kad1 h1;exact ⟨i,s.ya[i],qa b,c,d,by rw [qa b,qah]⟩
theorem kpe (hf:kc6 s) {i:Nat} {n:Nod} {o:Opn} (hn:s.ya[i]?=some n) (ho:o∈n.yc):∀ a∈o.yb,0<=a/\a<(i:Int):=((hf.node i n hn).opt o ho).args
theorem k9k (hf:kc6 s) (hk:kqr s f p):∀ (t:Tm) (i:Nat),p i=true->Bt s.ya i t->Bt (kgr f p s).ya (cntP p i) t:=by
 intro t
 induction t using Tm.ind with
 | h r l ih=>
  intro i hp h;obtain ⟨n,o,ts,hn,ho,e,hs⟩:=h.inv;injection e with c d;subst c d;have b:kb1 f o=true:=qs.2 fun a ha=>by obtain ⟨_,t,ht⟩:=hs.mem a ha;exact hk.full _ t ht
  have hm:kkd p o∈(knu f p n).yc:=qad.2 ⟨o,qbl.2 ⟨ho,b⟩,rfl⟩;have g:Bts (kgr f p s).ya (kkd p o).yb l:=hs.map (fun a _=>Int.natCast_nonneg _) fun a ha t ht j=>ih t ht a.toNat (hk.arg i n o hp hn ho b a ha) j;show Bt _ _ (Tm.mk (kkd p o).yd l);exact .mk (kyp hn hp) hm g
theorem k2w (hf:kc6 s) (hk:kqr s f p):∀ (t:Tm) (i:Nat),p i=true->i<s.ya.length->Bt (kgr f p s).ya (cntP p i) t->Bt s.ya i t:=by
 intro t
 induction t using Tm.ind with
 | h r l ih=>
  intro i hp hi h;obtain ⟨m,o',ts,hm,c,g,hs⟩:=h.inv;injection g with d e;have hn:=qa hi;rw [kyp hn hp] at hm;injection hm with hm;subst hm;obtain ⟨o,j,rfl⟩:=qad.1 c;obtain ⟨ho,b⟩:=qbl.1 j;subst d e;have k:Bts s.ya o.yb l:=Bts.unmap (f:=numI p) hs (fun a ha=>(kpe hf hn ho a ha).1) fun a ha t ht n=>by have q:=kpe hf hn ho a ha;exact ih t ht a.toNat (hk.arg i _ o hp hn ho b a ha) (by omega) n
  show Bt _ _ (Tm.mk o.yd l);exact .mk hn ho k
theorem k88 (hf:kc6 s) (hk:kqr s f p) (t:Tm):InS (kgr f p s) t↔InS s t:=by
 constructor;rintro ⟨r',hr,h0,c⟩;have d:r'∈(s.yf.filter fun r=>f r.toNat).map (numI p):=hr;obtain ⟨r,a,rfl⟩:=qad.1 d;obtain ⟨a,e⟩:=qbl.1 a;have h1:=hf.roots.1 r a;exact ⟨r,a,h1.1,k2w hf hk t r.toNat (hk.root r a e) (by omega) c⟩
 ·rintro ⟨r,hr,h0,c⟩;have b:=hk.full _ t c;exact ⟨numI p r,qad.2 ⟨r,qbl.2 ⟨hr,b⟩,rfl⟩,Int.natCast_nonneg _,k9k hf hk t r.toNat (hk.root r hr b) c⟩
theorem k7l (hf:kc6 s) (hk:kqr s f p) {j:Nat} {m:Nod} (hm:(kgr f p s).ya[j]?=some m):∃ i n,s.ya[i]?=some n/\n.ye=m.ye/\n.yg=m.yg/\∀ t,Bt (kgr f p s).ya j t->Bt s.ya i t:=by obtain ⟨i,n,hn,hp,rfl,rfl⟩:=ktb hm;exact ⟨i,n,hn,rfl,rfl,fun t h=>k2w hf hk t i hp (qf.1 hn).1 h⟩
theorem k4h (hf:kc6 s) {a:Int} (h0:0<=a) (hp:p a.toNat=true) (h1:a<(s.ya.length:Int):=by omega):szAt (kgr f p s).ya (numI p a)=szAt s.ya a/\syAt (kgr f p s).ya (numI p a)=syAt s.ya a:=by have hn:=qa (l:=s.ya) (i:=a.toNat) (by omega);have:=kyp (f:=f) hn hp;unfold szAt syAt numI;rw [qa0,this,hn];exact ⟨rfl,rfl⟩
theorem kvk {α:Type} {R:α->α->Prop} (ht:∀ a b c,R a b->R b c->R a c) (q:α->Bool):∀ (l:List α),(∀ (k:Nat) (o p:α),l[k]?=some o->l[k+1]?=some p->R o p)->∀ (k:Nat) (o p:α),(l.filter q)[k]?=some o->(l.filter q)[k+1]?=some p->R o p:=by
 intro l h;have hp:l.Pairwise R:=by
  induction l with
  | nil=>exact .nil
  | cons x l ih=>
   have hl:=ih fun k o p h1 d=>h (k+1) o p (by simpa using h1) (by simpa using d);refine List.pairwise_cons.2 ⟨fun y hy=>?_,hl⟩;cases l with
   | nil=>simp at hy
   | cons z l=>
    have e:R x z:=h 0 x z rfl rfl;rcases qam.1 hy with rfl | hy;exact e
    ·exact ht _ _ _ e ((List.pairwise_cons.1 hl).1 y hy)
 have f:=hp.filter q;intro k o p h1 d;obtain ⟨k1,e1⟩:=qf.1 h1;obtain ⟨k2,e2⟩:=qf.1 d;have:=(qbx.1 f) k (k+1) k1 k2 (by omega);rw [e1,e2] at this;exact this
theorem kw8:∀ (xs ys zs:List Int),cmpI xs ys<0->cmpI ys zs<0->cmpI xs zs<0
 | [],[],_,h,_=>by simp [cmpI] at h
 | [],_::_,[],_,h=>by simp [cmpI] at h
 | [],_::_,_::_,_,_=>by simp [cmpI]
 | _::_,[],_,h,_=>by simp [cmpI] at h
 | _::_,_::_,[],_,h=>by simp [cmpI] at h
 | x::xs,y::ys,z::zs,h,k=>by
  simp only [cmpI] at h k ⊢;split at h
  ·split at k;rw [qp (by omega)];omega
   ·split at k;omega
    ·rw [qp (by omega)];omega
  ·split at h;omega
   ·split at k;rw [qp (by omega)];omega
    ·split at k;omega
     ·rw [ql (by omega),ql (by omega)];exact kw8 xs ys zs h k
theorem k1g {a b:Opn}:kjk a b<0↔a.yd<b.yd\/(a.yd=b.yd/\cmpI a.yb b.yb<0):=by
 unfold kjk;split
 ·rename_i h;simp only [cmpI];constructor
  ·intro h1;split at h1;rename_i c;exact .inl c
   ·split at h1 <;> omega
  ·rintro (h1 | h1);rw [qp h1];omega
   ·exact absurd h1.1 h
 ·rename_i h;have h:a.yd=b.yd:=by simpa using h
  exact ⟨fun h1 => .inr ⟨h,h1⟩,fun h1=>by
   rcases h1 with h1 | h1;omega
   ·exact h1.2⟩
theorem kvm {a b c:Opn} (h:kjk a b<0) (k:kjk b c<0):kjk a c<0:=by
 rw [k1g] at h k ⊢;rcases h with h | ⟨h1,d⟩
 ·rcases k with k | ⟨k1,k2⟩;exact .inl (by omega)
  ·exact .inl (by omega)
 ·rcases k with k | ⟨k1,k2⟩;exact .inl (by omega)
  ·exact .inr ⟨by omega,kw8 _ _ _ d k2⟩
theorem k78 (hf:kc6 s) (hk:kqr s f p):kc6 (kgr f p s):=by
 have l:(kgr f p s).ya.length=cntP p s.ya.length:=by show (List.map _ _).length=_;rw [qaa];rfl
 have mono:∀ a b:Int,(0<=a/\p a.toNat=true)->(0<=b/\p b.toNat=true)->a<b->numI p a<numI p b:=fun a b ha H h=>by have:=kyx p a.toNat b.toNat ha.2;unfold numI;omega
 refine ⟨?_,⟨?_,?_⟩,?_,?_,?_⟩;rw [l];exact qav (k4q _ _) hf.nodes;intro x I;have e:x∈(s.yf.filter fun r=>f r.toNat).map (numI p):=I;obtain ⟨r,g,rfl⟩:=qad.1 e;obtain ⟨g,J⟩:=qbl.1 g;have h1:=hf.roots.1 r g;have:=kyx p r.toNat s.ya.length (hk.root r g J);rw [l];unfold numI;omega;intro i x y I hy;have e:((s.yf.filter fun r=>f r.toNat).map (numI p))[i]?=some x:=I;have z:((s.yf.filter fun r=>f r.toNat).map (numI p))[i+1]?=some y:=hy;rw [qr,qu] at e z;obtain ⟨a,ha,rfl⟩:=e;obtain ⟨b,H,rfl⟩:=z;have K:a<b:=kvk (R:=fun a b:Int=>a<b) (fun a b c h1 t=>by omega) _ s.yf hf.roots.2 i a b ha H;have pa:=qbl.1 (qo ha);have pb:=qbl.1 (qo H);exact mono a b ⟨(hf.roots.1 a pa.1).1,hk.root a pa.1 pa.2⟩ ⟨(hf.roots.1 b pb.1).1,hk.root b pb.1 pb.2⟩ K
 ·intro j m hm;obtain ⟨i,n,hn,hp,rfl,rfl⟩:=ktb hm;have hi:=(qf.1 hn).1;have v:=hf.node i n hn;refine ⟨v.sym,v.size,fun o' L=>?_,fun k o' p' h1 t=>?_⟩
  ·have u:o'∈(n.yc.filter (kb1 f)).map (kkd p):=L;obtain ⟨o,ho,rfl⟩:=qad.1 u;obtain ⟨ho,A⟩:=qbl.1 ho;have G:=v.opt o ho;have ha:=hk.arg i n o hp hn ho A;refine ⟨G.rule,fun a' M=>?_,?_⟩;have N:a'∈o.yb.map (numI p):=M;obtain ⟨a,d,rfl⟩:=qad.1 N;have h1:=G.args a d;have:=kyx p a.toNat i (ha a d);unfold numI;omega
   ·rw [<- show n.yg=(knu f p n).yg from rfl,<- G.size];congr 1;show ((o.yb.map (numI p)).map _).sum=_;rw [List.map_map];congr 1;refine qbf fun a d=>?_;have h1:=G.args a d;exact (k4h hf h1.1 (ha a d)).1
  ·have B:((n.yc.filter (kb1 f)).map (kkd p))[k]?=some o':=h1;have C:((n.yc.filter (kb1 f)).map (kkd p))[k+1]?=some p':=t;rw [qr,qu] at B C;obtain ⟨o,S,rfl⟩:=B;obtain ⟨q,T,rfl⟩:=C;have w:kjk o q<0:=kvk (R:=fun a b:Opn=>kjk a b<0) (fun a b c h1 t=>kvm h1 t) _ n.yc v.asc k o q S T;obtain ⟨m1,a1⟩:=qbl.1 (qo S);obtain ⟨m2,a2⟩:=qbl.1 (qo T);rw [k1g] at w ⊢;rcases w with w | ⟨w,U⟩;exact .inl w
   ·refine .inr ⟨w,?_⟩;show cmpI (o.yb.map (numI p)) (q.yb.map (numI p))<0;rw [k1q (p:=fun a=>0<=a/\p a.toNat=true) mono _ _ (fun a ha=>⟨((v.opt o m1).args a ha).1,hk.arg i n o hp hn m1 a1 a ha⟩) fun a ha=>⟨((v.opt q m2).args a ha).1,hk.arg i n q hp hn m2 a2 a ha⟩];exact U
 ·refine qav ?_ hf.opts;have:∀ (m:Nat),m<=s.ya.length->((((List.range m).filter p).map fun i=>knu f p ((s.ya[i]?).getD nodD)).map fun n=>n.yc.length).sum<=optN (s.ya.take m):=by
   intro m
   induction m with
   | zero=>intro _;exact qau _
   | succ m ih=>
    intro hm;have h1:=ih (by omega);rw [List.range_succ,List.filter_append,qaw,qaw,qbu,qac (by omega)];unfold optN at h1 ⊢;rw [qaw,qbu];refine Nat.add_le_add h1 ?_;by_cases hp:p m=true;rw [List.filter_cons_of_pos hp];simp only [List.filter_nil,qas,List.map_nil,List.sum_cons,List.sum_nil,Nat.add_zero,qa (show m<s.ya.length by omega),qah];show (List.map _ _).length<=_;rw [qaa];exact List.length_filter_le _ _
    ·rw [List.filter_cons_of_neg (by simpa using hp)];exact qau _
  have t:=this s.ya.length (qx _);rw [qal] at t;exact t
 ·intro i k n' m' o' q' hn hm ho D hr;obtain ⟨i,n,E,O,rfl,rfl⟩:=ktb hn;obtain ⟨k,m,F,P,rfl,rfl⟩:=ktb hm;clear hn hm;have u:o'∈(n.yc.filter (kb1 f)).map (kkd p):=ho;have Q:q'∈(m.yc.filter (kb1 f)).map (kkd p):=D;clear ho D;obtain ⟨o,V,rfl⟩:=qad.1 u;obtain ⟨q,hy,rfl⟩:=qad.1 Q;obtain ⟨ho,a1⟩:=qbl.1 V;obtain ⟨D,a2⟩:=qbl.1 hy;obtain ⟨c1,c2⟩:=hf.con i k n m o q E F ho D hr;refine ⟨c1,?_⟩;have sy:∀ (i:Nat) (n:Nod) (o:Opn),s.ya[i]?=some n->p i=true->o∈n.yc->kb1 f o=true->(kkd p o).yb.map (syAt (kgr f p s).ya)=o.yb.map (syAt s.ya):=fun i n o hn hp ho ha=>by show (o.yb.map (numI p)).map _=_;rw [List.map_map];refine qbf fun a d=>?_;have h1:=kpe hf hn ho a d;have t:=(qf.1 hn).1;exact (k4h hf h1.1 (hk.arg i n o hp hn ho ha a d)).2
  rw [sy i n o E O ho a1,sy k m q F P D a2,c2]
def lexP:List Int->List Int->Unit ⊕ Int
 | x::xs,y::ys=>if x<y then .inr (-1) else if y<x then .inr 1 else lexP xs ys
 | _,_ => .inl ()
theorem kzp:∀ xs ys:List Int,cmpI xs ys=Sum.elim (fun _=>if xs.length<ys.length then -1 else if ys.length<xs.length then 1 else 0) id (lexP xs ys)
 | [],[]=>rfl
 | [],_::_=>by simp [cmpI,lexP]
 | _::_,[]=>by simp [cmpI,lexP]
 | x::xs,y::ys=>by
  simp only [cmpI,lexP];split;rfl
  ·split;rfl
   ·rw [kzp xs ys];congr 1;funext u;simp
theorem k1e (x y:List Int) (f:x.length<=9223372036854775807) (hy:y.length<=9223372036854775807):kao x y=some (cmpI x y):=by
 unfold kao;have h:=kjj (kat x y) (min x.length y.length) (fun i=>(i:Int)) (fun i=>lexP (x.drop i) (y.drop i)) (fun i hi=>by
  have a:i<x.length:=by omega
  have b:i<y.length:=by omega
  simp only [kat,kaq a,kaq b,qe,kac,qa a,qa b,qb,kaj a f,qay a,qay b,lexP];by_cases h1:x[i]<y[i];rw [qh h1,qp h1];exact .inr rfl
  ·rw [qg h1,ql h1];by_cases d:y[i]<x[i];rw [qh d,qp d];exact .inr rfl
   ·rw [qg d,ql d];exact .inl ⟨rfl,rfl⟩) (by
  by_cases hc:x.length<=y.length;have e:min x.length y.length=x.length:=(by omega);rw [e];simp only [kat,kal,qd,List.drop_length,lexP,qb]
  ·have e:min x.length y.length=y.length:=(by omega);have e2:decide (((y.length:Nat):Int)<(x.length:Int))=true:=qh (by omega);rw [e];simp only [kat,e2,qe,kal,qb,qd,List.drop_length];cases List.drop y.length x <;> simp [lexP])
 have g:kab (kat x y) fuel 0=some (lexP x y):=by simpa using h
 rw [g,qb,kzp];cases lexP x y with
 | inr c=>rfl
 | inl u=>
  simp only [q9];unfold ked;by_cases h1:x.length<y.length;rw [qh (by omega),qp h1];rfl
  ·rw [qg (by omega),ql h1];by_cases d:y.length<x.length;rw [qh (by omega),qp d];rfl
   ·rw [qg (by omega),ql d];rfl
theorem k7m (a b:Opn) (ha:a.yb.length<=9223372036854775807) (c:b.yb.length<=9223372036854775807):kdh a b=some (kjk a b):=by
 unfold kdh kjk;by_cases h:a.yd=b.yd;rw [show (a.yd != b.yd)=false by simp [h],ql (by simp [h])];rw [qd,k1e _ _ ha c];rfl
 ·rw [show (a.yd != b.yd)=true by simp [h],qp h];rw [qe,k1e _ _ (by simp) (by simp)];rfl
theorem kady (l:List Int) (n:Nat) (hl:l.length<=9223372036854775807):Ev (kfk l (n:Int)) fun b=>b=true↔AscP l n:=by
 let bad:Nat->Bool:=fun i=>decide ((l[i]?).getD 0<0) || (decide ((n:Int)<=(l[i]?).getD 0) || (decide (0<i) && decide ((l[i]?).getD 0<=(l[i - 1]?).getD 0)))
 have hs:∀ i,i<l.length->kby l (n:Int) (i:Int)=if bad i=true then some (.inr (.inr false)) else some (.inl ((i+1:Nat):Int)):=fun i hi=>by
  have e:bad i=(decide (l[i]<0) || (decide ((n:Int)<=l[i]) || (decide (0<i) && decide (l[i]<=(l[i - 1]?).getD 0)))):=by show (decide ((l[i]?).getD 0<0) || _)=_;rw [qa hi];rfl
  rw [e];simp only [kby,kaq hi,qe,kac,qa hi,qb,kaj hi hl];by_cases h1:l[i]<0;simp [h1]
  ·by_cases d:(n:Int)<=l[i];simp [h1,d]
   ·by_cases f:0<i
    ·have c:i - 1<l.length:=(by omega);have e1:w64 ((i:Int) - 1)=((i - 1:Nat):Int):=(by rw [kgv];omega);have e2:decide ((0:Int)<(i:Int))=true:=qh (by omega);simp only [qg h1,qg d,e2,qe,qd,e1,kac,qa c,qb,qh f,Bool.false_or,Bool.true_and,qah];by_cases k:l[i]<=l[i - 1];simp [k]
     ·simp [k]
    ·have e2:decide ((0:Int)<(i:Int))=false:=qg (by omega);simp [h1,d,f,e2]
 have m:kby l (n:Int) (l.length:Int)=some (.inr (.inl ())):=by simp only [kby,kal,qd]
 unfold kfk;rcases kjo (kby l (n:Int)) l.length bad (fun _ => .inr false) (.inl ()) hs m with ⟨i,hi,g,_,hr⟩ | ⟨g,hr⟩
 ·rw [hr];refine ⟨false,rfl,⟨fun h=>absurd h qba,fun h=>?_⟩⟩;exfalso;have h1:=h.1 l[i] (qi hi);have a:(decide ((l[i]?).getD 0<0) || (decide ((n:Int)<=(l[i]?).getD 0) || (decide (0<i) && decide ((l[i]?).getD 0<=(l[i - 1]?).getD 0))))=true:=g;rw [qa hi] at a;simp only [qah,qbv,qv,qa6] at a;rcases a with a | a | ⟨f,a⟩;omega;omega
  ·have c:i - 1<l.length:=(by omega);rw [qa c,qah] at a;have:=h.2 (i - 1) l[i - 1] l[i] (qa c) (by rw [show i - 1+1=i by omega];exact qa hi);omega
 ·rw [hr];have a:∀ i (hi:i<l.length),0<=l[i]/\l[i]<(n:Int)/\(0<i->(l[i - 1]?).getD 0<l[i]):=fun i hi=>by
   have h:(decide ((l[i]?).getD 0<0) || (decide ((n:Int)<=(l[i]?).getD 0) || (decide (0<i) && decide ((l[i]?).getD 0<=(l[i - 1]?).getD 0))))=false:=g i hi;rw [qa hi] at h;simp only [qah,Bool.or_eq_false_iff,Bool.and_eq_false_iff,qbh] at h;refine ⟨by omega,by omega,fun h0=>?_⟩;rcases h.2.2 with h | h;exact absurd h0 h
   ·omega
  refine ⟨true,rfl,⟨fun _=>⟨fun x j=>?_,fun i x y j hy=>?_⟩,fun _=>rfl⟩⟩;obtain ⟨i,hi,rfl⟩:=qae.1 j;exact ⟨(a i hi).1,(a i hi).2.1⟩
  ·obtain ⟨hi,rfl⟩:=qf.1 j;obtain ⟨o,rfl⟩:=qf.1 hy;have:=(a (i+1) o).2.2 (by omega);rw [Nat.add_sub_cancel,qa hi,qah] at this;exact this
theorem k89 (f:Int->Int) {l:List Int} {j:Nat} (h:j<l.length):((l.take (j+1)).map f).sum=((l.take j).map f).sum+f l[j]:=by rw [qac h,qaw,qbu];simp
theorem k8e (f:Int->Int) (l:List Int) (j:Nat):(l.map f).sum=((l.take j).map f).sum+((l.drop j).map f).sum:=by rw [<- qbu,<- qaw,List.take_append_drop]
theorem kwv {f:Int->Int}:∀ (l:List Int),(∀ x∈l,0<=f x)->0<=(l.map f).sum
 | [],_=>by simp
 | x::l,h=>by have h1:=h x (qn ..);have a:=kwv l fun y hy=>h y (qj _ hy);simp only [qas,List.sum_cons];omega
theorem knh (ns:List Nod) {a:Int} (h0:0<=a) (h1:a<(ns.length:Int)):∃ m,idx ns a=some m/\ns[a.toNat]?=some m/\szAt ns a=m.yg/\syAt ns a=m.ye:=by
 have b:a.toNat<ns.length:=by omega
 refine ⟨ns[a.toNat],?_,qa b,?_,?_⟩;unfold idx;rw [qp h0,qa b];unfold szAt;rw [qa b];rfl
 ·unfold syAt;rw [qa b];rfl
theorem k66 {ns:List Nod} {i:Nat} {n:Nod} (o:Opn) (hn:ns[i]?=some n) (l:∀ (k:Nat) (m:Nod),k<=i->ns[k]?=some m->1<=m.yg/\m.yg<=24) (t:o.yb.length<=9223372036854775807):Ev (khf ns (i:Int) o) fun b=>b=true↔OptP ns i n o:=by
 have hi:=(qf.1 hn).1;have u:=l i n (qx _) hn;have c:∀ a:Int,0<=a->a<(i:Int)->∃ m,idx ns a=some m/\szAt ns a=m.yg/\1<=m.yg/\m.yg<=24:=fun a h0 h1=>by obtain ⟨m,e1,e2,e3,_⟩:=knh ns h0 (by omega);have:=l a.toNat m (by omega) e2;exact ⟨m,e1,e3,this.1,this.2⟩
 unfold khf;refine kdp (Ev.mono (kcy (xs:=o.yb) (step:=kf0 ns (i:Int) o) (Q:=fun r=>(∃ s,r = .inl s/\(∀ a∈o.yb,0<=a/\a<(i:Int))/\s=1+(o.yb.map (szAt ns)).sum)\/(r = .inr false/\¬ OptP ns i n o))
  (fun (j:Nat) (s:Int)=>(s,(j:Int))) (fun j s=>(∀ a∈o.yb.take j,0<=a/\a<(i:Int))/\s=1+((o.yb.take j).map (szAt ns)).sum/\1<=s/\s<=48) t ⟨by simp,by simp,by omega,by omega⟩ (fun j s d ⟨h1,p,v,w⟩=>?_) (fun s ⟨h1,p,v,w⟩=>?_)) ?_)
 ·simp only [kf0,kaq d,qe,kac,qa d,qb,kaj d t];by_cases b1:o.yb[j]<0;refine ⟨.inr (.inr false),by simp [b1], .inr ⟨rfl,fun g=>?_⟩⟩;have:=(g.args _ (qi d)).1;omega
  ·by_cases b2:(i:Int)<=o.yb[j];refine ⟨.inr (.inr false),by simp [b1,b2], .inr ⟨rfl,fun g=>?_⟩⟩;have:=(g.args _ (qi d)).2;omega
   ·by_cases b3:24<s;refine ⟨.inr (.inr false),by simp [b1,b2,b3], .inr ⟨rfl,fun g=>?_⟩⟩;have x:=g.size;rw [k8e _ _ j] at x;have z:=kwv (f:=szAt ns) (o.yb.drop j) fun a ha=>(by have q:=g.args a (qbj ha);obtain ⟨m,_,e,y,_⟩:=c a q.1 q.2;omega);omega
    ·obtain ⟨m,e1,e2,y,A⟩:=c o.yb[j] (by omega) (by omega);have e3:w64 (s+m.yg)=s+m.yg:=kgv;refine ⟨.inl (s+m.yg,((j+1:Nat):Int)),by simp [b1,b2,b3,e1,e3],s+m.yg,rfl,fun a ha=>?_,?_,by omega,by omega⟩
     ·rw [qac d,qab,qw] at ha;rcases ha with ha | rfl;exact h1 a ha
      ·omega
     ·rw [k89 _ d];omega
 ·refine ⟨_,by simp only [kf0,kal,qd],_,rfl, .inl ⟨s,rfl,?_,?_⟩⟩;rw [qal] at h1;exact h1
  ·rw [qal] at p;exact p
 ·rintro r (⟨s,rfl,h1,p⟩ | ⟨rfl,h1⟩)
  ·simp only [q9];by_cases hr:0<=o.yd;simp only [qh hr,qe,kac,hn,qb];refine ⟨_,rfl,?_⟩;show (s == n.yg)=true↔_;rw [beq_iff_eq,p];exact ⟨fun h=>⟨hr,h1,h⟩,fun h=>h.size⟩
   ·simp only [qg hr,qd,qb];exact ⟨false,rfl,⟨fun h=>absurd h qba,fun h=>absurd h.rule hr⟩⟩
  ·exact ⟨false,rfl,⟨fun h=>absurd h qba,fun h=>absurd h h1⟩⟩
theorem kz5 {ns:List Nod} {i k:Nat} {n m:Nod} {o p:Opn} (hn:ns[i]?=some n) (hm:ns[k]?=some m) (ho:∀ a∈o.yb,0<=a/\a<(ns.length:Int)) (hp:∀ a∈p.yb,0<=a/\a<(ns.length:Int)) (r:o.yb.length<=9223372036854775807):
  Ev (khe ns (i:Int) o (k:Int) p) fun b=>b=true↔n.ye=m.ye/\o.yb.map (syAt ns)=p.yb.map (syAt ns):=by
 unfold khe;simp only [kac,hn,hm,qb];by_cases h1:n.ye=m.ye
 ·have e1:(n.ye != m.ye)=false:=by simp [h1]
  simp only [e1,qd,qb];by_cases l:o.yb.length=p.yb.length
  ·have e2:((o.yb.length:Int) != (p.yb.length:Int))=false:=(by simp [l]);simp only [e2,qd]
   let bad:Nat->Bool:=fun j=>decide (syAt ns ((o.yb[j]?).getD 0)≠syAt ns ((p.yb[j]?).getD 0))
   have hs:∀ j,j<o.yb.length->kc2 ns o p (j:Int)=if bad j=true then some (.inr (.inr false)) else some (.inl ((j+1:Nat):Int)):=fun j d=>by
    have c:j<p.yb.length:=(by omega);obtain ⟨x,x1,_,_,x2⟩:=knh ns (ho _ (qi d)).1 (ho _ (qi d)).2;obtain ⟨y,y1,_,_,y2⟩:=knh ns (hp _ (qi c)).1 (hp _ (qi c)).2;have e:bad j=decide (x.ye≠y.ye):=(by show decide (syAt ns ((o.yb[j]?).getD 0)≠syAt ns ((p.yb[j]?).getD 0))=_;rw [qa d,qa c,qah,qah,x2,y2]);rw [e];simp only [kc2,kaq d,qe,kac,qa d,qa c,qb,kaj d r,x1,y1];by_cases f:x.ye=y.ye;rw [show (x.ye != y.ye)=false by simp [f],qd,qg (by simp [f]),ql (by simp)]
    ·rw [show (x.ye != y.ye)=true by simp [f],qe,qh f,qp rfl]
   have s:kc2 ns o p (o.yb.length:Int)=some (.inr (.inl ())):=(by simp only [kc2,kal,qd]);rcases kjo (kc2 ns o p) o.yb.length bad (fun _ => .inr false) (.inl ()) hs s with ⟨j,d,q,_,hr⟩ | ⟨q,hr⟩;rw [hr];refine ⟨false,rfl,⟨fun h=>absurd h qba,fun h=>?_⟩⟩;exfalso;have c:j<p.yb.length:=(by omega);have g:decide (syAt ns ((o.yb[j]?).getD 0)≠syAt ns ((p.yb[j]?).getD 0))=true:=q;rw [qa d,qa c,qah,qah,qa6] at g;have f:=qan (·[j]?) h.2;simp only [qr,qa d,qa c,qax,qc] at f;exact g f
   ·rw [hr];refine ⟨true,rfl,⟨fun _=>⟨h1,?_⟩,fun _=>rfl⟩⟩;refine List.ext_getElem (by simp [l]) fun j d c=>?_;rw [qaa] at d c;rw [List.getElem_map,List.getElem_map];have h:decide (syAt ns ((o.yb[j]?).getD 0)≠syAt ns ((p.yb[j]?).getD 0))=false:=q j d;rw [qa d,qa c,qah,qah,qbh] at h;exact Decidable.not_not.1 h
  ·have e2:((o.yb.length:Int) != (p.yb.length:Int))=true:=(by rw [bne_iff_ne];omega);simp only [e2,qe];exact ⟨false,rfl,⟨fun h=>absurd h qba,fun h=>absurd (by simpa using qan List.length h.2) l⟩⟩
 ·have e1:(n.ye != m.ye)=true:=by simp [h1]
  simp only [e1,qe,qb];exact ⟨false,rfl,⟨fun h=>absurd h qba,fun h=>absurd h.1 h1⟩⟩
def sgn (ns:List Nod) (i:Nat) (o:Opn):Int×List Int:=(syAt ns (i:Int),o.yb.map (syAt ns))
theorem kka {ns:List Nod} {i:Nat} {n:Nod} (h:ns[i]?=some n):syAt ns (i:Int)=n.ye:=by unfold syAt;rw [qa0,h];rfl
theorem conP_iff {ns:List Nod}:ConP ns↔∀ (i k:Nat) (n m:Nod) (o p:Opn),ns[i]?=some n->ns[k]?=some m->o∈n.yc->p∈m.yc->o.yd=p.yd->sgn ns i o=sgn ns k p:=by
 constructor;intro h i k n m o p hn hm ho hp hr;obtain ⟨h1,a⟩:=h i k n m o p hn hm ho hp hr;unfold sgn;rw [kka hn,kka hm,h1,a]
 ·intro h i k n m o p hn hm ho hp hr;have h1:=h i k n m o p hn hm ho hp hr;unfold sgn at h1;rw [kka hn,kka hm,qq] at h1;exact h1
theorem knv {ns:List Nod} {i:Nat} (h:i<ns.length):optN (ns.take (i+1))=optN (ns.take i)+ns[i].yc.length:=by unfold optN;rw [qac h,qaw,qbu];simp
theorem kmx (ns:List Nod):∀ i,optN (ns.take i)<=optN ns:=fun i=>by
 have:optN ns=optN (ns.take i)+optN (ns.drop i):=by unfold optN;rw [<- qbu,<- qaw,List.take_append_drop]
 omega
def visO (ns:List Nod) (i k i':Nat) (o:Opn):Prop:=∃ n k',ns[i']?=some n/\n.yc[k']?=some o/\(i'<i\/(i'=i/\k'<k))
structure CInv (ns:List Nod) (vis:Nat->Opn->Prop) (c:Nat) (F:List Opn) (W:List Int):Prop where
 len:F.length=W.length
 here:∀ (j:Nat) (f:Opn),F[j]?=some f->∃ i':Nat,W[j]?=some (i':Int)/\vis i' f
 all:∀ (i':Nat) (o:Opn),vis i' o->∃ (j:Nat) (f:Opn) (i'':Nat),F[j]?=some f/\W[j]?=some (i'':Int)/\f.yd=o.yd/\sgn ns i' o=sgn ns i'' f
 dist:∀ (j j':Nat) (f f':Opn),F[j]?=some f->F[j']?=some f'->f.yd=f'.yd->j=j'
 cnt:F.length<=c
theorem CInv.congr {ns:List Nod} {v v':Nat->Opn->Prop} {c c':Nat} {F:List Opn} {W:List Int} (h:CInv ns v c F W) (hv:∀ i o,v i o↔v' i o) (hc:c<=c'):CInv ns v' c' F W:=
 ⟨h.len,fun j f hf=>let ⟨i',h1,a⟩:=h.here j f hf;⟨i',h1,(hv _ _).1 a⟩,fun i' o ho=>h.all i' o ((hv _ _).2 ho),h.dist,qav h.cnt hc⟩
structure ConH (ns:List Nod):Prop where
 nodes:ns.length<=4096
 opts:optN ns<=32768
 args:∀ (i:Nat) (n:Nod) (o:Opn),ns[i]?=some n->o∈n.yc->(∀ a∈o.yb,0<=a/\a<(ns.length:Int))/\o.yb.length<=9223372036854775807
theorem krw {ns:List Nod} {i:Nat} {n:Nod} (h:ns[i]?=some n):n.yc.length<=optN ns:=by obtain ⟨hi,rfl⟩:=qf.1 h;have h1:=knv hi;have a:=kmx ns (i+1);omega
theorem k5t (F:List Opn) (o:Opn) (x:Int×List Opn×List Int) (d:x.2.1=F) (i:F.length<=32768):
  (∃ (j:Nat) (f:Opn),F[j]?=some f/\f.yd=o.yd/\kab (kbb x o) fuel 0=some (j:Int))\/((∀ f∈F,f.yd≠o.yd)/\kab (kbb x o) fuel 0=some (F.length:Int)):=by
 subst d
 let bad:Nat->Bool:=fun j=>decide (∃ f,x.2.1[j]?=some f/\f.yd=o.yd)
 have b:∀ j (a:j<x.2.1.length),bad j=decide (x.2.1[j].yd=o.yd):=fun j a=>by show decide _=decide _;congr 1;rw [qa a];exact propext ⟨fun ⟨f,h1,e⟩=>by cases h1;exact e,fun h=>⟨_,rfl,h⟩⟩
 have hs:∀ j,j<x.2.1.length->kbb x o (j:Int)=if bad j=true then some (.inr (j:Int)) else some (.inl ((j+1:Nat):Int)):=fun j a=>by
  rw [b j a];simp only [kbb,kaq a,qe,kac,qa a,qb,kaj a (show x.2.1.length<=9223372036854775807 by omega)];by_cases h:x.2.1[j].yd=o.yd;rw [show (x.2.1[j].yd != o.yd)=false by simp [h],qd,qh h,qp rfl]
  ·rw [show (x.2.1[j].yd != o.yd)=true by simp [h],qe,qg h,ql (by simp)]
 have g:kbb x o (x.2.1.length:Int)=some (.inr (x.2.1.length:Int)):=by simp only [kbb,kal,qd,qb]
 rcases kjo (kbb x o) x.2.1.length bad (fun j=>(j:Int)) (x.2.1.length:Int) hs g with ⟨j,a,c,_,hr⟩ | ⟨c,hr⟩;rw [b j a,qa6] at c;exact .inl ⟨j,x.2.1[j],qa a,c,hr⟩
 ·refine .inr ⟨fun f hf=>?_,hr⟩;obtain ⟨j,a,rfl⟩:=qae.1 hf;have:=c j a;rw [b j a,qbh] at this;exact this
theorem kqa {ns:List Nod} {i k:Nat} {n:Nod} {o:Opn} (hn:ns[i]?=some n) (ho:n.yc[k]?=some o) (i':Nat) (o':Opn):visO ns i (k+1) i' o'↔visO ns i k i' o'\/(i'=i/\o'=o):=by
 constructor
 ·rintro ⟨m,k',h1,b,a⟩;rcases a with a | ⟨rfl,a⟩;exact .inl ⟨m,k',h1,b, .inl a⟩
  ·by_cases hk:k'=k;subst hk;rw [hn] at h1;cases h1;rw [ho] at b;cases b;exact .inr ⟨rfl,rfl⟩
   ·exact .inl ⟨m,k',h1,b, .inr ⟨rfl,by omega⟩⟩
 ·rintro (⟨m,k',h1,b,a⟩ | ⟨rfl,rfl⟩)
  ·refine ⟨m,k',h1,b,?_⟩;rcases a with a | ⟨a,c⟩;exact .inl a
   ·exact .inr ⟨a,by omega⟩
  ·exact ⟨n,k,hn,ho, .inr ⟨rfl,by omega⟩⟩
theorem kaea {ns:List Nod} {i k i':Nat} {o:Opn} (h:visO ns i k i' o):∃ n,ns[i']?=some n/\o∈n.yc:=by obtain ⟨n,k',h1,a,_⟩:=h;exact ⟨n,h1,qo a⟩
theorem k93 {ns:List Nod} (H:ConH ns) {i k:Nat} {n:Nod} (hn:ns[i]?=some n) (hk:k<n.yc.length) {F:List Opn} {W:List Int} (v1:Int×List Opn×List Int) (hv:v1.1=(i:Int)) (c:CInv ns (visO ns i k) (optN (ns.take i)+k) F W):
  Ev (kck ns v1 ((k:Int),F,W)) (Sum.elim (fun s=>∃ t:List Opn×List Int,s=(((k+1:Nat):Int),t.1,t.2)/\CInv ns (visO ns i (k+1)) (optN (ns.take i)+(k+1)) t.1 t.2) fun r=>r = .inr false/\¬ ConP ns):=by
 have hi:=(qf.1 hn).1;have ho:=qa hk;have g:=qi hk;have hc:optN (ns.take i)+n.yc.length<=32768:=by
  have h1:=knv hi;have a:=kmx ns (i+1);have p:=H.opts;have B:ns[i]=n:=by have:=qa hi;rw [hn] at this;exact (qaj this).symm
  rw [B] at h1;omega
 have I:=c.cnt;obtain ⟨h,q⟩:=H.args i n _ hn g;simp only [kck,hv,kac,hn,ho,qb,kaq hk,qe,kaj hk (show n.yc.length<=9223372036854775807 by omega)];generalize J:n.yc[k]=o at *
 rcases k5t F o ((k:Int),F,W) rfl (by omega) with ⟨j,f,hf,hr,hs⟩ | ⟨u,hs⟩
 ·rw [hs,qb];have e:j<F.length:=kcg hf;have e1:((j:Int) == (F.length:Int))=false:=by rw [qa2];omega
  obtain ⟨i',G,v⟩:=c.here j f hf;obtain ⟨m,hm,w⟩:=kaea v;simp only [e1,qd,qb,kac,hf,G];obtain ⟨b,C,l⟩:=kz5 hn hm h (H.args i' m f hm w).1 q;rw [C,qb];have x:b=true↔sgn ns i o=sgn ns i' f:=by rw [l];unfold sgn;rw [kka hn,kka hm,qq]
  cases b with
  | true=>
   refine ⟨_,rfl,(F,W),rfl,c.len,fun j f hf=>?_,fun i2 o2 a=>?_,c.dist,qav I (by omega)⟩;obtain ⟨i',h1,a⟩:=c.here j f hf;exact ⟨i',h1,(kqa hn ho _ _).2 (.inl a)⟩
   ·rcases (kqa hn ho i2 o2).1 a with a | ⟨rfl,rfl⟩;exact c.all i2 o2 a
    ·exact ⟨j,f,i',hf,G,hr,x.1 rfl⟩
  | false=>
   refine ⟨_,rfl,rfl,fun y=>?_⟩;have:=conP_iff.1 y i i' n m o f hn hm g w hr.symm;have:=x.2 this;cases this
 ·rw [hs,qb];have e1:((F.length:Int) == (F.length:Int))=true:=by simp
  simp only [e1,qe];rw [kcv (show (F.length+[o].length)*(32+1)<=140737488355328 by simp;omega),qb,kcv (show (W.length+[(i:Int)].length)*(8+1)<=140737488355328 by rw [<- c.len];simp;omega),qb,qb];have D:(W++[(i:Int)])[F.length]?=some (i:Int):=by rw [c.len];simp
  have z:(F++[o])[F.length]?=some o:=by simp
  simp only [kac,D,z,qb];obtain ⟨b,C,l⟩:=kz5 hn hn h h q;rw [C,qb];obtain rfl:b=true:=l.2 ⟨rfl,rfl⟩;have d:∀ (j:Nat) (f:Opn),(F++[o])[j]?=some f->(F[j]?=some f/\j<F.length)\/(j=F.length/\f=o):=fun j f hf=>by
   by_cases e:j<F.length;rw [qy e] at hf;exact .inl ⟨hf,e⟩
   ·rw [qak (by omega)] at hf;have h0:j - F.length=0:=(by have:=(qf.1 hf).1;simpa using this);rw [h0] at hf;simp at hf;exact .inr ⟨by omega,hf.symm⟩
  refine ⟨_,rfl,(F++[o],W++[(i:Int)]),rfl,by simp [c.len],fun j f hf=>?_,fun i2 o2 a=>?_,fun j j' f f' hf A hr=>?_,by simp;omega⟩
  ·rcases d j f hf with ⟨h1,e⟩ | ⟨rfl,rfl⟩;obtain ⟨i',a,p⟩:=c.here j f h1;exact ⟨i',by rw [qy (by rw [<- c.len];exact e)];exact a,(kqa hn ho _ _).2 (.inl p)⟩
   ·exact ⟨i,D,(kqa hn ho _ _).2 (.inr ⟨rfl,rfl⟩)⟩
  ·rcases (kqa hn ho i2 o2).1 a with a | ⟨rfl,rfl⟩;obtain ⟨j,f,i'',p,B,K⟩:=c.all i2 o2 a;have e:=kcg p;exact ⟨j,f,i'',by rw [qy e];exact p,by rw [qy (by rw [<- c.len];exact e)];exact B,K⟩
   ·exact ⟨F.length,o2,i2,z,D,rfl,rfl⟩
  ·rcases d j f hf with ⟨h1,e⟩ | ⟨rfl,rfl⟩
   ·rcases d j' f' A with ⟨a,E⟩ | ⟨rfl,rfl⟩;exact c.dist j j' f f' h1 a hr
    ·exact absurd hr (u f (qo h1))
   ·rcases d j' f' A with ⟨a,E⟩ | ⟨rfl,rfl⟩;exact absurd hr.symm (u f' (qo a))
    ·rfl
theorem kad2 {ns:List Nod} (H:ConH ns):Ev (ke2 ns) fun b=>b=true↔ConP ns:=by
 unfold ke2;have x:=H.nodes;refine kdp (Ev.mono (kcy (xs:=ns) (step:=kdn ns) (Q:=fun r=>(r = .inl ()/\ConP ns)\/(r = .inr false/\¬ ConP ns)) (fun (i:Nat) (t:List Opn×List Int)=>((i:Int),t.1,t.2)) (fun i t=>CInv ns (visO ns i 0) (optN (ns.take i)) t.1 t.2) (t0:=([],[])) (by omega) ?_ (fun i t hi c=>?_) (fun t c=>?_)) ?_)
 ·refine ⟨rfl,fun j f h=>by simp at h,fun i' o h=>?_,fun j j' f f' h=>by simp at h,by simp⟩;obtain ⟨n,k',_,_,h | ⟨_,h⟩⟩:=h;omega
  ·omega
 ·simp only [kdn,kaq hi,qe];have hn:=qa hi;refine kdp (Ev.mono (kcy (xs:=ns[i].yc) (step:=kck ns ((i:Int),t.1,t.2)) (Q:=fun r=>(∃ t:List Opn×List Int,r = .inl t/\CInv ns (visO ns i ns[i].yc.length) (optN (ns.take i)+ns[i].yc.length) t.1 t.2)\/(r = .inr false/\¬ ConP ns)) (fun (k:Nat) (t:List Opn×List Int)=>((k:Int),t.1,t.2)) (fun k t=>CInv ns (visO ns i k) (optN (ns.take i)+k) t.1 t.2) (t0:=t) ?_ c (fun k t hk c=>?_) (fun t c=>?_)) ?_);have:=krw hn;have:=H.opts;omega
  ·refine Ev.mono (k93 H hn hk _ rfl c) ?_;rintro (s | r) h;exact h
   ·exact .inr h
  exact ⟨_,by simp only [kck,kac,hn,qb,kal,qd],_,rfl, .inl ⟨t,rfl,c⟩⟩
  ·rintro r (⟨t',rfl,q⟩ | ⟨rfl,hc⟩)
   ·simp only [q9,kaj hi (show ns.length<=9223372036854775807 by omega)];refine ⟨_,rfl,t',rfl,q.congr (fun i' o=>⟨?_,?_⟩) (by rw [knv hi];exact qx _)⟩;rintro ⟨m,k',h1,g,d⟩;refine ⟨m,k',h1,g, .inl ?_⟩;rcases d with d | ⟨d,_⟩ <;> omega
    ·rintro ⟨m,k',h1,g,d⟩;refine ⟨m,k',h1,g,?_⟩;rcases d with d | ⟨_,d⟩
     ·by_cases u:i'=i;subst u;rw [hn] at h1;cases h1;exact .inr ⟨rfl,kcg g⟩
      ·exact .inl (by omega)
     ·omega
   ·exact ⟨_,rfl, .inr ⟨rfl,hc⟩⟩
 ·refine ⟨_,by simp only [kdn,kal,qd],_,rfl, .inl ⟨rfl,?_⟩⟩;refine conP_iff.2 fun i k n m o p hn hm ho hp hr=>?_;obtain ⟨a,ha⟩:=qap.1 ho;obtain ⟨b,y⟩:=qap.1 hp;obtain ⟨j,f,i1,h1,g,d,z⟩:=c.all i o ⟨n,a,hn,ha, .inl (kcg hn)⟩;obtain ⟨j',f',i2,e,l,v,w⟩:=c.all k p ⟨m,b,hm,y, .inl (kcg hm)⟩;have A:=c.dist j j' f f' h1 e (by rw [d,v,hr]);subst A;rw [h1] at e;cases e;rw [g] at l;have:i1=i2:=by have:=qaj l;omega
  subst this;rw [z,w]
 ·rintro r (⟨rfl,hc⟩ | ⟨rfl,hc⟩);exact ⟨true,rfl,⟨fun _=>hc,fun _=>rfl⟩⟩
  ·exact ⟨false,rfl,⟨fun h=>absurd h qba,fun h=>absurd h hc⟩⟩
structure kw3 (s:Spa):Prop where
 nodes:s.ya.length<=4611686018427387904
 roots:s.yf.length<=4611686018427387904
 opts:∀ n∈s.ya,n.yc.length<=4611686018427387904
 args:∀ n∈s.ya,∀ o∈n.yc,o.yb.length<=4611686018427387904
theorem kaa0 {s:Spa} (t:kw3 s) {i:Nat} {n:Nod} (x:Int×Int) (C:x.2=(i:Int)) (hn:s.ya[i]?=some n) (u:∀ (k:Nat) (m:Nod),k<=i->s.ya[k]?=some m->1<=m.yg/\m.yg<=24):
  Ev (kab (kdv s x n) fuel 0) fun r=>(r = .inl ()/\(∀ o∈n.yc,OptP s.ya i n o)/\∀ (k:Nat) (o p:Opn),n.yc[k]?=some o->n.yc[k+1]?=some p->kjk o p<0)\/(r = .inr false/\¬ NodP s.ya i n):=by
 have c:=qo hn;have D:=t.opts n c;refine Ev.mono (kcy (xs:=n.yc) (step:=kdv s x n) (Q:=fun r=>(r = .inl ()/\(∀ o∈n.yc,OptP s.ya i n o)/\∀ (k:Nat) (o p:Opn),n.yc[k]?=some o->n.yc[k+1]?=some p->kjk o p<0)\/(r = .inr false/\¬ NodP s.ya i n))
  (fun (k:Nat) (_:Unit)=>(k:Int)) (fun k _=>(∀ (j:Nat) (o:Opn),j<k->n.yc[j]?=some o->OptP s.ya i n o)/\∀ (j:Nat) (o p:Opn),j+1<k->n.yc[j]?=some o->n.yc[j+1]?=some p->kjk o p<0) (t0:=()) (by omega) ⟨fun j o h=>by omega,fun j o p h=>by omega⟩ (fun k _ hk ⟨h1,v⟩=>?_) (fun _ ⟨h1,v⟩=>?_)) (fun r h=>h)
 ·have ho:=qa hk;have E:=t.args n c _ (qi hk);simp only [kdv,kaq hk,qe,kac,ho,qb,C,kaj hk (show n.yc.length<=9223372036854775807 by omega)];obtain ⟨b,F,l⟩:=k66 (n.yc[k]) hn u (by omega);rw [F,qb];cases b with
  | false=>
   refine ⟨.inr (.inr false),rfl, .inr ⟨rfl,fun w=>?_⟩⟩;have:=l.2 (w.opt _ (qi hk));cases this
  | true=>
   have z:=l.1 rfl;by_cases h0:0<k
   ·have q:k - 1<n.yc.length:=(by omega);have e1:w64 ((k:Int) - 1)=((k - 1:Nat):Int):=(by rw [kgv];omega);have e2:decide ((0:Int)<(k:Int))=true:=qh (by omega);have d:=qa q;have A:=t.args n c _ (qi q);simp only [qa9,qd,e2,qe,e1,kac,d,qb];rw [k7m _ _ (by omega) (by omega),qb,qb];by_cases B:kjk n.yc[k - 1] n.yc[k]<0
    ·rw [qg (by omega),qd];refine ⟨_,rfl,(),rfl,fun j o g a=>?_,fun j o p g a e=>?_⟩
     ·by_cases f:j=k;subst f;rw [ho] at a;cases a;exact z
      ·exact h1 j o (by omega) a
     ·by_cases f:j+1=k;have y:j=k - 1:=(by omega);subst y;rw [d] at a;cases a;rw [f,ho] at e;cases e;exact B
      ·exact v j o p (by omega) a e
    ·rw [qh (by omega),qe];refine ⟨.inr (.inr false),rfl, .inr ⟨rfl,fun w=>?_⟩⟩;exact B (w.asc (k - 1) _ _ d (by rw [show k - 1+1=k by omega];exact ho))
   ·have e2:decide ((0:Int)<(k:Int))=false:=qg (by omega);simp only [qa9,qd,e2,qb];refine ⟨_,rfl,(),rfl,fun j o g a=>?_,fun j o p g=>by omega⟩;obtain rfl:j=k:=(by omega);rw [ho] at a;cases a;exact z
 ·refine ⟨_,by simp only [kdv,kal,qd],_,rfl, .inl ⟨rfl,fun o ho=>?_,fun k o p ho hp=>v k o p (kcg hp) ho hp⟩⟩;obtain ⟨j,g⟩:=qap.1 ho;exact h1 j o (kcg g) g
theorem ksq {s:Spa} (j:kw3 s):Ev (kdo s) fun b=>b=true↔kc6 s:=by
 unfold kdo;have q:=j.nodes;by_cases h1:s.ya.length<=4096
 ·have e1:decide ((4096:Int)<(s.ya.length:Int))=false:=qg (by omega);obtain ⟨b,p,d⟩:=kady s.yf s.ya.length (by have:=j.roots;omega);simp only [e1,qd,p,qb];cases b with
  | false=>exact ⟨false,rfl,⟨fun h=>absurd h qba,fun h=>absurd (d.2 h.roots) qba⟩⟩
  | true=>
   have e:=d.1 rfl;simp only [qa9,qd];refine kdp (Ev.mono (kcy (xs:=s.ya) (step:=kfc s) (Q:=fun r=>(r = .inl ()/\optN s.ya<=32768/\∀ (i:Nat) (n:Nod),s.ya[i]?=some n->NodP s.ya i n)\/(r = .inr false/\¬ kc6 s))
    (fun (i:Nat) (c:Int)=>(c,(i:Int))) (fun i c=>c=(optN (s.ya.take i):Int)/\optN (s.ya.take i)<=32768/\∀ (k:Nat) (n:Nod),k<i->s.ya[k]?=some n->NodP s.ya k n) (t0:=0) (by omega) ⟨by simp [optN],by simp [optN],fun k n h=>by omega⟩ (fun i c hi ⟨c1,c2,c3⟩=>?_) (fun c ⟨c1,c2,c3⟩=>?_)) ?_)
   ·subst c1;have hn:=qa hi;have t:=j.opts _ (qi hi);have e2:w64 ((optN (s.ya.take i):Int)+(s.ya[i].yc.length:Int))=(optN (s.ya.take (i+1)):Int):=(by rw [knv hi,kgv];omega);simp only [kfc,kaq hi,qe,kac,hn,qb,e2,kaj hi (show s.ya.length<=9223372036854775807 by omega)];by_cases b1:(32768:Int)<(optN (s.ya.take (i+1)):Int);simp only [qh b1,qe,qb];refine ⟨_,rfl, .inr ⟨rfl,fun h=>?_⟩⟩;have f:=h.opts;have l:=kmx s.ya (i+1);omega
    ·simp only [qg b1,qd];by_cases b2:s.ya[i].ye<0;simp only [qh b2,qe,qb];refine ⟨_,rfl, .inr ⟨rfl,fun h=>?_⟩⟩;have:=(h.node i _ hn).sym;omega
     ·simp only [qg b2,qd];by_cases b3:s.ya[i].yg<1;simp only [qh b3,qe,qb];refine ⟨_,rfl, .inr ⟨rfl,fun h=>?_⟩⟩;have:=(h.node i _ hn).size;omega
      ·simp only [qg b3,qd,qb];by_cases b4:24<s.ya[i].yg;simp only [qh b4,qe];refine ⟨_,rfl, .inr ⟨rfl,fun h=>?_⟩⟩;have:=(h.node i _ hn).size;omega
       ·simp only [qg b4,qd];refine kdp (Ev.mono (kaa0 j _ rfl hn fun k m hk hm=>?_) ?_)
        ·by_cases g:k=i;subst g;rw [hn] at hm;cases hm;omega
         ·exact (c3 k m (by omega) hm).size
        ·rintro r (⟨rfl,f,l⟩ | ⟨rfl,f⟩)
         ·refine ⟨_,rfl,_,rfl,rfl,by omega,fun k m hk hm=>?_⟩;by_cases g:k=i;subst g;rw [hn] at hm;cases hm;exact ⟨by omega,by omega,f,l⟩
          ·exact c3 k m (by omega) hm
         ·exact ⟨_,rfl, .inr ⟨rfl,fun h=>f (h.node i _ hn)⟩⟩
   refine ⟨_,by simp only [kfc,kal,qd],_,rfl, .inl ⟨rfl,?_,fun i n hn=>c3 i n (kcg hn) hn⟩⟩;rw [qal] at c2;exact c2
   ·rintro r (⟨rfl,f,l⟩ | ⟨rfl,f⟩);simp only [q9];have H:ConH s.ya:=⟨h1,f,fun i n o hn ho=>⟨fun a ha=>by have u:=((l i n hn).opt o ho).args a ha;have v:=kcg hn;omega,by have:=j.args n (qo hn) o ho;omega⟩⟩;obtain ⟨b,p,d⟩:=kad2 H;rw [p];refine ⟨b,rfl,?_⟩;show b=true↔_;rw [d];exact ⟨fun h=>⟨h1,e,l,f,h⟩,fun h=>h.con⟩
    ·exact ⟨false,rfl,⟨fun h=>absurd h qba,fun h=>absurd h f⟩⟩
 ·have e1:decide ((4096:Int)<(s.ya.length:Int))=true:=qh (by omega);simp only [e1,qe,qb];exact ⟨false,rfl,⟨fun h=>absurd h qba,fun h=>absurd h.nodes h1⟩⟩
def fg (l:List Bool) (i:Nat):Bool:=(l[i]?).getD false
theorem kob (l:List Bool) {a:Int} (h0:0<=a) (h1:a<(l.length:Int):=by omega):idx l a=some (fg l a.toNat):=by
 have b:a.toNat<l.length:=by omega
 unfold idx fg;rw [qp h0,qa b];rfl
theorem kwy {l:List Bool} {i:Nat} (h:i<l.length):l[i]?=some (fg l i):=by unfold fg;rw [qa h];rfl
theorem kny {l:List Bool} {i:Nat} (h:i<l.length) (b:Bool) (j:Nat):fg (l.set i b) j=if j=i then b else fg l j:=by
 unfold fg;by_cases a:j=i;subst a;rw [qp rfl,List.getElem?_set_self h];rfl
 ·rw [ql a,List.getElem?_set_ne (by omega)]
theorem k6y (n i:Nat):fg (List.replicate n false) i=false:=by unfold fg;rw [List.getElem?_replicate];split <;> rfl
theorem kr7 {l:List Int} {n:Nat} (h:AscP l n):l.length<=n:=by
 have key:∀ (i:Nat) (x:Int),l[i]?=some x->(i:Int)<=x:=by
  intro i
  induction i with
  | zero=>intro x a;exact (h.1 x (qo a)).1
  | succ i ih=>
   intro x a;have hi:=kcg a;have hy:=qa (l:=l) (i:=i) (by omega);have:=h.2 i _ x hy a;have:=ih _ hy;omega
 by_cases h0:l.length=0;omega
 ·have a:=qa (l:=l) (i:=l.length - 1) (by omega);have h1:=key _ _ a;have b:=(h.1 _ (qo a)).2;omega
theorem kh1 {s:Spa} (hf:kc6 s) {i:Nat} {n:Nod} {o:Opn} (hn:s.ya[i]?=some n) (ho:o∈n.yc):o.yb.length<=24:=by
 have c:=hf.node i n hn;have d:=c.opt o ho;have key:∀ l:List Int,(∀ a∈l,0<=a/\a<(i:Int))->(l.length:Int)<=(l.map (szAt s.ya)).sum:=by
  intro l
  induction l with
  | nil=>intro _;simp
  | cons a l ih=>
   intro h;have h1:=ih fun b f=>h b (qj _ f);have e:=h a (qn ..);have g:=kcg hn;obtain ⟨m,_,e2,e3,_⟩:=knh s.ya e.1 (by omega);have j:=(hf.node _ m e2).size;simp only [qbd,qas,List.sum_cons];omega
 have h1:=key _ d.args;have e:=d.size;have g:=c.size;omega
theorem kvy {f g:Nat->Bool} {o:Opn} (h:∀ a∈o.yb,f a.toNat=g a.toNat):kb1 f o=kb1 g o:=by unfold kb1;rw [Bool.eq_iff_iff,qs,qs];exact ⟨fun k a ha=>by rw [<- h a ha];exact k a ha,fun k a ha=>by rw [h a ha];exact k a ha⟩
theorem kxp {o:Opn} {l:List Bool} (h:∀ a∈o.yb,0<=a/\a<(l.length:Int)) (g:o.yb.length<=9223372036854775807):kbx o l=some (kb1 (fg l) o):=by
 unfold kbx
 let bad:Nat->Bool:=fun j=>!fg l ((o.yb[j]?).getD 0).toNat
 have hs:∀ j,j<o.yb.length->kdt o l (j:Int)=if bad j=true then some (.inr (.inr false)) else some (.inl ((j+1:Nat):Int)):=fun j c=>by
  have ha:=h _ (qi c);have e:bad j=!fg l o.yb[j].toNat:=by show (!fg l ((o.yb[j]?).getD 0).toNat)=_;rw [qa c,qah]
  rw [e];simp only [kdt,kaq c,qe,kac,qa c,qb,kaj c g,kob _ ha.1 (h1:=ha.2)];cases fg l o.yb[j].toNat <;> rfl
 have i:kdt o l (o.yb.length:Int)=some (.inr (.inl ())):=by simp only [kdt,kal,qd]
 rcases kjo (kdt o l) o.yb.length bad (fun _ => .inr false) (.inl ()) hs i with ⟨j,c,f,_,hr⟩ | ⟨f,hr⟩
 ·rw [hr];have b:(!fg l ((o.yb[j]?).getD 0).toNat)=true:=f;rw [qa c,qah] at b;have:kb1 (fg l) o=false:=by rw [Bool.eq_false_iff];intro d;have:=qs.1 d _ (qi c);rw [this] at b;cases b
  rw [this];rfl
 ·rw [hr];have:kb1 (fg l) o=true:=qs.2 fun a ha=>by
   obtain ⟨j,c,rfl⟩:=qae.1 ha;have b:(!fg l ((o.yb[j]?).getD 0).toNat)=false:=f j c;rw [qa c,qah] at b;cases k:fg l o.yb[j].toNat with
   | true=>rfl
   | false=>rw [k] at b;cases b
  rw [this];rfl
section
variable {s:Spa} (hf:kc6 s)
include hf
theorem olen {i:Nat} {n:Nod} (hn:s.ya[i]?=some n):n.yc.length<=32768:=qav (krw hn) hf.opts
theorem klx {i:Nat} {n:Nod} {o:Opn} (hn:s.ya[i]?=some n) (ho:o∈n.yc) {a:Int} (ha:a∈o.yb):0<=a/\a<(i:Int)/\a<(s.ya.length:Int):=by have h1:=((hf.node i n hn).opt o ho).args a ha;have b:=kcg hn;omega
def kua (s:Spa) (l:List Bool) (i:Nat):Prop:=∀ n,s.ya[i]?=some n->(fg l i=true↔∃ o∈n.yc,kb1 (fg l) o=true)
theorem k23:Ev (khp s) fun l=>l.length=s.ya.length/\∀ i,i<s.ya.length->kua s l i:=by
 have v:=hf.nodes;unfold khp;rw [krz 1 false s.ya.length,qb];refine kdp (Ev.mono (kcy (xs:=s.ya) (step:=kgd s) (Q:=fun l=>l.length=s.ya.length/\∀ i,i<s.ya.length->kua s l i) (fun (i:Nat) (l:List Bool)=>((i:Int),l))
  (fun i l=>l.length=s.ya.length/\(∀ k,k<i->kua s l k)/\∀ k,i<=k->fg l k=false) (t0:=List.replicate s.ya.length false) (by omega) ⟨List.length_replicate,fun k h=>by omega,fun k _=>k6y _ _⟩ (fun i l hi ⟨h1,d,t⟩=>?_) (fun l ⟨h1,d,t⟩=>?_)) ?_)
 ·have hn:=qa hi;have w:=olen hf hn;simp only [kgd,kaq hi,qe,kaj hi (show s.ya.length<=9223372036854775807 by omega)];refine kdp (Ev.mono (kcy (xs:=s.ya[i].yc) (step:=kgc s ((i:Int),l)) (Q:=fun l'=>l'.length=s.ya.length/\(∀ k,k≠i->fg l' k=fg l k)/\(fg l' i=true↔∃ o∈s.ya[i].yc,kb1 (fg l) o=true)) (fun (k:Nat) (l':List Bool)=>((k:Int),l'))
   (fun k l'=>l'.length=s.ya.length/\(∀ k,k≠i->fg l' k=fg l k)/\(fg l' i=true↔∃ o∈s.ya[i].yc.take k,kb1 (fg l) o=true)) (t0:=l) (by omega) ⟨h1,fun _ _=>rfl,by simp [t i (qx _)]⟩ (fun k l' hk ⟨g1,g2,g3⟩=>?_) (fun l' ⟨g1,g2,g3⟩=>?_)) ?_)
  rotate_left
  ·have ho:=qa hk;have hm:=qi hk;have g:i<l'.length:=(by omega);have p:kbx s.ya[i].yc[k] l'=some (kb1 (fg l) s.ya[i].yc[k]):=(by rw [kxp (fun a ha=>by have:=klx hf hn hm ha;omega) (by have:=kh1 hf hn hm;omega)];congr 1;exact kvy fun a ha=>g2 _ (by have:=klx hf hn hm ha;omega));have hst:∀ b:Bool,(b=true↔(fg l' i=true\/kb1 (fg l) s.ya[i].yc[k]=true))->(l'.set i b).length=s.ya.length/\(∀ k,k≠i->fg (l'.set i b) k=fg l k)/\(fg (l'.set i b) i=true↔∃ o∈s.ya[i].yc.take (k+1),kb1 (fg l) o=true):=fun b r=>by
    refine ⟨by rw [List.length_set];exact g1,fun j u=>by rw [kny g,ql u];exact g2 j u,?_⟩;rw [kny g,qp rfl,r,g3,qac hk];simp only [qab,qw];constructor
    ·rintro (⟨o,h1,d⟩ | d);exact ⟨o, .inl h1,d⟩
     ·exact ⟨_, .inr rfl,d⟩
    ·rintro ⟨o,h1 | rfl,d⟩;exact .inl ⟨o,h1,d⟩
     ·exact .inr d
   simp only [kgc,kac,hn,qb,kaq hk,qe,kwy g,kaj hk (show s.ya[i].yc.length<=9223372036854775807 by omega),ho,p,qa0];cases r:fg l' i with
   | true=>
    simp only [qe,qb];exact ⟨_,rfl,_,rfl,hst true (by simp [r])⟩
   | false=>
    simp only [qd,qb];exact ⟨_,rfl,_,rfl,hst _ (by simp [r])⟩
  refine ⟨_,by simp only [kgc,kac,hn,qb,kal,qd],_,rfl,g1,g2,?_⟩;rw [qal] at g3;exact g3
  ·rintro l' ⟨g1,g2,g3⟩;refine ⟨_,rfl,_,rfl,g1,fun k hk n e=>?_,fun k hk=>?_⟩
   ·have f:∀ o∈n.yc,kb1 (fg l') o=kb1 (fg l) o:=fun o ho=>kvy fun a ha=>g2 _ (by have:=klx hf e ho ha;omega);by_cases q:k=i;subst q;rw [hn] at e;cases e;rw [g3];exact ⟨fun ⟨o,c,m⟩=>⟨o,c,by rw [f o c];exact m⟩,fun ⟨o,c,m⟩=>⟨o,c,by rw [<- f o c];exact m⟩⟩
    ·rw [g2 k q,d k (by omega) n e];exact ⟨fun ⟨o,c,m⟩=>⟨o,c,by rw [f o c];exact m⟩,fun ⟨o,c,m⟩=>⟨o,c,by rw [<- f o c];exact m⟩⟩
   ·rw [g2 k (by omega)];exact t k (by omega)
 exact ⟨_,by simp only [kgd,kal,qd],_,rfl,h1,d⟩
 ·intro l h;exact ⟨l,rfl,h⟩
omit hf in
theorem k4l {l:List Bool} (h:∀ i,i<s.ya.length->kua s l i):∀ (t:Tm) (i:Nat),Bt s.ya i t->fg l i=true:=by
 intro t
 induction t using Tm.ind with
 | h r ts ih=>
  intro i d;obtain ⟨n,o,ts',hn,ho,e,hs⟩:=d.inv;injection e with b c;subst b c;refine (h i (kcg hn) n hn).2 ⟨o,ho,qs.2 fun a ha=>?_⟩;have key:∀ {vs:List Int} {ts:List Tm},Bts s.ya vs ts->(∀ t∈ts,∀ i,Bt s.ya i t->fg l i=true)->∀ a∈vs,fg l a.toNat=true:=by
   intro vs
   induction vs with
   | nil=>intro ts _ _ a ha;simp at ha
   | cons v vs ih2=>
    intro ts hs hi a ha;cases hs with
    | cons h0 ht hs=>
     rcases qam.1 ha with rfl | ha;exact hi _ (qn ..) _ ht
     ·exact ih2 hs (fun t ht=>hi t (qj _ ht)) a ha
  exact key hs ih a ha
theorem kww {l:List Bool} (hl:l.length=s.ya.length):Ev (kab (kbm s l) fuel (0,List.replicate s.ya.length false)) fun p=>p.length=s.ya.length/\∀ r∈s.yf,fg p r.toNat=fg l r.toNat:=by
 have e:=kr7 hf.roots;have f:=hf.nodes;refine kcy (xs:=s.yf) (step:=kbm s l) (fun (j:Nat) (p:List Bool)=>((j:Int),p)) (fun j p=>p.length=s.ya.length/\∀ r∈s.yf.take j,fg p r.toNat=fg l r.toNat) (by omega) ⟨List.length_replicate,by simp⟩ (fun j p b ⟨h1,d⟩=>?_) (fun p ⟨h1,d⟩=>?_)
 ·have hr:=qa b;have c:=hf.roots.1 _ (qi b);simp only [kbm,kaq b,qe,kac,hr,qb,kob l c.1,kob p c.1,kaj b (show s.yf.length<=9223372036854775807 by omega)];refine ⟨_,rfl,_,rfl,by rw [List.length_set];exact h1,fun r a=>?_⟩;rw [kny (by omega)];split;rename_i h;rw [h]
  ·rename_i h;rw [qac b,qab,qw] at a;rcases a with a | rfl;exact d r a
   ·exact absurd rfl h
 ·refine ⟨_,by simp only [kbm,kal,qd],_,rfl,h1,fun r hr=>d r ?_⟩;rw [qal];exact hr
theorem k2a {l p:List Bool} {i:Nat} {n:Nod} {o:Opn} (hl:l.length=s.ya.length) (hp:p.length=s.ya.length) (hn:s.ya[i]?=some n) (ho:o∈n.yc):Ev (kab (ka6 l o) fuel (0,p)) fun q=>
  q.length=s.ya.length/\(∀ k,fg p k=true->fg q k=true)/\(∀ k,i<=k->fg q k=fg p k)/\(kb1 (fg l) o=true->∀ a∈o.yb,fg q a.toNat=true):=by
 have t:=kh1 hf hn ho;have u:=hf.nodes;have b:kbx o l=some (kb1 (fg l) o):=kxp (fun a ha=>by have:=klx hf hn ho ha;omega) (by omega);cases r:kb1 (fg l) o with
 | false=>
  rw [r] at b;refine ⟨p,?_,hp,fun k h=>h,fun k _=>rfl,fun h=>by cases h⟩;show kab _ fuel _=_;rw [show fuel=18446744073709551615+1 from rfl,kab];have:ka6 l o (0,p)=some (.inr p):=by
   simp only [ka6];by_cases h0:(0:Int)<(o.yb.length:Int);rw [qh h0,qe,b];rfl
   ·rw [qg h0];rfl
  rw [this]
 | true=>
  rw [r] at b;refine Ev.mono (kcy (xs:=o.yb) (step:=ka6 l o) (Q:=fun q=>q.length=s.ya.length/\(∀ k,fg p k=true->fg q k=true)/\(∀ k,i<=k->fg q k=fg p k)/\∀ a∈o.yb,fg q a.toNat=true) (fun (j:Nat) (q:List Bool)=>((j:Int),q))
   (fun j q=>q.length=s.ya.length/\(∀ k,fg p k=true->fg q k=true)/\(∀ k,i<=k->fg q k=fg p k)/\∀ a∈o.yb.take j,fg q a.toNat=true) (t0:=p) (by omega) ⟨hp,fun k h=>h,fun k _=>rfl,by simp⟩ (fun j q e ⟨h1,f,g,d⟩=>?_) (fun q ⟨h1,f,g,d⟩=>?_)) (fun q ⟨h1,f,g,d⟩=>⟨h1,f,g,fun _=>d⟩)
  ·have ha:=qa e;have m:=klx hf hn ho (qi e);simp only [ka6,kaq e,qe,b,qb,kac,ha,kob q m.1,kaj e (show o.yb.length<=9223372036854775807 by omega)];refine ⟨_,rfl,_,rfl,by rw [List.length_set];exact h1,fun k hk=>?_,fun k hk=>?_,fun a c=>?_⟩
   ·rw [kny (by omega)];split;rfl
    ·exact f k hk
   rw [kny (by omega),ql (by omega)];exact g k hk
   ·rw [kny (by omega)];split;rfl
    ·rename_i h;rw [qac e,qab,qw] at c;rcases c with c | rfl;exact d a c
     ·exact absurd rfl h
  ·refine ⟨_,by simp only [ka6,kal,qd,qb],_,rfl,h1,f,g,?_⟩;rw [qal] at d;exact d
theorem kzs {l p:List Bool} {i:Nat} {n:Nod} (hl:l.length=s.ya.length) (hp:p.length=s.ya.length) (hn:s.ya[i]?=some n) (x:Int×List Bool) (m:x.1=(i:Int)):Ev (kab (kbk s l x) fuel (0,p)) fun q=>
  q.length=s.ya.length/\(∀ k,fg p k=true->fg q k=true)/\(∀ k,i<=k->fg q k=fg p k)/\(fg p i=true->∀ o∈n.yc,kb1 (fg l) o=true->∀ a∈o.yb,fg q a.toNat=true):=by
 have r:=olen hf hn;have hi:=kcg hn;refine kcy (xs:=n.yc) (step:=kbk s l x) (fun (j:Nat) (q:List Bool)=>((j:Int),q))
  (fun j q=>q.length=s.ya.length/\(∀ k,fg p k=true->fg q k=true)/\(∀ k,i<=k->fg q k=fg p k)/\(fg p i=true->∀ o∈n.yc.take j,kb1 (fg l) o=true->∀ a∈o.yb,fg q a.toNat=true)) (by omega) ⟨hp,fun k h=>h,fun k _=>rfl,by simp⟩ (fun j q c ⟨h1,e,d,f⟩=>?_) (fun q ⟨h1,e,d,f⟩=>?_)
 ·have ho:=qa c;have hm:=qi c;simp only [kbk,m,kac,hn,qb,kaq c,qe,kwy (show i<q.length by omega),d i (qx _),ho,kaj c (show n.yc.length<=9223372036854775807 by omega)];cases g:fg p i with
  | false=>
   simp only [qd];exact ⟨_,rfl,h1,e,d,fun h=>absurd h (by simp)⟩
  | true=>
   simp only [qe];refine kdp (Ev.mono (k2a hf hl h1 hn hm) fun q' ⟨g1,g2,g3,g4⟩=>?_);refine ⟨_,rfl,_,rfl,g1,fun k hk=>g2 k (e k hk),fun k hk=>by rw [g3 k hk,d k hk],fun _ o b hfo a ha=>?_⟩;rw [qac c,qab,qw] at b;rcases b with b | rfl;exact g2 _ (f g o b hfo a ha)
   ·exact g4 hfo a ha
 ·refine ⟨_,by simp only [kbk,m,kac,hn,qb,kal,qd],_,rfl,h1,e,d,?_⟩;rw [qal] at f;exact f
theorem k20 {l p:List Bool} (hl:l.length=s.ya.length) (hp:p.length=s.ya.length):Ev (kab (kcj s l) fuel (w64 ((s.ya.length:Int) - 1),p)) fun q=>
  q.length=s.ya.length/\(∀ k,fg p k=true->fg q k=true)/\∀ (i:Nat) (n:Nod),s.ya[i]?=some n->fg q i=true->∀ o∈n.yc,kb1 (fg l) o=true->∀ a∈o.yb,fg q a.toNat=true:=by
 have j:=hf.nodes;have e0:w64 ((s.ya.length:Int) - 1)=(s.ya.length:Int) - 1:=kgv;rw [e0];refine kpv (fun (x:Int×List Bool) => -1<=x.1/\x.1<(s.ya.length:Int)/\x.2.length=s.ya.length/\(∀ k,fg p k=true->fg x.2 k=true)/\∀ (i:Nat) (n:Nod),x.1<(i:Int)->s.ya[i]?=some n->fg x.2 i=true->∀ o∈n.yc,kb1 (fg l) o=true->∀ a∈o.yb,fg x.2 a.toNat=true)
  (fun x=>(x.1+1).toNat) (by show ((s.ya.length:Int) - 1+1).toNat<_;omega) ⟨by show (-1:Int)<=(s.ya.length:Int) - 1;omega,by show (s.ya.length:Int) - 1<_;omega,hp,fun k h=>h,fun i n h hn=>by have:=kcg hn;have u:(s.ya.length:Int) - 1<(i:Int):=h;omega⟩ ?_
 rintro ⟨z,q⟩ ⟨h0,h1,d,e,f⟩;simp only at h0 h1 d e f;by_cases m:0<=z
 ·obtain ⟨i,rfl⟩:∃ i:Nat,z=(i:Int):=⟨z.toNat,by omega⟩;have hi:i<s.ya.length:=by omega
  have hn:=qa hi;have e1:w64 ((i:Int) - 1)=(i:Int) - 1:=kgv;simp only [kcj,qh m,qe,e1];refine kdp (Ev.mono (kzs hf hl d hn _ rfl) fun q' ⟨g1,g2,g3,g4⟩=>?_);refine ⟨_,rfl,⟨by show (-1:Int)<=(i:Int) - 1;omega,by show (i:Int) - 1<_;omega,g1,fun k hk=>g2 k (e k hk),fun k n hk b r o ho hfo a ha=>?_⟩,by show ((i:Int) - 1+1).toNat<((i:Int)+1).toNat;omega⟩;have t:(i:Int) - 1<(k:Int):=hk;have c:fg q k=true:=by rw [<- g3 k (by omega)];exact r
  by_cases g:k=i;subst g;rw [hn] at b;cases b;exact g4 c o ho hfo a ha
  ·exact g2 _ (f k n (by omega) b c o ho hfo a ha)
 ·obtain rfl:z = -1:=by omega
  refine ⟨.inr q,by simp only [kcj];rfl,d,e,fun i n hn=>f i n (by omega) hn⟩
end
theorem map_take {α β:Type} (g:α->β) {l:List α} {j:Nat} (h:j<l.length):(l.take (j+1)).map g=(l.take j).map g++[g l[j]]:=by rw [qac h,qaw];rfl
theorem kqx {α:Type} (q:α->Bool) {l:List α} {j:Nat} (h:j<l.length):(l.take (j+1)).filter q=(l.take j).filter q++(if q l[j]=true then [l[j]] else []):=by
 rw [qac h,List.filter_append];congr 1;split;rename_i a;rw [List.filter_cons_of_pos a];rfl
 ·rename_i a;rw [List.filter_cons_of_neg (by simpa using a)];rfl
section
variable {s:Spa} (hf:kc6 s)
include hf
def NumR (s:Spa) (p:Nat->Bool) (i:Nat) (num:List Int):Prop:=num.length=s.ya.length/\∀ k,k<i->num[k]?=some (cntP p k:Int)
omit hf in
theorem NumR.idx {p:Nat->Bool} {i:Nat} {num:List Int} (h:NumR s p i num) {a:Int} (h0:0<=a) (h1:a<(i:Int)):Go.Proofs.YtchjomeomabamaaGreatDoor.idx num a=some (numI p a):=by unfold Go.Proofs.YtchjomeomabamaaGreatDoor.idx;rw [qp h0,h.2 a.toNat (by omega)];rfl
theorem kacp {p:Nat->Bool} {i:Nat} {n:Nod} {o:Opn} (hn:s.ya[i]?=some n) (ho:o∈n.yc) (x:Int×List Int×List Nod) (num:List Int) (d:List.set x.2.1 (Int.toNat x.1) (List.length (x.2.2):Int)=num) (a:NumR s p (i+1) num):
  Ev (kab (ket x o) fuel (0,([]:List Int))) fun v=>v=o.yb.map (numI p):=by
 have e:=kh1 hf hn ho;refine kcy (xs:=o.yb) (step:=ket x o) (fun (j:Nat) (q:List Int)=>((j:Int),q)) (fun j q=>q=(o.yb.take j).map (numI p)) (by omega) (by simp) (fun j q b h1=>?_) (fun q h1=>?_);subst h1;have ha:=qa b;have c:=klx hf hn ho (qi b);simp only [ket,kaq b,qe,kac,ha,qb,d,a.idx c.1 (by omega),kaj b (show o.yb.length<=9223372036854775807 by omega)];rw [kcv (by simp;omega),qb];exact ⟨_,rfl,_,rfl,(map_take _ b).symm⟩
 ·subst h1;rw [qal];exact ⟨_,by simp only [ket,kal,qd],_,rfl,rfl⟩
theorem kaag {l:List Bool} {p:Nat->Bool} (hl:l.length=s.ya.length) {i:Nat} {n:Nod} (hn:s.ya[i]?=some n) (x:Int×List Int×List Nod) (c:x.1=(i:Int)) (num:List Int) (h:List.set x.2.1 (Int.toNat x.1) (List.length (x.2.2):Int)=num) (d:NumR s p (i+1) num):
  Ev (kab (kes s l x) fuel (0,([]:List Opn))) fun v=>v=(n.yc.filter (kb1 (fg l))).map (kkd p):=by
 have k:=olen hf hn;have hi:=kcg hn;refine kcy (xs:=n.yc) (step:=kes s l x) (fun (j:Nat) (q:List Opn)=>((j:Int),q)) (fun j q=>q=((n.yc.take j).filter (kb1 (fg l))).map (kkd p)) (by omega) (by simp) (fun j q b h1=>?_) (fun q h1=>?_)
 ·subst h1;have ho:=qa b;have hm:=qi b;have e:kbx n.yc[j] l=some (kb1 (fg l) n.yc[j]):=kxp (fun a ha=>by have:=klx hf hn hm ha;omega) (by have:=kh1 hf hn hm;omega);simp only [kes,c,kac,hn,qb,kaq b,qe,ho,e,kaj b (show n.yc.length<=9223372036854775807 by omega)];cases f:kb1 (fg l) n.yc[j] with
  | false=>
   simp only [Bool.not_false,qe,qb,qat];refine ⟨_,rfl,_,rfl,?_⟩;rw [kqx _ b,ql (by rw [f];simp),qbw]
  | true=>
   simp only [qa9,qd];have g:(((n.yc.take j).filter (kb1 (fg l))).map (kkd p)).length<=j:=(by rw [qaa];refine qav (List.length_filter_le _ _) ?_;rw [qai];omega);obtain ⟨v,hv,rfl⟩:=kacp hf hn hm x num h d;rw [hv,qb,kcv (by rw [qar];omega)];simp only [qb,q9];refine ⟨_,rfl,_,rfl,?_⟩;rw [kqx _ b,qp f,qaw];rfl
 ·subst h1;rw [qal];exact ⟨_,by simp only [kes,c,kac,hn,qb,kal,qd],_,rfl,rfl⟩
def kept (s:Spa) (f p:Nat->Bool) (i:Nat):List Nod:=((List.range i).filter p).map fun i=>knu f p ((s.ya[i]?).getD nodD)
omit hf in
theorem kwe (f p:Nat->Bool) (i:Nat):(kept s f p i).length=cntP p i:=by unfold kept;rw [qaa];rfl
omit hf in
theorem kzo {f p:Nat->Bool} {i:Nat} {n:Nod} (hn:s.ya[i]?=some n):kept s f p (i+1)=kept s f p i++(if p i=true then [knu f p n] else []):=by
 unfold kept;rw [List.range_succ,List.filter_append,qaw];congr 1;split;rename_i h;rw [List.filter_cons_of_pos h,List.filter_nil,qas,List.map_nil,hn];rfl
 ·rename_i h;rw [List.filter_cons_of_neg (by simpa using h)];rfl
theorem kzj {l q:List Bool} (hl:l.length=s.ya.length) (g:q.length=s.ya.length):Ev (kab (kev s l q) fuel (0,List.replicate s.ya.length 0,([]:List Nod))) fun v=>NumR s (fg q) s.ya.length v.1/\v.2=kept s (fg l) (fg q) s.ya.length:=by
 have f:=hf.nodes;refine kcy (xs:=s.ya) (step:=kev s l q) (fun (j:Nat) (v:List Int×List Nod)=>((j:Int),v.1,v.2)) (fun j v=>NumR s (fg q) j v.1/\v.2=kept s (fg l) (fg q) j) (t0:=(List.replicate s.ya.length 0,[])) (by omega) ⟨⟨List.length_replicate,fun k h=>by omega⟩,rfl⟩ (fun i v hi ⟨h1,c⟩=>?_) (fun v ⟨h1,c⟩=>?_)
 ·obtain ⟨num,nds⟩:=v;simp only at h1 c;subst c;have hn:=qa hi;have b:i<num.length:=by rw [h1.1];exact hi
  have a:NumR s (fg q) (i+1) (List.set num i (cntP (fg q) i:Int)):=by
   refine ⟨by rw [List.length_set];exact h1.1,fun k hk=>?_⟩;by_cases d:k=i;subst d;rw [List.getElem?_set_self b]
   ·rw [List.getElem?_set_ne (by omega)];exact h1.2 k (by omega)
  have e1:num[i]?=some num[i]:=qa b;simp only [kev,kaq hi,qe,kac,e1,hn,qb,kwy (show i<q.length by omega),qa0,kwe,kaj hi (show s.ya.length<=9223372036854775807 by omega)];cases e:fg q i with
  | false=>
   simp only [Bool.not_false,qe,qb,qat];refine ⟨_,rfl,(_,_),rfl,a,?_⟩;rw [kzo hn,ql (by rw [e];simp),qbw];rfl
  | true=>
   simp only [qa9,qd];obtain ⟨v,hv,rfl⟩:=kaag hf hl hn ((i:Int),num,kept s (fg l) (fg q) i) rfl (List.set num i (cntP (fg q) i:Int)) (by simp [kwe]) a;have:=k4q (fg q) i;rw [hv,qb,kcv (by rw [kwe,qar];omega)];simp only [qb,q9];refine ⟨_,rfl,(_,_),rfl,a,?_⟩;rw [kzo hn,qp e];rfl
 ·exact ⟨_,by simp only [kev,kal,qd],_,rfl,h1,c⟩
theorem kzn {l:List Bool} {p:Nat->Bool} (hl:l.length=s.ya.length) (x:List Int×List Nod) (e:NumR s p s.ya.length x.1):Ev (kab (ker s l x) fuel (0,([]:List Int))) fun v=>v=(s.yf.filter fun r=>fg l r.toNat).map (numI p):=by
 have f:=kr7 hf.roots;have g:=hf.nodes;refine kcy (xs:=s.yf) (step:=ker s l x) (fun (j:Nat) (q:List Int)=>((j:Int),q)) (fun j q=>q=((s.yf.take j).filter fun r=>fg l r.toNat).map (numI p)) (by omega) (by simp) (fun j q b h1=>?_) (fun q h1=>?_)
 ·subst h1;have hr:=qa b;have a:=hf.roots.1 _ (qi b);simp only [ker,kaq b,qe,kac,hr,qb,kob l a.1,e.idx a.1 a.2,kaj b (show s.yf.length<=9223372036854775807 by omega)];cases c:fg l s.yf[j].toNat with
  | false=>
   simp only [qd,qb];refine ⟨_,rfl,_,rfl,?_⟩;rw [kqx _ b,ql (by rw [c];simp),qbw]
  | true=>
   simp only [qe];have d:(((s.yf.take j).filter fun r=>fg l r.toNat).map (numI p)).length<=j:=(by rw [qaa];refine qav (List.length_filter_le _ _) ?_;rw [qai];omega);rw [kcv (by rw [qar];omega)];simp only [qb];refine ⟨_,rfl,_,rfl,?_⟩;rw [kqx _ b,qp c,qaw];rfl
 ·subst h1;rw [qal];exact ⟨_,by simp only [ker,kal,qd],_,rfl,rfl⟩
end
theorem kaa3 {s:Spa} (d:kw3 s):Ev (kb3 s) fun r=>(¬ kc6 s/\r=(⟨[],[]⟩,4))\/(kc6 s/\∃ f p,kqr s f p/\r=(kgr f p s,0)):=by
 unfold kb3;obtain ⟨b,e,a⟩:=ksq d;rw [e,qb];cases b with
 | false=>exact ⟨_,rfl, .inl ⟨fun h=>absurd (a.2 h) qba,rfl⟩⟩
 | true=>
  have hf:=a.1 rfl;have g:=hf.nodes;simp only [qa9,qd];obtain ⟨l,hl,l1,l2⟩:=k23 hf;rw [hl,qb,krz 1 false s.ya.length,qb];obtain ⟨p,hp,p1,p2⟩:=kww hf l1;rw [hp,qb];obtain ⟨q,j,q1,q2,q3⟩:=k20 hf l1 p1;rw [j,qb,krz 8 0 s.ya.length,qb];obtain ⟨v,hv,v1,v2⟩:=kzj hf l1 q1;rw [hv,qb];obtain ⟨u,hu,rfl⟩:=kzn hf l1 v v1;rw [hu,qb];refine ⟨_,rfl, .inr ⟨hf,fg l,fg q,⟨fun i t h=>k4l l2 t i h,fun r hr c=>q2 _ (by rw [p2 r hr];exact c),fun i n o h1 k m w=>q3 i n k h1 o m w⟩,?_⟩⟩;rw [v2];rfl
theorem kqp {s:Spa} (hf:kc6 s):kw3 s:=by
 have a:=hf.nodes;have b:=kr7 hf.roots;refine ⟨by omega,by omega,fun n hn=>?_,fun n hn o ho=>?_⟩;obtain ⟨i,hi⟩:=qap.1 hn;have:=olen hf hi;omega
 ·obtain ⟨i,hi⟩:=qap.1 hn;have:=kh1 hf hi ho;omega
end Go.Proofs.YtchjomeomabamaaGreatDoor
