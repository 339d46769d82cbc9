import Derived.Test.YtjbonbdomgoklaaGreatDoorSim
import Derived.Test.YtjbonbdomgoklaaGreatDoorDrz
import Derived.Test.YtjbonbdomgoklaaGreatDoorZE
import Derived.Test.YtjbonbdomgoklaaGreatDoorXg
set_option linter.all false
namespace Go.Proofs.YtjbonbdomgoklaaGreatDoor
open Go Go.RowKit
def kh5 (a b:BA):Bool:=Op.bytesLess a.toList b.toList
mutual
def cmpV:Va->Va->Int
 | .mk t n s l, .mk t' n' s' l'=>
  if t<t' then -1 else if t'<t then 1 else if n<n' then -1 else if n'<n then 1 else if kh5 s s'=true then -1 else if kh5 s' s=true then 1 else kja l l'
def kja:List Va->List Va->Int
 | [],[]=>0
 | [],_::_ => -1
 | _::_,[]=>1
 | x::l,y::m=>if cmpV x y≠0 then cmpV x y else kja l m
end
def eqV (a b:Va):Bool:=decide (cmpV a b=0)
theorem kpt:∀ l:List UInt8,Op.bytesLess l l=false
 | []=>rfl
 | x::l=>by simp [Op.bytesLess,kpt l]
theorem kvj:∀ l m:List UInt8,Op.bytesLess l m=false->Op.bytesLess m l=false->l=m
 | [],[],_,_=>rfl
 | [],y::m,h,_=>by simp [Op.bytesLess] at h
 | x::l,[],_,h=>by simp [Op.bytesLess] at h
 | x::l,y::m,h,a=>by
  simp only [Op.bytesLess,Bool.or_eq_false_iff,Bool.and_eq_false_iff,qb1,qaw] at h a;have b:x=y:=by have h1:=h.1;have c:=a.1;exact UInt8.le_antisymm (UInt8.not_lt.1 c) (UInt8.not_lt.1 h1)
  subst b;rw [kvj l m (h.2.resolve_left fun h=>h rfl) (a.2.resolve_left fun h=>h rfl)]
theorem kwh {a b:BA} (h:a.toList=b.toList):a=b:=by rw [ByteArray.toList_eq,ByteArray.toList_eq] at h;obtain ⟨⟨a⟩⟩:=a;obtain ⟨⟨b⟩⟩:=b;simp at h;rw [h]
theorem k1a (a:BA):kh5 a a=false:=kpt _
theorem k7k {a b:BA} (h:kh5 a b=false) (c:kh5 b a=false):a=b:=kwh (kvj _ _ h c)
theorem kaab (l:List Va) (h:∀ x∈l,cmpV x x=0):kja l l=0:=by
 induction l with
 | nil=>rfl
 | cons x l ih=>
  rw [kja,qi (by simp [h x (by simp)])];exact ih fun y hy=>h y (by simp [hy])
theorem kacy (v:Va):cmpV v v=0:=by
 induction v using Va.ind with
 | h t n s l ih=>
  rw [cmpV,qi (by omega),qi (by omega),qi (by omega),qi (by omega),k1a];simp only [Bool.false_eq_true,if_false];exact kaab l ih
theorem k7l:∀ (l m:List Va),(∀ x∈l,∀ y,cmpV x y=0->x=y)->kja l m=0->l=m
 | [],[],_,_=>rfl
 | [],_::_,_,h=>by simp [kja] at h
 | _::_,[],_,h=>by simp [kja] at h
 | x::l,y::m,ih,h=>by
  rw [kja] at h;split at h;rename_i h1;exact absurd h h1
  ·rename_i h1;have h1:cmpV x y=0:=(by omega);rw [ih x (by simp) y h1,k7l l m (fun z a=>ih z (by simp [a])) h]
theorem kaie (v:Va):∀ u,cmpV v u=0->v=u:=by
 induction v using Va.ind with
 | h t n s l ih=>
  rintro ⟨t',n',s',l'⟩ h;rw [cmpV] at h
  repeat' split at h
  all_goals try (exfalso;omega)
  rename_i h1 c d e a b;obtain rfl:t=t':=by omega
  obtain rfl:n=n':=by omega
  obtain rfl:s=s':=k7k (by simpa using a) (by simpa using b);rw [k7l l l' ih h]
theorem kaei (v:Va):eqV v v=true:=by unfold eqV;rw [kacy];rfl
theorem ktz:fuel=18446744073709551615+1:=rfl
theorem kfu {n:Nat} (h:n<18446744073709551616):n<fuel:=h
theorem kas {n:Int} (h: -9223372036854775808<=n:=by omega) (a:n<=9223372036854775807:=by omega):w64 n=n:=by
 unfold w64 IntKind.wrap IntKind.signed IntKind.bits;simp only;rw [show (2:Int) ^ 64=18446744073709551616 from rfl];by_cases h0:0<=n;have:n % 18446744073709551616=n:=Int.emod_eq_of_lt h0 (by omega);simp [this];omega
 ·have:n % 18446744073709551616=n+18446744073709551616:=by rw [<- Int.add_emod_right,Int.emod_eq_of_lt (by omega) (by omega)]
  simp [this];omega
theorem keq (n:Nat) (h:n<=9223372036854775806:=by omega):w64 ((n:Int)+1)=((n+1:Nat):Int):=by rw [kas];omega
theorem kaf {α:Type} (xs:List α) (n:Nat):idx xs (n:Int)=xs[n]?:=by unfold idx;rw [ql (by omega)];simp
theorem kaho (s:BA) (n:Nat):byt s (n:Int)=(s[n]?).map fun c=>(c.toNat:Int):=by unfold byt;rw [ql (by omega)];simp
theorem kcg {α:Type} {b:Nat} {xs ys:List α} (h:(xs.length+ys.length)*(b+1)<=140737488355328):app b xs ys=some (xs++ys):=by unfold app;rw [ql h]
variable {σ β:Type} {step:σ->Option (σ ⊕ β)}
theorem k7o (n:Nat) (S:Nat->σ) (out:Nat->β) (hs:∀ i,i<n->(step (S i)=some (.inl (S (i+1)))/\out i=out (i+1))\/step (S i)=some (.inr (out i))) (a:step (S n)=some (.inr (out n))):
  ∀ (k i:Nat),i<=n->n - i<k->kac step k (S i)=some (out i)
 | 0,i,_,h=>by omega
 | k+1,i,hi,hk=>by
  rw [kac];by_cases h:i=n;subst h;rw [a]
  ·rcases hs i (by omega) with ⟨h1,b⟩ | h1;rw [h1,b];exact k7o n S out hs a k (i+1) (by omega) (by omega)
   ·rw [h1]
theorem kk2 (step:σ->Option (σ ⊕ β)) (n:Nat) (S:Nat->σ) (out:Nat->β) (hs:∀ i,i<n->(step (S i)=some (.inl (S (i+1)))/\out i=out (i+1))\/step (S i)=some (.inr (out i))) (a:step (S n)=some (.inr (out n))) (hn:n<18446744073709551616:=by omega):
  kac step fuel (S 0)=some (out 0):=k7o n S out hs a fuel 0 (qao _) (kfu (by omega))
theorem kck (step:σ->Option (σ ⊕ β)) (n:Nat) (S:Nat->σ) (b:β) (hs:∀ i,i<n->step (S i)=some (.inl (S (i+1)))) (a:step (S n)=some (.inr b)) (hn:n<18446744073709551616:=by omega):kac step fuel (S 0)=some b:=
 kk2 _ n S (fun _=>b) (fun i hi => .inl ⟨hs i hi,rfl⟩) a (hn:=hn)
theorem kty (step:σ->Option (σ ⊕ β)) (step':σ->Option (σ ⊕ β)) (n:Nat) (S:Nat->σ) (hs:∀ i,i<n->(step (S i)=some (.inl (S (i+1)))/\step' (S i)=some (.inl (S (i+1))))\/∃ b,step (S i)=some (.inr b)/\step' (S i)=some (.inr b)) (b:β) (e:step (S n)=some (.inr b)) (a:step' (S n)=some (.inr b)) (hn:n<18446744073709551616:=by omega):∃ r,kac step fuel (S 0)=some r/\kac step' fuel (S 0)=some r:=by
 have key:∀ (k i:Nat),i<=n->n - i<k->∃ r,kac step k (S i)=some r/\kac step' k (S i)=some r:=by
  intro k
  induction k with
  | zero=>intro i _ h;omega
  | succ k ih=>
   intro i hi hk;rw [kac,kac];by_cases h:i=n;subst h;rw [e,a];exact ⟨b,rfl,rfl⟩
   ·rcases hs i (by omega) with ⟨h1,d⟩ | ⟨c,h1,d⟩;rw [h1,d];exact ih (i+1) (by omega) (by omega)
    ·rw [h1,d];exact ⟨c,rfl,rfl⟩
 exact key fuel 0 (qao _) (kfu (by omega))
theorem knp {σ β σ' β':Type} {step:σ->Option (σ ⊕ β)} {step':σ'->Option (σ' ⊕ β')} (n:Nat) (hn:n<18446744073709551616) (S:Nat->σ) (S':Nat->σ') (Q:β->β'->Prop)
  (hs:∀ i,i<n->(step (S i)=some (.inl (S (i+1)))/\step' (S' i)=some (.inl (S' (i+1))))\/∃ b b',step (S i)=some (.inr b)/\step' (S' i)=some (.inr b')/\Q b b')
  (d:∃ b b',step (S n)=some (.inr b)/\step' (S' n)=some (.inr b')/\Q b b'):∃ r r',kac step fuel (S 0)=some r/\kac step' fuel (S' 0)=some r'/\Q r r':=by
 have key:∀ (k i:Nat),i<=n->n - i<k->∃ r r',kac step k (S i)=some r/\kac step' k (S' i)=some r'/\Q r r':=by
  intro k
  induction k with
  | zero=>intro i _ h;omega
  | succ k ih=>
   intro i hi hk;rw [kac,kac];by_cases h:i=n;subst h;obtain ⟨b,b',h1,a,c⟩:=d;rw [h1,a];exact ⟨b,b',rfl,rfl,c⟩
   ·rcases hs i (by omega) with ⟨h1,a⟩ | ⟨b,b',h1,a,c⟩;rw [h1,a];exact ih (i+1) (by omega) (by omega)
    ·rw [h1,a];exact ⟨b,b',rfl,rfl,c⟩
 exact key fuel 0 (qao _) (kfu (by omega))
def runL {σ α β:Type} (f:σ->α->Option (σ ⊕ β)):List α->σ->Option (σ ⊕ β)
 | [],s=>some (.inl s)
 | x::l,s=>Option.bind (f s x) (Sum.elim (fun s'=>runL f l s') (fun b=>some (.inr b)))
theorem kaev {σ α β τ γ:Type} (step:τ->Option (τ ⊕ γ)) (xs:List α) (f:σ->α->Option (σ ⊕ β)) (mk:σ->Int->τ) (out:σ ⊕ β->γ) (c:xs.length<=9223372036854775807) (h:∀ (i:Nat) (x:α) (s:σ),xs[i]?=some x->step (mk s (i:Int))=(f s x).map (Sum.elim (fun s' => .inl (mk s' ((i+1:Nat):Int))) (fun b => .inr (out (.inr b))))) (d:∀ s,step (mk s (xs.length:Int))=some (.inr (out (.inl s)))) (s:σ):kac step fuel (mk s 0)=(runL f xs s).map out:=by
 have key:∀ (k i:Nat) (s:σ),i<=xs.length->xs.length - i<k->kac step k (mk s (i:Int))=(runL f (xs.drop i) s).map out:=by
  intro k
  induction k with
  | zero=>intro i s _ h;omega
  | succ k ih=>
   intro i s hi hk;rw [kac];by_cases hn:i=xs.length;subst hn;rw [d,qbs (qx _)];rfl
   ·have a:i<xs.length:=(by omega);rw [h i xs[i] s (qb a),qav a,runL];cases f s xs[i] with
    | none=>rfl
    | some r=>
     cases r with
     | inl s'=>
      simp only [qba,qy,qa];exact ih (i+1) s' (by omega) (by omega)
     | inr b=>rfl
 have:=key fuel 0 s (qao _) (kfu (by omega));simpa using this
theorem kao {n i:Nat} (h:i<n):decide ((i:Int)<(n:Int))=true:=qj (by omega)
theorem kan (n:Nat):decide ((n:Int)<(n:Int))=false:=qg (by omega)
theorem kak {n m:Nat} (h:n<m) (hm:m<=9223372036854775807):w64 ((n:Int)+1)=((n+1:Nat):Int):=keq _
theorem ka8 {α:Type} {xs:List α} {i:Nat} {x:α} (h:xs[i]?=some x):i<xs.length:=(qh.1 h).1
theorem kmk {β:Type} (step:Int->Option (Int ⊕ β)) (n:Nat) (bad:Nat->Bool) (b:Nat->β) (miss:β) (hs:∀ i,i<n->step (i:Int)=if bad i=true then some (.inr (b i)) else some (.inl ((i+1:Nat):Int))) (f:step (n:Int)=some (.inr miss)) (hn:n<18446744073709551616:=by omega):
  (∃ i,i<n/\bad i=true/\(∀ j,j<i->bad j=false)/\kac step fuel 0=some (b i))\/((∀ i,i<n->bad i=false)/\kac step fuel 0=some miss):=by
 have key:∀ (k i:Nat),i<=n->n - i<k->(∀ j,j<i->bad j=false)->(∃ m,m<n/\bad m=true/\(∀ j,j<m->bad j=false)/\kac step k (i:Int)=some (b m))\/((∀ i,i<n->bad i=false)/\kac step k (i:Int)=some miss):=by
  intro k
  induction k with
  | zero=>intro i _ h;omega
  | succ k ih=>
   intro i hi hk c;rw [kac];by_cases d:i=n;subst d;rw [f];exact .inr ⟨c,rfl⟩
   ·rw [hs i (by omega)];by_cases a:bad i=true;rw [ql a];exact .inl ⟨i,by omega,a,c,rfl⟩
    ·rw [qi a];exact ih (i+1) (by omega) (by omega) fun j g=>by
      by_cases e:j=i;subst e;simpa using a
      ·exact c j (by omega)
 have:=key fuel 0 (qao _) (kfu (by omega)) fun j g=>by omega
 simpa using this
theorem ksy {α σ τ:Type} {step:τ->Option (τ ⊕ σ)} (xs:List α) (r:σ->α->Option σ) (mk:Int->σ->τ) (a:xs.length<=9223372036854775807)
  (hs:∀ (i:Nat) (x:α) (s:σ),xs[i]?=some x->step (mk (i:Int) s)=(r s x).map fun v => .inl (mk ((i+1:Nat):Int) v)) (c:∀ s,step (mk (xs.length:Int) s)=some (.inr s)) (s:σ):kac step fuel (mk 0 s)=xs.foldlM r s:=by
 have h:=kaev step xs (fun s x=>(r s x).map (.inl:σ->σ ⊕ Empty)) (fun s i=>mk i s) (Sum.elim id (fun b:Empty=>nomatch b)) a (fun i x s d=>by rw [hs i x s d];cases r s x <;> rfl) (fun s=>c s) s;rw [h];clear h hs c
 induction xs generalizing s with
 | nil=>rfl
 | cons x xs ih=>
  rw [runL,List.foldlM_cons];cases hr:r s x with
  | none=>rfl
  | some v=>
   simp only [qba,qa,qy];exact ih (by simp only [qat] at a;omega) v
theorem kla {α:Type} (b:Nat) (z:α) (n:Nat) (h:(b+1)*n<=281474976710656:=by omega):mkL b z (n:Int)=some (List.replicate n z):=by
 unfold mkL;have c:b*n+n<=281474976710656:=by rw [qbj,Nat.one_mul] at h;exact h
 have a:(b:Int)*(n:Int)=((b*n:Nat):Int):=(Int.natCast_mul b n).symm;rw [ql ⟨by omega,by rw [a];omega,by omega⟩];simp
set_option maxRecDepth 100000
def Ev {α:Type} (x:Option α) (P:α->Prop):Prop:=∃ v,x=some v/\P v
theorem Ev.eq {α:Type} {x:Option α} {v:α} (h:Ev x (·=v)):x=some v:=by obtain ⟨u,h1,rfl⟩:=h;exact h1
theorem Ev.mono {α:Type} {x:Option α} {P Q:α->Prop} (h:Ev x P) (hp:∀ v,P v->Q v):Ev x Q:=by obtain ⟨v,h1,a⟩:=h;exact ⟨v,h1,hp v a⟩
theorem kc7 {α β:Type} {x:Option α} {k:α->Option β} {P:β->Prop} (h:Ev x fun v=>Ev (k v) P):Ev (Option.bind x k) P:=by obtain ⟨v,rfl,u,h1,a⟩:=h;exact ⟨u,h1,a⟩
theorem ko9 {σ β:Type} {step:σ->Option (σ ⊕ β)} {s0:σ} {Q:β->Prop} (n:Nat) (I:Nat->σ->Prop) (hn:n<18446744073709551616) (h0:I 0 s0)
  (hs:∀ i s,i<n->I i s->Ev (step s) (Sum.elim (I (i+1)) Q)) (d:∀ s,I n s->Ev (step s) fun r=>∃ b,r = .inr b/\Q b):Ev (kac step fuel s0) Q:=by
 have key:∀ (k m N:Nat) (s:σ),m+k=n->k<N->I m s->Ev (kac step N s) Q:=by
  intro k
  induction k with
  | zero=>
   intro m N s hm e c;obtain ⟨N,rfl⟩:∃ j,N=j+1:=⟨N - 1,by omega⟩;obtain rfl:m=n:=(by omega);obtain ⟨r,h1,b,rfl,a⟩:=d s c;exact ⟨b,by rw [kac,h1],a⟩
  | succ k ih=>
   intro m N s hm e c;obtain ⟨N,rfl⟩:∃ j,N=j+1:=⟨N - 1,by omega⟩;obtain ⟨r,h1,a⟩:=hs m s (by omega) c;cases r with
   | inl s'=>
    obtain ⟨b,f,g⟩:=ih (m+1) N s' (by omega) (by omega) a;exact ⟨b,by rw [kac,h1];exact f,g⟩
   | inr b=>exact ⟨b,by rw [kac,h1],a⟩
 exact key n 0 fuel s0 (by omega) (kfu hn) h0
theorem ksp {σ β:Type} {step:σ->Option (σ ⊕ β)} {s0:σ} {Q:β->Prop} (I:σ->Prop) (μ:σ->Nat) (hn:μ s0<18446744073709551616) (h0:I s0)
  (hs:∀ s,I s->Ev (step s) (Sum.elim (fun s'=>I s'/\μ s'<μ s) Q)):Ev (kac step fuel s0) Q:=by
 have key:∀ (N:Nat) (s:σ),μ s<N->I s->Ev (kac step N s) Q:=by
  intro N
  induction N with
  | zero=>intro s h;omega
  | succ N ih=>
   intro s h c;obtain ⟨r,h1,a⟩:=hs s c;cases r with
   | inl s'=>
    obtain ⟨b,d,e⟩:=ih s' (by have:=a.2;omega) a.1;exact ⟨b,by rw [kac,h1];exact d,e⟩
   | inr b=>exact ⟨b,by rw [kac,h1],a⟩
 exact key fuel s0 (kfu hn) h0
theorem kbo {α σ τ β:Type} {xs:List α} {step:σ->Option (σ ⊕ β)} {Q:β->Prop} (mk:Nat->τ->σ) (I:Nat->τ->Prop) {t0:τ} (hn:xs.length<=9223372036854775807) (h0:I 0 t0)
  (hs:∀ i t (hi:i<xs.length),I i t->Ev (step (mk i t)) (Sum.elim (fun s=>∃ t',s=mk (i+1) t'/\I (i+1) t') Q)) (a:∀ t,I xs.length t->Ev (step (mk xs.length t)) fun r=>∃ b,r = .inr b/\Q b):Ev (kac step fuel (mk 0 t0)) Q:=by
 refine ko9 xs.length (fun i s=>∃ t,s=mk i t/\I i t) (by omega) ⟨t0,rfl,h0⟩ (fun i s hi ⟨t,e,h⟩=>?_) (fun s ⟨t,e,h⟩=>?_);subst e;exact hs i t hi h
 ·subst e;exact a t h
abbrev Opn:=Sac
abbrev Nod:=Saa
abbrev Spa:=Sad
mutual
inductive Bt (ns:List Nod):Nat->Tm->Prop where
 | mk {i:Nat} {n:Nod} {o:Opn} {ts:List Tm} (hn:ns[i]?=some n) (ho:o∈n.yc) (hs:Bts ns o.yb ts):Bt ns i (Tm.mk o.yd ts)
inductive Bts (ns:List Nod):List Int->List Tm->Prop where
 | nil:Bts ns [] []
 | cons {a:Int} {vs:List Int} {t:Tm} {ts:List Tm} (h0:0<=a) (ht:Bt ns a.toNat t) (hs:Bts ns vs ts):Bts ns (a::vs) (t::ts)
end
theorem Bt.inv {ns:List Nod} {i:Nat} {t:Tm} (h:Bt ns i t):∃ n o ts,ns[i]?=some n/\o∈n.yc/\t=Tm.mk o.yd ts/\Bts ns o.yb ts:=by
 cases h with
 | mk hn ho hs=>exact ⟨_,_,_,hn,ho,rfl,hs⟩
theorem Bts.len {ns:List Nod}:∀ {vs:List Int} {ts:List Tm},Bts ns vs ts->vs.length=ts.length
 | _,_, .nil=>rfl
 | _,_, .cons _ _ hs=>by rw [qat,qat,hs.len]
theorem Bts.get {ns:List Nod}:∀ {vs:List Int} {ts:List Tm},Bts ns vs ts->∀ (j:Nat) (a:Int) (t:Tm),vs[j]?=some a->ts[j]?=some t->0<=a/\Bt ns a.toNat t
 | _,_, .nil,j,a,t,h,_=>by simp at h
 | _,_, .cons h0 ht hs,j,a,t,h,b=>by
  cases j with
  | zero=>simp at h b;subst h b;exact ⟨h0,ht⟩
  | succ j=>simp at h b;exact hs.get j a t h b
theorem Bts.mem {ns:List Nod}:∀ {vs:List Int} {ts:List Tm},Bts ns vs ts->∀ a∈vs,0<=a/\∃ t,Bt ns a.toNat t
 | _,_, .nil,a,h=>by simp at h
 | _,_, .cons h0 ht hs,a,h=>by
  rcases qan.1 h with rfl | h;exact ⟨h0,_,ht⟩
  ·exact hs.mem a h
theorem Bts.map {ns ns':List Nod} {f:Int->Int}:∀ {vs:List Int} {ts:List Tm},Bts ns vs ts->(∀ a∈vs,0<=f a)->(∀ a∈vs,∀ t∈ts,Bt ns a.toNat t->Bt ns' (f a).toNat t)->Bts ns' (vs.map f) ts
 | _,_, .nil,_,_ => .nil
 | _,_, .cons h0 ht hs,hf,hm => .cons (hf _ (qo ..)) (hm _ (qo ..) _ (qo ..) ht) (hs.map (fun a ha=>hf a (qk _ ha)) fun a ha t b=>hm a (qk _ ha) t (qk _ b))
theorem Bts.unmap {ns ns':List Nod} {f:Int->Int}:∀ {vs:List Int} {ts:List Tm},Bts ns' (vs.map f) ts->(∀ a∈vs,0<=a)->(∀ a∈vs,∀ t∈ts,Bt ns' (f a).toNat t->Bt ns a.toNat t)->Bts ns vs ts
 | [],_,h,_,_=>by cases h;exact .nil
 | a::vs,_,h,hf,hm=>by
  cases h with
  | cons h0 ht hs=>exact .cons (hf _ (qo ..)) (hm _ (qo ..) _ (qo ..) ht) (Bts.unmap hs (fun a ha=>hf a (qk _ ha)) fun a ha t b=>hm a (qk _ ha) t (qk _ b))
theorem Bts.of {ns:List Nod}:∀ {vs:List Int} {ts:List Tm},vs.length=ts.length->(∀ (j:Nat) (a:Int) (t:Tm),vs[j]?=some a->ts[j]?=some t->0<=a/\Bt ns a.toNat t)->Bts ns vs ts
 | [],[],_,_ => .nil
 | [],_::_,h,_=>by simp at h
 | _::_,[],h,_=>by simp at h
 | a::vs,t::ts,h,hg => .cons (hg 0 a t rfl rfl).1 (hg 0 a t rfl rfl).2 (Bts.of (by simpa using h) fun j a' t' ha ht=>hg (j+1) a' t' (by simpa using ha) (by simpa using ht))
def cmpI:List Int->List Int->Int
 | [],[]=>0
 | [],_::_ => -1
 | _::_,[]=>1
 | x::xs,y::ys=>if x<y then -1 else if y<x then 1 else cmpI xs ys
def kfh (a b:Opn):Int:=if a.yd≠b.yd then cmpI [a.yd] [b.yd] else cmpI a.yb b.yb
theorem k51 {f:Int->Int} {p:Int->Prop} (hf:∀ a b,p a->p b->a<b->f a<f b):∀ (xs ys:List Int),(∀ x∈xs,p x)->(∀ y∈ys,p y)->cmpI (xs.map f) (ys.map f)=cmpI xs ys
 | [],[],_,_=>rfl
 | [],_::_,_,_=>rfl
 | _::_,[],_,_=>rfl
 | x::xs,y::ys,c,hy=>by
  have px:=c x (qo ..);have py:=hy y (qo ..);simp only [qa2,cmpI];rcases Int.lt_trichotomy x y with h | h | h;rw [ql h,ql (hf x y px py h)];subst h;rw [qi (Int.lt_irrefl _),qi (Int.lt_irrefl _),qi (Int.lt_irrefl _),qi (Int.lt_irrefl _)];exact k51 hf xs ys (fun a ha=>c a (qk _ ha)) fun a ha=>hy a (qk _ ha)
  ·have:=hf y x py px h;rw [qi (show ¬ f x<f y by omega),ql this,qi (show ¬ x<y by omega),ql h]
def AscP (l:List Int) (n:Nat):Prop:=(∀ x∈l,0<=x/\x<(n:Int))/\∀ (i:Nat) (x y:Int),l[i]?=some x->l[i+1]?=some y->x<y
def szAt (ns:List Nod) (a:Int):Int:=((ns[a.toNat]?).map (·.ye)).getD 0
def syAt (ns:List Nod) (a:Int):Int:=((ns[a.toNat]?).map (·.yf)).getD 0
structure OptP (ns:List Nod) (i:Nat) (n:Nod) (o:Opn):Prop where
 rule:0<=o.yd
 args:∀ a∈o.yb,0<=a/\a<(i:Int)
 size:1+(o.yb.map (szAt ns)).sum=n.ye
structure NodP (ns:List Nod) (i:Nat) (n:Nod):Prop where
 sym:0<=n.yf
 size:1<=n.ye/\n.ye<=24
 opt:∀ o∈n.yc,OptP ns i n o
 asc:∀ (k:Nat) (o p:Opn),n.yc[k]?=some o->n.yc[k+1]?=some p->kfh o p<0
def optN (ns:List Nod):Nat:=(ns.map fun n=>n.yc.length).sum
def ConP (ns:List Nod):Prop:=∀ (i k:Nat) (n m:Nod) (o p:Opn),ns[i]?=some n->ns[k]?=some m->o∈n.yc->p∈m.yc->o.yd=p.yd ->
 n.yf=m.yf/\o.yb.map (syAt ns)=p.yb.map (syAt ns)
structure kb6 (s:Spa):Prop where
 nodes:s.ya.length<=4096
 roots:AscP s.yg s.ya.length
 node:∀ (i:Nat) (n:Nod),s.ya[i]?=some n->NodP s.ya i n
 opts:optN s.ya<=32768
 con:ConP s.ya
theorem k01 {ns:List Nod} {i:Nat} {t:Tm} (h:Bt ns i t):i<ns.length:=by obtain ⟨n,o,ts,hn,_⟩:=h.inv;exact (qh.1 hn).1
def InS (s:Spa) (t:Tm):Prop:=∃ r∈s.yg,0<=r/\Bt s.ya r.toNat t
def cntP (p:Nat->Bool) (n:Nat):Nat:=((List.range n).filter p).length
theorem k39 (p:Nat->Bool) (n:Nat):cntP p (n+1)=cntP p n+(if p n=true then 1 else 0):=by
 unfold cntP;rw [qbg,List.filter_append,qac];congr 1;by_cases h:p n=true;simp [h]
 ·simp [h]
theorem kab3 (p:Nat->Bool) (m n:Nat) (h:m<=n):cntP p m<=cntP p n:=by
 induction n with
 | zero=>rw [show m=0 by omega];exact qx _
 | succ n ih=>
  by_cases hm:m=n+1;rw [hm];exact qx _
  ·have:=ih (by omega);rw [k39];omega
theorem kyi (p:Nat->Bool) (m n:Nat) (hp:p m=true) (h:m<n:=by omega):cntP p m<cntP p n:=by have:=kab3 p (m+1) n h;rw [k39,ql hp] at this;omega
theorem k2p (p:Nat->Bool) (n:Nat):cntP p n<=n:=by unfold cntP;have:=qb6 p (List.range n);rw [List.length_range] at this;exact this
theorem kamn {p:Nat->Bool} {n i:Nat} (h:i<n) (hp:p i=true):((List.range n).filter p)[cntP p i]?=some i:=by
 induction n with
 | zero=>omega
 | succ n ih=>
  rw [qbg,List.filter_append];by_cases hi:i=n;subst hi;show (List.filter p (List.range i)++List.filter p [i])[(List.filter p (List.range i)).length]?=some i;rw [qap (qx _),qcc];simp [hp]
  ·have h1:=ih (by omega);rw [q9 (by exact (qh.1 h1).1)];exact h1
theorem kajk {p:Nat->Bool} {n j i:Nat} (h:((List.range n).filter p)[j]?=some i):i<n/\p i=true/\cntP p i=j:=by
 induction n with
 | zero=>simp at h
 | succ n ih=>
  rw [qbg,List.filter_append] at h;by_cases a:j<((List.range n).filter p).length;rw [q9 a] at h;obtain ⟨h1,b,c⟩:=ih h;exact ⟨by omega,b,c⟩
  ·rw [qap (by omega)] at h;by_cases hp:p n=true;rw [List.filter_cons_of_pos hp,List.filter_nil] at h;have d:j - ((List.range n).filter p).length=0:=(by have:=(qh.1 h).1;simpa using this);rw [d] at h;simp at h;subst h;refine ⟨by omega,hp,?_⟩;unfold cntP;omega
   ·rw [List.filter_cons_of_neg (by simpa using hp),List.filter_nil] at h;simp at h
def numI (p:Nat->Bool) (a:Int):Int:=(cntP p a.toNat:Int)
def kir (p:Nat->Bool) (o:Opn):Opn:=⟨o.yd,o.yb.map (numI p)⟩
def kar (f:Nat->Bool) (o:Opn):Bool:=o.yb.all fun a=>f a.toNat
def ko0 (f p:Nat->Bool) (n:Nod):Nod:=⟨n.yf,n.ye,(n.yc.filter (kar f)).map (kir p)⟩
def nodD:Nod:=⟨0,0,[]⟩
def kb7 (f p:Nat->Bool) (s:Spa):Spa:=⟨((List.range s.ya.length).filter p).map fun i=>ko0 f p ((s.ya[i]?).getD nodD),(s.yg.filter fun r=>f r.toNat).map (numI p)⟩
structure krv (s:Spa) (f p:Nat->Bool):Prop where
 full:∀ (i:Nat) (t:Tm),Bt s.ya i t->f i=true
 root:∀ r∈s.yg,f r.toNat=true->p r.toNat=true
 arg:∀ (i:Nat) (n:Nod) (o:Opn),p i=true->s.ya[i]?=some n->o∈n.yc->kar f o=true->∀ a∈o.yb,p a.toNat=true
variable {s:Spa} {f p:Nat->Bool}
theorem kuz {i:Nat} {n:Nod} (hn:s.ya[i]?=some n) (hp:p i=true):(kb7 f p s).ya[cntP p i]?=some (ko0 f p n):=by have hi:=(qh.1 hn).1;show (List.map _ _)[_]?=_;rw [qq,kamn hi hp,qba,hn,qaf]
theorem knz {j:Nat} {m:Nod} (h:(kb7 f p s).ya[j]?=some m):∃ i n,s.ya[i]?=some n/\p i=true/\cntP p i=j/\m=ko0 f p n:=by have a:(List.map (fun i=>ko0 f p ((s.ya[i]?).getD nodD)) ((List.range s.ya.length).filter p))[j]?=some m:=h;rw [qq,qw] at a;obtain ⟨i,h1,rfl⟩:=a;obtain ⟨b,c,d⟩:=kajk h1;exact ⟨i,s.ya[i],qb b,c,d,by rw [qb b,qaf]⟩
theorem kqn (hf:kb6 s) {i:Nat} {n:Nod} {o:Opn} (hn:s.ya[i]?=some n) (ho:o∈n.yc):∀ a∈o.yb,0<=a/\a<(i:Int):=((hf.node i n hn).opt o ho).args
theorem kaek (hf:kb6 s) (hk:krv s f p):∀ (t:Tm) (i:Nat),p i=true->Bt s.ya i t->Bt (kb7 f p s).ya (cntP p i) t:=by
 intro t
 induction t using Tm.ind with
 | h r l ih=>
  intro i hp h;obtain ⟨n,o,ts,hn,ho,e,hs⟩:=h.inv;injection e with c d;subst c d;have b:kar f o=true:=qr.2 fun a ha=>by obtain ⟨_,t,ht⟩:=hs.mem a ha;exact hk.full _ t ht
  have hm:kir p o∈(ko0 f p n).yc:=qaa.2 ⟨o,qa5.2 ⟨ho,b⟩,rfl⟩;have g:Bts (kb7 f p s).ya (kir p o).yb l:=hs.map (fun a _=>Int.natCast_nonneg _) fun a ha t ht j=>ih t ht a.toNat (hk.arg i n o hp hn ho b a ha) j;show Bt _ _ (Tm.mk (kir p o).yd l);exact .mk (kuz hn hp) hm g
theorem k7a (hf:kb6 s) (hk:krv s f p):∀ (t:Tm) (i:Nat),p i=true->i<s.ya.length->Bt (kb7 f p s).ya (cntP p i) t->Bt s.ya i t:=by
 intro t
 induction t using Tm.ind with
 | h r l ih=>
  intro i hp hi h;obtain ⟨m,o',ts,hm,c,g,hs⟩:=h.inv;injection g with d e;have hn:=qb hi;rw [kuz hn hp] at hm;injection hm with hm;subst hm;obtain ⟨o,j,rfl⟩:=qaa.1 c;obtain ⟨ho,b⟩:=qa5.1 j;subst d e;have k:Bts s.ya o.yb l:=Bts.unmap (f:=numI p) hs (fun a ha=>(kqn hf hn ho a ha).1) fun a ha t ht n=>by have q:=kqn hf hn ho a ha;exact ih t ht a.toNat (hk.arg i _ o hp hn ho b a ha) (by omega) n
  show Bt _ _ (Tm.mk o.yd l);exact .mk hn ho k
theorem k5a (hf:kb6 s) (hk:krv s f p) (t:Tm):InS (kb7 f p s) t↔InS s t:=by
 constructor;rintro ⟨r',hr,h0,c⟩;have d:r'∈(s.yg.filter fun r=>f r.toNat).map (numI p):=hr;obtain ⟨r,a,rfl⟩:=qaa.1 d;obtain ⟨a,e⟩:=qa5.1 a;have h1:=hf.roots.1 r a;exact ⟨r,a,h1.1,k7a hf hk t r.toNat (hk.root r a e) (by omega) c⟩
 ·rintro ⟨r,hr,h0,c⟩;have b:=hk.full _ t c;exact ⟨numI p r,qaa.2 ⟨r,qa5.2 ⟨hr,b⟩,rfl⟩,Int.natCast_nonneg _,kaek hf hk t r.toNat (hk.root r hr b) c⟩
theorem kach (hf:kb6 s) (hk:krv s f p) {j:Nat} {m:Nod} (hm:(kb7 f p s).ya[j]?=some m):∃ i n,s.ya[i]?=some n/\n.yf=m.yf/\n.ye=m.ye/\∀ t,Bt (kb7 f p s).ya j t->Bt s.ya i t:=by obtain ⟨i,n,hn,hp,rfl,rfl⟩:=knz hm;exact ⟨i,n,hn,rfl,rfl,fun t h=>k7a hf hk t i hp (qh.1 hn).1 h⟩
theorem k2e (hf:kb6 s) {a:Int} (h0:0<=a) (hp:p a.toNat=true) (h1:a<(s.ya.length:Int):=by omega):szAt (kb7 f p s).ya (numI p a)=szAt s.ya a/\syAt (kb7 f p s).ya (numI p a)=syAt s.ya a:=by have hn:=qb (l:=s.ya) (i:=a.toNat) (by omega);have:=kuz (f:=f) hn hp;unfold szAt syAt numI;rw [qah,this,hn];exact ⟨rfl,rfl⟩
theorem kyt {α:Type} {R:α->α->Prop} (ht:∀ a b c,R a b->R b c->R a c) (q:α->Bool):∀ (l:List α),(∀ (k:Nat) (o p:α),l[k]?=some o->l[k+1]?=some p->R o p)->∀ (k:Nat) (o p:α),(l.filter q)[k]?=some o->(l.filter q)[k+1]?=some p->R o p:=by
 intro l h;have hp:l.Pairwise R:=by
  induction l with
  | nil=>exact .nil
  | cons x l ih=>
   have hl:=ih fun k o p h1 d=>h (k+1) o p (by simpa using h1) (by simpa using d);refine qca.2 ⟨fun y hy=>?_,hl⟩;cases l with
   | nil=>simp at hy
   | cons z l=>
    have e:R x z:=h 0 x z rfl rfl;rcases qan.1 hy with rfl | hy;exact e
    ·exact ht _ _ _ e ((qca.1 hl).1 y hy)
 have f:=hp.filter q;intro k o p h1 d;obtain ⟨k1,e1⟩:=qh.1 h1;obtain ⟨k2,e2⟩:=qh.1 d;have:=(List.pairwise_iff_getElem.1 f) k (k+1) k1 k2 (by omega);rw [e1,e2] at this;exact this
theorem kvq:∀ (xs ys zs:List Int),cmpI xs ys<0->cmpI ys zs<0->cmpI xs zs<0
 | [],[],_,h,_=>by simp [cmpI] at h
 | [],_::_,[],_,h=>by simp [cmpI] at h
 | [],_::_,_::_,_,_=>by simp [cmpI]
 | _::_,[],_,h,_=>by simp [cmpI] at h
 | _::_,_::_,[],_,h=>by simp [cmpI] at h
 | x::xs,y::ys,z::zs,h,k=>by
  simp only [cmpI] at h k ⊢;split at h
  ·split at k;rw [ql (by omega)];omega
   ·split at k;omega
    ·rw [ql (by omega)];omega
  ·split at h;omega
   ·split at k;rw [ql (by omega)];omega
    ·split at k;omega
     ·rw [qi (by omega),qi (by omega)];exact kvq xs ys zs h k
theorem cmpOp_lt {a b:Opn}:kfh a b<0↔a.yd<b.yd\/(a.yd=b.yd/\cmpI a.yb b.yb<0):=by
 unfold kfh;split
 ·rename_i h;simp only [cmpI];constructor
  ·intro h1;split at h1;rename_i c;exact .inl c
   ·split at h1 <;> omega
  ·rintro (h1 | h1);rw [ql h1];omega
   ·exact absurd h1.1 h
 ·rename_i h;have h:a.yd=b.yd:=by simpa using h
  exact ⟨fun h1 => .inr ⟨h,h1⟩,fun h1=>by
   rcases h1 with h1 | h1;omega
   ·exact h1.2⟩
theorem kt8 {a b c:Opn} (h:kfh a b<0) (k:kfh b c<0):kfh a c<0:=by
 rw [cmpOp_lt] at h k ⊢;rcases h with h | ⟨h1,d⟩
 ·rcases k with k | ⟨k1,k2⟩;exact .inl (by omega)
  ·exact .inl (by omega)
 ·rcases k with k | ⟨k1,k2⟩;exact .inl (by omega)
  ·exact .inr ⟨by omega,kvq _ _ _ d k2⟩
theorem kxh (hf:kb6 s) (hk:krv s f p):kb6 (kb7 f p s):=by
 have l:(kb7 f p s).ya.length=cntP p s.ya.length:=by show (List.map _ _).length=_;rw [qs];rfl
 have mono:∀ a b:Int,(0<=a/\p a.toNat=true)->(0<=b/\p b.toNat=true)->a<b->numI p a<numI p b:=fun a b ha H h=>by have:=kyi p a.toNat b.toNat ha.2;unfold numI;omega
 refine ⟨?_,⟨?_,?_⟩,?_,?_,?_⟩;rw [l];exact qag (k2p _ _) hf.nodes;intro x I;have e:x∈(s.yg.filter fun r=>f r.toNat).map (numI p):=I;obtain ⟨r,g,rfl⟩:=qaa.1 e;obtain ⟨g,J⟩:=qa5.1 g;have h1:=hf.roots.1 r g;have:=kyi p r.toNat s.ya.length (hk.root r g J);rw [l];unfold numI;omega;intro i x y I hy;have e:((s.yg.filter fun r=>f r.toNat).map (numI p))[i]?=some x:=I;have z:((s.yg.filter fun r=>f r.toNat).map (numI p))[i+1]?=some y:=hy;rw [qq,qw] at e z;obtain ⟨a,ha,rfl⟩:=e;obtain ⟨b,H,rfl⟩:=z;have K:a<b:=kyt (R:=fun a b:Int=>a<b) (fun a b c h1 t=>by omega) _ s.yg hf.roots.2 i a b ha H;have pa:=qa5.1 (qp ha);have pb:=qa5.1 (qp H);exact mono a b ⟨(hf.roots.1 a pa.1).1,hk.root a pa.1 pa.2⟩ ⟨(hf.roots.1 b pb.1).1,hk.root b pb.1 pb.2⟩ K
 ·intro j m hm;obtain ⟨i,n,hn,hp,rfl,rfl⟩:=knz hm;have hi:=(qh.1 hn).1;have v:=hf.node i n hn;refine ⟨v.sym,v.size,fun o' L=>?_,fun k o' p' h1 t=>?_⟩
  ·have u:o'∈(n.yc.filter (kar f)).map (kir p):=L;obtain ⟨o,ho,rfl⟩:=qaa.1 u;obtain ⟨ho,A⟩:=qa5.1 ho;have G:=v.opt o ho;have ha:=hk.arg i n o hp hn ho A;refine ⟨G.rule,fun a' M=>?_,?_⟩;have N:a'∈o.yb.map (numI p):=M;obtain ⟨a,d,rfl⟩:=qaa.1 N;have h1:=G.args a d;have:=kyi p a.toNat i (ha a d);unfold numI;omega
   ·rw [<- show n.ye=(ko0 f p n).ye from rfl,<- G.size];congr 1;show ((o.yb.map (numI p)).map _).sum=_;rw [List.map_map];congr 1;refine qbl fun a d=>?_;have h1:=G.args a d;exact (k2e hf h1.1 (ha a d)).1
  ·have B:((n.yc.filter (kar f)).map (kir p))[k]?=some o':=h1;have C:((n.yc.filter (kar f)).map (kir p))[k+1]?=some p':=t;rw [qq,qw] at B C;obtain ⟨o,S,rfl⟩:=B;obtain ⟨q,T,rfl⟩:=C;have w:kfh o q<0:=kyt (R:=fun a b:Opn=>kfh a b<0) (fun a b c h1 t=>kt8 h1 t) _ n.yc v.asc k o q S T;obtain ⟨m1,a1⟩:=qa5.1 (qp S);obtain ⟨m2,a2⟩:=qa5.1 (qp T);rw [cmpOp_lt] at w ⊢;rcases w with w | ⟨w,U⟩;exact .inl w
   ·refine .inr ⟨w,?_⟩;show cmpI (o.yb.map (numI p)) (q.yb.map (numI p))<0;rw [k51 (p:=fun a=>0<=a/\p a.toNat=true) mono _ _ (fun a ha=>⟨((v.opt o m1).args a ha).1,hk.arg i n o hp hn m1 a1 a ha⟩) fun a ha=>⟨((v.opt q m2).args a ha).1,hk.arg i n q hp hn m2 a2 a ha⟩];exact U
 ·refine qag ?_ hf.opts;have:∀ (m:Nat),m<=s.ya.length->((((List.range m).filter p).map fun i=>ko0 f p ((s.ya[i]?).getD nodD)).map fun n=>n.yc.length).sum<=optN (s.ya.take m):=by
   intro m
   induction m with
   | zero=>intro _;exact qao _
   | succ m ih=>
    intro hm;have h1:=ih (by omega);rw [qbg,List.filter_append,qax,qax,qb4,qae (by omega)];unfold optN at h1 ⊢;rw [qax,qb4];refine Nat.add_le_add h1 ?_;by_cases hp:p m=true;rw [List.filter_cons_of_pos hp];simp only [List.filter_nil,qa2,List.map_nil,List.sum_cons,List.sum_nil,Nat.add_zero,qb (show m<s.ya.length by omega),qaf];show (List.map _ _).length<=_;rw [qs];exact qb6 _ _
    ·rw [List.filter_cons_of_neg (by simpa using hp)];exact qao _
  have t:=this s.ya.length (qx _);rw [qar] at t;exact t
 ·intro i k n' m' o' q' hn hm ho D hr;obtain ⟨i,n,E,O,rfl,rfl⟩:=knz hn;obtain ⟨k,m,F,P,rfl,rfl⟩:=knz hm;clear hn hm;have u:o'∈(n.yc.filter (kar f)).map (kir p):=ho;have Q:q'∈(m.yc.filter (kar f)).map (kir p):=D;clear ho D;obtain ⟨o,V,rfl⟩:=qaa.1 u;obtain ⟨q,hy,rfl⟩:=qaa.1 Q;obtain ⟨ho,a1⟩:=qa5.1 V;obtain ⟨D,a2⟩:=qa5.1 hy;obtain ⟨c1,c2⟩:=hf.con i k n m o q E F ho D hr;refine ⟨c1,?_⟩;have sy:∀ (i:Nat) (n:Nod) (o:Opn),s.ya[i]?=some n->p i=true->o∈n.yc->kar f o=true->(kir p o).yb.map (syAt (kb7 f p s).ya)=o.yb.map (syAt s.ya):=fun i n o hn hp ho ha=>by show (o.yb.map (numI p)).map _=_;rw [List.map_map];refine qbl fun a d=>?_;have h1:=kqn hf hn ho a d;have t:=(qh.1 hn).1;exact (k2e hf h1.1 (hk.arg i n o hp hn ho ha a d)).2
  rw [sy i n o E O ho a1,sy k m q F P D a2,c2]
def lexP:List Int->List Int->Unit ⊕ Int
 | x::xs,y::ys=>if x<y then .inr (-1) else if y<x then .inr 1 else lexP xs ys
 | _,_ => .inl ()
theorem k3r:∀ xs ys:List Int,cmpI xs ys=Sum.elim (fun _=>if xs.length<ys.length then -1 else if ys.length<xs.length then 1 else 0) id (lexP xs ys)
 | [],[]=>rfl
 | [],_::_=>by simp [cmpI,lexP]
 | _::_,[]=>by simp [cmpI,lexP]
 | x::xs,y::ys=>by
  simp only [cmpI,lexP];split;rfl
  ·split;rfl
   ·rw [k3r xs ys];congr 1;funext u;simp
theorem k5l (x y:List Int) (f:x.length<=9223372036854775807) (hy:y.length<=9223372036854775807):kav x y=some (cmpI x y):=by
 unfold kav;have h:=kk2 (kay x y) (min x.length y.length) (fun i=>(i:Int)) (fun i=>lexP (x.drop i) (y.drop i)) (fun i hi=>by
  have a:i<x.length:=by omega
  have b:i<y.length:=by omega
  simp only [kay,kao a,kao b,qd,kaf,qb a,qb b,qa,kak a f,qav a,qav b,lexP];by_cases h1:x[i]<y[i];rw [qj h1,ql h1];exact .inr rfl
  ·rw [qg h1,qi h1];by_cases d:y[i]<x[i];rw [qj d,ql d];exact .inr rfl
   ·rw [qg d,qi d];exact .inl ⟨rfl,rfl⟩) (by
  by_cases hc:x.length<=y.length;have e:min x.length y.length=x.length:=(by omega);rw [e];simp only [kay,kan,qc,List.drop_length,lexP,qa]
  ·have e:min x.length y.length=y.length:=(by omega);have e2:decide (((y.length:Nat):Int)<(x.length:Int))=true:=qj (by omega);rw [e];simp only [kay,e2,qd,kan,qa,qc,List.drop_length];cases List.drop y.length x <;> simp [lexP])
 have g:kac (kay x y) fuel 0=some (lexP x y):=by simpa using h
 rw [g,qa,k3r];cases lexP x y with
 | inr c=>rfl
 | inl u=>
  simp only [qy];unfold kff;by_cases h1:x.length<y.length;rw [qj (by omega),ql h1];rfl
  ·rw [qg (by omega),qi h1];by_cases d:y.length<x.length;rw [qj (by omega),ql d];rfl
   ·rw [qg (by omega),qi d];rfl
theorem kaci (a b:Opn) (ha:a.yb.length<=9223372036854775807) (c:b.yb.length<=9223372036854775807):kee a b=some (kfh a b):=by
 unfold kee kfh;by_cases h:a.yd=b.yd;rw [show (a.yd != b.yd)=false by simp [h],qi (by simp [h])];rw [qc,k5l _ _ ha c];rfl
 ·rw [show (a.yd != b.yd)=true by simp [h],ql h];rw [qd,k5l _ _ (by simp) (by simp)];rfl
theorem k9h (l:List Int) (n:Nat) (hl:l.length<=9223372036854775807):Ev (kgr l (n:Int)) fun b=>b=true↔AscP l n:=by
 let bad:Nat->Bool:=fun i=>decide ((l[i]?).getD 0<0) || (decide ((n:Int)<=(l[i]?).getD 0) || (decide (0<i) && decide ((l[i]?).getD 0<=(l[i - 1]?).getD 0)))
 have hs:∀ i,i<l.length->kbp l (n:Int) (i:Int)=if bad i=true then some (.inr (.inr false)) else some (.inl ((i+1:Nat):Int)):=fun i hi=>by
  have e:bad i=(decide (l[i]<0) || (decide ((n:Int)<=l[i]) || (decide (0<i) && decide (l[i]<=(l[i - 1]?).getD 0)))):=by show (decide ((l[i]?).getD 0<0) || _)=_;rw [qb hi];rfl
  rw [e];simp only [kbp,kao hi,qd,kaf,qb hi,qa,kak hi hl];by_cases h1:l[i]<0;simp [h1]
  ·by_cases d:(n:Int)<=l[i];simp [h1,d]
   ·by_cases f:0<i
    ·have c:i - 1<l.length:=(by omega);have e1:w64 ((i:Int) - 1)=((i - 1:Nat):Int):=(by rw [kas];omega);have e2:decide ((0:Int)<(i:Int))=true:=qj (by omega);simp only [qg h1,qg d,e2,qd,qc,e1,kaf,qb c,qa,qj f,Bool.false_or,Bool.true_and,qaf];by_cases k:l[i]<=l[i - 1];simp [k]
     ·simp [k]
    ·have e2:decide ((0:Int)<(i:Int))=false:=qg (by omega);simp [h1,d,f,e2]
 have m:kbp l (n:Int) (l.length:Int)=some (.inr (.inl ())):=by simp only [kbp,kan,qc]
 unfold kgr;rcases kmk (kbp l (n:Int)) l.length bad (fun _ => .inr false) (.inl ()) hs m with ⟨i,hi,g,_,hr⟩ | ⟨g,hr⟩
 ·rw [hr];refine ⟨false,rfl,⟨fun h=>absurd h qa6,fun h=>?_⟩⟩;exfalso;have h1:=h.1 l[i] (qn hi);have a:(decide ((l[i]?).getD 0<0) || (decide ((n:Int)<=(l[i]?).getD 0) || (decide (0<i) && decide ((l[i]?).getD 0<=(l[i - 1]?).getD 0))))=true:=g;rw [qb hi] at a;simp only [qaf,qb9,qv,qbm] at a;rcases a with a | a | ⟨f,a⟩;omega;omega
  ·have c:i - 1<l.length:=(by omega);rw [qb c,qaf] at a;have:=h.2 (i - 1) l[i - 1] l[i] (qb c) (by rw [show i - 1+1=i by omega];exact qb hi);omega
 ·rw [hr];have a:∀ i (hi:i<l.length),0<=l[i]/\l[i]<(n:Int)/\(0<i->(l[i - 1]?).getD 0<l[i]):=fun i hi=>by
   have h:(decide ((l[i]?).getD 0<0) || (decide ((n:Int)<=(l[i]?).getD 0) || (decide (0<i) && decide ((l[i]?).getD 0<=(l[i - 1]?).getD 0))))=false:=g i hi;rw [qb hi] at h;simp only [qaf,Bool.or_eq_false_iff,Bool.and_eq_false_iff,qb1] at h;refine ⟨by omega,by omega,fun h0=>?_⟩;rcases h.2.2 with h | h;exact absurd h0 h
   ·omega
  refine ⟨true,rfl,⟨fun _=>⟨fun x j=>?_,fun i x y j hy=>?_⟩,fun _=>rfl⟩⟩;obtain ⟨i,hi,rfl⟩:=qal.1 j;exact ⟨(a i hi).1,(a i hi).2.1⟩
  ·obtain ⟨hi,rfl⟩:=qh.1 j;obtain ⟨o,rfl⟩:=qh.1 hy;have:=(a (i+1) o).2.2 (by omega);rw [Nat.add_sub_cancel,qb hi,qaf] at this;exact this
theorem k5b (f:Int->Int) {l:List Int} {j:Nat} (h:j<l.length):((l.take (j+1)).map f).sum=((l.take j).map f).sum+f l[j]:=by rw [qae h,qax,qb4];simp
theorem k34 (f:Int->Int) (l:List Int) (j:Nat):(l.map f).sum=((l.take j).map f).sum+((l.drop j).map f).sum:=by rw [<- qb4,<- qax,List.take_append_drop]
theorem kvf {f:Int->Int}:∀ (l:List Int),(∀ x∈l,0<=f x)->0<=(l.map f).sum
 | [],_=>by simp
 | x::l,h=>by have h1:=h x (qo ..);have a:=kvf l fun y hy=>h y (qk _ hy);simp only [qa2,List.sum_cons];omega
theorem kni (ns:List Nod) {a:Int} (h0:0<=a) (h1:a<(ns.length:Int)):∃ m,idx ns a=some m/\ns[a.toNat]?=some m/\szAt ns a=m.ye/\syAt ns a=m.yf:=by
 have b:a.toNat<ns.length:=by omega
 refine ⟨ns[a.toNat],?_,qb b,?_,?_⟩;unfold idx;rw [ql h0,qb b];unfold szAt;rw [qb b];rfl
 ·unfold syAt;rw [qb b];rfl
theorem kab1 {ns:List Nod} {i:Nat} {n:Nod} (o:Opn) (hn:ns[i]?=some n) (l:∀ (k:Nat) (m:Nod),k<=i->ns[k]?=some m->1<=m.ye/\m.ye<=24) (t:o.yb.length<=9223372036854775807):Ev (kii ns (i:Int) o) fun b=>b=true↔OptP ns i n o:=by
 have hi:=(qh.1 hn).1;have u:=l i n (qx _) hn;have c:∀ a:Int,0<=a->a<(i:Int)->∃ m,idx ns a=some m/\szAt ns a=m.ye/\1<=m.ye/\m.ye<=24:=fun a h0 h1=>by obtain ⟨m,e1,e2,e3,_⟩:=kni ns h0 (by omega);have:=l a.toNat m (by omega) e2;exact ⟨m,e1,e3,this.1,this.2⟩
 unfold kii;refine kc7 (Ev.mono (kbo (xs:=o.yb) (step:=kg9 ns (i:Int) o) (Q:=fun r=>(∃ s,r = .inl s/\(∀ a∈o.yb,0<=a/\a<(i:Int))/\s=1+(o.yb.map (szAt ns)).sum)\/(r = .inr false/\¬ OptP ns i n o))
  (fun (j:Nat) (s:Int)=>(s,(j:Int))) (fun j s=>(∀ a∈o.yb.take j,0<=a/\a<(i:Int))/\s=1+((o.yb.take j).map (szAt ns)).sum/\1<=s/\s<=48) t ⟨by simp,by simp,by omega,by omega⟩ (fun j s d ⟨h1,p,v,w⟩=>?_) (fun s ⟨h1,p,v,w⟩=>?_)) ?_)
 ·simp only [kg9,kao d,qd,kaf,qb d,qa,kak d t];by_cases b1:o.yb[j]<0;refine ⟨.inr (.inr false),by simp [b1], .inr ⟨rfl,fun g=>?_⟩⟩;have:=(g.args _ (qn d)).1;omega
  ·by_cases b2:(i:Int)<=o.yb[j];refine ⟨.inr (.inr false),by simp [b1,b2], .inr ⟨rfl,fun g=>?_⟩⟩;have:=(g.args _ (qn d)).2;omega
   ·by_cases b3:24<s;refine ⟨.inr (.inr false),by simp [b1,b2,b3], .inr ⟨rfl,fun g=>?_⟩⟩;have x:=g.size;rw [k34 _ _ j] at x;have z:=kvf (f:=szAt ns) (o.yb.drop j) fun a ha=>(by have q:=g.args a (qbo ha);obtain ⟨m,_,e,y,_⟩:=c a q.1 q.2;omega);omega
    ·obtain ⟨m,e1,e2,y,h8⟩:=c o.yb[j] (by omega) (by omega);have e3:w64 (s+m.ye)=s+m.ye:=kas;refine ⟨.inl (s+m.ye,((j+1:Nat):Int)),by simp [b1,b2,b3,e1,e3],s+m.ye,rfl,fun a ha=>?_,?_,by omega,by omega⟩
     ·rw [qae d,qak,qai] at ha;rcases ha with ha | rfl;exact h1 a ha
      ·omega
     ·rw [k5b _ d];omega
 ·refine ⟨_,by simp only [kg9,kan,qc],_,rfl, .inl ⟨s,rfl,?_,?_⟩⟩;rw [qar] at h1;exact h1
  ·rw [qar] at p;exact p
 ·rintro r (⟨s,rfl,h1,p⟩ | ⟨rfl,h1⟩)
  ·simp only [qy];by_cases hr:0<=o.yd;simp only [qj hr,qd,kaf,hn,qa];refine ⟨_,rfl,?_⟩;show (s == n.ye)=true↔_;rw [beq_iff_eq,p];exact ⟨fun h=>⟨hr,h1,h⟩,fun h=>h.size⟩
   ·simp only [qg hr,qc,qa];exact ⟨false,rfl,⟨fun h=>absurd h qa6,fun h=>absurd h.rule hr⟩⟩
  ·exact ⟨false,rfl,⟨fun h=>absurd h qa6,fun h=>absurd h h1⟩⟩
theorem k37 {ns:List Nod} {i k:Nat} {n m:Nod} {o p:Opn} (hn:ns[i]?=some n) (hm:ns[k]?=some m) (ho:∀ a∈o.yb,0<=a/\a<(ns.length:Int)) (hp:∀ a∈p.yb,0<=a/\a<(ns.length:Int)) (r:o.yb.length<=9223372036854775807):
  Ev (kig ns (i:Int) o (k:Int) p) fun b=>b=true↔n.yf=m.yf/\o.yb.map (syAt ns)=p.yb.map (syAt ns):=by
 unfold kig;simp only [kaf,hn,hm,qa];by_cases h1:n.yf=m.yf
 ·have e1:(n.yf != m.yf)=false:=by simp [h1]
  simp only [e1,qc,qa];by_cases l:o.yb.length=p.yb.length
  ·have e2:((o.yb.length:Int) != (p.yb.length:Int))=false:=(by simp [l]);simp only [e2,qc]
   let bad:Nat->Bool:=fun j=>decide (syAt ns ((o.yb[j]?).getD 0)≠syAt ns ((p.yb[j]?).getD 0))
   have hs:∀ j,j<o.yb.length->kdy ns o p (j:Int)=if bad j=true then some (.inr (.inr false)) else some (.inl ((j+1:Nat):Int)):=fun j d=>by
    have c:j<p.yb.length:=(by omega);obtain ⟨x,x1,_,_,x2⟩:=kni ns (ho _ (qn d)).1 (ho _ (qn d)).2;obtain ⟨y,y1,_,_,y2⟩:=kni ns (hp _ (qn c)).1 (hp _ (qn c)).2;have e:bad j=decide (x.yf≠y.yf):=(by show decide (syAt ns ((o.yb[j]?).getD 0)≠syAt ns ((p.yb[j]?).getD 0))=_;rw [qb d,qb c,qaf,qaf,x2,y2]);rw [e];simp only [kdy,kao d,qd,kaf,qb d,qb c,qa,kak d r,x1,y1];by_cases f:x.yf=y.yf;rw [show (x.yf != y.yf)=false by simp [f],qc,qg (by simp [f]),qi (by simp)]
    ·rw [show (x.yf != y.yf)=true by simp [f],qd,qj f,ql rfl]
   have s:kdy ns o p (o.yb.length:Int)=some (.inr (.inl ())):=(by simp only [kdy,kan,qc]);rcases kmk (kdy ns o p) o.yb.length bad (fun _ => .inr false) (.inl ()) hs s with ⟨j,d,q,_,hr⟩ | ⟨q,hr⟩;rw [hr];refine ⟨false,rfl,⟨fun h=>absurd h qa6,fun h=>?_⟩⟩;exfalso;have c:j<p.yb.length:=(by omega);have g:decide (syAt ns ((o.yb[j]?).getD 0)≠syAt ns ((p.yb[j]?).getD 0))=true:=q;rw [qb d,qb c,qaf,qaf,qbm] at g;have f:=congrArg (·[j]?) h.2;simp only [qq,qb d,qb c,qba,qe] at f;exact g f
   ·rw [hr];refine ⟨true,rfl,⟨fun _=>⟨h1,?_⟩,fun _=>rfl⟩⟩;refine List.ext_getElem (by simp [l]) fun j d c=>?_;rw [qs] at d c;rw [List.getElem_map,List.getElem_map];have h:decide (syAt ns ((o.yb[j]?).getD 0)≠syAt ns ((p.yb[j]?).getD 0))=false:=q j d;rw [qb d,qb c,qaf,qaf,qb1] at h;exact Decidable.not_not.1 h
  ·have e2:((o.yb.length:Int) != (p.yb.length:Int))=true:=(by rw [bne_iff_ne];omega);simp only [e2,qd];exact ⟨false,rfl,⟨fun h=>absurd h qa6,fun h=>absurd (by simpa using congrArg List.length h.2) l⟩⟩
 ·have e1:(n.yf != m.yf)=true:=by simp [h1]
  simp only [e1,qd,qa];exact ⟨false,rfl,⟨fun h=>absurd h qa6,fun h=>absurd h.1 h1⟩⟩
def sgn (ns:List Nod) (i:Nat) (o:Opn):Int×List Int:=(syAt ns (i:Int),o.yb.map (syAt ns))
theorem kli {ns:List Nod} {i:Nat} {n:Nod} (h:ns[i]?=some n):syAt ns (i:Int)=n.yf:=by unfold syAt;rw [qah,h];rfl
theorem conP_iff {ns:List Nod}:ConP ns↔∀ (i k:Nat) (n m:Nod) (o p:Opn),ns[i]?=some n->ns[k]?=some m->o∈n.yc->p∈m.yc->o.yd=p.yd->sgn ns i o=sgn ns k p:=by
 constructor;intro h i k n m o p hn hm ho hp hr;obtain ⟨h1,a⟩:=h i k n m o p hn hm ho hp hr;unfold sgn;rw [kli hn,kli hm,h1,a]
 ·intro h i k n m o p hn hm ho hp hr;have h1:=h i k n m o p hn hm ho hp hr;unfold sgn at h1;rw [kli hn,kli hm,qt] at h1;exact h1
theorem ko7 {ns:List Nod} {i:Nat} (h:i<ns.length):optN (ns.take (i+1))=optN (ns.take i)+ns[i].yc.length:=by unfold optN;rw [qae h,qax,qb4];simp
theorem knq (ns:List Nod):∀ i,optN (ns.take i)<=optN ns:=fun i=>by
 have:optN ns=optN (ns.take i)+optN (ns.drop i):=by unfold optN;rw [<- qb4,<- qax,List.take_append_drop]
 omega
def visO (ns:List Nod) (i k i':Nat) (o:Opn):Prop:=∃ n k',ns[i']?=some n/\n.yc[k']?=some o/\(i'<i\/(i'=i/\k'<k))
structure CInv (ns:List Nod) (vis:Nat->Opn->Prop) (c:Nat) (F:List Opn) (W:List Int):Prop where
 len:F.length=W.length
 here:∀ (j:Nat) (f:Opn),F[j]?=some f->∃ i':Nat,W[j]?=some (i':Int)/\vis i' f
 all:∀ (i':Nat) (o:Opn),vis i' o->∃ (j:Nat) (f:Opn) (i'':Nat),F[j]?=some f/\W[j]?=some (i'':Int)/\f.yd=o.yd/\sgn ns i' o=sgn ns i'' f
 dist:∀ (j j':Nat) (f f':Opn),F[j]?=some f->F[j']?=some f'->f.yd=f'.yd->j=j'
 cnt:F.length<=c
theorem CInv.congr {ns:List Nod} {v v':Nat->Opn->Prop} {c c':Nat} {F:List Opn} {W:List Int} (h:CInv ns v c F W) (hv:∀ i o,v i o↔v' i o) (hc:c<=c'):CInv ns v' c' F W:=
 ⟨h.len,fun j f hf=>let ⟨i',h1,a⟩:=h.here j f hf;⟨i',h1,(hv _ _).1 a⟩,fun i' o ho=>h.all i' o ((hv _ _).2 ho),h.dist,qag h.cnt hc⟩
structure ConH (ns:List Nod):Prop where
 nodes:ns.length<=4096
 opts:optN ns<=32768
 args:∀ (i:Nat) (n:Nod) (o:Opn),ns[i]?=some n->o∈n.yc->(∀ a∈o.yb,0<=a/\a<(ns.length:Int))/\o.yb.length<=9223372036854775807
theorem ksc {ns:List Nod} {i:Nat} {n:Nod} (h:ns[i]?=some n):n.yc.length<=optN ns:=by obtain ⟨hi,rfl⟩:=qh.1 h;have h1:=ko7 hi;have a:=knq ns (i+1);omega
theorem kaal (F:List Opn) (o:Opn) (x:Int×List Opn×List Int) (d:x.2.1=F) (i:F.length<=32768):
  (∃ (j:Nat) (f:Opn),F[j]?=some f/\f.yd=o.yd/\kac (kbm x o) fuel 0=some (j:Int))\/((∀ f∈F,f.yd≠o.yd)/\kac (kbm x o) fuel 0=some (F.length:Int)):=by
 subst d
 let bad:Nat->Bool:=fun j=>decide (∃ f,x.2.1[j]?=some f/\f.yd=o.yd)
 have b:∀ j (a:j<x.2.1.length),bad j=decide (x.2.1[j].yd=o.yd):=fun j a=>by show decide _=decide _;congr 1;rw [qb a];exact propext ⟨fun ⟨f,h1,e⟩=>by cases h1;exact e,fun h=>⟨_,rfl,h⟩⟩
 have hs:∀ j,j<x.2.1.length->kbm x o (j:Int)=if bad j=true then some (.inr (j:Int)) else some (.inl ((j+1:Nat):Int)):=fun j a=>by
  rw [b j a];simp only [kbm,kao a,qd,kaf,qb a,qa,kak a (show x.2.1.length<=9223372036854775807 by omega)];by_cases h:x.2.1[j].yd=o.yd;rw [show (x.2.1[j].yd != o.yd)=false by simp [h],qc,qj h,ql rfl]
  ·rw [show (x.2.1[j].yd != o.yd)=true by simp [h],qd,qg h,qi (by simp)]
 have g:kbm x o (x.2.1.length:Int)=some (.inr (x.2.1.length:Int)):=by simp only [kbm,kan,qc,qa]
 rcases kmk (kbm x o) x.2.1.length bad (fun j=>(j:Int)) (x.2.1.length:Int) hs g with ⟨j,a,c,_,hr⟩ | ⟨c,hr⟩;rw [b j a,qbm] at c;exact .inl ⟨j,x.2.1[j],qb a,c,hr⟩
 ·refine .inr ⟨fun f hf=>?_,hr⟩;obtain ⟨j,a,rfl⟩:=qal.1 hf;have:=c j a;rw [b j a,qb1] at this;exact this
theorem knw {ns:List Nod} {i k:Nat} {n:Nod} {o:Opn} (hn:ns[i]?=some n) (ho:n.yc[k]?=some o) (i':Nat) (o':Opn):visO ns i (k+1) i' o'↔visO ns i k i' o'\/(i'=i/\o'=o):=by
 constructor
 ·rintro ⟨m,k',h1,b,a⟩;rcases a with a | ⟨rfl,a⟩;exact .inl ⟨m,k',h1,b, .inl a⟩
  ·by_cases hk:k'=k;subst hk;rw [hn] at h1;cases h1;rw [ho] at b;cases b;exact .inr ⟨rfl,rfl⟩
   ·exact .inl ⟨m,k',h1,b, .inr ⟨rfl,by omega⟩⟩
 ·rintro (⟨m,k',h1,b,a⟩ | ⟨rfl,rfl⟩)
  ·refine ⟨m,k',h1,b,?_⟩;rcases a with a | ⟨a,c⟩;exact .inl a
   ·exact .inr ⟨a,by omega⟩
  ·exact ⟨n,k,hn,ho, .inr ⟨rfl,by omega⟩⟩
theorem k9o {ns:List Nod} {i k i':Nat} {o:Opn} (h:visO ns i k i' o):∃ n,ns[i']?=some n/\o∈n.yc:=by obtain ⟨n,k',h1,a,_⟩:=h;exact ⟨n,h1,qp a⟩
theorem kae6 {ns:List Nod} (H:ConH ns) {i k:Nat} {n:Nod} (hn:ns[i]?=some n) (hk:k<n.yc.length) {F:List Opn} {W:List Int} (v1:Int×List Opn×List Int) (hv:v1.1=(i:Int)) (c:CInv ns (visO ns i k) (optN (ns.take i)+k) F W):
  Ev (kdk ns v1 ((k:Int),F,W)) (Sum.elim (fun s=>∃ t:List Opn×List Int,s=(((k+1:Nat):Int),t.1,t.2)/\CInv ns (visO ns i (k+1)) (optN (ns.take i)+(k+1)) t.1 t.2) fun r=>r = .inr false/\¬ ConP ns):=by
 have hi:=(qh.1 hn).1;have ho:=qb hk;have g:=qn hk;have hc:optN (ns.take i)+n.yc.length<=32768:=by
  have h1:=ko7 hi;have a:=knq ns (i+1);have p:=H.opts;have B:ns[i]=n:=by have:=qb hi;rw [hn] at this;exact (qas this).symm
  rw [B] at h1;omega
 have I:=c.cnt;obtain ⟨h,q⟩:=H.args i n _ hn g;simp only [kdk,hv,kaf,hn,ho,qa,kao hk,qd,kak hk (show n.yc.length<=9223372036854775807 by omega)];generalize J:n.yc[k]=o at *
 rcases kaal F o ((k:Int),F,W) rfl (by omega) with ⟨j,f,hf,hr,hs⟩ | ⟨u,hs⟩
 ·rw [hs,qa];have e:j<F.length:=ka8 hf;have e1:((j:Int) == (F.length:Int))=false:=by rw [qaw];omega
  obtain ⟨i',G,v⟩:=c.here j f hf;obtain ⟨m,hm,w⟩:=k9o v;simp only [e1,qc,qa,kaf,hf,G];obtain ⟨b,C,l⟩:=k37 hn hm h (H.args i' m f hm w).1 q;rw [C,qa];have x:b=true↔sgn ns i o=sgn ns i' f:=by rw [l];unfold sgn;rw [kli hn,kli hm,qt]
  cases b with
  | true=>
   refine ⟨_,rfl,(F,W),rfl,c.len,fun j f hf=>?_,fun i2 o2 a=>?_,c.dist,qag I (by omega)⟩;obtain ⟨i',h1,a⟩:=c.here j f hf;exact ⟨i',h1,(knw hn ho _ _).2 (.inl a)⟩
   ·rcases (knw hn ho i2 o2).1 a with a | ⟨rfl,rfl⟩;exact c.all i2 o2 a
    ·exact ⟨j,f,i',hf,G,hr,x.1 rfl⟩
  | false=>
   refine ⟨_,rfl,rfl,fun y=>?_⟩;have:=conP_iff.1 y i i' n m o f hn hm g w hr.symm;have:=x.2 this;cases this
 ·rw [hs,qa];have e1:((F.length:Int) == (F.length:Int))=true:=by simp
  simp only [e1,qd];rw [kcg (show (F.length+[o].length)*(32+1)<=140737488355328 by simp;omega),qa,kcg (show (W.length+[(i:Int)].length)*(8+1)<=140737488355328 by rw [<- c.len];simp;omega),qa,qa];have D:(W++[(i:Int)])[F.length]?=some (i:Int):=by rw [c.len];simp
  have z:(F++[o])[F.length]?=some o:=by simp
  simp only [kaf,D,z,qa];obtain ⟨b,C,l⟩:=k37 hn hn h h q;rw [C,qa];obtain rfl:b=true:=l.2 ⟨rfl,rfl⟩;have d:∀ (j:Nat) (f:Opn),(F++[o])[j]?=some f->(F[j]?=some f/\j<F.length)\/(j=F.length/\f=o):=fun j f hf=>by
   by_cases e:j<F.length;rw [q9 e] at hf;exact .inl ⟨hf,e⟩
   ·rw [qap (by omega)] at hf;have h0:j - F.length=0:=(by have:=(qh.1 hf).1;simpa using this);rw [h0] at hf;simp at hf;exact .inr ⟨by omega,hf.symm⟩
  refine ⟨_,rfl,(F++[o],W++[(i:Int)]),rfl,by simp [c.len],fun j f hf=>?_,fun i2 o2 a=>?_,fun j j' f f' hf A hr=>?_,by simp;omega⟩
  ·rcases d j f hf with ⟨h1,e⟩ | ⟨rfl,rfl⟩;obtain ⟨i',a,p⟩:=c.here j f h1;exact ⟨i',by rw [q9 (by rw [<- c.len];exact e)];exact a,(knw hn ho _ _).2 (.inl p)⟩
   ·exact ⟨i,D,(knw hn ho _ _).2 (.inr ⟨rfl,rfl⟩)⟩
  ·rcases (knw hn ho i2 o2).1 a with a | ⟨rfl,rfl⟩;obtain ⟨j,f,i'',p,B,K⟩:=c.all i2 o2 a;have e:=ka8 p;exact ⟨j,f,i'',by rw [q9 e];exact p,by rw [q9 (by rw [<- c.len];exact e)];exact B,K⟩
   ·exact ⟨F.length,o2,i2,z,D,rfl,rfl⟩
  ·rcases d j f hf with ⟨h1,e⟩ | ⟨rfl,rfl⟩
   ·rcases d j' f' A with ⟨a,E⟩ | ⟨rfl,rfl⟩;exact c.dist j j' f f' h1 a hr
    ·exact absurd hr (u f (qp h1))
   ·rcases d j' f' A with ⟨a,E⟩ | ⟨rfl,rfl⟩;exact absurd hr.symm (u f' (qp a))
    ·rfl
theorem kajl {ns:List Nod} (H:ConH ns):Ev (kf6 ns) fun b=>b=true↔ConP ns:=by
 unfold kf6;have x:=H.nodes;refine kc7 (Ev.mono (kbo (xs:=ns) (step:=ken ns) (Q:=fun r=>(r = .inl ()/\ConP ns)\/(r = .inr false/\¬ ConP ns)) (fun (i:Nat) (t:List Opn×List Int)=>((i:Int),t.1,t.2)) (fun i t=>CInv ns (visO ns i 0) (optN (ns.take i)) t.1 t.2) (t0:=([],[])) (by omega) ?_ (fun i t hi c=>?_) (fun t c=>?_)) ?_)
 ·refine ⟨rfl,fun j f h=>by simp at h,fun i' o h=>?_,fun j j' f f' h=>by simp at h,by simp⟩;obtain ⟨n,k',_,_,h | ⟨_,h⟩⟩:=h;omega
  ·omega
 ·simp only [ken,kao hi,qd];have hn:=qb hi;refine kc7 (Ev.mono (kbo (xs:=ns[i].yc) (step:=kdk ns ((i:Int),t.1,t.2)) (Q:=fun r=>(∃ t:List Opn×List Int,r = .inl t/\CInv ns (visO ns i ns[i].yc.length) (optN (ns.take i)+ns[i].yc.length) t.1 t.2)\/(r = .inr false/\¬ ConP ns)) (fun (k:Nat) (t:List Opn×List Int)=>((k:Int),t.1,t.2)) (fun k t=>CInv ns (visO ns i k) (optN (ns.take i)+k) t.1 t.2) (t0:=t) ?_ c (fun k t hk c=>?_) (fun t c=>?_)) ?_);have:=ksc hn;have:=H.opts;omega
  ·refine Ev.mono (kae6 H hn hk _ rfl c) ?_;rintro (s | r) h;exact h
   ·exact .inr h
  exact ⟨_,by simp only [kdk,kaf,hn,qa,kan,qc],_,rfl, .inl ⟨t,rfl,c⟩⟩
  ·rintro r (⟨t',rfl,q⟩ | ⟨rfl,hc⟩)
   ·simp only [qy,kak hi (show ns.length<=9223372036854775807 by omega)];refine ⟨_,rfl,t',rfl,q.congr (fun i' o=>⟨?_,?_⟩) (by rw [ko7 hi];exact qx _)⟩;rintro ⟨m,k',h1,g,d⟩;refine ⟨m,k',h1,g, .inl ?_⟩;rcases d with d | ⟨d,_⟩ <;> omega
    ·rintro ⟨m,k',h1,g,d⟩;refine ⟨m,k',h1,g,?_⟩;rcases d with d | ⟨_,d⟩
     ·by_cases u:i'=i;subst u;rw [hn] at h1;cases h1;exact .inr ⟨rfl,ka8 g⟩
      ·exact .inl (by omega)
     ·omega
   ·exact ⟨_,rfl, .inr ⟨rfl,hc⟩⟩
 ·refine ⟨_,by simp only [ken,kan,qc],_,rfl, .inl ⟨rfl,?_⟩⟩;refine conP_iff.2 fun i k n m o p hn hm ho hp hr=>?_;obtain ⟨a,ha⟩:=qaz.1 ho;obtain ⟨b,y⟩:=qaz.1 hp;obtain ⟨j,f,i1,h1,g,d,z⟩:=c.all i o ⟨n,a,hn,ha, .inl (ka8 hn)⟩;obtain ⟨j',f',i2,e,l,v,w⟩:=c.all k p ⟨m,b,hm,y, .inl (ka8 hm)⟩;have A:=c.dist j j' f f' h1 e (by rw [d,v,hr]);subst A;rw [h1] at e;cases e;rw [g] at l;have:i1=i2:=by have:=qas l;omega
  subst this;rw [z,w]
 ·rintro r (⟨rfl,hc⟩ | ⟨rfl,hc⟩);exact ⟨true,rfl,⟨fun _=>hc,fun _=>rfl⟩⟩
  ·exact ⟨false,rfl,⟨fun h=>absurd h qa6,fun h=>absurd h hc⟩⟩
structure ktk (s:Spa):Prop where
 nodes:s.ya.length<=4611686018427387904
 roots:s.yg.length<=4611686018427387904
 opts:∀ n∈s.ya,n.yc.length<=4611686018427387904
 args:∀ n∈s.ya,∀ o∈n.yc,o.yb.length<=4611686018427387904
theorem kaf8 {s:Spa} (t:ktk s) {i:Nat} {n:Nod} (x:Int×Int) (C:x.2=(i:Int)) (hn:s.ya[i]?=some n) (u:∀ (k:Nat) (m:Nod),k<=i->s.ya[k]?=some m->1<=m.ye/\m.ye<=24):
  Ev (kac (kex s x n) fuel 0) fun r=>(r = .inl ()/\(∀ o∈n.yc,OptP s.ya i n o)/\∀ (k:Nat) (o p:Opn),n.yc[k]?=some o->n.yc[k+1]?=some p->kfh o p<0)\/(r = .inr false/\¬ NodP s.ya i n):=by
 have c:=qp hn;have D:=t.opts n c;refine Ev.mono (kbo (xs:=n.yc) (step:=kex s x n) (Q:=fun r=>(r = .inl ()/\(∀ o∈n.yc,OptP s.ya i n o)/\∀ (k:Nat) (o p:Opn),n.yc[k]?=some o->n.yc[k+1]?=some p->kfh o p<0)\/(r = .inr false/\¬ NodP s.ya i n))
  (fun (k:Nat) (_:Unit)=>(k:Int)) (fun k _=>(∀ (j:Nat) (o:Opn),j<k->n.yc[j]?=some o->OptP s.ya i n o)/\∀ (j:Nat) (o p:Opn),j+1<k->n.yc[j]?=some o->n.yc[j+1]?=some p->kfh o p<0) (t0:=()) (by omega) ⟨fun j o h=>by omega,fun j o p h=>by omega⟩ (fun k _ hk ⟨h1,v⟩=>?_) (fun _ ⟨h1,v⟩=>?_)) (fun r h=>h)
 ·have ho:=qb hk;have E:=t.args n c _ (qn hk);simp only [kex,kao hk,qd,kaf,ho,qa,C,kak hk (show n.yc.length<=9223372036854775807 by omega)];obtain ⟨b,F,l⟩:=kab1 (n.yc[k]) hn u (by omega);rw [F,qa];cases b with
  | false=>
   refine ⟨.inr (.inr false),rfl, .inr ⟨rfl,fun w=>?_⟩⟩;have:=l.2 (w.opt _ (qn hk));cases this
  | true=>
   have z:=l.1 rfl;by_cases h0:0<k
   ·have q:k - 1<n.yc.length:=(by omega);have e1:w64 ((k:Int) - 1)=((k - 1:Nat):Int):=(by rw [kas];omega);have e2:decide ((0:Int)<(k:Int))=true:=qj (by omega);have d:=qb q;have A:=t.args n c _ (qn q);simp only [qbc,qc,e2,qd,e1,kaf,d,qa];rw [kaci _ _ (by omega) (by omega),qa,qa];by_cases B:kfh n.yc[k - 1] n.yc[k]<0
    ·rw [qg (by omega),qc];refine ⟨_,rfl,(),rfl,fun j o g a=>?_,fun j o p g a e=>?_⟩
     ·by_cases f:j=k;subst f;rw [ho] at a;cases a;exact z
      ·exact h1 j o (by omega) a
     ·by_cases f:j+1=k;have y:j=k - 1:=(by omega);subst y;rw [d] at a;cases a;rw [f,ho] at e;cases e;exact B
      ·exact v j o p (by omega) a e
    ·rw [qj (by omega),qd];refine ⟨.inr (.inr false),rfl, .inr ⟨rfl,fun w=>?_⟩⟩;exact B (w.asc (k - 1) _ _ d (by rw [show k - 1+1=k by omega];exact ho))
   ·have e2:decide ((0:Int)<(k:Int))=false:=qg (by omega);simp only [qbc,qc,e2,qa];refine ⟨_,rfl,(),rfl,fun j o g a=>?_,fun j o p g=>by omega⟩;obtain rfl:j=k:=(by omega);rw [ho] at a;cases a;exact z
 ·refine ⟨_,by simp only [kex,kan,qc],_,rfl, .inl ⟨rfl,fun o ho=>?_,fun k o p ho hp=>v k o p (ka8 hp) ho hp⟩⟩;obtain ⟨j,g⟩:=qaz.1 ho;exact h1 j o (ka8 g) g
theorem kvs {s:Spa} (j:ktk s):Ev (kep s) fun b=>b=true↔kb6 s:=by
 unfold kep;have q:=j.nodes;by_cases h1:s.ya.length<=4096
 ·have e1:decide ((4096:Int)<(s.ya.length:Int))=false:=qg (by omega);obtain ⟨b,p,d⟩:=k9h s.yg s.ya.length (by have:=j.roots;omega);simp only [e1,qc,p,qa];cases b with
  | false=>exact ⟨false,rfl,⟨fun h=>absurd h qa6,fun h=>absurd (d.2 h.roots) qa6⟩⟩
  | true=>
   have e:=d.1 rfl;simp only [qbc,qc];refine kc7 (Ev.mono (kbo (xs:=s.ya) (step:=kgl s) (Q:=fun r=>(r = .inl ()/\optN s.ya<=32768/\∀ (i:Nat) (n:Nod),s.ya[i]?=some n->NodP s.ya i n)\/(r = .inr false/\¬ kb6 s))
    (fun (i:Nat) (c:Int)=>(c,(i:Int))) (fun i c=>c=(optN (s.ya.take i):Int)/\optN (s.ya.take i)<=32768/\∀ (k:Nat) (n:Nod),k<i->s.ya[k]?=some n->NodP s.ya k n) (t0:=0) (by omega) ⟨by simp [optN],by simp [optN],fun k n h=>by omega⟩ (fun i c hi ⟨c1,c2,c3⟩=>?_) (fun c ⟨c1,c2,c3⟩=>?_)) ?_)
   ·subst c1;have hn:=qb hi;have t:=j.opts _ (qn hi);have e2:w64 ((optN (s.ya.take i):Int)+(s.ya[i].yc.length:Int))=(optN (s.ya.take (i+1)):Int):=(by rw [ko7 hi,kas];omega);simp only [kgl,kao hi,qd,kaf,hn,qa,e2,kak hi (show s.ya.length<=9223372036854775807 by omega)];by_cases b1:(32768:Int)<(optN (s.ya.take (i+1)):Int);simp only [qj b1,qd,qa];refine ⟨_,rfl, .inr ⟨rfl,fun h=>?_⟩⟩;have f:=h.opts;have l:=knq s.ya (i+1);omega
    ·simp only [qg b1,qc];by_cases b2:s.ya[i].yf<0;simp only [qj b2,qd,qa];refine ⟨_,rfl, .inr ⟨rfl,fun h=>?_⟩⟩;have:=(h.node i _ hn).sym;omega
     ·simp only [qg b2,qc];by_cases b3:s.ya[i].ye<1;simp only [qj b3,qd,qa];refine ⟨_,rfl, .inr ⟨rfl,fun h=>?_⟩⟩;have:=(h.node i _ hn).size;omega
      ·simp only [qg b3,qc,qa];by_cases b4:24<s.ya[i].ye;simp only [qj b4,qd];refine ⟨_,rfl, .inr ⟨rfl,fun h=>?_⟩⟩;have:=(h.node i _ hn).size;omega
       ·simp only [qg b4,qc];refine kc7 (Ev.mono (kaf8 j _ rfl hn fun k m hk hm=>?_) ?_)
        ·by_cases g:k=i;subst g;rw [hn] at hm;cases hm;omega
         ·exact (c3 k m (by omega) hm).size
        ·rintro r (⟨rfl,f,l⟩ | ⟨rfl,f⟩)
         ·refine ⟨_,rfl,_,rfl,rfl,by omega,fun k m hk hm=>?_⟩;by_cases g:k=i;subst g;rw [hn] at hm;cases hm;exact ⟨by omega,by omega,f,l⟩
          ·exact c3 k m (by omega) hm
         ·exact ⟨_,rfl, .inr ⟨rfl,fun h=>f (h.node i _ hn)⟩⟩
   refine ⟨_,by simp only [kgl,kan,qc],_,rfl, .inl ⟨rfl,?_,fun i n hn=>c3 i n (ka8 hn) hn⟩⟩;rw [qar] at c2;exact c2
   ·rintro r (⟨rfl,f,l⟩ | ⟨rfl,f⟩);simp only [qy];have H:ConH s.ya:=⟨h1,f,fun i n o hn ho=>⟨fun a ha=>by have u:=((l i n hn).opt o ho).args a ha;have v:=ka8 hn;omega,by have:=j.args n (qp hn) o ho;omega⟩⟩;obtain ⟨b,p,d⟩:=kajl H;rw [p];refine ⟨b,rfl,?_⟩;show b=true↔_;rw [d];exact ⟨fun h=>⟨h1,e,l,f,h⟩,fun h=>h.con⟩
    ·exact ⟨false,rfl,⟨fun h=>absurd h qa6,fun h=>absurd h f⟩⟩
 ·have e1:decide ((4096:Int)<(s.ya.length:Int))=true:=qj (by omega);simp only [e1,qd,qa];exact ⟨false,rfl,⟨fun h=>absurd h qa6,fun h=>absurd h.nodes h1⟩⟩
def ilk {α:Type} (m:List (Int×α)) (k:Int):Option α:=(imf k m 0).map (·.2)
theorem kaex {α:Type} (m:List (Int×α)) (k:Int):ihas m k=(ilk m k).isSome:=by unfold ihas ilk;cases imf k m 0 <;> rfl
theorem kafu {α:Type} (m:List (Int×α)) (k:Int) (z:α):iget m k z=(ilk m k).getD z:=by unfold iget ilk;cases imf k m 0 <;> rfl
theorem kzv {α:Type} (k:Int):∀ (m:List (Int×α)) (i:Nat),imf k m (i+1)=(imf k m i).map fun p=>(p.1+1,p.2)
 | [],_=>rfl
 | (k',x)::l,i=>by
  simp only [imf];cases k == k' with
  | true=>rfl
  | false=>exact kzv k l (i+1)
theorem ksi {α:Type} (k':Int) (x:α) (l:List (Int×α)) (k:Int):ilk ((k',x)::l) k=if k=k' then some x else ilk l k:=by
 unfold ilk;simp only [imf];by_cases h:k=k';subst h;simp
 ·rw [qi h,show (k == k')=false by simp [h],qc,kzv];cases imf k l 0 <;> rfl
theorem kacl {α:Type} (k':Int) (x:α) (l:List (Int×α)) (k:Int) (y:α):iput ((k',x)::l) k y=if k=k' then (k,y)::l else (k',x)::iput l k y:=by
 unfold iput;simp only [imf];by_cases h:k=k';subst h;simp
 ·rw [qi h,show (k == k')=false by simp [h],qc,kzv];cases imf k l 0 <;> rfl
theorem kzt {α:Type} (k:Int) (y:α) (r:Int):∀ m:List (Int×α),ilk (iput m k y) r=if r=k then some y else ilk m r
 | []=>by show ilk [(k,y)] r=_;rw [ksi]
 | (k',x)::l=>by
  rw [kacl];by_cases h:k=k'
  ·rw [ql h,ksi,ksi];subst h;by_cases a:r=k;rw [ql a,ql a]
   ·rw [qi a,qi a,qi a]
  ·rw [qi h,ksi,ksi,kzt k y r l];by_cases a:r=k';subst a;rw [ql rfl,qi (fun e=>h e.symm),ql rfl]
   ·rw [qi a,qi a]
theorem cmpN (a b:Int):kil a b=some (if a<b then -1 else if b<a then 1 else 0):=by
 simp only [kil,kmw,bne_self_eq_false,qa,qc];by_cases h1:a<b;rw [qj h1,ql h1];rfl
 ·rw [qg h1,qi h1];by_cases c:b<a;rw [qj c,ql c];rfl
  ·rw [qg c,qi c];rfl
theorem kald (x y:Int):kn2 [x,y]=some (if x≠0 then x else y):=by
 unfold kn2;have h:kac (kk0 [x,y]) fuel 0=some (if x≠0 then .inr x else if y≠0 then .inr y else .inl ()):=by
  have h0:kk0 [x,y] 0=if x≠0 then some (.inr (.inr x)) else some (.inl 1):=by
   have e:idx [x,y] 0=some x:=kaf [x,y] 0;show (bif decide ((0:Int)<(([x,y]:List Int).length:Int)) then _ else _)=_;rw [show decide ((0:Int)<(([x,y]:List Int).length:Int))=true from rfl,qd,e,qa];by_cases a:x=0;subst a;rfl
   ·rw [show (x != 0)=true by rw [bne_iff_ne];exact a,ql a];rfl
  have h1:kk0 [x,y] 1=if y≠0 then some (.inr (.inr y)) else some (.inl 2):=by
   have e:idx [x,y] 1=some y:=kaf [x,y] 1;show (bif decide ((1:Int)<(([x,y]:List Int).length:Int)) then _ else _)=_;rw [show decide ((1:Int)<(([x,y]:List Int).length:Int))=true from rfl,qd,e,qa];by_cases hy:y=0;subst hy;rfl
   ·rw [show (y != 0)=true by rw [bne_iff_ne];exact hy,ql hy];rfl
  have b:kk0 [x,y] 2=some (.inr (.inl ())):=rfl;rw [show fuel=18446744073709551613+1+1+1 from rfl,kac,h0];by_cases a:x=0
  ·rw [qi (by simpa using a),qi (by simpa using a)];simp only;rw [kac,h1];by_cases hy:y=0;rw [qi (by simpa using hy),qi (by simpa using hy)];simp only;rw [kac,b]
   ·rw [ql hy,ql hy]
  ·rw [ql a,ql a]
 rw [h,qa];by_cases a:x=0 <;> by_cases hy:y=0 <;> simp [a,hy]
def lexQ:List Int->List Int->Unit ⊕ Int
 | x::xs,y::ys=>if x<y then .inr (-1) else if y<x then .inr 1 else lexQ xs ys
 | _::_,[] => .inr 1
 | [],_ => .inl ()
theorem k3w:∀ xs ys:List Int,cmpI xs ys=Sum.elim (fun _=>if xs.length<ys.length then -1 else 0) id (lexQ xs ys)
 | [],[]=>rfl
 | [],_::_=>by simp [cmpI,lexQ]
 | _::_,[]=>by simp [cmpI,lexQ]
 | x::xs,y::ys=>by
  simp only [cmpI,lexQ];split;rfl
  ·split;rfl
   ·rw [k3w xs ys];congr 1;funext u;simp
theorem kamj (x y:List Int) (e:x.length<=9223372036854775807):kfr x y=some (cmpI x y):=by
 unfold kfr;have h:=kk2 (kd9 x y) x.length (fun i=>(i:Int)) (fun i=>lexQ (x.drop i) (y.drop i)) (fun i a=>by
  simp only [kd9,kao a,qd,kaf,qb a,qa,kak a e,qav a];by_cases b:i<y.length
  ·rw [qg (show ¬ (y.length:Int)<=(i:Int) by omega),qc];simp only [qb b,qa,qav b,lexQ,cmpN];by_cases h1:x[i]<y[i];simp only [ql h1];exact .inr rfl
   ·simp only [qi h1];by_cases d:y[i]<x[i];simp only [ql d];exact .inr rfl
    ·simp only [qi d];first | exact .inl ⟨rfl,rfl⟩ | exact .inl ⟨rfl,trivial⟩
  ·rw [qj (show (y.length:Int)<=(i:Int) by omega),qd,qbs (show y.length<=i by omega)];exact .inr rfl) (by
  simp only [kd9,kan,qc,List.drop_length,lexQ])
 have f:kac (kd9 x y) fuel 0=some (lexQ x y):=by simpa using h
 rw [f,qa,k3w];cases lexQ x y with
 | inr c=>rfl
 | inl u=>
  simp only [qy];by_cases h1:x.length<y.length;rw [qj (by omega),ql h1];rfl
  ·rw [qg (by omega),qi h1];rfl
theorem k9r (a b:Opn) (ha:a.yb.length<=9223372036854775807):kg0 a b=some (kfh a b):=by
 unfold kg0 kfh;rw [cmpN,qa,kamj _ _ ha,qa,kald,qa];congr 1;by_cases h1:a.yd<b.yd;rw [ql h1,ql (by omega),ql (by omega)];simp [cmpI,h1]
 ·by_cases c:b.yd<a.yd;rw [qi h1,ql c,ql (by omega),ql (by omega)];simp [cmpI,h1,c]
  ·rw [qi h1,qi c,qi (by omega),qi (by omega)]
theorem asc_p (l:List Int) (n:Nat) (hl:l.length<=9223372036854775807):Ev (kk3 l (n:Int)) fun b=>b=true↔AscP l n:=by
 have h:klc l (n:Int)=kbp l (n:Int):=by
  funext v;simp only [klc,kbp];cases decide (v<(l.length:Int)) with
  | false=>rfl
  | true=>cases idx l v <;> rfl
 unfold kk3;rw [h];exact k9h l n hl
theorem kajt (x y:List Int) (b:x.length<=9223372036854775807):keu x y=some (decide (x=y)):=by
 unfold keu;by_cases hl:x.length=y.length
 ·rw [show ((x.length:Int) != (y.length:Int))=false by simp [hl],qc];rcases kmk (kdt x y) x.length (fun i=>decide (x[i]?≠y[i]?)) (fun _ => .inr false) (.inl ()) (fun i hi=>by
   have hi2:i<y.length:=(by omega);simp only [kdt,kao hi,qd,kaf,qb hi,qb hi2,qa,kak hi b];by_cases h:x[i]=y[i];rw [show (x[i] != y[i])=false by simp [h],qi (by simp [h])];rfl
   ·rw [show (x[i] != y[i])=true by simp [h],ql (by simp [h])];rfl) (by simp only [kdt,kan,qc]) with ⟨i,hi,a,_,hr⟩ | ⟨a,hr⟩
  rw [hr];rw [qbm] at a;rw [qg (fun e=>a (by rw [e]))];rfl
  ·rw [hr];have:x=y:=qbt fun i=>by
    by_cases hi:i<x.length;have:=a i hi;simpa using this
    ·rw [qaq (by omega),qaq (by omega)]
   rw [qj this];rfl
 ·rw [show ((x.length:Int) != (y.length:Int))=true by simp;omega,qd,qg (fun e=>hl (by rw [e]))]
def shp (ns:List Nod) (i:Nat) (o:Opn):List Int:=syAt ns (i:Int)::o.yb.map (syAt ns)
theorem shp_sgn {ns:List Nod} {i k:Nat} {o p:Opn}:shp ns i o=shp ns k p↔sgn ns i o=sgn ns k p:=by unfold shp sgn;simp
theorem kakg {s:Spa} {i:Nat} {n:Nod} {o:Opn} (hn:s.ya[i]?=some n) (ho:∀ a∈o.yb,0<=a/\a<(s.ya.length:Int)) (hl:o.yb.length<=1000):kmz s n o=some (shp s.ya i o):=by
 unfold kmz;have h:=kck (ki0 s o) o.yb.length (fun k=>((k:Int),n.yf::(o.yb.take k).map (syAt s.ya))) (shp s.ya i o) (fun k hk=>by
  obtain ⟨m,e1,e2,_,e3⟩:=kni s.ya (ho _ (qn hk)).1 (ho _ (qn hk)).2;simp only [ki0,kao hk,qd,kaf,qb hk,qa,e1,kak hk (show o.yb.length<=9223372036854775807 by omega)];rw [kcg (by simp;omega),qa,qae hk,qax];simp [e3]) (by
  simp only [ki0,kan,qc,qar];unfold shp;rw [kli hn])
 have b:kac (ki0 s o) fuel (0,([n.yf]:List Int))=some (shp s.ya i o):=by simpa using h
 rw [b,qa]
theorem kalq {s:Spa} {i:Nat} {n:Nod} (o:Opn) (v4:Int×Int×List (Int×List Int)) (hv:v4.2.1=(i:Int)) (hn:s.ya[i]?=some n) (g:∀ (k:Nat) (m:Nod),k<=i->s.ya[k]?=some m->1<=m.ye/\m.ye<=24) (p:o.yb.length<=9223372036854775807):
  Ev (kac (kjq s v4 o) fuel (1,0)) fun r=>(∃ z,r = .inl z/\o.yb.length<=48/\(∀ a∈o.yb,0<=a/\a<(i:Int))/\z=1+(o.yb.map (szAt s.ya)).sum)\/(r = .inr false/\¬ OptP s.ya i n o):=by
 have hi:=(qh.1 hn).1;have q:=g i n (qx _) hn;have b:∀ a:Int,0<=a->a<(i:Int)->∃ m,idx s.ya a=some m/\szAt s.ya a=m.ye/\1<=m.ye/\m.ye<=24:=fun a h0 h1=>by obtain ⟨m,e1,e2,e3,_⟩:=kni s.ya h0 (by omega);have:=g a.toNat m (by omega) e2;exact ⟨m,e1,e3,this.1,this.2⟩
 refine kbo (xs:=o.yb) (step:=kjq s v4 o) (Q:=fun r=>(∃ z,r = .inl z/\o.yb.length<=48/\(∀ a∈o.yb,0<=a/\a<(i:Int))/\z=1+(o.yb.map (szAt s.ya)).sum)\/(r = .inr false/\¬ OptP s.ya i n o))
  (fun (j:Nat) (z:Int)=>(z,(j:Int))) (fun j z=>(∀ a∈o.yb.take j,0<=a/\a<(i:Int))/\z=1+((o.yb.take j).map (szAt s.ya)).sum/\(j:Int)+1<=z/\z<=48) p ⟨by simp,by simp,by omega,by omega⟩ (fun j z c ⟨h1,l,t,u⟩=>?_) (fun z ⟨h1,l,t,u⟩=>?_)
 ·simp only [kjq,kao c,qd,kaf,qb c,qa,kak c p,hv];by_cases b1:o.yb[j]<0;refine ⟨.inr (.inr false),by simp [b1], .inr ⟨rfl,fun d=>?_⟩⟩;have:=(d.args _ (qn c)).1;omega
  ·by_cases b2:(i:Int)<=o.yb[j];refine ⟨.inr (.inr false),by simp [b1,b2], .inr ⟨rfl,fun d=>?_⟩⟩;have:=(d.args _ (qn c)).2;omega
   ·by_cases b3:24<z;refine ⟨.inr (.inr false),by simp [b1,b2,b3], .inr ⟨rfl,fun d=>?_⟩⟩;have v:=d.size;rw [k34 _ _ j] at v;have x:=kvf (f:=szAt s.ya) (o.yb.drop j) fun a ha=>(by have h:=d.args a (qbo ha);obtain ⟨m,_,e,w,_⟩:=b a h.1 h.2;omega);omega
    ·obtain ⟨m,e1,e2,w,h8⟩:=b o.yb[j] (by omega) (by omega);have e3:w64 (z+m.ye)=z+m.ye:=kas;refine ⟨.inl (z+m.ye,((j+1:Nat):Int)),by simp [b1,b2,b3,e1,e3],z+m.ye,rfl,fun a ha=>?_,?_,by omega,by omega⟩
     ·rw [qae c,qak,qai] at ha;rcases ha with ha | rfl;exact h1 a ha
      ·omega
     ·rw [k5b _ c];omega
 ·refine ⟨_,by simp only [kjq,kan,qc],_,rfl, .inl ⟨z,rfl,by omega,?_,?_⟩⟩;rw [qar] at h1;exact h1
  ·rw [qar] at l;exact l
structure MI (ns:List Nod) (vis:Nat->Opn->Prop) (m:List (Int×List Int)):Prop where
 here:∀ r x,ilk m r=some x->∃ i o,vis i o/\o.yd=r/\x=shp ns i o
 all:∀ i o,vis i o->ilk m o.yd=some (shp ns i o)
theorem MI.congr {ns:List Nod} {v v':Nat->Opn->Prop} {m:List (Int×List Int)} (h:MI ns v m) (hv:∀ i o,v i o↔v' i o):MI ns v' m:=
 ⟨fun r x a=>let ⟨i,o,h1,b⟩:=h.here r x a;⟨i,o,(hv _ _).1 h1,b⟩,fun i o ho=>h.all i o ((hv _ _).2 ho)⟩
theorem kaif {ns:List Nod} {i:Nat} {n:Nod} (hn:ns[i]?=some n) (i':Nat) (o:Opn):visO ns i n.yc.length i' o↔visO ns (i+1) 0 i' o:=by
 constructor;rintro ⟨m,k',h1,b,a⟩;refine ⟨m,k',h1,b, .inl ?_⟩;rcases a with a | ⟨a,_⟩ <;> omega
 ·rintro ⟨m,k',h1,b,a⟩;refine ⟨m,k',h1,b,?_⟩;rcases a with a | ⟨_,a⟩
  ·by_cases c:i'=i;subst c;rw [hn] at h1;cases h1;exact .inr ⟨rfl,ka8 b⟩
   ·exact .inl (by omega)
  ·omega
theorem kalg {s:Spa} (I:ktk s) {i:Nat} {n:Nod} (v4:Int×Int×List (Int×List Int)) (hv:v4.2.1=(i:Int)) (hn:s.ya[i]?=some n) (J:∀ (k:Nat) (m:Nod),k<=i->s.ya[k]?=some m->1<=m.ye/\m.ye<=24) {m:List (Int×List Int)} (hm:MI s.ya (visO s.ya i 0) m):
  Ev (kac (kjm s v4 n) fuel (0,m)) fun r=>(∃ m',r = .inl m'/\MI s.ya (visO s.ya (i+1) 0) m'/\(∀ o∈n.yc,OptP s.ya i n o)/\∀ (k:Nat) (o p:Opn),n.yc[k]?=some o->n.yc[k+1]?=some p->kfh o p<0)\/(r = .inr false/\¬ kb6 s):=by
 have e:=qp hn;have hi:=(qh.1 hn).1;have S:=I.opts n e;refine kbo (xs:=n.yc) (step:=kjm s v4 n) (Q:=fun r=>(∃ m',r = .inl m'/\MI s.ya (visO s.ya (i+1) 0) m'/\(∀ o∈n.yc,OptP s.ya i n o)/\∀ (k:Nat) (o p:Opn),n.yc[k]?=some o->n.yc[k+1]?=some p->kfh o p<0)\/(r = .inr false/\¬ kb6 s))
  (fun (k:Nat) (m:List (Int×List Int))=>((k:Int),m)) (fun k m=>MI s.ya (visO s.ya i k) m/\(∀ (j:Nat) (o:Opn),j<k->n.yc[j]?=some o->OptP s.ya i n o)/\∀ (j:Nat) (o p:Opn),j+1<k->n.yc[j]?=some o->n.yc[j+1]?=some p->kfh o p<0) (t0:=m) (by omega) ⟨hm,fun j o h=>by omega,fun j o p h=>by omega⟩ (fun k m hk ⟨h0,h1,K⟩=>?_) (fun m ⟨h0,h1,K⟩=>?_)
 ·have ho:=qb hk;have f:=qn hk;have T:=I.args n e _ f;simp only [kjm,kao hk,qd,kaf,ho,qa,kak hk (show n.yc.length<=9223372036854775807 by omega)];by_cases b1:n.yc[k].yd<0;simp only [qj b1,qd,qa];refine ⟨_,rfl, .inr ⟨rfl,fun h=>?_⟩⟩;have:=((h.node i n hn).opt _ f).rule;omega
  ·simp only [qg b1,qc]
   -- the order
   have C:Ev (bif decide ((0:Int)<(k:Int)) then Option.bind (idx n.yc (w64 ((k:Int) - 1))) fun v10=>Option.bind (kg0 v10 n.yc[k]) fun v11=>some (decide (0<=v11)) else some false) fun b=>(b=false/\(∀ (j:Nat) (o p:Opn),j+1<k+1->n.yc[j]?=some o->n.yc[j+1]?=some p->kfh o p<0))\/(b=true/\¬ kb6 s):=by
    by_cases h0:0<k
    ·have D:k - 1<n.yc.length:=(by omega);have e1:w64 ((k:Int) - 1)=((k - 1:Nat):Int):=(by rw [kas];omega);have v:=qb D;have O:=I.args n e _ (qn D);simp only [qj (show (0:Int)<(k:Int) by omega),qd,e1,kaf,v,qa];rw [k9r _ _ (by omega),qa];by_cases P:kfh n.yc[k - 1] n.yc[k]<0
     ·refine ⟨_,rfl, .inl ⟨qg (by omega),fun j o p E c w=>?_⟩⟩;by_cases y:j+1=k;have L:j=k - 1:=(by omega);subst L;rw [v] at c;cases c;rw [y,ho] at w;cases w;exact P
      ·exact K j o p (by omega) c w
     ·refine ⟨_,rfl, .inr ⟨qj (by omega),fun h=>?_⟩⟩;exact P ((h.node i n hn).asc (k - 1) _ _ v (by rw [show k - 1+1=k by omega];exact ho))
    ·simp only [qg (show ¬ (0:Int)<(k:Int) by omega),qc];exact ⟨false,rfl, .inl ⟨rfl,fun j o p E=>by omega⟩⟩
   refine kc7 (Ev.mono C ?_);rintro b (⟨rfl,F⟩ | ⟨rfl,l⟩)
   ·simp only [qc];refine kc7 (Ev.mono (kalq (n.yc[k]) v4 hv hn J (by omega)) ?_);rintro r (⟨z,rfl,U,ha,R⟩ | ⟨rfl,l⟩)
    ·simp only [qy];have M:∀ a∈n.yc[k].yb,0<=a/\a<(s.ya.length:Int):=fun a h=>(by have:=ha a h;omega);rw [kakg hn M (by omega),qa];by_cases q:z=n.ye
     ·have V:OptP s.ya i n n.yc[k]:=⟨by omega,ha,by rw [<- R];exact q⟩;rw [show (z != n.ye)=false by simp [q],qc];have fin:∀ m',MI s.ya (visO s.ya i (k+1)) m'->m'=iput m n.yc[k].yd (shp s.ya i n.yc[k])->∃ t',(((k+1:Nat):Int),m')=(((k+1:Nat):Int),t')/\MI s.ya (visO s.ya i (k+1)) t'/\(∀ (j:Nat) (o:Opn),j<k+1->n.yc[j]?=some o->OptP s.ya i n o)/\∀ (j:Nat) (o p:Opn),j+1<k+1->n.yc[j]?=some o->n.yc[j+1]?=some p->kfh o p<0:=fun m' X _=>by
       refine ⟨m',rfl,X,fun j o E c=>?_,F⟩;by_cases y:j=k;subst y;rw [ho] at c;cases c;exact V
       ·exact h1 j o (by omega) c
      have t:(∀ x,ilk m n.yc[k].yd=some x->x=shp s.ya i n.yc[k])->MI s.ya (visO s.ya i (k+1)) (iput m n.yc[k].yd (shp s.ya i n.yc[k])):=fun A=>by
       refine ⟨fun r x d=>?_,fun i' o' B=>?_⟩
       ·rw [kzt] at d;by_cases hr:r=n.yc[k].yd;rw [ql hr] at d;injection d with d;exact ⟨i,_,(knw hn ho i _).2 (.inr ⟨rfl,rfl⟩),hr.symm,d.symm⟩
        ·rw [qi hr] at d;obtain ⟨i',o',g1,g2,g3⟩:=h0.here r x d;exact ⟨i',o',(knw hn ho i' o').2 (.inl g1),g2,g3⟩
       ·rw [kzt];rcases (knw hn ho i' o').1 B with B | ⟨rfl,rfl⟩
        ·have g:=h0.all i' o' B;by_cases hr:o'.yd=n.yc[k].yd;rw [ql hr];rw [hr] at g;rw [A _ g]
         ·rw [qi hr];exact g
        ·rw [ql rfl]
      rw [kaex,kafu];cases hl:ilk m n.yc[k].yd with
      | none=>
       simp only [Option.isSome_none,qc,qa];refine ⟨_,rfl,fin _ (t fun x d=>by rw [hl] at d;cases d) rfl⟩
      | some x=>
       simp only [Option.isSome_some,qd,qaf];obtain ⟨i',o',g1,g2,g3⟩:=h0.here _ _ hl;obtain ⟨n',G,u⟩:=k9o g1;have N:x.length<=9223372036854775807:=(by rw [g3];unfold shp;have:=I.args n' (qp G) o' u;simp;omega);rw [kajt _ _ N,qa,qa];by_cases d:x=shp s.ya i n.yc[k];rw [qj d];refine ⟨_,rfl,fin _ (t fun x' H=>by rw [hl] at H;cases H;exact d) rfl⟩
       ·rw [qg d];refine ⟨_,rfl, .inr ⟨rfl,fun h=>d ?_⟩⟩;rw [g3,shp_sgn];exact conP_iff.1 h.con i' i n' n o' _ G hn u f g2
     ·rw [show (z != n.ye)=true by simp [q],qd,qa];refine ⟨_,rfl, .inr ⟨rfl,fun h=>q ?_⟩⟩;rw [R];exact ((h.node i n hn).opt _ f).size
    ·exact ⟨_,rfl, .inr ⟨rfl,fun h=>l ((h.node i n hn).opt _ f)⟩⟩
   ·exact ⟨_,rfl, .inr ⟨rfl,l⟩⟩
 ·refine ⟨_,by simp only [kjm,kan,qc],_,rfl, .inl ⟨m,rfl,h0.congr (kaif hn),fun o ho=>?_,fun k o p ho hp=>K k o p (ka8 hp) ho hp⟩⟩;obtain ⟨j,E⟩:=qaz.1 ho;exact h1 j o (ka8 E) E
theorem kak8 {s:Spa} (g:ktk s):Ev (kns s) fun b=>b=true↔kb6 s:=by
 unfold kns;have t:=g.nodes;by_cases h1:s.ya.length<=4096
 ·have e1:decide ((4096:Int)<(s.ya.length:Int))=false:=qg (by omega);obtain ⟨b,l,f⟩:=asc_p s.yg s.ya.length (by have:=g.roots;omega);simp only [e1,qc,l,qa];cases b with
  | false=>exact ⟨false,rfl,⟨fun h=>absurd h qa6,fun h=>absurd (f.2 h.roots) qa6⟩⟩
  | true=>
   have d:=f.1 rfl;simp only [qbc,qc];refine kc7 (Ev.mono (kbo (xs:=s.ya) (step:=kle s) (Q:=fun r=>(r = .inl ()/\kb6 s)\/(r = .inr false/\¬ kb6 s))
    (fun (i:Nat) (c:Int×List (Int×List Int))=>(c.1,(i:Int),c.2)) (fun i c=>c.1=(optN (s.ya.take i):Int)/\optN (s.ya.take i)<=32768/\MI s.ya (visO s.ya i 0) c.2/\∀ (k:Nat) (n:Nod),k<i->s.ya[k]?=some n->NodP s.ya k n) (t0:=(0,[])) (by omega) ⟨by simp [optN],by simp [optN],⟨fun r x h=>(by cases h),fun i o h=>?_⟩,fun k n h=>by omega⟩ (fun i c hi ⟨c1,c2,c3,c4⟩=>?_) (fun c ⟨c1,c2,c3,c4⟩=>?_)) ?_)
   obtain ⟨n,k',_,_,h | ⟨_,h⟩⟩:=h <;> omega
   ·obtain ⟨c0,m⟩:=c;simp only at c1 c3;subst c1;have hn:=qb hi;have u:=g.opts _ (qn hi);have e2:w64 ((optN (s.ya.take i):Int)+(s.ya[i].yc.length:Int))=(optN (s.ya.take (i+1)):Int):=(by rw [ko7 hi,kas];omega);simp only [kle,kao hi,qd,kaf,hn,qa,e2,kak hi (show s.ya.length<=9223372036854775807 by omega)];by_cases b2:s.ya[i].yf<0;simp only [qj b2,qd,qa];refine ⟨_,rfl, .inr ⟨rfl,fun h=>?_⟩⟩;have:=(h.node i _ hn).sym;omega
    ·simp only [qg b2,qc];by_cases b3:s.ya[i].ye<1;simp only [qj b3,qd,qa];refine ⟨_,rfl, .inr ⟨rfl,fun h=>?_⟩⟩;have:=(h.node i _ hn).size;omega
     ·simp only [qg b3,qc];by_cases b4:24<s.ya[i].ye;simp only [qj b4,qd,qa];refine ⟨_,rfl, .inr ⟨rfl,fun h=>?_⟩⟩;have:=(h.node i _ hn).size;omega
      ·simp only [qg b4,qc,qa];by_cases b1:(32768:Int)<(optN (s.ya.take (i+1)):Int);simp only [qj b1,qd];refine ⟨_,rfl, .inr ⟨rfl,fun h=>?_⟩⟩;have j:=h.opts;have q:=knq s.ya (i+1);omega
       ·simp only [qg b1,qc];refine kc7 (Ev.mono (kalg g _ rfl hn (fun k m hk hm=>?_) c3) ?_)
        ·by_cases e:k=i;subst e;rw [hn] at hm;cases hm;omega
         ·exact (c4 k m (by omega) hm).size
        ·rintro r (⟨m',rfl,j,q,v⟩ | ⟨rfl,j⟩)
         ·refine ⟨_,rfl,(_,m'),rfl,rfl,by omega,j,fun k m hk hm=>?_⟩;by_cases e:k=i;subst e;rw [hn] at hm;cases hm;exact ⟨by omega,by omega,q,v⟩
          ·exact c4 k m (by omega) hm
         ·exact ⟨_,rfl, .inr ⟨rfl,j⟩⟩
   refine ⟨_,by simp only [kle,kan,qc],_,rfl, .inl ⟨rfl,h1,d,fun i n hn=>c4 i n (ka8 hn) hn,by rw [qar] at c2;exact c2,conP_iff.2 fun i k n m o p hn hm ho hp hr=>?_⟩⟩;obtain ⟨a,ha⟩:=qaz.1 ho;obtain ⟨b,l⟩:=qaz.1 hp;have g1:=c3.all i o ⟨n,a,hn,ha, .inl (ka8 hn)⟩;have g2:=c3.all k p ⟨m,b,hm,l, .inl (ka8 hm)⟩;rw [hr,g2] at g1;exact (shp_sgn.1 (qas g1)).symm
   ·rintro r (⟨rfl,h⟩ | ⟨rfl,h⟩);exact ⟨true,rfl,⟨fun _=>h,fun _=>rfl⟩⟩
    ·exact ⟨false,rfl,⟨fun h=>absurd h qa6,fun w=>absurd w h⟩⟩
 ·have e1:decide ((4096:Int)<(s.ya.length:Int))=true:=qj (by omega);simp only [e1,qd,qa];exact ⟨false,rfl,⟨fun h=>absurd h qa6,fun h=>absurd h.nodes h1⟩⟩
end Go.Proofs.YtjbonbdomgoklaaGreatDoor
