import Derived.Test.YtnlhjbnpjefjgaaGreatDoorDrawE
import Derived.Test.YtnlhjbnpjefjgaaGreatDoorOpm
import Derived.Test.YtnlhjbnpjefjgaaGreatDoorOpr
import Derived.Test.YtnlhjbnpjefjgaaGreatDoorVE
import Derived.Test.YtnlhjbnpjefjgaaGreatDoorKz
import Derived.Shelf.SlSortCmp.NoneTotal
import Derived.Sort.OwnSortedInts
import Derived.Test.YtnlhjbnpjefjgaaGreatDoorAv
import Derived.Shelf.SlLaysF0
import Derived.Ground.SlsfProg
import Derived.Test.YtnlhjbnpjefjgaaGreatDoorProg
set_option linter.all false
namespace Go.Proofs.YtnlhjbnpjefjgaaGreatDoor
open Go Go.RowKit Go.Proofs.Tryz
theorem kb8 {n:Nat} (h:n<18446744073709551616):n<fuel:=h
theorem kdf {n:Int} (h: -9223372036854775808<=n:=by omega) (a:n<=9223372036854775807:=by omega):w64 n=n:=by
 unfold w64 IntKind.wrap IntKind.signed IntKind.bits;simp only;rw [show (2:Int) ^ 64=18446744073709551616 from rfl];by_cases h0:0<=n;have:n % 18446744073709551616=n:=Int.emod_eq_of_lt h0 (by omega);simp [this];omega
 ·have:n % 18446744073709551616=n+18446744073709551616:=by rw [<- Int.add_emod_right,Int.emod_eq_of_lt (by omega) (by omega)]
  simp [this];omega
theorem kfl (n:Nat) (h:n<=9223372036854775806:=by omega):w64 ((n:Int)+1)=((n+1:Nat):Int):=by rw [kdf];omega
theorem kag {α:Type} (xs:List α) (n:Nat):idx xs (n:Int)=xs[n]?:=by unfold idx;rw [qn (by omega)];simp
theorem kb4 {α:Type} {b:Nat} {xs ys:List α} (h:(xs.length+ys.length)*(b+1)<=140737488355328):app b xs ys=some (xs++ys):=by unfold app;rw [qn h]
section
variable {σ β:Type} {step:σ->Option (σ ⊕ β)}
theorem kys (n:Nat) (S:Nat->σ) (out:Nat->β) (hs:∀ i,i<n->(step (S i)=some (.inl (S (i+1)))/\out i=out (i+1))\/step (S i)=some (.inr (out i))) (a:step (S n)=some (.inr (out n))):
  ∀ (k i:Nat),i<=n->n - i<k->kac step k (S i)=some (out i)
 | 0,i,_,h=>by omega
 | k+1,i,hi,hk=>by
  rw [kac];by_cases h:i=n;subst h;rw [a]
  ·rcases hs i (by omega) with ⟨h1,b⟩ | h1;rw [h1,b];exact kys n S out hs a k (i+1) (by omega) (by omega)
   ·rw [h1]
theorem kle (step:σ->Option (σ ⊕ β)) (n:Nat) (S:Nat->σ) (out:Nat->β) (hs:∀ i,i<n->(step (S i)=some (.inl (S (i+1)))/\out i=out (i+1))\/step (S i)=some (.inr (out i))) (a:step (S n)=some (.inr (out n))) (hn:n<18446744073709551616:=by omega):
  kac step fuel (S 0)=some (out 0):=kys n S out hs a fuel 0 (qar _) (kb8 (by omega))
theorem kmr (step:σ->Option (σ ⊕ β)) (n:Nat) (S:Nat->σ) (b:β) (hs:∀ i,i<n->step (S i)=some (.inl (S (i+1)))) (a:step (S n)=some (.inr b)) (hn:n<18446744073709551616:=by omega):kac step fuel (S 0)=some b:=
 kle _ n S (fun _=>b) (fun i hi => .inl ⟨hs i hi,rfl⟩) a (hn:=hn)
end
theorem k5d {σ β σ' β':Type} {step:σ->Option (σ ⊕ β)} {step':σ'->Option (σ' ⊕ β')} (n:Nat) (hn:n<18446744073709551616) (S:Nat->σ) (S':Nat->σ') (Q:β->β'->Prop)
  (hs:∀ i,i<n->(step (S i)=some (.inl (S (i+1)))/\step' (S' i)=some (.inl (S' (i+1))))\/∃ b b',step (S i)=some (.inr b)/\step' (S' i)=some (.inr b')/\Q b b')
  (d:∃ b b',step (S n)=some (.inr b)/\step' (S' n)=some (.inr b')/\Q b b'):∃ r r',kac step fuel (S 0)=some r/\kac step' fuel (S' 0)=some r'/\Q r r':=by
 have key:∀ (k i:Nat),i<=n->n - i<k->∃ r r',kac step k (S i)=some r/\kac step' k (S' i)=some r'/\Q r r':=by
  intro k
  induction k with
  | zero=>intro i _ h;omega
  | succ k ih=>
   intro i hi hk;rw [kac,kac];by_cases h:i=n;subst h;obtain ⟨b,b',h1,a,c⟩:=d;rw [h1,a];exact ⟨b,b',rfl,rfl,c⟩
   ·rcases hs i (by omega) with ⟨h1,a⟩ | ⟨b,b',h1,a,c⟩;rw [h1,a];exact ih (i+1) (by omega) (by omega)
    ·rw [h1,a];exact ⟨b,b',rfl,rfl,c⟩
 exact key fuel 0 (qar _) (kb8 (by omega))
def runL {σ α β:Type} (f:σ->α->Option (σ ⊕ β)):List α->σ->Option (σ ⊕ β)
 | [],s=>some (.inl s)
 | x::l,s=>Option.bind (f s x) (Sum.elim (fun s'=>runL f l s') (fun b=>some (.inr b)))
theorem k4z {σ α β τ γ:Type} (step:τ->Option (τ ⊕ γ)) (xs:List α) (f:σ->α->Option (σ ⊕ β)) (mk:σ->Int->τ) (out:σ ⊕ β->γ) (c:xs.length<=9223372036854775807) (h:∀ (i:Nat) (x:α) (s:σ),xs[i]?=some x->step (mk s (i:Int))=(f s x).map (Sum.elim (fun s' => .inl (mk s' ((i+1:Nat):Int))) (fun b => .inr (out (.inr b))))) (d:∀ s,step (mk s (xs.length:Int))=some (.inr (out (.inl s)))) (s:σ):kac step fuel (mk s 0)=(runL f xs s).map out:=by
 have key:∀ (k i:Nat) (s:σ),i<=xs.length->xs.length - i<k->kac step k (mk s (i:Int))=(runL f (xs.drop i) s).map out:=by
  intro k
  induction k with
  | zero=>intro i s _ h;omega
  | succ k ih=>
   intro i s hi hk;rw [kac];by_cases hn:i=xs.length;subst hn;rw [d,List.drop_eq_nil_of_le (qy _)];rfl
   ·have a:i<xs.length:=(by omega);rw [h i xs[i] s (qa a),qbb a,runL];cases f s xs[i] with
    | none=>rfl
    | some r=>
     cases r with
     | inl s'=>
      simp only [qaw,qaq,qb];exact ih (i+1) s' (by omega) (by omega)
     | inr b=>rfl
 have:=key fuel 0 s (qar _) (kb8 (by omega));simpa using this
theorem kan {n i:Nat} (h:i<n):decide ((i:Int)<(n:Int))=true:=qs (by omega)
theorem kal (n:Nat):decide ((n:Int)<(n:Int))=false:=qp (by omega)
theorem kak {n m:Nat} (h:n<m) (hm:m<=9223372036854775807):w64 ((n:Int)+1)=((n+1:Nat):Int):=kfl _
theorem ka8 {α:Type} {xs:List α} {i:Nat} {x:α} (h:xs[i]?=some x):i<xs.length:=(qd.1 h).1
theorem kgm {β:Type} (step:Int->Option (Int ⊕ β)) (n:Nat) (bad:Nat->Bool) (b:Nat->β) (miss:β) (hs:∀ i,i<n->step (i:Int)=if bad i=true then some (.inr (b i)) else some (.inl ((i+1:Nat):Int))) (f:step (n:Int)=some (.inr miss)) (hn:n<18446744073709551616:=by omega):
  (∃ i,i<n/\bad i=true/\(∀ j,j<i->bad j=false)/\kac step fuel 0=some (b i))\/((∀ i,i<n->bad i=false)/\kac step fuel 0=some miss):=by
 have key:∀ (k i:Nat),i<=n->n - i<k->(∀ j,j<i->bad j=false)->(∃ m,m<n/\bad m=true/\(∀ j,j<m->bad j=false)/\kac step k (i:Int)=some (b m))\/((∀ i,i<n->bad i=false)/\kac step k (i:Int)=some miss):=by
  intro k
  induction k with
  | zero=>intro i _ h;omega
  | succ k ih=>
   intro i hi hk c;rw [kac];by_cases d:i=n;subst d;rw [f];exact .inr ⟨c,rfl⟩
   ·rw [hs i (by omega)];by_cases a:bad i=true;rw [qn a];exact .inl ⟨i,by omega,a,c,rfl⟩
    ·rw [qj a];exact ih (i+1) (by omega) (by omega) fun j g=>by
      by_cases e:j=i;subst e;simpa using a
      ·exact c j (by omega)
 have:=key fuel 0 (qar _) (kb8 (by omega)) fun j g=>by omega
 simpa using this
theorem kh8 {α σ τ:Type} {step:τ->Option (τ ⊕ σ)} (xs:List α) (r:σ->α->Option σ) (mk:Int->σ->τ) (a:xs.length<=9223372036854775807)
  (hs:∀ (i:Nat) (x:α) (s:σ),xs[i]?=some x->step (mk (i:Int) s)=(r s x).map fun v => .inl (mk ((i+1:Nat):Int) v)) (c:∀ s,step (mk (xs.length:Int) s)=some (.inr s)) (s:σ):kac step fuel (mk 0 s)=xs.foldlM r s:=by
 have h:=k4z step xs (fun s x=>(r s x).map (.inl:σ->σ ⊕ Empty)) (fun s i=>mk i s) (Sum.elim id (fun b:Empty=>nomatch b)) a (fun i x s d=>by rw [hs i x s d];cases r s x <;> rfl) (fun s=>c s) s;rw [h];clear h hs c
 induction xs generalizing s with
 | nil=>rfl
 | cons x xs ih=>
  rw [runL,List.foldlM_cons];cases hr:r s x with
  | none=>rfl
  | some v=>
   simp only [qaw,qb,qaq];exact ih (by simp only [qbq] at a;omega) v
theorem klp {α:Type} (b:Nat) (z:α) (n:Nat) (h:(b+1)*n<=281474976710656:=by omega):mkL b z (n:Int)=some (List.replicate n z):=by
 unfold mkL;have c:b*n+n<=281474976710656:=by rw [qbi,Nat.one_mul] at h;exact h
 have a:(b:Int)*(n:Int)=((b*n:Nat):Int):=(Int.natCast_mul b n).symm;rw [qn ⟨by omega,by rw [a];omega,by omega⟩];simp
set_option maxRecDepth 100000
def Ev {α:Type} (x:Option α) (P:α->Prop):Prop:=∃ v,x=some v/\P v
theorem Ev.eq {α:Type} {x:Option α} {v:α} (h:Ev x (·=v)):x=some v:=by obtain ⟨u,h1,rfl⟩:=h;exact h1
theorem Ev.mono {α:Type} {x:Option α} {P Q:α->Prop} (h:Ev x P) (hp:∀ v,P v->Q v):Ev x Q:=by obtain ⟨v,h1,a⟩:=h;exact ⟨v,h1,hp v a⟩
theorem kbp {α β:Type} {x:Option α} {k:α->Option β} {P:β->Prop} (h:Ev x fun v=>Ev (k v) P):Ev (Option.bind x k) P:=by obtain ⟨v,rfl,u,h1,a⟩:=h;exact ⟨u,h1,a⟩
theorem kq7 {σ β:Type} {step:σ->Option (σ ⊕ β)} {s0:σ} {Q:β->Prop} (n:Nat) (I:Nat->σ->Prop) (hn:n<18446744073709551616) (h0:I 0 s0)
  (hs:∀ i s,i<n->I i s->Ev (step s) (Sum.elim (I (i+1)) Q)) (d:∀ s,I n s->Ev (step s) fun r=>∃ b,r = .inr b/\Q b):Ev (kac step fuel s0) Q:=by
 have key:∀ (k m N:Nat) (s:σ),m+k=n->k<N->I m s->Ev (kac step N s) Q:=by
  intro k
  induction k with
  | zero=>
   intro m N s hm hN c;obtain ⟨N,rfl⟩:∃ j,N=j+1:=⟨N - 1,by omega⟩;obtain rfl:m=n:=(by omega);obtain ⟨r,h1,b,rfl,a⟩:=d s c;exact ⟨b,by rw [kac,h1],a⟩
  | succ k ih=>
   intro m N s hm hN c;obtain ⟨N,rfl⟩:∃ j,N=j+1:=⟨N - 1,by omega⟩;obtain ⟨r,h1,a⟩:=hs m s (by omega) c;cases r with
   | inl s'=>
    obtain ⟨b,e,f⟩:=ih (m+1) N s' (by omega) (by omega) a;exact ⟨b,by rw [kac,h1];exact e,f⟩
   | inr b=>exact ⟨b,by rw [kac,h1],a⟩
 exact key n 0 fuel s0 (by omega) (kb8 hn) h0
theorem km0 {σ β:Type} {step:σ->Option (σ ⊕ β)} {s0:σ} {Q:β->Prop} (I:σ->Prop) (μ:σ->Nat) (hn:μ s0<18446744073709551616) (h0:I s0)
  (hs:∀ s,I s->Ev (step s) (Sum.elim (fun s'=>I s'/\μ s'<μ s) Q)):Ev (kac step fuel s0) Q:=by
 have key:∀ (N:Nat) (s:σ),μ s<N->I s->Ev (kac step N s) Q:=by
  intro N
  induction N with
  | zero=>intro s h;omega
  | succ N ih=>
   intro s h c;obtain ⟨r,h1,a⟩:=hs s c;cases r with
   | inl s'=>
    obtain ⟨b,d,e⟩:=ih s' (by have:=a.2;omega) a.1;exact ⟨b,by rw [kac,h1];exact d,e⟩
   | inr b=>exact ⟨b,by rw [kac,h1],a⟩
 exact key fuel s0 (kb8 hn) h0
theorem ka4 {α σ τ β:Type} {xs:List α} {step:σ->Option (σ ⊕ β)} {Q:β->Prop} (mk:Nat->τ->σ) (I:Nat->τ->Prop) {t0:τ} (hn:xs.length<=9223372036854775807) (h0:I 0 t0)
  (hs:∀ i t (hi:i<xs.length),I i t->Ev (step (mk i t)) (Sum.elim (fun s=>∃ t',s=mk (i+1) t'/\I (i+1) t') Q)) (a:∀ t,I xs.length t->Ev (step (mk xs.length t)) fun r=>∃ b,r = .inr b/\Q b):Ev (kac step fuel (mk 0 t0)) Q:=by
 refine kq7 xs.length (fun i s=>∃ t,s=mk i t/\I i t) (by omega) ⟨t0,rfl,h0⟩ (fun i s hi ⟨t,e,h⟩=>?_) (fun s ⟨t,e,h⟩=>?_);subst e;exact hs i t hi h
 ·subst e;exact a t h
namespace TV
theorem kgh {l:List Tm} {i:Nat} (h:i<l.length):Tm.sizeL (l.take (i+1))=Tm.sizeL (l.take i)+l[i].size:=by rw [qx h,Tm.sizeL_snoc]
theorem kek (l:List Tm) (i:Nat):i<=l.length->i<=Tm.sizeL (l.take i)/\Tm.sizeL (l.take i)<=Tm.sizeL l:=by
 intro hi
 induction i with
 | zero=>exact ⟨qar _,by simp [Tm.sizeL]⟩
 | succ i ih=>
  have h1:=ih (by omega);have c:=kgh (l:=l) (i:=i) (by omega);have d:=Tm.size_pos l[i];refine ⟨by omega,?_⟩;have:Tm.sizeL l=Tm.sizeL (l.take (i+1))+Tm.sizeL (l.drop (i+1)):=by
   have gen:∀ a b:List Tm,Tm.sizeL (a++b)=Tm.sizeL a+Tm.sizeL b:=fun a b=>by
    induction a with
    | nil=>simp [Tm.sizeL]
    | cons x a ih=>simp only [qbp,Tm.sizeL,ih];omega
   rw [<- gen,List.take_append_drop]
  omega
theorem kdg {t:Tm}:Tm.sizeL t.args+1=t.size:=by cases t;rfl
theorem kkg (l:List Tm):l.length<=Tm.sizeL l:=by have:=(kek l l.length (qy _)).1;rw [qae] at this;exact this
theorem klv (g:Tm->Int) (t:Tm):t.pre g=g t::Tm.preL g t.args:=by cases t;rfl
theorem kfy {t x:Tm} (h:x∈t.args):x.size<t.size:=by have:=Tm.sizeL_mem h;have:=kdg (t:=t);omega
theorem khl (t:Tm):t.args.length<t.size:=by have:=kkg t.args;have:=kdg (t:=t);omega
theorem kj5 (g:Tm->Int) (r:List Int->Tm->Option (List Int)):∀ (xs:List Tm) (acc:List Int),acc.length+Tm.sizeL xs<=1000000->(∀ x∈xs,∀ acc:List Int,acc.length+x.size<=1000000->r acc x=some (acc++x.pre g))->xs.foldlM r acc=some (acc++Tm.preL g xs)
 | [],acc,_,_=>by simp [Tm.preL]
 | x::xs,acc,hl,h=>by have hs:Tm.sizeL (x::xs)=x.size+Tm.sizeL xs:=rfl;rw [List.foldlM_cons,h x (qq ..) acc (by omega)];have:=kj5 g r xs (acc++x.pre g) (by rw [qaj,Tm.pre_length];omega) fun y hy=>h y (qh _ hy);show List.foldlM r (acc++x.pre g) xs=_;rw [this,qa1];rfl
theorem app1 {acc:List Int} {v:Int} (h:acc.length<=1000000):app 8 acc [v]=some (acc++[v]):=kb4 (by rw [qak];omega)
theorem kyz:∀ (n:Nat) (t:Tm) (acc:List Int),t.size<=n->acc.length+t.size<=1000000->kcd n acc t=some (acc++t.rules)
 | 0,t,acc,h,_=>by have:=Tm.size_pos t;omega
 | n+1,t,acc,h,hl=>by show kge (kcd n) acc t=_;have c:=khl t;have d:=kdg (t:=t);unfold kge kgo;rw [qb,app1 (by omega),qb];rw [kh8 (step:=kfz t (kcd n)) t.args (kcd n) (fun i s=>(i,s)) (by omega) (fun i x s b=>by have hi:=ka8 b;simp only [kfz,kan hi,qe,kag,b,qb,kak hi (show t.args.length<=9223372036854775807 by omega)];cases kcd n s x <;> rfl) (fun s=>by simp only [kfz,kal,qf])];rw [kj5 Tm.rule _ t.args _ (by rw [qaj,qak];omega) fun x b acc a=>kyz n x acc (by have:=kfy b;omega) a];show some _=some _;rw [qa1];show _=some (acc++t.pre Tm.rule);rw [klv];rfl
theorem ktg (t:Tm) (h:t.size<=1000):ki8 t=some t.rules:=by have c:=khl t;have d:=kdg (t:=t);unfold ki8 kgo;rw [qb,app1 (by simp),qb];rw [kh8 (step:=kid t) t.args (kcd fuel) (fun i s=>(i,s)) (by omega) (fun i x s b=>by have hi:=ka8 b;simp only [kid,kan hi,qe,kag,b,qb,kak hi (show t.args.length<=9223372036854775807 by omega)];cases kcd fuel s x <;> rfl) (fun s=>by simp only [kid,kal,qf])];rw [kj5 Tm.rule _ t.args _ (by rw [List.nil_append,qak];omega) fun x b acc a=>kyz fuel x acc (Nat.le_of_lt (kb8 (by omega))) a];show some _=some (t.pre Tm.rule);rw [klv];rfl
theorem ksn:∀ (n:Nat) (t:Tm) (acc:List Int),t.size<=n->acc.length+t.size<=1000000->kbj n acc t=some (acc++t.arities)
 | 0,t,acc,h,_=>by have:=Tm.size_pos t;omega
 | n+1,t,acc,h,hl=>by show kgb (kbj n) acc t=_;have c:=khl t;have d:=kdg (t:=t);unfold kgb kdq;rw [qb,app1 (by omega),qb];rw [kh8 (step:=kfu t (kbj n)) t.args (kbj n) (fun i s=>(i,s)) (by omega) (fun i x s b=>by have hi:=ka8 b;simp only [kfu,kan hi,qe,kag,b,qb,kak hi (show t.args.length<=9223372036854775807 by omega)];cases kbj n s x <;> rfl) (fun s=>by simp only [kfu,kal,qf])];rw [kj5 Tm.nargs _ t.args _ (by rw [qaj,qak];omega) fun x b acc a=>ksn n x acc (by have:=kfy b;omega) a];show some _=some _;rw [qa1];show _=some (acc++t.pre Tm.nargs);rw [klv];rfl
theorem kx5 (t:Tm) (h:t.size<=1000):khg t=some t.arities:=by have c:=khl t;have d:=kdg (t:=t);unfold khg kdq;rw [qb,app1 (by simp),qb];rw [kh8 (step:=kf0 t) t.args (kbj fuel) (fun i s=>(i,s)) (by omega) (fun i x s b=>by have hi:=ka8 b;simp only [kf0,kan hi,qe,kag,b,qb,kak hi (show t.args.length<=9223372036854775807 by omega)];cases kbj fuel s x <;> rfl) (fun s=>by simp only [kf0,kal,qf])];rw [kj5 Tm.nargs _ t.args _ (by rw [List.nil_append,qak];omega) fun x b acc a=>ksn fuel x acc (Nat.le_of_lt (kb8 (by omega))) a];show some _=some (t.pre Tm.nargs);rw [klv];rfl
theorem kwa (t:Tm) (h:t.size<=1000):kac (kf3 t) fuel (0,([]:List Int)++[(t.args.length:Int)])=some t.arities:=by have c:=khl t;have d:=kdg (t:=t);rw [kh8 (step:=kf3 t) t.args (kbj fuel) (fun i s=>(i,s)) (by omega) (fun i x s b=>by have hi:=ka8 b;simp only [kf3,kan hi,qe,kag,b,qb,kak hi (show t.args.length<=9223372036854775807 by omega)];cases kbj fuel s x <;> rfl) (fun s=>by simp only [kf3,kal,qf])];rw [kj5 Tm.nargs _ t.args _ (by rw [List.nil_append,qak];omega) fun x b acc a=>ksn fuel x acc (Nat.le_of_lt (kb8 (by omega))) a];show some _=some (t.pre Tm.nargs);rw [klv];rfl
theorem klo (r:Tm->Option Int):∀ (xs:List Tm) (s:Nat),s+Tm.sizeL xs<=1000000->(∀ x∈xs,r x=some (x.size:Int))->xs.foldlM (fun (s:Int) x=>Option.bind (r x) fun v=>some (w64 (s+v))) (s:Int)=some ((s+Tm.sizeL xs:Nat):Int)
 | [],s,_,_=>by simp [Tm.sizeL]
 | x::xs,s,hl,h=>by have hs:Tm.sizeL (x::xs)=x.size+Tm.sizeL xs:=rfl;rw [List.foldlM_cons,h x (qq ..),qb,kdf];have:=klo r xs (s+x.size) (by omega) fun y hy=>h y (qh _ hy);show List.foldlM _ ((s:Int)+(x.size:Int)) xs=_;rw [show (s:Int)+(x.size:Int)=((s+x.size:Nat):Int) by omega,this,hs];congr 2;omega
theorem kqe:∀ (n:Nat) (t:Tm),t.size<=n->t.size<=1000->kfw n t=some (t.size:Int)
 | 0,t,h,_=>by have:=Tm.size_pos t;omega
 | n+1,t,h,hl=>by show kjk (kfw n) t=_;have b:=khl t;have c:=kdg (t:=t);unfold kjk;rw [kh8 (step:=ki3 t (kfw n)) t.args (fun s x=>Option.bind (kfw n x) fun v=>some (w64 (s+v))) (fun i s=>(s,i)) (by omega) (fun i x s a=>by have hi:=ka8 a;simp only [ki3,kan hi,qe,kag,a,qb,kak hi (show t.args.length<=9223372036854775807 by omega)];cases kfw n x <;> rfl) (fun s=>by simp only [ki3,kal,qf])];have:=klo (kfw n) t.args 1 (by omega) fun x a=>kqe n x (by have:=kfy a;omega) (by have:=kfy a;omega);rw [show (1:Int)=((1:Nat):Int) from rfl,this,qb];congr 2;omega
def lexC:List Int->List Int->Int
 | x::xs,y::ys=>if x<y then -1 else if y<x then 1 else lexC xs ys
 | _,_=>0
def lexO:List Int->List Int->Unit ⊕ Int
 | x::xs,y::ys=>if x<y then .inr (-1) else if y<x then .inr 1 else lexO xs ys
 | _,_ => .inl ()
theorem kot:∀ xs ys:List Int,Sum.elim (fun _=>0) id (lexO xs ys)=lexC xs ys
 | [],_=>rfl
 | _::_,[]=>rfl
 | x::xs,y::ys=>by
  simp only [lexO,lexC];split;rfl
  ·split;rfl
   ·exact kot xs ys
theorem kyg (x y:List Int) (hl:x.length=y.length) (c:x.length<=1000000):kht x y=some (lexC x y):=by
 unfold kht;have h:=kle (kf6 x y) x.length (fun i=>(i:Int)) (fun i=>lexO (x.drop i) (y.drop i)) (fun i hi=>by
  have hy:i<y.length:=by omega
  simp only [kf6,kan hi,qe,kag,qa hi,qa hy,qb,kak hi (show x.length<=9223372036854775807 by omega),qbb hi,qbb hy,lexO];by_cases h1:x[i]<y[i];rw [qs h1,qn h1];exact .inr rfl
  ·rw [qp h1,qj h1];by_cases a:y[i]<x[i];rw [qs a,qn a];exact .inr rfl
   ·rw [qp a,qj a];exact .inl ⟨rfl,rfl⟩) (by
  simp only [kf6,kal,qf,List.drop_length,lexO])
 have b:kac (kf6 x y) fuel 0=some (lexO x y):=by simpa using h
 rw [b,qb,<- kot];cases lexO x y <;> rfl
def cmpT (a b:Tm):Int:=if a.size<b.size then -1 else if b.size<a.size then 1 else if lexC a.rules b.rules≠0 then lexC a.rules b.rules else lexC a.arities b.arities
theorem cmp_prog (a b:Tm) (ha:a.size<=1000) (d:b.size<=1000):kkb a b=some (cmpT a b):=by
 unfold kkb cmpT;rw [kqe fuel a (Nat.le_of_lt (kb8 (by omega))) ha,kqe fuel b (Nat.le_of_lt (kb8 (by omega))) d];simp only [qb];by_cases h1:a.size<b.size;rw [qn h1,qs (show (a.size:Int)<(b.size:Int) by omega),qe];rw [qj h1,qp (show ¬ (a.size:Int)<(b.size:Int) by omega),qf];by_cases e:b.size<a.size;rw [qn e,qs (show (b.size:Int)<(a.size:Int) by omega),qe];rw [qj e,qp (show ¬ (b.size:Int)<(a.size:Int) by omega),qf];rw [ktg a ha,ktg b d];simp only [qb];rw [kyg a.rules b.rules (by rw [Tm.rules_length,Tm.rules_length];omega) (by rw [Tm.rules_length];omega),qb];by_cases c:lexC a.rules b.rules=0;rw [qj (by simpa using c),c,show ((0:Int) != 0)=false from rfl,qf,kx5 a ha,qb,show kdq b=some () from rfl,qb,app1 (qar _),qb,kwa b d,qb,kyg a.arities b.arities (by rw [Tm.arities_length,Tm.arities_length];omega) (by rw [Tm.arities_length];omega)];rw [qb]
 ·rw [qn c,show (lexC a.rules b.rules != 0)=true by rw [bne_iff_ne];exact c,qe]
mutual
theorem kol:∀ (s t:Tm) (xs ys us vs:List Int),s.pre Tm.rule++xs=t.pre Tm.rule++ys->s.pre Tm.nargs++us=t.pre Tm.nargs++vs->s=t/\xs=ys/\us=vs
 | .mk r l, .mk r' l',xs,ys,us,vs,h1,a=>by
  simp only [Tm.pre,qbp,List.cons.injEq] at h1 a;have hr:r=r':=h1.1;have hl:l.length=l'.length:=by have:=a.1;simp only [Tm.nargs,Tm.args] at this;omega
  obtain ⟨e1,e2,e3⟩:=km2 l l' hl xs ys us vs h1.2 a.2;exact ⟨by rw [hr,e1],e2,e3⟩
theorem km2:∀ (l l':List Tm),l.length=l'.length->∀ (xs ys us vs:List Int),Tm.preL Tm.rule l++xs=Tm.preL Tm.rule l'++ys->Tm.preL Tm.nargs l++us=Tm.preL Tm.nargs l'++vs->l=l'/\xs=ys/\us=vs
 | [],[],_,xs,ys,us,vs,h1,a=>⟨rfl,by simpa [Tm.preL] using h1,by simpa [Tm.preL] using a⟩
 | [],_::_,h,_,_,_,_,_,_=>by simp at h
 | _::_,[],h,_,_,_,_,_,_=>by simp at h
 | t::l,t'::l',h,xs,ys,us,vs,h1,a=>by simp only [Tm.preL,qa1] at h1 a;obtain ⟨e1,e2,e3⟩:=kol t t' _ _ _ _ h1 a;obtain ⟨e4,e5,e6⟩:=km2 l l' (by simpa using h) xs ys us vs e2 e3;exact ⟨by rw [e1,e4],e5,e6⟩
end
structure Ord3 {α:Type} (E:α->α->Prop) (c:α->α->Int):Prop where
 anti:∀ x y,E x y->c y x = -c x y
 trans:∀ x y z,E x y->E y z->E x z->c x y<=0->c y z<=0->c x z<=0
def lex {α:Type} (c d:α->α->Int) (x y:α):Int:=if c x y≠0 then c x y else d x y
theorem Ord3.lex {α:Type} {E:α->α->Prop} {c d:α->α->Int} (a:∀ x y,E x y->E y x) (hc:Ord3 E c) (f:Ord3 (fun x y=>E x y/\c x y=0) d):Ord3 E (lex c d):=by
 have z:∀ x y,E x y->(c y x=0↔c x y=0):=fun x y e=>by rw [hc.anti x y e];omega
 refine ⟨fun x y e=>?_,fun x y z e1 e2 e3 h1 b=>?_⟩
 ·unfold Go.Proofs.YtnlhjbnpjefjgaaGreatDoor.TV.lex;by_cases h:c x y=0;rw [qj (by rw [(z x y e).2 h];decide),qj (by rw [h];decide)];exact f.anti x y ⟨e,h⟩
  ·rw [qn (fun g=>h ((z x y e).1 g)),qn h];exact hc.anti x y e
 ·unfold Go.Proofs.YtnlhjbnpjefjgaaGreatDoor.TV.lex at h1 b ⊢;have k1:c x y<=0:=by split at h1 <;> omega
  have k2:c y z<=0:=by split at b <;> omega
  have k3:=hc.trans x y z e1 e2 e3 k1 k2;by_cases h:c x z=0;have a1:=hc.anti x y e1;have a2:=hc.anti y z e2;have a3:=hc.anti x z e3;have b1:=hc.trans y z x e2 (a _ _ e3) (a _ _ e1) k2 (by omega);have b2:=hc.trans z x y (a _ _ e3) e1 (a _ _ e2) (by omega) k1;have c1:c x y=0:=(by omega);have c2:c y z=0:=(by omega);rw [qj (by rw [c1];decide)] at h1;rw [qj (by rw [c2];decide)] at b;rw [qj (by rw [h];decide)];exact f.trans x y z ⟨e1,c1⟩ ⟨e2,c2⟩ ⟨e3,h⟩ h1 b
  ·rw [qn h];exact k3
def cmpZ {α:Type} (f:α->Int) (x y:α):Int:=if f x<f y then -1 else if f y<f x then 1 else 0
theorem ks6 {α:Type} {E:α->α->Prop} (f:α->Int):Ord3 E (cmpZ f):=by
 refine ⟨fun x y _=>?_,fun x y z _ _ _ h1 a=>?_⟩;unfold cmpZ;split <;> split <;> omega
 ·unfold cmpZ at *
  split at h1
  ·split at a;rw [qn (by omega)];decide
   ·split at a;omega
    ·rw [qn (by omega)];decide
  ·split at h1;omega
   ·split at a;rw [qn (by omega)];decide
    ·split at a;omega
     ·rw [qj (by omega),qj (by omega)];decide
theorem kiz:∀ xs ys:List Int,xs.length=ys.length->lexC ys xs = -lexC xs ys
 | [],[],_=>rfl
 | [],_::_,h=>by simp at h
 | _::_,[],h=>by simp at h
 | x::xs,y::ys,h=>by
  have ih:=kiz xs ys (by simpa using h);simp only [lexC];rcases Int.lt_trichotomy x y with h1 | h1 | h1;rw [qj (by omega),qn h1,qn h1];rfl;rw [qj (by omega),qj (by omega),qj (by omega),qj (by omega),ih]
  ·rw [qn h1,qj (by omega),qn h1]
theorem kh3:∀ xs ys zs:List Int,xs.length=ys.length->ys.length=zs.length->lexC xs ys<=0->lexC ys zs<=0->lexC xs zs<=0
 | [],_,_,_,_,_,_=>by simp [lexC]
 | _::_,[],_,h,_,_,_=>by simp at h
 | _::_,_::_,[],_,h,_,_=>by simp at h
 | x::xs,y::ys,z::zs,h,g,h1,a=>by
  have ih:=kh3 xs ys zs (by simpa using h) (by simpa using g);simp only [lexC] at h1 a ⊢;split at h1
  ·split at a;rw [qn (by omega)];decide
   ·split at a;omega
    ·rw [qn (by omega)];decide
  ·split at h1;omega
   ·split at a;rw [qn (by omega)];decide
    ·split at a;omega
     ·rw [qj (by omega),qj (by omega)];exact ih h1 a
theorem kkz:∀ xs ys:List Int,xs.length=ys.length->lexC xs ys=0->xs=ys
 | [],[],_,_=>rfl
 | [],_::_,h,_=>by simp at h
 | _::_,[],h,_=>by simp at h
 | x::xs,y::ys,h,h1=>by
  simp only [lexC] at h1;split at h1;omega
  ·split at h1;omega
   ·rw [kkz xs ys (by simpa using h) h1,show x=y by omega]
theorem klr:∀ xs:List Int,lexC xs xs=0
 | []=>rfl
 | x::xs=>by simp only [lexC,Int.lt_irrefl,if_false];exact klr xs
theorem ksq (a b:Tm):cmpT a b=lex (cmpZ fun t:Tm=>(t.size:Int)) (lex (fun a b=>lexC a.rules b.rules) (fun a b=>lexC a.arities b.arities)) a b:=by
 unfold cmpT lex cmpZ;by_cases h1:a.size<b.size;rw [qn h1,qn (show (a.size:Int)<(b.size:Int) by omega),qn (by decide)]
 ·rw [qj h1,qj (show ¬ (a.size:Int)<(b.size:Int) by omega)];by_cases c:b.size<a.size;rw [qn c,qn (show (b.size:Int)<(a.size:Int) by omega),qn (by decide)]
  ·rw [qj c,qj (show ¬ (b.size:Int)<(a.size:Int) by omega),qj (show ¬ ((0:Int)≠0) by decide)]
theorem cmpZ_zero {α:Type} {f:α->Int} {x y:α}:cmpZ f x y=0↔f x=f y:=by
 unfold cmpZ;split;omega
 ·split <;> omega
theorem cmpT_ord:Ord3 (fun _ _=>True) cmpT:=by
 have:cmpT=lex (cmpZ fun t:Tm=>(t.size:Int)) (lex (fun a b=>lexC a.rules b.rules) (fun a b=>lexC a.arities b.arities)):=by funext a b;exact ksq a b
 rw [this];have c:∀ {a b:Tm},cmpZ (fun t:Tm=>(t.size:Int)) a b=0->a.size=b.size:=fun h=>by have:=cmpZ_zero.1 h;omega
 refine Ord3.lex (fun _ _ _=>trivial) (ks6 _) (Ord3.lex (fun x y h=>⟨trivial,by have:=c h.2;exact cmpZ_zero.2 (by omega)⟩) ⟨fun x y h=>?_,fun x y z h1 d _=>?_⟩ ⟨fun x y h=>?_,fun x y z h1 d _=>?_⟩);exact kiz _ _ (by rw [Tm.rules_length,Tm.rules_length];exact c h.2);exact kh3 _ _ _ (by rw [Tm.rules_length,Tm.rules_length];exact c h1.2) (by rw [Tm.rules_length,Tm.rules_length];exact c d.2);exact kiz _ _ (by rw [Tm.arities_length,Tm.arities_length];exact c h.1.2)
 ·exact kh3 _ _ _ (by rw [Tm.arities_length,Tm.arities_length];exact c h1.1.2) (by rw [Tm.arities_length,Tm.arities_length];exact c d.1.2)
theorem cmpT_eq0 {s t:Tm}:cmpT s t=0↔s=t:=by
 constructor
 ·intro h;unfold cmpT at h;split at h;omega
  ·split at h;omega
   ·have hs:s.size=t.size:=(by omega);split at h;rename_i h0;exact absurd h h0
    ·rename_i h0;have e1:=kkz s.rules t.rules (by rw [Tm.rules_length,Tm.rules_length];exact hs) (by simpa using h0);have e2:=kkz s.arities t.arities (by rw [Tm.arities_length,Tm.arities_length];exact hs) h;exact (kol s t [] [] [] [] (by simpa [Tm.rules] using e1) (by simpa [Tm.arities] using e2)).1
 ·rintro rfl;unfold cmpT;simp [klr]
end TV
open Go.Sort (flatK get_flatK HoldsK putRowK size_flatK size_putRowK)
open Go.Proofs.Tryz
structure TC (S:Nat->Prop) (w:World) (N:Nat) where
 a:Value
 b:Value
 t:Tm
 hN:t.size<=N
 ra:RF S w a (eI t.rule)
 rb:RF S w b (eL 2 eTmR t.args)
def TC.enc {S:Nat->Prop} {w:World} {N:Nat} (x:TC S w N):List Value:=[x.a,x.b]
theorem TC.one {S:Nat->Prop} {w:World} {N:Nat} (x:TC S w N):∀ v∈x.enc,v.oneCell'=true:=by
 obtain ⟨a,b,t,_,ra,rb⟩:=x;intro v hv;rcases qat.1 hv with rfl | hv;rw [ra.atom_eq];rfl
 ·rw [q9.1 hv];cases rb;rfl
theorem TC.rf {S:Nat->Prop} {w:World} {N:Nat} (x:TC S w N):RF S w (.agg x.enc.toArray) (eTm x.t):=by
 refine .agg rfl (fun y hy=>?_) fun i v y hv hy=>?_;simp only [qat,List.not_mem_nil,or_false] at hy;rcases hy with rfl | rfl <;> rfl
 ·match i with
  | 0=>simp [TC.enc] at hv hy;subst hv hy;exact x.ra
  | 1=>simp [TC.enc] at hv hy;subst hv hy;exact x.rb
  | i+2=>simp at hy
theorem k6p {S:Nat->Prop} {w:World} {N:Nat}:∀ (xs:List Tm) (cs:List Value),cs.length=xs.length*2->(∀ t∈xs,t.size<=N) ->
  (∀ (i:Nat) (t:Tm) (j:Nat) (v:Value) (y:FV),xs[i]?=some t->cs[i*2+j]?=some v->(eTmR t).cells[j]?=some y->RF S w v y)->∃ d:List (TC S w N),d.map TC.t=xs/\d.flatMap TC.enc=cs
 | [],cs,hl,_,_=>⟨[],rfl,(qa6 (by simpa using hl)).symm⟩
 | t::xs,[],hl,_,_=>by simp at hl
 | t::xs,[u],hl,_,_=>by simp at hl;omega
 | t::xs,u::v::cs,hl,hN,hr=>by
  obtain ⟨d,h1,a⟩:=k6p xs cs (by simp at hl;omega) (fun s hs=>hN s (qh _ hs)) fun i s j z y hs b hy=>hr (i+1) s j z y (by simpa using hs) (by rw [show (i+1)*2+j=(i*2+j)+1+1 by omega];simpa using b) hy;have hc:(eTmR t).cells=[eI t.rule,eL 2 eTmR t.args]:=by rw [kl4];rfl
  exact ⟨⟨u,v,t,hN t (qq ..),hr 0 t 0 u _ rfl rfl (by rw [hc];rfl),hr 0 t 1 v _ rfl rfl (by rw [hc];rfl)⟩::d,by rw [qao,h1],by rw [qbv,a];rfl⟩
theorem k1n {α:Type} {enc:α->List Value} (hk:∀ x,(enc x).length=2):∀ (d:List α) (j:Nat),(d.flatMap enc)[j]?=(d[j / 2]?).bind fun x=>(enc x)[j % 2]?
 | [],j=>by simp
 | x::d,j=>by
  have b:=hk x;rw [qbv]
  match a:enc x,b with
  | [u,v],_=>
   match j with
   | 0=>simp [a]
   | 1=>simp [a]
   | j+2=>
    have e1:(j+2) / 2=j / 2+1:=(by omega);have e2:(j+2) % 2=j % 2:=(by omega);rw [e1,e2];simpa using k1n hk d j
theorem k2f {α:Type} [Inhabited α] (enc:α->List Value) (d:List α) (hk:∀ x,(enc x).length=2:=by exact fun _=>rfl):(flatK enc 2 d.toArray).toList=d.flatMap enc:=by
 have e:(d.flatMap enc).length=d.length*2:=by
  induction d with
  | nil=>rfl
  | cons x d ih=>rw [qbv,qaj,ih,hk,qbq];omega
 apply qb1;intro j;by_cases c:j<d.length*2
 ·have h1:=get_flatK enc 2 d.toArray j (by simpa using c);have a:j / 2<d.length:=by omega
  have b:j % 2<(enc d[j / 2]).length:=by rw [hk];omega
  rw [k1n hk,qa a,qb,qa b,qaz,qbg (by simpa using c)];rw [getElem!_pos _ _ (by simpa using c)] at h1;rw [h1,getElem!_pos d.toArray (j / 2) (by simpa using a)];rw [List.getElem!_eq_getElem?_getD];simp [b]
 ·rw [qa4 (by simp;omega),qa4 (by omega)]
section
variable {P:Program} {o:Oper} {st:St} {id:Nat}
def SortR (cf:Tm->Tm->Int) (xs:List Tm) (e:TypeId) (id:Nat) (st:St) (c:AV) (h:List (Nat×AObj)) (i:List Nat):Prop:=
 c = .fz (.tup [])/\i=st.ids/\∃ ys:List Tm,ys.Perm xs/\ys.Pairwise (fun a b=>cf b a<0->False)/\h=(id, .frow e 2 (ys.map eTmR))::st.heap
theorem k90 {f g:FuncId} {ts:Array TypeId} {X:Operand} {e:TypeId} {n:Nat} {xs:List Tm} {N:Nat} (cf:Tm->Tm->Int)
  (az:∀ (α:Type) [Inhabited α] (enc:α->List Value) (_:∀ x,(enc x).length=2) (_:∀ x,∀ v∈enc x,v.oneCell'=true) (c:α->α->Int) (_:Sort.SWO (ltOf c)) (blk off cap:Nat) (d:Array α) (w:World),CmpLays P g #[] enc 2 c blk off d.size w->HoldsK enc 2 w blk off d->blk<w.heap.size->d.size<4611686018427387904 ->
   Calls P f #[.slice (some ⟨blk,off,none⟩) d.size cap, .func (.func g) #[] #[]] w fun e w'=>e = .returned (.tuple #[])/\∃ d' n os,Sort.PermIn 0 d.size d d'/\Sort.SortedIn (ltOf c) 0 d.size d'/\w'=sortWorldK enc 2 w blk off n d' os)
  (aj:∀ (p:Option Addr) (cap:Nat) (fv:Value) (w:World),Calls P f #[.slice p 0 cap,fv] w fun e w'=>e = .returned (.tuple #[])/\w'=w)
  (hO:Sort.SWO (ltOf cf)) (hc:∀ s t:Tm,s.size<=N->t.size<=N->@PCall ⟨true⟩ P g [eTm s,eTm t] (eI (cf s t)))
  (hf : ∃ fn, P.funcs[f]? = some fn /\ fn.body.isNone = false /\ (fn.name == "runtime.NumGoroutine") = false)
  (ho:o.op = .call { callee := .value (.func f),args:=#[X, .func g],argTypes:=ts }) (hx:st.eval X = .row id n) (Q:kaa st.heap id=some (.frow e 2 (xs.map eTmR))) (hn:n=xs.length) (hN:∀ t∈xs,t.size<=N) (ak:xs.length<4611686018427387904):
  kjd P o st (SortR cf xs e id st):=by
 subst hn;intro F S0 N0 ψ S a w al;have l:=al.core;obtain ⟨be,⟨hl,am,cs,E,bf,hr⟩,a0⟩:=l.obj id _ Q;rw [qaa] at hl E;have ab:=al.eval X;rw [hx] at ab;have hp:a.eval X=ψ.val id:=by
  generalize a.eval X=u at ab;cases ab with
  | row hK bg h1 hv=>exact hv hl.symm
 unfold kcm;rw [knr ho hf];rw [show (#[X,Operand.func g].map a.eval)=#[ψ.val id, .func (.func g) #[] #[]] by rw [List.map_toArray,qao,qao,List.map_nil,hp];rfl];by_cases hv:ψ.val id = .slice none 0 0
 ·have h0:xs=[]:=by
   rcases E.2 with ⟨_,h0⟩ | ⟨g,cap,cur,an,_⟩;exact qa6 h0
   ·rw [hv] at an;cases an
  subst h0;rw [hv];refine (aj none 0 _ w).mono ?_;rintro e' w' ⟨rfl,rfl⟩;have r:∀ i,kaa ((id,AObj.frow e 2 (([]:List Tm).map eTmR))::st.heap) i=kaa st.heap i:=fun i=>by
   rw [kah];split;rename_i hi;rw [<- hi,Q]
   ·rfl
  refine ⟨_,rfl,_,_,_,⟨rfl,rfl,[],List.Perm.nil,List.Pairwise.nil,rfl⟩,ψ,S,⟨fun i ob h=>l.obj i ob (by rw [<- r i];exact h),fun i i' ob ob' b h1 h2 I=>l.inj i i' ob ob' b (by rw [<- r i];exact h1) (by rw [<- r i'];exact h2) I,l.lt,l.s0,l.n0,l.fr⟩, .fz (.tup rfl (fun i v x h=>by simp at h)),Fr.refl,Ext.refl,fun _ h=>h,fun _ h=>h,fun _ _ _=>rfl⟩
 ·rcases E.2 with ⟨e0,_⟩ | ⟨blk,cap,cur,B,bh,R,J,a1,V,ac⟩;exact absurd e0 hv;have ao:blk<w.heap.size:=(qa2.1 R).1;obtain ⟨d,ad,a2⟩:=k6p (S:=S) (w:=w) (N:=N) xs cs E.1 hN fun i t j v y ht hv hy=>hr i (eTmR t) j v y (by rw [ql,ht];rfl) hv hy;have H:d.length=xs.length:=by rw [<- ad,qaa]
  cases xs with
  | nil=>
   -- no element
   rw [B];refine (aj _ cap _ w).mono ?_;rintro e' w' ⟨rfl,rfl⟩;have r:∀ i,kaa ((id,AObj.frow e 2 (([]:List Tm).map eTmR))::st.heap) i=kaa st.heap i:=fun i=>by
    rw [kah];split;rename_i hi;rw [<- hi,Q]
    ·rfl
   refine ⟨_,rfl,_,_,_,⟨rfl,rfl,[],List.Perm.nil,List.Pairwise.nil,rfl⟩,ψ,S,⟨fun i ob h=>l.obj i ob (by rw [<- r i];exact h),fun i i' ob ob' b h1 h2 I=>l.inj i i' ob ob' b (by rw [<- r i];exact h1) (by rw [<- r i'];exact h2) I,l.lt,l.s0,l.n0,l.fr⟩, .fz (.tup rfl (fun i v x h=>by simp at h)),Fr.refl,Ext.refl,fun _ h=>h,fun _ h=>h,fun _ _ _=>rfl⟩
  | cons x0 xs0=>
   obtain ⟨y0,bi⟩:∃ y0,y0∈d:=by
    cases d with
    | nil=>simp at ad
    | cons y d=>exact ⟨y,qq ..⟩
   letI:Inhabited (TC S w N):=⟨y0⟩
   have T:cur.toList.take (d.length*2)=d.flatMap (TC.enc (S:=S) (w:=w) (N:=N)):=(by rw [H,ac,a2]);have ae:=k2f (TC.enc (S:=S) (w:=w) (N:=N)) d;have hH:HoldsK (TC.enc (S:=S) (w:=w) (N:=N)) 2 w blk 0 d.toArray:=(by intro j D;have D:j<d.length*2:=(by simpa using D);refine ⟨?_,by simp [World.frozen?,R]⟩;have h1:(cur.toList.take (d.length*2))[j]?=(flatK (TC.enc (S:=S) (w:=w) (N:=N)) 2 d.toArray).toList[j]?:=(by rw [T,ae]);rw [List.getElem?_take_of_lt D,qaz,qaz,qbg (xs:=flatK (TC.enc (S:=S) (w:=w) (N:=N)) 2 d.toArray) (by simpa using D)] at h1;simp only [World.cell?,R,Nat.zero_add];simp only [Option.isSome_none,Bool.false_eq_true,if_false];rw [h1,getElem!_pos _ _ (by simpa using D)];rfl);have aq:¬ S blk:=fun h=>(a0 blk (.of (by rw [B];rfl))).1 h;have ar:CmpLays P g #[] (TC.enc (S:=S) (w:=w) (N:=N)) 2 (fun x y=>cf x.t y.t) blk 0 d.toArray.size w:=by
    intro m os dk U x y;have O:Same S w (sortWorldK (TC.enc (S:=S) (w:=w) (N:=N)) 2 w blk 0 m dk os):=fun b hb hl=>(by unfold sortWorldK;rw [Go.Sort.heap_grow_old _ _ (by rw [size_putRowK];exact hl)];have:blk≠b:=fun e=>aq (e ▸ hb);simp [putRowK,Sort.putRow,Sort.mapBlock,Sort.ahead,qb4,this]);have h:=(hc x.t y.t x.hN y.hN).2 S (sortWorldK (TC.enc (S:=S) (w:=w) (N:=N)) 2 w blk 0 m dk os) #[.agg x.enc.toArray, .agg y.enc.toArray] rfl (fun i v z hv hz=>by
     match i with
     | 0=>simp at hv hz;subst hv hz;exact x.rf.keep O
     | 1=>simp at hv hz;subst hv hz;exact y.rf.keep O
     | i+2=>simp at hz)
    refine Calls.mono (by simpa using h) ?_;rintro e' w' ⟨v,rfl,hv,hg⟩;rw [hv.atom_eq];refine ⟨rfl,w'.drawn - (sortWorldK (TC.enc (S:=S) (w:=w) (N:=N)) 2 w blk 0 m dk os).drawn,w'.heap.extract (sortWorldK (TC.enc (S:=S) (w:=w) (N:=N)) 2 w blk 0 m dk os).heap.size w'.heap.size,?_⟩;generalize sortWorldK (TC.enc (S:=S) (w:=w) (N:=N)) 2 w blk 0 m dk os=W at *
    have a3:=@Below.drawn ⟨true⟩ _ _ _ hg rfl;obtain ⟨af,tp',dr',os',out'⟩:=w';obtain ⟨hp,tp,dr,os,out⟩:=W;have e1:=hg.os;have e2:=hg.tape;have e3:=hg.output;have e4:=hg.size;have e5:=hg.block;simp only at e1 e2 e3 e4 e5 a3;cases e1;cases e2;cases e3;show World.mk _ _ _ _ _=World.mk (hp++af.extract hp.size af.size) _ (dr+(dr' - dr)) _ _;rw [show dr+(dr' - dr)=dr' by omega];congr 1;apply Array.ext_getElem?;intro k;by_cases hk:k<hp.size;rw [qbn hk,e5 k hk]
    ·rw [Array.getElem?_append_right (by omega),Array.getElem?_extract];by_cases bj:k<af.size;rw [qn (by omega)];congr 1;omega
     ·rw [qj (by omega),Array.getElem?_eq_none (by omega)]
   have a4:Sort.SWO (ltOf fun x y:TC S w N=>cf x.t y.t):=⟨fun x=>hO.irrefl x.t,fun x y z=>hO.trans x.t y.t z.t,fun x y z=>hO.ntrans x.t y.t z.t⟩;have K:=az (TC S w N) TC.enc (fun _=>rfl) (fun x=>x.one) (fun x y=>cf x.t y.t) a4 blk 0 cap d.toArray w ar hH ao (by simpa [H] using ak);rw [B];rw [show d.toArray.size=(x0::xs0).length by simpa using H] at K;refine K.mono ?_;rintro e' w' ⟨rfl,d',q,os,ag,L,rfl⟩;obtain ⟨p1,_,p3⟩:=ag;have Y:d'.size=d.length:=(by simpa using p1);have a5:d'.toList.Perm d:=(by have h1:(d'.extract 0 (x0::xs0).length)=d':=(by rw [<- H,<- Y];simp);have h2:(d.toArray.extract 0 (x0::xs0).length)=d.toArray:=(by rw [<- H];simp);rw [h1,h2] at p3;exact p3);obtain ⟨dl,Z⟩:∃ dl,dl=d'.toList:=⟨_,rfl⟩;have au:d'=dl.toArray:=(by rw [Z]);subst au;clear Z;have A:dl.length=(x0::xs0).length:=(by rw [<- H];simpa using Y);have G:=k2f (TC.enc (S:=S) (w:=w) (N:=N)) dl;have a6:(dl.map TC.t).Perm (x0::xs0):=(by rw [<- ad];exact (by simpa using a5:dl.Perm d).map _);have a7:(dl.map TC.t).Pairwise (fun a b=>cf b a<0->False):=(by rw [List.pairwise_map,List.pairwise_iff_getElem];intro i j hi D a8 av;have:=L i j (qar _) a8 (by rw [<- A];exact D);rw [getElem!_pos dl.toArray j (by simpa using D),getElem!_pos dl.toArray i (by simpa using hi)] at this;simp only [ltOf,List.getElem_toArray,qbf] at this;exact this av);obtain ⟨W,O⟩:∃ W,W=sortWorldK (TC.enc (S:=S) (w:=w) (N:=N)) 2 w blk 0 q dl.toArray os:=⟨_,rfl⟩;have M:w.heap.size<=W.heap.size:=(by rw [O];exact size_sortWorldK_c (TC.enc (S:=S) (w:=w) (N:=N)) 2 w blk 0 q dl.toArray os);have aw:∀ k,k<w.heap.size->k≠blk->W.heap[k]?=w.heap[k]?:=fun k hk I=>(by rw [O];unfold sortWorldK;rw [Go.Sort.heap_grow_old _ _ (by rw [size_putRowK];exact hk)];simp [putRowK,Sort.putRow,Sort.mapBlock,Sort.ahead,qb4,Ne.symm I]);have a9:W.heap[blk]?=some (.cells (Sort.putCells _root_.id 0 (flatK (TC.enc (S:=S) (w:=w) (N:=N)) 2 dl.toArray) cur) e (0,0)):=(by rw [O];unfold sortWorldK;rw [Go.Sort.heap_grow_old _ _ (by rw [size_putRowK];exact ao)];simp [putRowK,Sort.putRow,Sort.mapBlock,Sort.ahead,qb4,R,Sort.onCells]);have bk:(flatK (TC.enc (S:=S) (w:=w) (N:=N)) 2 dl.toArray).size<=cur.size:=(by rw [size_flatK,V];have:dl.toArray.size=dl.length:=(by simp);rw [this,A];exact qbe 2 J);have ah:W.ownsRow 0 e 2 (ψ.val id) (x0::xs0).length (dl.flatMap (TC.enc (S:=S) (w:=w) (N:=N))):=by
    refine ⟨?_, .inr ⟨blk,cap,_,B,qar _,a9,J,a1,by simp [Sort.putCells,V],?_⟩⟩;rw [<- G];simp [A]
    ·rw [<- G];apply qb1;intro j;have ba:(flatK (TC.enc (S:=S) (w:=w) (N:=N)) 2 dl.toArray).size=(x0::xs0).length*2:=(by rw [size_flatK];simp [A]);by_cases D:j<(x0::xs0).length*2;rw [List.getElem?_take_of_lt D,qaz,qaz];have bb:j<cur.size:=(by omega);have ai:j<(flatK (TC.enc (S:=S) (w:=w) (N:=N)) 2 dl.toArray).size:=(by omega);simp only [Sort.putCells,Array.getElem?_mapIdx,qbg bb,qaw,qbg ai,qar,true_and,Nat.zero_add,qn ai,Nat.sub_zero,_root_.id];rw [getElem!_pos (flatK (TC.enc (S:=S) (w:=w) (N:=N)) 2 dl.toArray) j ai]
     ·rw [List.getElem?_take_eq_none (by omega),qa4 (by rw [qa7,ba];omega)]
   rw [<- O];have ax:∀ k,k<w.heap.size->¬ Blk (ψ.val id) k->W.heap[k]?=w.heap[k]?:=fun k bc hk=>aw k bc fun e=>hk (.of (by rw [B,e];rfl));have aa:ψ.set id (x0::xs0).length (ψ.val id)=ψ:=by
    unfold Env.set;congr 1
    ·funext j;split;rename_i D;rw [D,hl]
     ·rfl
    ·funext j;split;rename_i D;rw [D]
     ·rfl
   have ay:Same S w W:=fun k hk bd=>aw k bd fun e=>aq (e ▸ hk);obtain ⟨c1,c2,c3⟩:=l.upd (n:=(x0::xs0).length) (v:=ψ.val id) (w':=W) (ob' := .frow e 2 ((dl.map TC.t).map eTmR)) Q M ax (.inr ⟨hl,rfl⟩) (fun b hb => .inl hb) (by
    rw [aa];refine ⟨by rw [hl];simp [A],am,dl.flatMap (TC.enc (S:=S) (w:=w) (N:=N)),by rw [qaa,qaa,A];exact ah,fun z C=>?_,fun k z j v y C hv hy=>?_⟩;obtain ⟨t,ht,rfl⟩:=qaf.1 C;rw [kl4];exact ⟨rfl,fun y hy=>by have hy:y∈[eI t.rule,eL 2 eTmR t.args]:=hy;simp only [qat,List.not_mem_nil,or_false] at hy;rcases hy with rfl | rfl <;> rfl⟩
    ·rw [ql,ql] at C;cases U:dl[k]? with
     | none=>rw [U] at C;simp at C
     | some x=>
      rw [U] at C;simp only [qaw,qc] at C;subst C;rw [kl4] at hy;have hy:[eI x.t.rule,eL 2 eTmR x.t.args][j]?=some y:=hy;have D:j<2:=(qd.1 hy).1;rw [k1n (fun _=>rfl),show (k*2+j) / 2=k by omega,U,qb,show (k*2+j) % 2=j by omega] at hv
      match j,D with
      | 0,_=>simp [TC.enc] at hv hy;subst hv hy;exact x.ra.keep ay
      | 1,_=>simp [TC.enc] at hv hy;subst hv hy;exact x.rb.keep ay)
   rw [aa] at c1;exact ⟨_,rfl,_,_,_,⟨rfl,rfl,dl.map TC.t,a6,a7,rfl⟩,ψ,S,c1, .fz (.tup rfl (fun i v x h=>by simp at h)),⟨by rw [O];rfl,by rw [O];rfl,by rw [O];rfl,M,c3,no0⟩,Ext.refl,fun _ h=>h,fun _ h=>h,c2⟩
end
open Go Go.Proofs Go.Proofs.Tryz
open Go.Shelf Go.Proofs.Tryz
def ky1:Go.Shelf.Ren:=⟨fun | 6=>28 | 15=>70 | 14=>69 | 28=>118 | 29=>119 | 20=>110 | 21=>111 | 22=>112 | 23=>113 | 24=>114 | 25=>115 | 26=>116 | 27=>117 | 46=>159 | 47=>160 | 48=>161 | 49=>162 | 50=>163 | 57=>181 | n=>n,fun | 22=>26 | 24=>28 | 25=>38 | 3=>3 | 39=>113 | 0=>0 | 53=>155 | 55=>157 | 4=>4 | 46=>149 | 45=>148 | 50=>146 | 5=>5 | 9=>9 | 66=>195 | 70=>199 | 76=>217 | 77=>218 | n=>n,fun | n=>n⟩
theorem kz6:Go.Proofs.SlLaysF0.n6 prog ky1:={
 mixed:=by kernel_rfl
 f6:=⟨Tryz.f28.name,by decide,func28.trans (qau some (by kernel_rfl))⟩
 f14:=⟨Tryz.f69.name,by decide,func69.trans (qau some (by kernel_rfl))⟩
 f15:=func70.trans (qau some (by kernel_rfl))
 f20:=⟨Tryz.f110.name,by decide,func110.trans (qau some (by kernel_rfl))⟩
 f21:=⟨Tryz.f111.name,by decide,func111.trans (qau some (by kernel_rfl))⟩
 f22:=⟨Tryz.f112.name,by decide,func112.trans (qau some (by kernel_rfl))⟩
 f23:=⟨Tryz.f113.name,by decide,func113.trans (qau some (by kernel_rfl))⟩
 f24:=⟨Tryz.f114.name,by decide,func114.trans (qau some (by kernel_rfl))⟩
 f25:=⟨Tryz.f115.name,by decide,func115.trans (qau some (by kernel_rfl))⟩
 f26:=⟨Tryz.f116.name,by decide,func116.trans (qau some (by kernel_rfl))⟩
 f27:=⟨Tryz.f117.name,by decide,func117.trans (qau some (by kernel_rfl))⟩
 f28:=func118.trans (qau some (by kernel_rfl))
 f29:=func119.trans (qau some (by kernel_rfl))
 f46:=⟨Tryz.f159.name,by decide,func159.trans (qau some (by kernel_rfl))⟩
 f47:=func160.trans (qau some (by kernel_rfl))
 f48:=func161.trans (qau some (by kernel_rfl))
 f49:=⟨Tryz.f162.name,by decide,func162.trans (qau some (by kernel_rfl))⟩
 f50:=⟨Tryz.f163.name,by decide,func163.trans (qau some (by kernel_rfl))⟩
 f57:=⟨Tryz.f181.name,by decide,func181.trans (qau some (by kernel_rfl))⟩
 t0:=underlying0
 a0:=isAgg0
 z0:=sizeOf0
 v0:=zeroValue0
 t3:=underlying3
 a3:=isAgg3
 z3:=sizeOf3
 v3:=zeroValue3
 t4:=underlying4
 a4:=isAgg4
 z4:=sizeOf4
 v4:=zeroValue4
 t5:=underlying5
 a5:=isAgg5
 z5:=sizeOf5
 v5:=zeroValue5
 t9:=underlying9
 a9:=isAgg9
 z9:=sizeOf9
 v9:=zeroValue9
 t22:=underlying26
 a22:=isAgg26
 z22:=sizeOf26
 v22:=zeroValue26
 t25:=underlying38
 a25:=isAgg38
 z25:=sizeOf38
 v25:=zeroValue38
 t39:=underlying113
 a39:=isAgg113
 z39:=sizeOf113
 v39:=zeroValue113
 t45:=underlying148
 a45:=isAgg148
 z45:=sizeOf148
 v45:=zeroValue148
 t46:=underlying149
 a46:=isAgg149
 z46:=sizeOf149
 v46:=zeroValue149
 t50:=underlying146
 a50:=isAgg146
 z50:=sizeOf146
 v50:=zeroValue146
 t53:=underlying155
 a53:=isAgg155
 z53:=sizeOf155
 v53:=zeroValue155
 t55:=underlying157
 a55:=isAgg157
 z55:=sizeOf157
 v55:=zeroValue157
 t66:=underlying195
 a66:=isAgg195
 z66:=sizeOf195
 v66:=zeroValue195
 t70:=underlying199
 a70:=isAgg199
 z70:=sizeOf199
 v70:=zeroValue199
 t76:=underlying217
 a76:=isAgg217
 z76:=sizeOf217
 v76:=zeroValue217
 t77:=underlying218
 a77:=isAgg218
 z77:=sizeOf218
 v77:=zeroValue218 }
theorem cmpC (s t:Tm) (hs:s.size<=1000) (ht:t.size<=1000):@PCall ⟨true⟩ prog 29 [eTm s,eTm t] (eI (TV.cmpT s t)):=@ktb ⟨true⟩ s t _ (TV.cmp_prog s t hs ht)
theorem k6h:Sort.SWO (ltOf TV.cmpT):=by
 have an:=fun x y=>TV.cmpT_ord.anti x y trivial;have tr:=fun x y z=>TV.cmpT_ord.trans x y z trivial trivial trivial;refine ⟨fun x=>?_,fun x y z h1 a=>?_,fun x y z h1 a=>?_⟩;have:=an x x;simp only [ltOf,qbf];omega
 ·simp only [ltOf,qay] at h1 a ⊢;have b:=tr x y z (by omega) (by omega);have c:TV.cmpT x z≠0:=fun h=>by have e:=TV.cmpT_eq0.1 h;subst e;have:=an x y;omega
  omega
 ·simp only [ltOf,qbf] at h1 a ⊢;have e1:=an x y;have e2:=an y z;have e3:=an x z;have:=tr z y x (by omega) (by omega);omega
def kos (xs:List Tm):List Tm:=xs.mergeSort fun x y=>decide (TV.cmpT x y<=0)
theorem kqq {xs ys:List Tm} (h:ys.Perm xs) (hs:ys.Pairwise fun a b=>TV.cmpT b a<0->False):ys=kos xs:=by
 have an:=fun x y=>TV.cmpT_ord.anti x y trivial;have tr:=fun x y z=>TV.cmpT_ord.trans x y z trivial trivial trivial;refine List.Perm.eq_of_pairwise (le:=fun x y=>TV.cmpT x y<=0) ?_ ?_ ?_ (h.trans (List.mergeSort_perm _ _).symm);intro a b _ _ h1 d;have:=an a b;exact TV.cmpT_eq0.1 (by omega)
 ·exact hs.imp fun {a b} h=>by have:=an a b;have:¬ TV.cmpT b a<0:=h;omega
 ·refine (List.pairwise_mergeSort (le:=fun x y=>decide (TV.cmpT x y<=0)) (fun a b c h1 d=>?_) (fun a b=>?_) xs).imp fun {a b} h=>by simpa using h
  simp only [qay] at h1 d ⊢;exact tr a b c h1 d
  ·have:=an a b;simp only [qbx,qay];omega
def kll (xs:List Tm):Option (List Tm):=bif Nat.blt xs.length 4611686018427387904 && xs.all (fun t=>Nat.ble t.size 1000) then some (kos xs) else none
theorem ksb {xs v:List Tm} (h:kll xs=some v):xs.length<4611686018427387904/\(∀ t∈xs,t.size<=1000)/\v=kos xs:=by
 unfold kll at h;cases hc:(Nat.blt xs.length 4611686018427387904 && xs.all (fun t=>Nat.ble t.size 1000)) with
 | false=>rw [hc] at h;cases h
 | true=>
  rw [hc] at h;injection h with h;rw [qv] at hc;exact ⟨qr hc.1,fun t ht=>qr (qu.1 hc.2 t ht),h.symm⟩
theorem k07 {xs v:List Tm} (h:kll xs=some v):xs.length=v.length:=by rw [(ksb h).2.2,kos,List.length_mergeSort]
theorem kabm:∀ args w,(callFunc 29 args).run prog w = .ok (.enter 29 args) w:=enters_of func29 (by kernel_rfl) rfl
section
variable {st:St} {o:Oper} {id:Nat}
theorem k59 (ts:Array TypeId) (X:Operand) (g:Nat) (e:TypeId) (n:Nat) (xs:List Tm) {v:List Tm} (h:kll xs=some v) (ho:o.op = .call { callee := .value (.func 28),args:=#[X, .func 29],argTypes:=ts }) (l:st.eval X = .row id n) (i:kaa st.heap id=some (.frow e 2 (xs.map eTmR))) (hn:n=xs.length):
  StepA prog o st (.fz (.tup [])) ((id, .frow e 2 (v.map eTmR))::st.heap) st.ids:=by
 obtain ⟨h1,m,rfl⟩:=ksb h;have q:=k90 (o:=o) (st:=st) (id:=id) (n:=n) (xs:=xs) (N:=1000) TV.cmpT
  (fun α _ enc hk h1 c r blk off cap d w b s f j=>AnyQ.slices_SortFunc kz6 2 (fun w=>by kernel_rfl) (fun w=>by kernel_rfl) enc hk h1 c r 29 #[] blk off cap d w kabm b s f j)
  (fun p cap fv w=>AnyF.slices_SortFunc_none kz6 p cap fv w) k6h cmpC
  ⟨_,func28,by kernel_rfl,by kernel_rfl⟩ ho l i hn m h1
 intro F S0 N0 ψ S a w hs;refine ki4 ?_ (q F S0 N0 ψ S a w hs);rintro u w' ⟨c,k,ids',⟨rfl,rfl,ys,hp,t,rfl⟩,hr⟩;rw [<- kqq hp t];exact hr
end
end Go.Proofs.YtnlhjbnpjefjgaaGreatDoor
