import Derived.Test.YtjnjipmjkkhdpaaGreatDoorHd
import Derived.Test.YtjnjipmjkkhdpaaGreatDoorOpm
import Derived.Test.YtjnjipmjkkhdpaaGreatDoorOpr
import Derived.Test.YtjnjipmjkkhdpaaGreatDoorVE
import Derived.Test.YtjnjipmjkkhdpaaGreatDoorGk
import Derived.Shelf.SlSortCmp.NoneTotal
import Derived.Sort.OwnSortedInts
import Derived.Test.YtjnjipmjkkhdpaaGreatDoorSim
import Derived.Shelf.SlLaysF0
import Derived.Ground.SlsfProg
import Derived.Test.YtjnjipmjkkhdpaaGreatDoorProg
set_option linter.all false
namespace Go.Proofs.YtjnjipmjkkhdpaaGreatDoor
open Go Go.RowKit Go.Proofs.Tryz
theorem k4r:fuel=18446744073709551615+1:=rfl
theorem kbv {n:Nat} (h:n<18446744073709551616):n<fuel:=h
theorem ket {n:Int} (h: -9223372036854775808<=n:=by omega) (a:n<=9223372036854775807:=by omega):w64 n=n:=by
 unfold w64 IntKind.wrap IntKind.signed IntKind.bits;simp only;rw [show (2:Int) ^ 64=18446744073709551616 from rfl];by_cases h0:0<=n;have:n % 18446744073709551616=n:=Int.emod_eq_of_lt h0 (by omega);simp [this];omega
 ·have:n % 18446744073709551616=n+18446744073709551616:=by rw [<- Int.add_emod_right,Int.emod_eq_of_lt (by omega) (by omega)]
  simp [this];omega
theorem kbk {n:Nat} (h:n<=9223372036854775806:=by omega):w64 ((n:Int)+1)=((n+1:Nat):Int):=by rw [ket];omega
theorem kai {α:Type} (xs:List α) (n:Nat):idx xs (n:Int)=xs[n]?:=by unfold idx;rw [qr (by omega)];simp
theorem k8f (s:BA) (n:Nat):byt s (n:Int)=(s[n]?).map fun c=>(c.toNat:Int):=by unfold byt;rw [qr (by omega)];simp
theorem km6 {α:Type} {b:Nat} {xs ys:List α} (h:(xs.length+ys.length)*(b+1)<=140737488355328):app b xs ys=some (xs++ys):=by unfold app;rw [qr h]
section
variable {σ β:Type} {step:σ->Option (σ ⊕ β)}
theorem kzr (n:Nat) (S:Nat->σ) (out:Nat->β) (hs:∀ i,i<n->(step (S i)=some (.inl (S (i+1)))/\out i=out (i+1))\/step (S i)=some (.inr (out i))) (a:step (S n)=some (.inr (out n))):
  ∀ (k i:Nat),i<=n->n - i<k->kah step k (S i)=some (out i)
 | 0,i,_,h=>by omega
 | k+1,i,hi,hk=>by
  rw [kah];by_cases h:i=n;subst h;rw [a]
  ·rcases hs i (by omega) with ⟨h1,b⟩ | h1;rw [h1,b];exact kzr n S out hs a k (i+1) (by omega) (by omega)
   ·rw [h1]
theorem kqb (n:Nat) (hn:n<18446744073709551616) (S:Nat->σ) (out:Nat->β) (hs:∀ i,i<n->(step (S i)=some (.inl (S (i+1)))/\out i=out (i+1))\/step (S i)=some (.inr (out i))) (a:step (S n)=some (.inr (out n))):
  kah step fuel (S 0)=some (out 0):=kzr n S out hs a fuel 0 (qaq _) (kbv (by omega))
theorem k5n (n:Nat) (hn:n<18446744073709551616) (S:Nat->σ) (b:β) (hs:∀ i,i<n->step (S i)=some (.inl (S (i+1)))) (a:step (S n)=some (.inr b)):kah step fuel (S 0)=some b:=
 kqb n hn S (fun _=>b) (fun i hi => .inl ⟨hs i hi,rfl⟩) a
theorem kpf {α γ:Type} (step:Int×List γ->Option ((Int×List γ) ⊕ List γ)) (xs:List α) (f:α->γ) (base:List γ) (hs:∀ (i:Nat) (x:α),xs[i]?=some x->step ((i:Int),base++(xs.take i).map f)=some (.inl (((i+1:Nat):Int),base++(xs.take i).map f++[f x]))) (a:step ((xs.length:Int),base++xs.map f)=some (.inr (base++xs.map f))) (hn:xs.length<18446744073709551616:=by omega):kah step fuel (0,base)=some (base++xs.map f):=by
 have:=k5n (step:=step) xs.length hn (fun i=>((i:Int),base++(xs.take i).map f)) (base++xs.map f) (fun i hi=>by
  have h1:xs[i]?=some xs[i]:=qa hi;rw [hs i _ h1];have b:base++(xs.take (i+1)).map f=base++(xs.take i).map f++[f xs[i]]:=by rw [List.take_add_one,h1,List.map_append,qbi];rfl
  rw [b]) (by simpa using a)
 simpa using this
end
theorem k58 {σ β σ' β':Type} {step:σ->Option (σ ⊕ β)} {step':σ'->Option (σ' ⊕ β')} (n:Nat) (hn:n<18446744073709551616) (S:Nat->σ) (S':Nat->σ') (Q:β->β'->Prop)
  (hs:∀ i,i<n->(step (S i)=some (.inl (S (i+1)))/\step' (S' i)=some (.inl (S' (i+1))))\/∃ b b',step (S i)=some (.inr b)/\step' (S' i)=some (.inr b')/\Q b b')
  (d:∃ b b',step (S n)=some (.inr b)/\step' (S' n)=some (.inr b')/\Q b b'):∃ r r',kah step fuel (S 0)=some r/\kah step' fuel (S' 0)=some r'/\Q r r':=by
 have key:∀ (k i:Nat),i<=n->n - i<k->∃ r r',kah step k (S i)=some r/\kah step' k (S' i)=some r'/\Q r r':=by
  intro k
  induction k with
  | zero=>intro i _ h;omega
  | succ k ih=>
   intro i hi hk;rw [kah,kah];by_cases h:i=n;subst h;obtain ⟨b,b',h1,a,c⟩:=d;rw [h1,a];exact ⟨b,b',rfl,rfl,c⟩
   ·rcases hs i (by omega) with ⟨h1,a⟩ | ⟨b,b',h1,a,c⟩;rw [h1,a];exact ih (i+1) (by omega) (by omega)
    ·rw [h1,a];exact ⟨b,b',rfl,rfl,c⟩
 exact key fuel 0 (qaq _) (kbv (by omega))
def runL {σ α β:Type} (f:σ->α->Option (σ ⊕ β)):List α->σ->Option (σ ⊕ β)
 | [],s=>some (.inl s)
 | x::l,s=>Option.bind (f s x) (Sum.elim (fun s'=>runL f l s') (fun b=>some (.inr b)))
theorem k5x {σ α β τ γ:Type} (step:τ->Option (τ ⊕ γ)) (xs:List α) (f:σ->α->Option (σ ⊕ β)) (mk:σ->Int->τ) (out:σ ⊕ β->γ) (c:xs.length<=9223372036854775807) (h:∀ (i:Nat) (x:α) (s:σ),xs[i]?=some x->step (mk s (i:Int))=(f s x).map (Sum.elim (fun s' => .inl (mk s' ((i+1:Nat):Int))) (fun b => .inr (out (.inr b))))) (d:∀ s,step (mk s (xs.length:Int))=some (.inr (out (.inl s)))) (s:σ):kah step fuel (mk s 0)=(runL f xs s).map out:=by
 have key:∀ (k i:Nat) (s:σ),i<=xs.length->xs.length - i<k->kah step k (mk s (i:Int))=(runL f (xs.drop i) s).map out:=by
  intro k
  induction k with
  | zero=>intro i s _ h;omega
  | succ k ih=>
   intro i s hi hk;rw [kah];by_cases hn:i=xs.length;subst hn;rw [d,List.drop_eq_nil_of_le (qv _)];rfl
   ·have a:i<xs.length:=(by omega);rw [h i xs[i] s (qa a),qa7 a,runL];cases f s xs[i] with
    | none=>rfl
    | some r=>
     cases r with
     | inl s'=>
      simp only [qa1,Sum.elim_inl,qb];exact ih (i+1) s' (by omega) (by omega)
     | inr b=>rfl
 have:=key fuel 0 s (qaq _) (kbv (by omega));simpa using this
theorem khf {n i:Nat} (h:i<n):decide ((i:Int)<(n:Int))=true:=qaj (by omega)
theorem kg2 (n:Nat):decide ((n:Int)<(n:Int))=false:=qae (by omega)
theorem kfe {n m:Nat} (h:n<m) (hm:m<=9223372036854775807):w64 ((n:Int)+1)=((n+1:Nat):Int):=kbk
theorem kb1 {α:Type} {xs:List α} {i:Nat} {x:α} (h:xs[i]?=some x):i<xs.length:=(qd.1 h).1
theorem khd {α σ τ:Type} {step:τ->Option (τ ⊕ σ)} (xs:List α) (r:σ->α->Option σ) (mk:Int->σ->τ) (a:xs.length<=9223372036854775807)
  (hs:∀ (i:Nat) (x:α) (s:σ),xs[i]?=some x->step (mk (i:Int) s)=(r s x).map fun v => .inl (mk ((i+1:Nat):Int) v)) (c:∀ s,step (mk (xs.length:Int) s)=some (.inr s)) (s:σ):kah step fuel (mk 0 s)=xs.foldlM r s:=by
 have h:=k5x step xs (fun s x=>(r s x).map (.inl:σ->σ ⊕ Empty)) (fun s i=>mk i s) (Sum.elim id (fun b:Empty=>nomatch b)) a (fun i x s hx=>by rw [hs i x s hx];cases r s x <;> rfl) (fun s=>c s) s;rw [h];clear h hs c
 induction xs generalizing s with
 | nil=>rfl
 | cons x xs ih=>
  rw [runL,List.foldlM_cons];cases hr:r s x with
  | none=>rfl
  | some v=>
   simp only [qa1,qb,Sum.elim_inl];exact ih (by simp only [qbl] at a;omega) v
theorem k4l {α:Type} (b:Nat) (z:α) (n:Nat) (h:(b+1)*n<=281474976710656:=by omega):mkL b z (n:Int)=some (List.replicate n z):=by
 unfold mkL;have c:b*n+n<=281474976710656:=by rw [qaw,Nat.one_mul] at h;exact h
 have a:(b:Int)*(n:Int)=((b*n:Nat):Int):=(Int.natCast_mul b n).symm;rw [qr ⟨by omega,by rw [a];omega,by omega⟩];simp
set_option maxRecDepth 100000
def Ev {α:Type} (x:Option α) (P:α->Prop):Prop:=∃ v,x=some v/\P v
theorem Ev.eq {α:Type} {x:Option α} {v:α} (h:Ev x (·=v)):x=some v:=by obtain ⟨u,h1,rfl⟩:=h;exact h1
theorem Ev.mono {α:Type} {x:Option α} {P Q:α->Prop} (h:Ev x P) (hp:∀ v,P v->Q v):Ev x Q:=by obtain ⟨v,h1,a⟩:=h;exact ⟨v,h1,hp v a⟩
theorem kbe {α β:Type} {x:Option α} {k:α->Option β} {P:β->Prop} (h:Ev x fun v=>Ev (k v) P):Ev (Option.bind x k) P:=by obtain ⟨v,rfl,u,h1,a⟩:=h;exact ⟨u,h1,a⟩
theorem kag {α:Type} {c:Bool} {x y:Option α} {P:α->Prop} (h1:c=true->Ev x P) (h0:c=false->Ev y P):Ev (bif c then x else y) P:=by
 cases c;exact h0 rfl
 ·exact h1 rfl
theorem kb2 {α β γ:Type} {s:α ⊕ β} {f:α->Option γ} {g:β->Option γ} {P:γ->Prop} (h1:∀ a,s = .inl a->Ev (f a) P) (c:∀ b,s = .inr b->Ev (g b) P):Ev (Sum.elim f g s) P:=by
 cases s with
 | inl a=>exact h1 a rfl
 | inr b=>exact c b rfl
theorem keu {σ β:Type} {step:σ->Option (σ ⊕ β)} {s0:σ} {Q:β->Prop} (n:Nat) (I:Nat->σ->Prop) (hn:n<18446744073709551616) (h0:I 0 s0)
  (hs:∀ i s,i<n->I i s->Ev (step s) (Sum.elim (I (i+1)) Q)) (d:∀ s,I n s->Ev (step s) fun r=>∃ b,r = .inr b/\Q b):Ev (kah step fuel s0) Q:=by
 have key:∀ (k m N:Nat) (s:σ),m+k=n->k<N->I m s->Ev (kah step N s) Q:=by
  intro k
  induction k with
  | zero=>
   intro m N s hm hN c;obtain ⟨N,rfl⟩:∃ j,N=j+1:=⟨N - 1,by omega⟩;obtain rfl:m=n:=(by omega);obtain ⟨r,h1,b,rfl,a⟩:=d s c;exact ⟨b,by rw [kah,h1],a⟩
  | succ k ih=>
   intro m N s hm hN c;obtain ⟨N,rfl⟩:∃ j,N=j+1:=⟨N - 1,by omega⟩;obtain ⟨r,h1,a⟩:=hs m s (by omega) c;cases r with
   | inl s'=>
    obtain ⟨b,e,f⟩:=ih (m+1) N s' (by omega) (by omega) a;exact ⟨b,by rw [kah,h1];exact e,f⟩
   | inr b=>exact ⟨b,by rw [kah,h1],a⟩
 exact key n 0 fuel s0 (by omega) (kbv hn) h0
theorem k52 {σ β:Type} (step:σ->Option (σ ⊕ β)) {s0:σ} (Q:β->Prop) (I:σ->Prop) (μ:σ->Nat) (hn:μ s0<18446744073709551616) (h0:I s0) (hs:∀ s,I s->Ev (step s) (Sum.elim (fun s'=>I s'/\μ s'<μ s) Q)):Ev (kah step fuel s0) Q:=by
 have key:∀ (N:Nat) (s:σ),μ s<N->I s->Ev (kah step N s) Q:=by
  intro N
  induction N with
  | zero=>intro s h;omega
  | succ N ih=>
   intro s h c;obtain ⟨r,h1,a⟩:=hs s c;cases r with
   | inl s'=>
    obtain ⟨b,d,e⟩:=ih s' (by have:=a.2;omega) a.1;exact ⟨b,by rw [kah,h1];exact d,e⟩
   | inr b=>exact ⟨b,by rw [kah,h1],a⟩
 exact key fuel s0 (kbv hn) h0
theorem kfr {σ β:Type} {x:Option (σ ⊕ β)} (b:β) {Q:β->Prop} (h:x=some (.inr b)) (a:Q b):Ev x fun r=>∃ b,r = .inr b/\Q b:=⟨_,h,b,rfl,a⟩
theorem ka1 {i n:Nat} (h:i<n):decide ((i:Int)<(n:Int))=true:=qaj (by omega)
theorem kar (n:Nat):decide ((n:Int)<(n:Int))=false:=qae (by omega)
namespace TV
theorem kt6 {l:List Tm} {i:Nat} (h:i<l.length):Tm.sizeL (l.take (i+1))=Tm.sizeL (l.take i)+l[i].size:=by rw [qaf h,Tm.sizeL_snoc]
theorem kl7 (l:List Tm) (i:Nat):i<=l.length->i<=Tm.sizeL (l.take i)/\Tm.sizeL (l.take i)<=Tm.sizeL l:=by
 intro hi
 induction i with
 | zero=>exact ⟨qaq _,by simp [Tm.sizeL]⟩
 | succ i ih=>
  have h1:=ih (by omega);have c:=kt6 (l:=l) (i:=i) (by omega);have d:=Tm.size_pos l[i];refine ⟨by omega,?_⟩;have:Tm.sizeL l=Tm.sizeL (l.take (i+1))+Tm.sizeL (l.drop (i+1)):=by
   have gen:∀ a b:List Tm,Tm.sizeL (a++b)=Tm.sizeL a+Tm.sizeL b:=fun a b=>by
    induction a with
    | nil=>simp [Tm.sizeL]
    | cons x a ih=>simp only [List.cons_append,Tm.sizeL,ih];omega
   rw [<- gen,List.take_append_drop]
  omega
theorem kd7 (t:Tm):Tm.sizeL t.args+1=t.size:=by cases t;rfl
theorem kyb (l:List Tm):l.length<=Tm.sizeL l:=by have:=(kl7 l l.length (qv _)).1;rw [qa8] at this;exact this
theorem knn (g:Tm->Int) (t:Tm):t.pre g=g t::Tm.preL g t.args:=by cases t;rfl
theorem kdq {t x:Tm} (h:x∈t.args):x.size<t.size:=by have:=Tm.sizeL_mem h;have:=kd7 t;omega
theorem args_len (t:Tm):t.args.length<t.size:=by have:=kyb t.args;have:=kd7 t;omega
theorem kjp (g:Tm->Int) (r:List Int->Tm->Option (List Int)):∀ (xs:List Tm) (acc:List Int),acc.length+Tm.sizeL xs<=1000000->(∀ x∈xs,∀ acc:List Int,acc.length+x.size<=1000000->r acc x=some (acc++x.pre g))->xs.foldlM r acc=some (acc++Tm.preL g xs)
 | [],acc,_,_=>by simp [Tm.preL]
 | x::xs,acc,hl,h=>by have hs:Tm.sizeL (x::xs)=x.size+Tm.sizeL xs:=rfl;rw [List.foldlM_cons,h x (qt ..) acc (by omega)];have:=kjp g r xs (acc++x.pre g) (by rw [qy,Tm.pre_length];omega) fun y hy=>h y (qf _ hy);show List.foldlM r (acc++x.pre g) xs=_;rw [this,qbi];rfl
theorem app1 {acc:List Int} {v:Int} (h:acc.length<=1000000):app 8 acc [v]=some (acc++[v]):=km6 (by rw [qas];omega)
theorem kzx:∀ (n:Nat) (t:Tm) (acc:List Int),t.size<=n->acc.length+t.size<=1000000->kby n acc t=some (acc++t.rules)
 | 0,t,acc,h,_=>by have:=Tm.size_pos t;omega
 | n+1,t,acc,h,hl=>by show kfs (kby n) acc t=_;have b:=args_len t;have c:=kd7 t;unfold kfs kfv;rw [qb,app1 (by omega),qb];rw [khd (step:=kfg t (kby n)) t.args (kby n) (fun i s=>(i,s)) (by omega) (fun i x s hx=>by have hi:=kb1 hx;simp only [kfg,khf hi,qg,kai,hx,qb,kfe hi (show t.args.length<=9223372036854775807 by omega)];cases kby n s x <;> rfl) (fun s=>by simp only [kfg,kg2,qo])];rw [kjp Tm.rule _ t.args _ (by rw [qy,qas];omega) fun x hx acc a=>kzx n x acc (by have:=kdq hx;omega) a];show some _=some _;rw [qbi];show _=some (acc++t.pre Tm.rule);rw [knn];rfl
theorem ktm (t:Tm) (h:t.size<=1000):kik t=some t.rules:=by have b:=args_len t;have c:=kd7 t;unfold kik kfv;rw [qb,app1 (by simp),qb];rw [khd (step:=khj t) t.args (kby fuel) (fun i s=>(i,s)) (by omega) (fun i x s hx=>by have hi:=kb1 hx;simp only [khj,khf hi,qg,kai,hx,qb,kfe hi (show t.args.length<=9223372036854775807 by omega)];cases kby fuel s x <;> rfl) (fun s=>by simp only [khj,kg2,qo])];rw [kjp Tm.rule _ t.args _ (by rw [List.nil_append,qas];omega) fun x hx acc a=>kzx fuel x acc (qa3 (kbv (by omega))) a];show some _=some (t.pre Tm.rule);rw [knn];rfl
theorem ksn:∀ (n:Nat) (t:Tm) (acc:List Int),t.size<=n->acc.length+t.size<=1000000->kba n acc t=some (acc++t.arities)
 | 0,t,acc,h,_=>by have:=Tm.size_pos t;omega
 | n+1,t,acc,h,hl=>by show kfp (kba n) acc t=_;have b:=args_len t;have c:=kd7 t;unfold kfp kct;rw [qb,app1 (by omega),qb];rw [khd (step:=kfc t (kba n)) t.args (kba n) (fun i s=>(i,s)) (by omega) (fun i x s hx=>by have hi:=kb1 hx;simp only [kfc,khf hi,qg,kai,hx,qb,kfe hi (show t.args.length<=9223372036854775807 by omega)];cases kba n s x <;> rfl) (fun s=>by simp only [kfc,kg2,qo])];rw [kjp Tm.nargs _ t.args _ (by rw [qy,qas];omega) fun x hx acc a=>ksn n x acc (by have:=kdq hx;omega) a];show some _=some _;rw [qbi];show _=some (acc++t.pre Tm.nargs);rw [knn];rfl
theorem ky7 (t:Tm) (h:t.size<=1000):kga t=some t.arities:=by have b:=args_len t;have c:=kd7 t;unfold kga kct;rw [qb,app1 (by simp),qb];rw [khd (step:=kfh t) t.args (kba fuel) (fun i s=>(i,s)) (by omega) (fun i x s hx=>by have hi:=kb1 hx;simp only [kfh,khf hi,qg,kai,hx,qb,kfe hi (show t.args.length<=9223372036854775807 by omega)];cases kba fuel s x <;> rfl) (fun s=>by simp only [kfh,kg2,qo])];rw [kjp Tm.nargs _ t.args _ (by rw [List.nil_append,qas];omega) fun x hx acc a=>ksn fuel x acc (qa3 (kbv (by omega))) a];show some _=some (t.pre Tm.nargs);rw [knn];rfl
theorem kwy (t:Tm) (h:t.size<=1000):kah (kfi t) fuel (0,([]:List Int)++[(t.args.length:Int)])=some t.arities:=by have b:=args_len t;have c:=kd7 t;rw [khd (step:=kfi t) t.args (kba fuel) (fun i s=>(i,s)) (by omega) (fun i x s hx=>by have hi:=kb1 hx;simp only [kfi,khf hi,qg,kai,hx,qb,kfe hi (show t.args.length<=9223372036854775807 by omega)];cases kba fuel s x <;> rfl) (fun s=>by simp only [kfi,kg2,qo])];rw [kjp Tm.nargs _ t.args _ (by rw [List.nil_append,qas];omega) fun x hx acc a=>ksn fuel x acc (qa3 (kbv (by omega))) a];show some _=some (t.pre Tm.nargs);rw [knn];rfl
theorem kqp (r:Tm->Option Int):∀ (xs:List Tm) (s:Nat),s+Tm.sizeL xs<=1000000->(∀ x∈xs,r x=some (x.size:Int))->xs.foldlM (fun (s:Int) x=>Option.bind (r x) fun v=>some (w64 (s+v))) (s:Int)=some ((s+Tm.sizeL xs:Nat):Int)
 | [],s,_,_=>by simp [Tm.sizeL]
 | x::xs,s,hl,h=>by have hs:Tm.sizeL (x::xs)=x.size+Tm.sizeL xs:=rfl;rw [List.foldlM_cons,h x (qt ..),qb,ket];have:=kqp r xs (s+x.size) (by omega) fun y hy=>h y (qf _ hy);show List.foldlM _ ((s:Int)+(x.size:Int)) xs=_;rw [show (s:Int)+(x.size:Int)=((s+x.size:Nat):Int) by omega,this,hs];congr 2;omega
theorem kqk:∀ (n:Nat) (t:Tm),t.size<=n->t.size<=1000->kfd n t=some (t.size:Int)
 | 0,t,h,_=>by have:=Tm.size_pos t;omega
 | n+1,t,h,hl=>by show ki5 (kfd n) t=_;have a:=args_len t;have b:=kd7 t;unfold ki5;rw [khd (step:=kib t (kfd n)) t.args (fun s x=>Option.bind (kfd n x) fun v=>some (w64 (s+v))) (fun i s=>(s,i)) (by omega) (fun i x s hx=>by have hi:=kb1 hx;simp only [kib,khf hi,qg,kai,hx,qb,kfe hi (show t.args.length<=9223372036854775807 by omega)];cases kfd n x <;> rfl) (fun s=>by simp only [kib,kg2,qo])];have:=kqp (kfd n) t.args 1 (by omega) fun x hx=>kqk n x (by have:=kdq hx;omega) (by have:=kdq hx;omega);rw [show (1:Int)=((1:Nat):Int) from rfl,this,qb];congr 2;omega
def lexC:List Int->List Int->Int
 | x::xs,y::ys=>if x<y then -1 else if y<x then 1 else lexC xs ys
 | _,_=>0
def lexO:List Int->List Int->Unit ⊕ Int
 | x::xs,y::ys=>if x<y then .inr (-1) else if y<x then .inr 1 else lexO xs ys
 | _,_ => .inl ()
theorem kvm:∀ xs ys:List Int,Sum.elim (fun _=>0) id (lexO xs ys)=lexC xs ys
 | [],_=>rfl
 | _::_,[]=>rfl
 | x::xs,y::ys=>by
  simp only [lexO,lexC];split;rfl
  ·split;rfl
   ·exact kvm xs ys
theorem kzh (x y:List Int) (hl:x.length=y.length) (hx:x.length<=1000000):kgu x y=some (lexC x y):=by
 unfold kgu;have h:=kqb (step:=kfl x y) x.length (by omega) (fun i=>(i:Int)) (fun i=>lexO (x.drop i) (y.drop i)) (fun i hi=>by
  have hy:i<y.length:=by omega
  simp only [kfl,khf hi,qg,kai,qa hi,qa hy,qb,kfe hi (show x.length<=9223372036854775807 by omega),qa7 hi,qa7 hy,lexO];by_cases h1:x[i]<y[i];rw [qaj h1,qr h1];exact .inr rfl
  ·rw [qae h1,qj h1];by_cases a:y[i]<x[i];rw [qaj a,qr a];exact .inr rfl
   ·rw [qae a,qj a];exact .inl ⟨rfl,rfl⟩) (by
  simp only [kfl,kg2,qo,List.drop_length,lexO])
 have b:kah (kfl x y) fuel 0=some (lexO x y):=by simpa using h
 rw [b,qb,<- kvm];cases lexO x y <;> rfl
def cmpT (a b:Tm):Int:=if a.size<b.size then -1 else if b.size<a.size then 1 else if lexC a.rules b.rules≠0 then lexC a.rules b.rules else lexC a.arities b.arities
theorem cmp_prog (a b:Tm) (ha:a.size<=1000) (d:b.size<=1000):kh0 a b=some (cmpT a b):=by
 unfold kh0 cmpT;rw [kqk fuel a (qa3 (kbv (by omega))) ha,kqk fuel b (qa3 (kbv (by omega))) d];simp only [qb];by_cases h1:a.size<b.size;rw [qr h1,qaj (show (a.size:Int)<(b.size:Int) by omega),qg];rw [qj h1,qae (show ¬ (a.size:Int)<(b.size:Int) by omega),qo];by_cases e:b.size<a.size;rw [qr e,qaj (show (b.size:Int)<(a.size:Int) by omega),qg];rw [qj e,qae (show ¬ (b.size:Int)<(a.size:Int) by omega),qo];rw [ktm a ha,ktm b d];simp only [qb];rw [kzh a.rules b.rules (by rw [Tm.rules_length,Tm.rules_length];omega) (by rw [Tm.rules_length];omega),qb];by_cases c:lexC a.rules b.rules=0;rw [qj (by simpa using c),c,show ((0:Int) != 0)=false from rfl,qo,ky7 a ha,qb,show kct b=some () from rfl,qb,app1 (qaq _),qb,kwy b d,qb,kzh a.arities b.arities (by rw [Tm.arities_length,Tm.arities_length];omega) (by rw [Tm.arities_length];omega)];rw [qb]
 ·rw [qr c,show (lexC a.rules b.rules != 0)=true by rw [bne_iff_ne];exact c,qg]
mutual
theorem k0m:∀ (s t:Tm) (xs ys us vs:List Int),s.pre Tm.rule++xs=t.pre Tm.rule++ys->s.pre Tm.nargs++us=t.pre Tm.nargs++vs->s=t/\xs=ys/\us=vs
 | .mk r l, .mk r' l',xs,ys,us,vs,h1,a=>by
  simp only [Tm.pre,List.cons_append,List.cons.injEq] at h1 a;have hr:r=r':=h1.1;have hl:l.length=l'.length:=by have:=a.1;simp only [Tm.nargs,Tm.args] at this;omega
  obtain ⟨e1,e2,e3⟩:=kyr l l' hl xs ys us vs h1.2 a.2;exact ⟨by rw [hr,e1],e2,e3⟩
theorem kyr:∀ (l l':List Tm),l.length=l'.length->∀ (xs ys us vs:List Int),Tm.preL Tm.rule l++xs=Tm.preL Tm.rule l'++ys->Tm.preL Tm.nargs l++us=Tm.preL Tm.nargs l'++vs->l=l'/\xs=ys/\us=vs
 | [],[],_,xs,ys,us,vs,h1,a=>⟨rfl,by simpa [Tm.preL] using h1,by simpa [Tm.preL] using a⟩
 | [],_::_,h,_,_,_,_,_,_=>by simp at h
 | _::_,[],h,_,_,_,_,_,_=>by simp at h
 | t::l,t'::l',h,xs,ys,us,vs,h1,a=>by simp only [Tm.preL,qbi] at h1 a;obtain ⟨e1,e2,e3⟩:=k0m t t' _ _ _ _ h1 a;obtain ⟨e4,e5,e6⟩:=kyr l l' (by simpa using h) xs ys us vs e2 e3;exact ⟨by rw [e1,e4],e5,e6⟩
end
structure Ord3 {α:Type} (E:α->α->Prop) (c:α->α->Int):Prop where
 anti:∀ x y,E x y->c y x = -c x y
 trans:∀ x y z,E x y->E y z->E x z->c x y<=0->c y z<=0->c x z<=0
def lex {α:Type} (c d:α->α->Int) (x y:α):Int:=if c x y≠0 then c x y else d x y
theorem Ord3.lex {α:Type} {E:α->α->Prop} {c d:α->α->Int} (a:∀ x y,E x y->E y x) (hc:Ord3 E c) (hd:Ord3 (fun x y=>E x y/\c x y=0) d):Ord3 E (lex c d):=by
 have z:∀ x y,E x y->(c y x=0↔c x y=0):=fun x y e=>by rw [hc.anti x y e];omega
 refine ⟨fun x y e=>?_,fun x y z e1 e2 e3 h1 b=>?_⟩
 ·unfold Go.Proofs.YtjnjipmjkkhdpaaGreatDoor.TV.lex;by_cases h:c x y=0;rw [qj (by rw [(z x y e).2 h];decide),qj (by rw [h];decide)];exact hd.anti x y ⟨e,h⟩
  ·rw [qr (fun f=>h ((z x y e).1 f)),qr h];exact hc.anti x y e
 ·unfold Go.Proofs.YtjnjipmjkkhdpaaGreatDoor.TV.lex at h1 b ⊢;have k1:c x y<=0:=by split at h1 <;> omega
  have k2:c y z<=0:=by split at b <;> omega
  have k3:=hc.trans x y z e1 e2 e3 k1 k2;by_cases h:c x z=0;have a1:=hc.anti x y e1;have a2:=hc.anti y z e2;have a3:=hc.anti x z e3;have b1:=hc.trans y z x e2 (a _ _ e3) (a _ _ e1) k2 (by omega);have b2:=hc.trans z x y (a _ _ e3) e1 (a _ _ e2) (by omega) k1;have c1:c x y=0:=(by omega);have c2:c y z=0:=(by omega);rw [qj (by rw [c1];decide)] at h1;rw [qj (by rw [c2];decide)] at b;rw [qj (by rw [h];decide)];exact hd.trans x y z ⟨e1,c1⟩ ⟨e2,c2⟩ ⟨e3,h⟩ h1 b
  ·rw [qr h];exact k3
def cmpZ {α:Type} (f:α->Int) (x y:α):Int:=if f x<f y then -1 else if f y<f x then 1 else 0
theorem k6l {α:Type} {E:α->α->Prop} (f:α->Int):Ord3 E (cmpZ f):=by
 refine ⟨fun x y _=>?_,fun x y z _ _ _ h1 a=>?_⟩;unfold cmpZ;split <;> split <;> omega
 ·unfold cmpZ at *
  split at h1
  ·split at a;rw [qr (by omega)];decide
   ·split at a;omega
    ·rw [qr (by omega)];decide
  ·split at h1;omega
   ·split at a;rw [qr (by omega)];decide
    ·split at a;omega
     ·rw [qj (by omega),qj (by omega)];decide
theorem kq0:∀ xs ys:List Int,xs.length=ys.length->lexC ys xs = -lexC xs ys
 | [],[],_=>rfl
 | [],_::_,h=>by simp at h
 | _::_,[],h=>by simp at h
 | x::xs,y::ys,h=>by
  have ih:=kq0 xs ys (by simpa using h);simp only [lexC];rcases Int.lt_trichotomy x y with h1 | h1 | h1;rw [qj (by omega),qr h1,qr h1];rfl;rw [qj (by omega),qj (by omega),qj (by omega),qj (by omega),ih]
  ·rw [qr h1,qj (by omega),qr h1]
theorem koz:∀ xs ys zs:List Int,xs.length=ys.length->ys.length=zs.length->lexC xs ys<=0->lexC ys zs<=0->lexC xs zs<=0
 | [],_,_,_,_,_,_=>by simp [lexC]
 | _::_,[],_,h,_,_,_=>by simp at h
 | _::_,_::_,[],_,h,_,_=>by simp at h
 | x::xs,y::ys,z::zs,h,g,h1,a=>by
  have ih:=koz xs ys zs (by simpa using h) (by simpa using g);simp only [lexC] at h1 a ⊢;split at h1
  ·split at a;rw [qr (by omega)];decide
   ·split at a;omega
    ·rw [qr (by omega)];decide
  ·split at h1;omega
   ·split at a;rw [qr (by omega)];decide
    ·split at a;omega
     ·rw [qj (by omega),qj (by omega)];exact ih h1 a
theorem kvc:∀ xs ys:List Int,xs.length=ys.length->lexC xs ys=0->xs=ys
 | [],[],_,_=>rfl
 | [],_::_,h,_=>by simp at h
 | _::_,[],h,_=>by simp at h
 | x::xs,y::ys,h,h1=>by
  simp only [lexC] at h1;split at h1;omega
  ·split at h1;omega
   ·rw [kvc xs ys (by simpa using h) h1,show x=y by omega]
theorem kwi:∀ xs:List Int,lexC xs xs=0
 | []=>rfl
 | x::xs=>by simp only [lexC,Int.lt_irrefl,if_false];exact kwi xs
theorem k5s (a b:Tm):cmpT a b=lex (cmpZ fun t:Tm=>(t.size:Int)) (lex (fun a b=>lexC a.rules b.rules) (fun a b=>lexC a.arities b.arities)) a b:=by
 unfold cmpT lex cmpZ;by_cases h1:a.size<b.size;rw [qr h1,qr (show (a.size:Int)<(b.size:Int) by omega),qr (by decide)]
 ·rw [qj h1,qj (show ¬ (a.size:Int)<(b.size:Int) by omega)];by_cases c:b.size<a.size;rw [qr c,qr (show (b.size:Int)<(a.size:Int) by omega),qr (by decide)]
  ·rw [qj c,qj (show ¬ (b.size:Int)<(a.size:Int) by omega),qj (show ¬ ((0:Int)≠0) by decide)]
theorem cmpZ_zero {α:Type} {f:α->Int} {x y:α}:cmpZ f x y=0↔f x=f y:=by
 unfold cmpZ;split;omega
 ·split <;> omega
theorem cmpT_ord:Ord3 (fun _ _=>True) cmpT:=by
 have:cmpT=lex (cmpZ fun t:Tm=>(t.size:Int)) (lex (fun a b=>lexC a.rules b.rules) (fun a b=>lexC a.arities b.arities)):=by funext a b;exact k5s a b
 rw [this];have c:∀ {a b:Tm},cmpZ (fun t:Tm=>(t.size:Int)) a b=0->a.size=b.size:=fun h=>by have:=cmpZ_zero.1 h;omega
 refine Ord3.lex (fun _ _ _=>trivial) (k6l _) (Ord3.lex (fun x y h=>⟨trivial,by have:=c h.2;exact cmpZ_zero.2 (by omega)⟩) ⟨fun x y h=>?_,fun x y z h1 d _=>?_⟩ ⟨fun x y h=>?_,fun x y z h1 d _=>?_⟩);exact kq0 _ _ (by rw [Tm.rules_length,Tm.rules_length];exact c h.2);exact koz _ _ _ (by rw [Tm.rules_length,Tm.rules_length];exact c h1.2) (by rw [Tm.rules_length,Tm.rules_length];exact c d.2);exact kq0 _ _ (by rw [Tm.arities_length,Tm.arities_length];exact c h.1.2)
 ·exact koz _ _ _ (by rw [Tm.arities_length,Tm.arities_length];exact c h1.1.2) (by rw [Tm.arities_length,Tm.arities_length];exact c d.1.2)
theorem cmpT_eq0 {s t:Tm}:cmpT s t=0↔s=t:=by
 constructor
 ·intro h;unfold cmpT at h;split at h;omega
  ·split at h;omega
   ·have hs:s.size=t.size:=(by omega);split at h;rename_i h0;exact absurd h h0
    ·rename_i h0;have e1:=kvc s.rules t.rules (by rw [Tm.rules_length,Tm.rules_length];exact hs) (by simpa using h0);have e2:=kvc s.arities t.arities (by rw [Tm.arities_length,Tm.arities_length];exact hs) h;exact (k0m s t [] [] [] [] (by simpa [Tm.rules] using e1) (by simpa [Tm.arities] using e2)).1
 ·rintro rfl;unfold cmpT;simp [kwi]
end TV
structure TC (S:Nat->Prop) (w:World) (N:Nat) where
 a:Value
 b:Value
 t:Tm
 hN:t.size<=N
 ra:RF S w a (eI t.rule)
 rb:RF S w b (eL 2 eTmR t.args)
def TC.enc {S:Nat->Prop} {w:World} {N:Nat} (x:TC S w N):List Value:=[x.a,x.b]
theorem TC.one {S:Nat->Prop} {w:World} {N:Nat} (x:TC S w N):∀ v∈x.enc,v.oneCell'=true:=by
 obtain ⟨a,b,t,_,ra,rb⟩:=x;intro v hv;rcases qaa.1 hv with rfl | hv;rw [ra.atom_eq];rfl
 ·rw [qat.1 hv];cases rb;rfl
theorem TC.rf {S:Nat->Prop} {w:World} {N:Nat} (x:TC S w N):RF S w (.agg x.enc.toArray) (eTm x.t):=by
 refine .agg rfl (fun y hy=>?_) fun i v y hv hy=>?_;simp only [qaa,List.not_mem_nil,or_false] at hy;rcases hy with rfl | rfl <;> rfl
 ·match i with
  | 0=>simp [TC.enc] at hv hy;subst hv hy;exact x.ra
  | 1=>simp [TC.enc] at hv hy;subst hv hy;exact x.rb
  | i+2=>simp at hy
theorem k7c {S:Nat->Prop} {w:World} {N:Nat}:∀ (xs:List Tm) (cs:List Value),cs.length=xs.length*2->(∀ t∈xs,t.size<=N) ->
  (∀ (i:Nat) (t:Tm) (j:Nat) (v:Value) (y:FV),xs[i]?=some t->cs[i*2+j]?=some v->(eTmR t).cells[j]?=some y->RF S w v y)->∃ d:List (TC S w N),d.map TC.t=xs/\d.flatMap TC.enc=cs
 | [],cs,hl,_,_=>⟨[],rfl,(qav (by simpa using hl)).symm⟩
 | t::xs,[],hl,_,_=>by simp at hl
 | t::xs,[u],hl,_,_=>by simp at hl;omega
 | t::xs,u::v::cs,hl,hN,hr=>by
  obtain ⟨d,h1,a⟩:=k7c xs cs (by simp at hl;omega) (fun s hs=>hN s (qf _ hs)) fun i s j z y hs b hy=>hr (i+1) s j z y (by simpa using hs) (by rw [show (i+1)*2+j=(i*2+j)+1+1 by omega];simpa using b) hy;have hc:(eTmR t).cells=[eI t.rule,eL 2 eTmR t.args]:=by rw [kmd];rfl
  exact ⟨⟨u,v,t,hN t (qt ..),hr 0 t 0 u _ rfl rfl (by rw [hc];rfl),hr 0 t 1 v _ rfl rfl (by rw [hc];rfl)⟩::d,by rw [qba,h1],by rw [List.flatMap_cons,a];rfl⟩
theorem k2q {α:Type} {enc:α->List Value} (hk:∀ x,(enc x).length=2):∀ (d:List α) (j:Nat),(d.flatMap enc)[j]?=(d[j / 2]?).bind fun x=>(enc x)[j % 2]?
 | [],j=>by simp
 | x::d,j=>by
  have hx:=hk x;rw [List.flatMap_cons]
  match a:enc x,hx with
  | [u,v],_=>
   match j with
   | 0=>simp [a]
   | 1=>simp [a]
   | j+2=>
    have e1:(j+2) / 2=j / 2+1:=(by omega);have e2:(j+2) % 2=j % 2:=(by omega);rw [e1,e2];simpa using k2q hk d j
theorem k3j {α:Type} [Inhabited α] (enc:α->List Value) (d:List α) (hk:∀ x,(enc x).length=2:=by exact fun _=>rfl):(Go.Sort.flatK enc 2 d.toArray).toList=d.flatMap enc:=by
 have e:(d.flatMap enc).length=d.length*2:=by
  induction d with
  | nil=>rfl
  | cons x d ih=>rw [List.flatMap_cons,qy,ih,hk,qbl];omega
 apply List.ext_getElem?;intro j;by_cases c:j<d.length*2
 ·have h1:=Go.Sort.get_flatK enc 2 d.toArray j (by simpa using c);have a:j / 2<d.length:=by omega
  have b:j % 2<(enc d[j / 2]).length:=by rw [hk];omega
  rw [k2q hk,qa a,qb,qa b,qal,qay (by simpa using c)];rw [getElem!_pos _ _ (by simpa using c)] at h1;rw [h1,getElem!_pos d.toArray (j / 2) (by simpa using a)];rw [List.getElem!_eq_getElem?_getD];simp [b]
 ·rw [qa5 (by simp;omega),qa5 (by omega)]
section
variable {P:Program} {o:Oper} {st:St} {id:Nat}
def SortR (cf:Tm->Tm->Int) (xs:List Tm) (e:TypeId) (id:Nat) (st:St) (c:AV) (h:List (Nat×AObj)) (i:List Nat):Prop:=
 c = .fz (.tup [])/\i=st.ids/\∃ ys:List Tm,ys.Perm xs/\ys.Pairwise (fun a b=>cf b a<0->False)/\h=(id, .frow e 2 (ys.map eTmR))::st.heap
theorem kaaf {f g:FuncId} {ts:Array TypeId} {X:Operand} {e:TypeId} {n:Nat} {xs:List Tm} {N:Nat} (cf:Tm->Tm->Int)
  (az:∀ (α:Type) [Inhabited α] (enc:α->List Value) (_:∀ x,(enc x).length=2) (_:∀ x,∀ v∈enc x,v.oneCell'=true) (c:α->α->Int) (_:Sort.SWO (ltOf c)) (blk off cap:Nat) (d:Array α) (w:World),CmpLays P g #[] enc 2 c blk off d.size w->Go.Sort.HoldsK enc 2 w blk off d->blk<w.heap.size->d.size<4611686018427387904 ->
   Calls P f #[.slice (some ⟨blk,off,none⟩) d.size cap, .func (.func g) #[] #[]] w fun e w'=>e = .returned (.tuple #[])/\∃ d' n os,Sort.PermIn 0 d.size d d'/\Sort.SortedIn (ltOf c) 0 d.size d'/\w'=sortWorldK enc 2 w blk off n d' os)
  (aj:∀ (p:Option Addr) (cap:Nat) (fv:Value) (w:World),Calls P f #[.slice p 0 cap,fv] w fun e w'=>e = .returned (.tuple #[])/\w'=w)
  (hO:Sort.SWO (ltOf cf)) (hc:∀ s t:Tm,s.size<=N->t.size<=N->@PCall ⟨true⟩ P g [eTm s,eTm t] (eI (cf s t)))
  (hf : ∃ fn, P.funcs[f]? = some fn /\ fn.body.isNone = false /\ (fn.name == "runtime.NumGoroutine") = false)
  (ho:o.op = .call { callee := .value (.func f),args:=#[X, .func g],argTypes:=ts }) (hx:st.eval X = .row id n) (Q:kaa st.heap id=some (.frow e 2 (xs.map eTmR))) (hn:n=xs.length) (hN:∀ t∈xs,t.size<=N) (ak:xs.length<4611686018427387904):
  khe P o st (SortR cf xs e id st):=by
 subst hn;intro F S0 N0 ψ S a w al;have l:=al.core;obtain ⟨be,⟨hl,am,cs,E,bf,hr⟩,a0⟩:=l.obj id _ Q;rw [qs] at hl E;have ab:=al.eval X;rw [hx] at ab;have hp:a.eval X=ψ.val id:=by
  generalize a.eval X=u at ab;cases ab with
  | row hK bg h1 hv=>exact hv hl.symm
 unfold kce;rw [kqs ho hf];rw [show (#[X,Operand.func g].map a.eval)=#[ψ.val id, .func (.func g) #[] #[]] by rw [List.map_toArray,qba,qba,List.map_nil,hp];rfl];by_cases hv:ψ.val id = .slice none 0 0
 ·have h0:xs=[]:=by
   rcases E.2 with ⟨_,h0⟩ | ⟨g,cap,cur,an,_⟩;exact qav h0
   ·rw [hv] at an;cases an
  subst h0;rw [hv];refine (aj none 0 _ w).mono ?_;rintro e' w' ⟨rfl,rfl⟩;have r:∀ i,kaa ((id,AObj.frow e 2 (([]:List Tm).map eTmR))::st.heap) i=kaa st.heap i:=fun i=>by
   rw [kab];split;rename_i hi;rw [<- hi,Q]
   ·rfl
  refine ⟨_,rfl,_,_,_,⟨rfl,rfl,[],List.Perm.nil,List.Pairwise.nil,rfl⟩,ψ,S,⟨fun i ob h=>l.obj i ob (by rw [<- r i];exact h),fun i i' ob ob' b h1 h2 I=>l.inj i i' ob ob' b (by rw [<- r i];exact h1) (by rw [<- r i'];exact h2) I,l.lt,l.s0,l.n0,l.fr⟩, .fz (.tup rfl (fun i v x h=>by simp at h)),Fr.refl,Ext.refl,fun _ h=>h,fun _ h=>h,fun _ _ _=>rfl⟩
 ·rcases E.2 with ⟨e0,_⟩ | ⟨blk,cap,cur,B,bh,R,J,a1,V,ac⟩;exact absurd e0 hv;have ao:blk<w.heap.size:=(qai.1 R).1;obtain ⟨d,ad,a2⟩:=k7c (S:=S) (w:=w) (N:=N) xs cs E.1 hN fun i t j v y ht hv hy=>hr i (eTmR t) j v y (by rw [ql,ht];rfl) hv hy;have H:d.length=xs.length:=by rw [<- ad,qs]
  cases xs with
  | nil=>
   -- no element
   rw [B];refine (aj _ cap _ w).mono ?_;rintro e' w' ⟨rfl,rfl⟩;have r:∀ i,kaa ((id,AObj.frow e 2 (([]:List Tm).map eTmR))::st.heap) i=kaa st.heap i:=fun i=>by
    rw [kab];split;rename_i hi;rw [<- hi,Q]
    ·rfl
   refine ⟨_,rfl,_,_,_,⟨rfl,rfl,[],List.Perm.nil,List.Pairwise.nil,rfl⟩,ψ,S,⟨fun i ob h=>l.obj i ob (by rw [<- r i];exact h),fun i i' ob ob' b h1 h2 I=>l.inj i i' ob ob' b (by rw [<- r i];exact h1) (by rw [<- r i'];exact h2) I,l.lt,l.s0,l.n0,l.fr⟩, .fz (.tup rfl (fun i v x h=>by simp at h)),Fr.refl,Ext.refl,fun _ h=>h,fun _ h=>h,fun _ _ _=>rfl⟩
  | cons x0 xs0=>
   obtain ⟨y0,bi⟩:∃ y0,y0∈d:=by
    cases d with
    | nil=>simp at ad
    | cons y d=>exact ⟨y,qt ..⟩
   letI:Inhabited (TC S w N):=⟨y0⟩
   have T:cur.toList.take (d.length*2)=d.flatMap (TC.enc (S:=S) (w:=w) (N:=N)):=(by rw [H,ac,a2]);have ae:=k3j (TC.enc (S:=S) (w:=w) (N:=N)) d;have hH:Go.Sort.HoldsK (TC.enc (S:=S) (w:=w) (N:=N)) 2 w blk 0 d.toArray:=(by intro j D;have D:j<d.length*2:=(by simpa using D);refine ⟨?_,by simp [World.frozen?,R]⟩;have h1:(cur.toList.take (d.length*2))[j]?=(Go.Sort.flatK (TC.enc (S:=S) (w:=w) (N:=N)) 2 d.toArray).toList[j]?:=(by rw [T,ae]);rw [List.getElem?_take_of_lt D,qal,qal,qay (xs:=Go.Sort.flatK (TC.enc (S:=S) (w:=w) (N:=N)) 2 d.toArray) (by simpa using D)] at h1;simp only [World.cell?,R,Nat.zero_add];simp only [Option.isSome_none,Bool.false_eq_true,if_false];rw [h1,getElem!_pos _ _ (by simpa using D)];rfl);have aq:¬ S blk:=fun h=>(a0 blk (.of (by rw [B];rfl))).1 h;have ar:CmpLays P g #[] (TC.enc (S:=S) (w:=w) (N:=N)) 2 (fun x y=>cf x.t y.t) blk 0 d.toArray.size w:=by
    intro m os dk U x y;have O:Same S w (sortWorldK (TC.enc (S:=S) (w:=w) (N:=N)) 2 w blk 0 m dk os):=fun b hb hl=>(by unfold sortWorldK;rw [Go.Sort.heap_grow_old _ _ (by rw [Go.Sort.size_putRowK];exact hl)];have:blk≠b:=fun e=>aq (e ▸ hb);simp [Go.Sort.putRowK,Sort.putRow,Sort.mapBlock,Sort.ahead,qbs,this]);have h:=(hc x.t y.t x.hN y.hN).2 S (sortWorldK (TC.enc (S:=S) (w:=w) (N:=N)) 2 w blk 0 m dk os) #[.agg x.enc.toArray, .agg y.enc.toArray] rfl (fun i v z hv hz=>by
     match i with
     | 0=>simp at hv hz;subst hv hz;exact x.rf.keep O
     | 1=>simp at hv hz;subst hv hz;exact y.rf.keep O
     | i+2=>simp at hz)
    refine Calls.mono (by simpa using h) ?_;rintro e' w' ⟨v,rfl,hv,hg⟩;rw [hv.atom_eq];refine ⟨rfl,w'.drawn - (sortWorldK (TC.enc (S:=S) (w:=w) (N:=N)) 2 w blk 0 m dk os).drawn,w'.heap.extract (sortWorldK (TC.enc (S:=S) (w:=w) (N:=N)) 2 w blk 0 m dk os).heap.size w'.heap.size,?_⟩;generalize sortWorldK (TC.enc (S:=S) (w:=w) (N:=N)) 2 w blk 0 m dk os=W at *
    have a3:=@Below.drawn ⟨true⟩ _ _ _ hg rfl;obtain ⟨af,tp',dr',os',out'⟩:=w';obtain ⟨hp,tp,dr,os,out⟩:=W;have e1:=hg.os;have e2:=hg.tape;have e3:=hg.output;have e4:=hg.size;have e5:=hg.block;simp only at e1 e2 e3 e4 e5 a3;cases e1;cases e2;cases e3;show World.mk _ _ _ _ _=World.mk (hp++af.extract hp.size af.size) _ (dr+(dr' - dr)) _ _;rw [show dr+(dr' - dr)=dr' by omega];congr 1;apply Array.ext_getElem?;intro k;by_cases hk:k<hp.size;rw [qax hk,e5 k hk]
    ·rw [Array.getElem?_append_right (by omega),Array.getElem?_extract];by_cases bj:k<af.size;rw [qr (by omega)];congr 1;omega
     ·rw [qj (by omega),Array.getElem?_eq_none (by omega)]
   have a4:Sort.SWO (ltOf fun x y:TC S w N=>cf x.t y.t):=⟨fun x=>hO.irrefl x.t,fun x y z=>hO.trans x.t y.t z.t,fun x y z=>hO.ntrans x.t y.t z.t⟩;have K:=az (TC S w N) TC.enc (fun _=>rfl) (fun x=>x.one) (fun x y=>cf x.t y.t) a4 blk 0 cap d.toArray w ar hH ao (by simpa [H] using ak);rw [B];rw [show d.toArray.size=(x0::xs0).length by simpa using H] at K;refine K.mono ?_;rintro e' w' ⟨rfl,d',q,os,ag,L,rfl⟩;obtain ⟨p1,_,p3⟩:=ag;have Y:d'.size=d.length:=(by simpa using p1);have a5:d'.toList.Perm d:=(by have h1:(d'.extract 0 (x0::xs0).length)=d':=(by rw [<- H,<- Y];simp);have h2:(d.toArray.extract 0 (x0::xs0).length)=d.toArray:=(by rw [<- H];simp);rw [h1,h2] at p3;exact p3);obtain ⟨dl,Z⟩:∃ dl,dl=d'.toList:=⟨_,rfl⟩;have au:d'=dl.toArray:=(by rw [Z]);subst au;clear Z;have A:dl.length=(x0::xs0).length:=(by rw [<- H];simpa using Y);have G:=k3j (TC.enc (S:=S) (w:=w) (N:=N)) dl;have a6:(dl.map TC.t).Perm (x0::xs0):=(by rw [<- ad];exact (by simpa using a5:dl.Perm d).map _);have a7:(dl.map TC.t).Pairwise (fun a b=>cf b a<0->False):=(by rw [List.pairwise_map,List.pairwise_iff_getElem];intro i j hi D a8 av;have:=L i j (qaq _) a8 (by rw [<- A];exact D);rw [getElem!_pos dl.toArray j (by simpa using D),getElem!_pos dl.toArray i (by simpa using hi)] at this;simp only [ltOf,List.getElem_toArray,decide_eq_false_iff_not] at this;exact this av);obtain ⟨W,O⟩:∃ W,W=sortWorldK (TC.enc (S:=S) (w:=w) (N:=N)) 2 w blk 0 q dl.toArray os:=⟨_,rfl⟩;have M:w.heap.size<=W.heap.size:=(by rw [O];exact size_sortWorldK_c (TC.enc (S:=S) (w:=w) (N:=N)) 2 w blk 0 q dl.toArray os);have aw:∀ k,k<w.heap.size->k≠blk->W.heap[k]?=w.heap[k]?:=fun k hk I=>(by rw [O];unfold sortWorldK;rw [Go.Sort.heap_grow_old _ _ (by rw [Go.Sort.size_putRowK];exact hk)];simp [Go.Sort.putRowK,Sort.putRow,Sort.mapBlock,Sort.ahead,qbs,Ne.symm I]);have a9:W.heap[blk]?=some (.cells (Sort.putCells _root_.id 0 (Go.Sort.flatK (TC.enc (S:=S) (w:=w) (N:=N)) 2 dl.toArray) cur) e (0,0)):=(by rw [O];unfold sortWorldK;rw [Go.Sort.heap_grow_old _ _ (by rw [Go.Sort.size_putRowK];exact ao)];simp [Go.Sort.putRowK,Sort.putRow,Sort.mapBlock,Sort.ahead,qbs,R,Sort.onCells]);have bk:(Go.Sort.flatK (TC.enc (S:=S) (w:=w) (N:=N)) 2 dl.toArray).size<=cur.size:=(by rw [Go.Sort.size_flatK,V];have:dl.toArray.size=dl.length:=(by simp);rw [this,A];exact qan 2 J);have ah:W.ownsRow 0 e 2 (ψ.val id) (x0::xs0).length (dl.flatMap (TC.enc (S:=S) (w:=w) (N:=N))):=by
    refine ⟨?_, .inr ⟨blk,cap,_,B,qaq _,a9,J,a1,by simp [Sort.putCells,V],?_⟩⟩;rw [<- G];simp [A]
    ·rw [<- G];apply List.ext_getElem?;intro j;have ba:(Go.Sort.flatK (TC.enc (S:=S) (w:=w) (N:=N)) 2 dl.toArray).size=(x0::xs0).length*2:=(by rw [Go.Sort.size_flatK];simp [A]);by_cases D:j<(x0::xs0).length*2;rw [List.getElem?_take_of_lt D,qal,qal];have bb:j<cur.size:=(by omega);have ai:j<(Go.Sort.flatK (TC.enc (S:=S) (w:=w) (N:=N)) 2 dl.toArray).size:=(by omega);simp only [Sort.putCells,Array.getElem?_mapIdx,qay bb,qa1,qay ai,qaq,true_and,Nat.zero_add,qr ai,Nat.sub_zero,_root_.id];rw [getElem!_pos (Go.Sort.flatK (TC.enc (S:=S) (w:=w) (N:=N)) 2 dl.toArray) j ai]
     ·rw [List.getElem?_take_eq_none (by omega),qa5 (by rw [qac,ba];omega)]
   rw [<- O];have ax:∀ k,k<w.heap.size->¬ Blk (ψ.val id) k->W.heap[k]?=w.heap[k]?:=fun k bc hk=>aw k bc fun e=>hk (.of (by rw [B,e];rfl));have aa:ψ.set id (x0::xs0).length (ψ.val id)=ψ:=by
    unfold Env.set;congr 1
    ·funext j;split;rename_i D;rw [D,hl]
     ·rfl
    ·funext j;split;rename_i D;rw [D]
     ·rfl
   have ay:Same S w W:=fun k hk bd=>aw k bd fun e=>aq (e ▸ hk);obtain ⟨c1,c2,c3⟩:=l.upd (n:=(x0::xs0).length) (v:=ψ.val id) (w':=W) (ob' := .frow e 2 ((dl.map TC.t).map eTmR)) Q M ax (.inr ⟨hl,rfl⟩) (fun b hb => .inl hb) (by
    rw [aa];refine ⟨by rw [hl];simp [A],am,dl.flatMap (TC.enc (S:=S) (w:=w) (N:=N)),by rw [qs,qs,A];exact ah,fun z C=>?_,fun k z j v y C hv hy=>?_⟩;obtain ⟨t,ht,rfl⟩:=qap.1 C;rw [kmd];exact ⟨rfl,fun y hy=>by have hy:y∈[eI t.rule,eL 2 eTmR t.args]:=hy;simp only [qaa,List.not_mem_nil,or_false] at hy;rcases hy with rfl | rfl <;> rfl⟩
    ·rw [ql,ql] at C;cases U:dl[k]? with
     | none=>rw [U] at C;simp at C
     | some x=>
      rw [U] at C;simp only [qa1,qc] at C;subst C;rw [kmd] at hy;have hy:[eI x.t.rule,eL 2 eTmR x.t.args][j]?=some y:=hy;have D:j<2:=(qd.1 hy).1;rw [k2q (fun _=>rfl),show (k*2+j) / 2=k by omega,U,qb,show (k*2+j) % 2=j by omega] at hv
      match j,D with
      | 0,_=>simp [TC.enc] at hv hy;subst hv hy;exact x.ra.keep ay
      | 1,_=>simp [TC.enc] at hv hy;subst hv hy;exact x.rb.keep ay)
   rw [aa] at c1;exact ⟨_,rfl,_,_,_,⟨rfl,rfl,dl.map TC.t,a6,a7,rfl⟩,ψ,S,c1, .fz (.tup rfl (fun i v x h=>by simp at h)),⟨by rw [O];rfl,by rw [O];rfl,by rw [O];rfl,M,c3,no0⟩,Ext.refl,fun _ h=>h,fun _ h=>h,c2⟩
end
open Go Go.Proofs Go.Proofs.Tryz
open Go.Shelf Go.Proofs.Tryz
def kzz:Go.Shelf.Ren:=⟨fun | 6=>28 | 15=>61 | 14=>60 | 28=>101 | 29=>102 | 20=>93 | 21=>94 | 22=>95 | 23=>96 | 24=>97 | 25=>98 | 26=>99 | 27=>100 | 46=>131 | 47=>132 | 48=>133 | 49=>134 | 50=>135 | 57=>161 | n=>n,fun | 22=>40 | 24=>44 | 25=>54 | 3=>3 | 39=>105 | 0=>0 | 53=>136 | 55=>138 | 4=>4 | 46=>129 | 45=>128 | 50=>133 | 5=>5 | 9=>9 | 66=>168 | 70=>172 | 76=>203 | 77=>204 | n=>n,fun | n=>n⟩
theorem k03:Go.Proofs.SlLaysF0.n6 prog kzz:={
 mixed:=by kernel_rfl
 f6:=⟨Tryz.f28.name,by decide,func28.trans (qa2 some (by kernel_rfl))⟩
 f14:=⟨Tryz.f60.name,by decide,func60.trans (qa2 some (by kernel_rfl))⟩
 f15:=func61.trans (qa2 some (by kernel_rfl))
 f20:=⟨Tryz.f93.name,by decide,func93.trans (qa2 some (by kernel_rfl))⟩
 f21:=⟨Tryz.f94.name,by decide,func94.trans (qa2 some (by kernel_rfl))⟩
 f22:=⟨Tryz.f95.name,by decide,func95.trans (qa2 some (by kernel_rfl))⟩
 f23:=⟨Tryz.f96.name,by decide,func96.trans (qa2 some (by kernel_rfl))⟩
 f24:=⟨Tryz.f97.name,by decide,func97.trans (qa2 some (by kernel_rfl))⟩
 f25:=⟨Tryz.f98.name,by decide,func98.trans (qa2 some (by kernel_rfl))⟩
 f26:=⟨Tryz.f99.name,by decide,func99.trans (qa2 some (by kernel_rfl))⟩
 f27:=⟨Tryz.f100.name,by decide,func100.trans (qa2 some (by kernel_rfl))⟩
 f28:=func101.trans (qa2 some (by kernel_rfl))
 f29:=func102.trans (qa2 some (by kernel_rfl))
 f46:=⟨Tryz.f131.name,by decide,func131.trans (qa2 some (by kernel_rfl))⟩
 f47:=func132.trans (qa2 some (by kernel_rfl))
 f48:=func133.trans (qa2 some (by kernel_rfl))
 f49:=⟨Tryz.f134.name,by decide,func134.trans (qa2 some (by kernel_rfl))⟩
 f50:=⟨Tryz.f135.name,by decide,func135.trans (qa2 some (by kernel_rfl))⟩
 f57:=⟨Tryz.f161.name,by decide,func161.trans (qa2 some (by kernel_rfl))⟩
 t0:=underlying0
 a0:=isAgg0
 z0:=sizeOf0
 v0:=zeroValue0
 t3:=underlying3
 a3:=isAgg3
 z3:=sizeOf3
 v3:=zeroValue3
 t4:=underlying4
 a4:=isAgg4
 z4:=sizeOf4
 v4:=zeroValue4
 t5:=underlying5
 a5:=isAgg5
 z5:=sizeOf5
 v5:=zeroValue5
 t9:=underlying9
 a9:=isAgg9
 z9:=sizeOf9
 v9:=zeroValue9
 t22:=underlying40
 a22:=isAgg40
 z22:=sizeOf40
 v22:=zeroValue40
 t25:=underlying54
 a25:=isAgg54
 z25:=sizeOf54
 v25:=zeroValue54
 t39:=underlying105
 a39:=isAgg105
 z39:=sizeOf105
 v39:=zeroValue105
 t45:=underlying128
 a45:=isAgg128
 z45:=sizeOf128
 v45:=zeroValue128
 t46:=underlying129
 a46:=isAgg129
 z46:=sizeOf129
 v46:=zeroValue129
 t50:=underlying133
 a50:=isAgg133
 z50:=sizeOf133
 v50:=zeroValue133
 t53:=underlying136
 a53:=isAgg136
 z53:=sizeOf136
 v53:=zeroValue136
 t55:=underlying138
 a55:=isAgg138
 z55:=sizeOf138
 v55:=zeroValue138
 t66:=underlying168
 a66:=isAgg168
 z66:=sizeOf168
 v66:=zeroValue168
 t70:=underlying172
 a70:=isAgg172
 z70:=sizeOf172
 v70:=zeroValue172
 t76:=underlying203
 a76:=isAgg203
 z76:=sizeOf203
 v76:=zeroValue203
 t77:=underlying204
 a77:=isAgg204
 z77:=sizeOf204
 v77:=zeroValue204 }
theorem cmpC (s t:Tm) (hs:s.size<=1000) (ht:t.size<=1000):@PCall ⟨true⟩ prog 29 [eTm s,eTm t] (eI (TV.cmpT s t)):=@knw ⟨true⟩ s t _ (TV.cmp_prog s t hs ht)
theorem k68:Sort.SWO (ltOf TV.cmpT):=by
 have an:=fun x y=>TV.cmpT_ord.anti x y trivial;have tr:=fun x y z=>TV.cmpT_ord.trans x y z trivial trivial trivial;refine ⟨fun x=>?_,fun x y z h1 a=>?_,fun x y z h1 a=>?_⟩;have:=an x x;simp only [ltOf,decide_eq_false_iff_not];omega
 ·simp only [ltOf,qbd] at h1 a ⊢;have b:=tr x y z (by omega) (by omega);have c:TV.cmpT x z≠0:=fun h=>by have e:=TV.cmpT_eq0.1 h;subst e;have:=an x y;omega
  omega
 ·simp only [ltOf,decide_eq_false_iff_not] at h1 a ⊢;have e1:=an x y;have e2:=an y z;have e3:=an x z;have:=tr z y x (by omega) (by omega);omega
def kfm (xs:List Tm):List Tm:=xs.mergeSort fun x y=>decide (TV.cmpT x y<=0)
theorem ky1 {xs ys:List Tm} (h:ys.Perm xs) (hs:ys.Pairwise fun a b=>TV.cmpT b a<0->False):ys=kfm xs:=by
 have an:=fun x y=>TV.cmpT_ord.anti x y trivial;have tr:=fun x y z=>TV.cmpT_ord.trans x y z trivial trivial trivial;refine List.Perm.eq_of_pairwise (le:=fun x y=>TV.cmpT x y<=0) ?_ ?_ ?_ (h.trans (List.mergeSort_perm _ _).symm);intro a b _ _ h1 d;have:=an a b;exact TV.cmpT_eq0.1 (by omega)
 ·exact hs.imp fun {a b} h=>by have:=an a b;have:¬ TV.cmpT b a<0:=h;omega
 ·refine (List.pairwise_mergeSort (le:=fun x y=>decide (TV.cmpT x y<=0)) (fun a b c h1 d=>?_) (fun a b=>?_) xs).imp fun {a b} h=>by simpa using h
  simp only [qbd] at h1 d ⊢;exact tr a b c h1 d
  ·have:=an a b;simp only [qbt,qbd];omega
def km9 (xs:List Tm):Option (List Tm):=bif Nat.blt xs.length 4611686018427387904 && xs.all (fun t=>Nat.ble t.size 1000) then some (kfm xs) else none
theorem ksc {xs v:List Tm} (h:km9 xs=some v):xs.length<4611686018427387904/\(∀ t∈xs,t.size<=1000)/\v=kfm xs:=by
 unfold km9 at h;cases hc:(Nat.blt xs.length 4611686018427387904 && xs.all (fun t=>Nat.ble t.size 1000)) with
 | false=>rw [hc] at h;cases h
 | true=>
  rw [hc] at h;injection h with h;rw [qk] at hc;exact ⟨qh hc.1,fun t ht=>qh (qq.1 hc.2 t ht),h.symm⟩
theorem k2b {xs v:List Tm} (h:km9 xs=some v):xs.length=v.length:=by rw [(ksc h).2.2,kfm,List.length_mergeSort]
theorem kabo:∀ args w,(callFunc 29 args).run prog w = .ok (.enter 29 args) w:=enters_of func29 (by kernel_rfl) rfl
section
variable {st:St} {o:Oper} {id:Nat}
theorem k61 (ts:Array TypeId) (X:Operand) (g:Nat) (e:TypeId) (n:Nat) (xs:List Tm) {v:List Tm} (h:km9 xs=some v) (l:o.op = .call { callee := .value (.func 28),args:=#[X, .func 29],argTypes:=ts }) (hx:st.eval X = .row id n) (i:kaa st.heap id=some (.frow e 2 (xs.map eTmR))) (hn:n=xs.length):
  StepA prog o st (.fz (.tup [])) ((id, .frow e 2 (v.map eTmR))::st.heap) st.ids:=by
 obtain ⟨h1,m,rfl⟩:=ksc h;have hd:=kaaf (o:=o) (st:=st) (id:=id) (n:=n) (xs:=xs) (N:=1000) TV.cmpT
  (fun α _ enc hk h1 c q blk off cap d w b r f j=>AnyQ.slices_SortFunc k03 2 (fun w=>by kernel_rfl) (fun w=>by kernel_rfl) enc hk h1 c q 29 #[] blk off cap d w kabo b r f j)
  (fun p cap fv w=>AnyF.slices_SortFunc_none k03 p cap fv w) k68 cmpC
  ⟨_,func28,by kernel_rfl,by kernel_rfl⟩ l hx i hn m h1
 intro F S0 N0 ψ S a w hs;refine kif ?_ (hd F S0 N0 ψ S a w hs);rintro u w' ⟨c,k,ids',⟨rfl,rfl,ys,hp,s,rfl⟩,hr⟩;rw [<- ky1 hp s];exact hr
end
end Go.Proofs.YtjnjipmjkkhdpaaGreatDoor
