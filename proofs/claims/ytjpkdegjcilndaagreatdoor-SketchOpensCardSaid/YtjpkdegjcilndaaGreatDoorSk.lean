import Derived.Test.YtjpkdegjcilndaaGreatDoorHd
import Derived.Test.YtjpkdegjcilndaaGreatDoorOpr
import Derived.Test.YtjpkdegjcilndaaGreatDoorOpr
import Derived.Test.YtjpkdegjcilndaaGreatDoorVE
import Derived.Test.YtjpkdegjcilndaaGreatDoorTT
import Derived.Shelf.SlSortCmp.NoneTotal
import Derived.Sort.OwnSortedInts
import Derived.Test.YtjpkdegjcilndaaGreatDoorHd
import Derived.Shelf.SlLaysF0
import Derived.Ground.SlsfProg
import Derived.Test.YtjpkdegjcilndaaGreatDoorProg
set_option linter.all false
namespace Go.Proofs.YtjpkdegjcilndaaGreatDoor
open Go Go.RowKit
def kf9 (a b:BA):Bool:=Op.bytesLess a.toList b.toList
mutual
def cmpV:Va->Va->Int
 | .mk t n s l, .mk t' n' s' l'=>
  if t<t' then -1 else if t'<t then 1 else if n<n' then -1 else if n'<n then 1 else if kf9 s s'=true then -1 else if kf9 s' s=true then 1 else khi l l'
def khi:List Va->List Va->Int
 | [],[]=>0
 | [],_::_ => -1
 | _::_,[]=>1
 | x::l,y::m=>if cmpV x y≠0 then cmpV x y else khi l m
end
def eqV (a b:Va):Bool:=decide (cmpV a b=0)
theorem kn2:∀ l:List UInt8,Op.bytesLess l l=false
 | []=>rfl
 | x::l=>by simp [Op.bytesLess,kn2 l]
theorem ku1:∀ l m:List UInt8,Op.bytesLess l m=false->Op.bytesLess m l=false->l=m
 | [],[],_,_=>rfl
 | [],y::m,h,_=>by simp [Op.bytesLess] at h
 | x::l,[],_,h=>by simp [Op.bytesLess] at h
 | x::l,y::m,h,a=>by
  simp only [Op.bytesLess,Bool.or_eq_false_iff,Bool.and_eq_false_iff,decide_eq_false_iff_not,qar] at h a;have b:x=y:=by have h1:=h.1;have c:=a.1;exact UInt8.le_antisymm (UInt8.not_lt.1 c) (UInt8.not_lt.1 h1)
  subst b;rw [ku1 l m (h.2.resolve_left fun h=>h rfl) (a.2.resolve_left fun h=>h rfl)]
theorem kwf {a b:BA} (h:a.toList=b.toList):a=b:=by rw [ByteArray.toList_eq,ByteArray.toList_eq] at h;obtain ⟨⟨a⟩⟩:=a;obtain ⟨⟨b⟩⟩:=b;simp at h;rw [h]
theorem k18 (a:BA):kf9 a a=false:=kn2 _
theorem k8h {a b:BA} (h:kf9 a b=false) (c:kf9 b a=false):a=b:=kwf (ku1 _ _ h c)
theorem kabh (l:List Va) (h:∀ x∈l,cmpV x x=0):khi l l=0:=by
 induction l with
 | nil=>rfl
 | cons x l ih=>
  rw [khi,qi (by simp [h x (by simp)])];exact ih fun y hy=>h y (by simp [hy])
theorem kaed (v:Va):cmpV v v=0:=by
 induction v using Va.ind with
 | h t n s l ih=>
  rw [cmpV,qi (by omega),qi (by omega),qi (by omega),qi (by omega),k18];simp only [Bool.false_eq_true,if_false];exact kabh l ih
theorem k8i:∀ (l m:List Va),(∀ x∈l,∀ y,cmpV x y=0->x=y)->khi l m=0->l=m
 | [],[],_,_=>rfl
 | [],_::_,_,h=>by simp [khi] at h
 | _::_,[],_,h=>by simp [khi] at h
 | x::l,y::m,ih,h=>by
  rw [khi] at h;split at h;rename_i h1;exact absurd h h1
  ·rename_i h1;have h1:cmpV x y=0:=(by omega);rw [ih x (by simp) y h1,k8i l m (fun z a=>ih z (by simp [a])) h]
theorem kajw (v:Va):∀ u,cmpV v u=0->v=u:=by
 induction v using Va.ind with
 | h t n s l ih=>
  rintro ⟨t',n',s',l'⟩ h;rw [cmpV] at h
  repeat' split at h
  all_goals try (exfalso;omega)
  rename_i h1 c d e a b;obtain rfl:t=t':=by omega
  obtain rfl:n=n':=by omega
  obtain rfl:s=s':=k8h (by simpa using a) (by simpa using b);rw [k8i l l' ih h]
theorem kaf2 (v:Va):eqV v v=true:=by unfold eqV;rw [kaed];rfl
theorem ks3:fuel=18446744073709551615+1:=rfl
theorem ka7 {n:Nat} (h:n<18446744073709551616):n<fuel:=h
theorem kc3 {n:Int} (h: -9223372036854775808<=n:=by omega) (a:n<=9223372036854775807:=by omega):w64 n=n:=by
 unfold w64 IntKind.wrap IntKind.signed IntKind.bits;simp only;rw [show (2:Int) ^ 64=18446744073709551616 from rfl];by_cases h0:0<=n;have:n % 18446744073709551616=n:=Int.emod_eq_of_lt h0 (by omega);simp [this];omega
 ·have:n % 18446744073709551616=n+18446744073709551616:=by rw [<- Int.add_emod_right,Int.emod_eq_of_lt (by omega) (by omega)]
  simp [this];omega
theorem kaj (n:Nat) (h:n<=9223372036854775806:=by omega):w64 ((n:Int)+1)=((n+1:Nat):Int):=by rw [kc3];omega
theorem kag {α:Type} (xs:List α) (n:Nat):idx xs (n:Int)=xs[n]?:=by unfold idx;rw [qo (by omega)];simp
theorem kai8 (s:BA) (n:Nat):byt s (n:Int)=(s[n]?).map fun c=>(c.toNat:Int):=by unfold byt;rw [qo (by omega)];simp
theorem kfe {α:Type} {b:Nat} {xs ys:List α} (h:(xs.length+ys.length)*(b+1)<=140737488355328):app b xs ys=some (xs++ys):=by unfold app;rw [qo h]
section
variable {σ β:Type} {step:σ->Option (σ ⊕ β)}
theorem k8k (n:Nat) (S:Nat->σ) (out:Nat->β) (hs:∀ i,i<n->(step (S i)=some (.inl (S (i+1)))/\out i=out (i+1))\/step (S i)=some (.inr (out i))) (a:step (S n)=some (.inr (out n))):
  ∀ (k i:Nat),i<=n->n - i<k->kab step k (S i)=some (out i)
 | 0,i,_,h=>by omega
 | k+1,i,hi,hk=>by
  rw [kab];by_cases h:i=n;subst h;rw [a]
  ·rcases hs i (by omega) with ⟨h1,b⟩ | h1;rw [h1,b];exact k8k n S out hs a k (i+1) (by omega) (by omega)
   ·rw [h1]
theorem kkf (step:σ->Option (σ ⊕ β)) (n:Nat) (S:Nat->σ) (out:Nat->β) (hs:∀ i,i<n->(step (S i)=some (.inl (S (i+1)))/\out i=out (i+1))\/step (S i)=some (.inr (out i))) (a:step (S n)=some (.inr (out n))) (hn:n<18446744073709551616:=by omega):
  kab step fuel (S 0)=some (out 0):=k8k n S out hs a fuel 0 (qaj _) (ka7 (by omega))
theorem kbs (step:σ->Option (σ ⊕ β)) (n:Nat) (S:Nat->σ) (b:β) (hs:∀ i,i<n->step (S i)=some (.inl (S (i+1)))) (a:step (S n)=some (.inr b)) (hn:n<18446744073709551616:=by omega):kab step fuel (S 0)=some b:=
 kkf _ n S (fun _=>b) (fun i hi => .inl ⟨hs i hi,rfl⟩) a (hn:=hn)
theorem kp8 (step:σ->Option (σ ⊕ β)) (step':σ->Option (σ ⊕ β)) (n:Nat) (S:Nat->σ) (hs:∀ i,i<n->(step (S i)=some (.inl (S (i+1)))/\step' (S i)=some (.inl (S (i+1))))\/∃ b,step (S i)=some (.inr b)/\step' (S i)=some (.inr b)) (b:β) (e:step (S n)=some (.inr b)) (a:step' (S n)=some (.inr b)) (hn:n<18446744073709551616:=by omega):∃ r,kab step fuel (S 0)=some r/\kab step' fuel (S 0)=some r:=by
 have key:∀ (k i:Nat),i<=n->n - i<k->∃ r,kab step k (S i)=some r/\kab step' k (S i)=some r:=by
  intro k
  induction k with
  | zero=>intro i _ h;omega
  | succ k ih=>
   intro i hi hk;rw [kab,kab];by_cases h:i=n;subst h;rw [e,a];exact ⟨b,rfl,rfl⟩
   ·rcases hs i (by omega) with ⟨h1,d⟩ | ⟨c,h1,d⟩;rw [h1,d];exact ih (i+1) (by omega) (by omega)
    ·rw [h1,d];exact ⟨c,rfl,rfl⟩
 exact key fuel 0 (qaj _) (ka7 (by omega))
theorem kvd {α γ:Type} (step:Int×List γ->Option ((Int×List γ) ⊕ List γ)) (xs:List α) (f:α->γ) (base:List γ) (hs:∀ (i:Nat) (x:α),xs[i]?=some x->step ((i:Int),base++(xs.take i).map f)=some (.inl (((i+1:Nat):Int),base++(xs.take i).map f++[f x]))) (a:step ((xs.length:Int),base++xs.map f)=some (.inr (base++xs.map f))) (hn:xs.length<18446744073709551616:=by omega):kab step fuel (0,base)=some (base++xs.map f):=by
 have:=kbs step xs.length (fun i=>((i:Int),base++(xs.take i).map f)) (base++xs.map f) (fun i hi=>by
  have h1:xs[i]?=some xs[i]:=qb hi;rw [hs i _ h1];have b:base++(xs.take (i+1)).map f=base++(xs.take i).map f++[f xs[i]]:=by rw [List.take_add_one,h1,qb0,qbh];rfl
  rw [b]) (by simpa using a) (hn:=hn)
 simpa using this
end
theorem kkl {σ β σ' β':Type} {step:σ->Option (σ ⊕ β)} {step':σ'->Option (σ' ⊕ β')} (n:Nat) (hn:n<18446744073709551616) (S:Nat->σ) (S':Nat->σ') (Q:β->β'->Prop)
  (hs:∀ i,i<n->(step (S i)=some (.inl (S (i+1)))/\step' (S' i)=some (.inl (S' (i+1))))\/∃ b b',step (S i)=some (.inr b)/\step' (S' i)=some (.inr b')/\Q b b')
  (d:∃ b b',step (S n)=some (.inr b)/\step' (S' n)=some (.inr b')/\Q b b'):∃ r r',kab step fuel (S 0)=some r/\kab step' fuel (S' 0)=some r'/\Q r r':=by
 have key:∀ (k i:Nat),i<=n->n - i<k->∃ r r',kab step k (S i)=some r/\kab step' k (S' i)=some r'/\Q r r':=by
  intro k
  induction k with
  | zero=>intro i _ h;omega
  | succ k ih=>
   intro i hi hk;rw [kab,kab];by_cases h:i=n;subst h;obtain ⟨b,b',h1,a,c⟩:=d;rw [h1,a];exact ⟨b,b',rfl,rfl,c⟩
   ·rcases hs i (by omega) with ⟨h1,a⟩ | ⟨b,b',h1,a,c⟩;rw [h1,a];exact ih (i+1) (by omega) (by omega)
    ·rw [h1,a];exact ⟨b,b',rfl,rfl,c⟩
 exact key fuel 0 (qaj _) (ka7 (by omega))
def runL {σ α β:Type} (f:σ->α->Option (σ ⊕ β)):List α->σ->Option (σ ⊕ β)
 | [],s=>some (.inl s)
 | x::l,s=>Option.bind (f s x) (Sum.elim (fun s'=>runL f l s') (fun b=>some (.inr b)))
theorem kaga {σ α β τ γ:Type} (step:τ->Option (τ ⊕ γ)) (xs:List α) (f:σ->α->Option (σ ⊕ β)) (mk:σ->Int->τ) (out:σ ⊕ β->γ) (c:xs.length<=9223372036854775807) (h:∀ (i:Nat) (x:α) (s:σ),xs[i]?=some x->step (mk s (i:Int))=(f s x).map (Sum.elim (fun s' => .inl (mk s' ((i+1:Nat):Int))) (fun b => .inr (out (.inr b))))) (d:∀ s,step (mk s (xs.length:Int))=some (.inr (out (.inl s)))) (s:σ):kab step fuel (mk s 0)=(runL f xs s).map out:=by
 have key:∀ (k i:Nat) (s:σ),i<=xs.length->xs.length - i<k->kab step k (mk s (i:Int))=(runL f (xs.drop i) s).map out:=by
  intro k
  induction k with
  | zero=>intro i s _ h;omega
  | succ k ih=>
   intro i s hi hk;rw [kab];by_cases hn:i=xs.length;subst hn;rw [d,qbe (qx _)];rfl
   ·have a:i<xs.length:=(by omega);rw [h i xs[i] s (qb a),qan a,runL];cases f s xs[i] with
    | none=>rfl
    | some r=>
     cases r with
     | inl s'=>
      simp only [qa6,qaf,qa];exact ih (i+1) s' (by omega) (by omega)
     | inr b=>rfl
 have:=key fuel 0 s (qaj _) (ka7 (by omega));simpa using this
theorem kfq {n i:Nat} (h:i<n):decide ((i:Int)<(n:Int))=true:=qj (by omega)
theorem kfm (n:Nat):decide ((n:Int)<(n:Int))=false:=qf (by omega)
theorem kee {n m:Nat} (h:n<m) (hm:m<=9223372036854775807):w64 ((n:Int)+1)=((n+1:Nat):Int):=kaj _
theorem kho {α:Type} {xs:List α} {i:Nat} {x:α} (h:xs[i]?=some x):i<xs.length:=(qg.1 h).1
theorem kr3 {α σ τ:Type} {step:τ->Option (τ ⊕ σ)} (xs:List α) (r:σ->α->Option σ) (mk:Int->σ->τ) (a:xs.length<=9223372036854775807)
  (hs:∀ (i:Nat) (x:α) (s:σ),xs[i]?=some x->step (mk (i:Int) s)=(r s x).map fun v => .inl (mk ((i+1:Nat):Int) v)) (c:∀ s,step (mk (xs.length:Int) s)=some (.inr s)) (s:σ):kab step fuel (mk 0 s)=xs.foldlM r s:=by
 have h:=kaga step xs (fun s x=>(r s x).map (.inl:σ->σ ⊕ Empty)) (fun s i=>mk i s) (Sum.elim id (fun b:Empty=>nomatch b)) a (fun i x s hx=>by rw [hs i x s hx];cases r s x <;> rfl) (fun s=>c s) s;rw [h];clear h hs c
 induction xs generalizing s with
 | nil=>rfl
 | cons x xs ih=>
  rw [runL,qbw];cases hr:r s x with
  | none=>rfl
  | some v=>
   simp only [qa6,qa,qaf];exact ih (by simp only [qy] at a;omega) v
theorem kxg {α:Type} (b:Nat) (z:α) (n:Nat) (h:(b+1)*n<=281474976710656:=by omega):mkL b z (n:Int)=some (List.replicate n z):=by
 unfold mkL;have c:b*n+n<=281474976710656:=by rw [qbc,Nat.one_mul] at h;exact h
 have a:(b:Int)*(n:Int)=((b*n:Nat):Int):=(Int.natCast_mul b n).symm;rw [qo ⟨by omega,by rw [a];omega,by omega⟩];simp
set_option maxRecDepth 100000
def Ev {α:Type} (x:Option α) (P:α->Prop):Prop:=∃ v,x=some v/\P v
theorem Ev.eq {α:Type} {x:Option α} {v:α} (h:Ev x (·=v)):x=some v:=by obtain ⟨u,h1,rfl⟩:=h;exact h1
theorem Ev.mono {α:Type} {x:Option α} {P Q:α->Prop} (h:Ev x P) (hp:∀ v,P v->Q v):Ev x Q:=by obtain ⟨v,h1,a⟩:=h;exact ⟨v,h1,hp v a⟩
theorem k9w {α β:Type} {x:Option α} {k:α->Option β} {P:β->Prop} (h:Ev x fun v=>Ev (k v) P):Ev (Option.bind x k) P:=by obtain ⟨v,rfl,u,h1,a⟩:=h;exact ⟨u,h1,a⟩
theorem kq7 {α:Type} {c:Bool} {x y:Option α} {P:α->Prop} (h1:c=true->Ev x P) (h0:c=false->Ev y P):Ev (bif c then x else y) P:=by
 cases c;exact h0 rfl
 ·exact h1 rfl
theorem kam2 {α β γ:Type} {s:α ⊕ β} {f:α->Option γ} {g:β->Option γ} {P:γ->Prop} (h1:∀ a,s = .inl a->Ev (f a) P) (c:∀ b,s = .inr b->Ev (g b) P):Ev (Sum.elim f g s) P:=by
 cases s with
 | inl a=>exact h1 a rfl
 | inr b=>exact c b rfl
theorem kx1 {σ β:Type} {step:σ->Option (σ ⊕ β)} {s0:σ} {Q:β->Prop} (n:Nat) (I:Nat->σ->Prop) (hn:n<18446744073709551616) (h0:I 0 s0)
  (hs:∀ i s,i<n->I i s->Ev (step s) (Sum.elim (I (i+1)) Q)) (d:∀ s,I n s->Ev (step s) fun r=>∃ b,r = .inr b/\Q b):Ev (kab step fuel s0) Q:=by
 have key:∀ (k m N:Nat) (s:σ),m+k=n->k<N->I m s->Ev (kab step N s) Q:=by
  intro k
  induction k with
  | zero=>
   intro m N s hm hN c;obtain ⟨N,rfl⟩:∃ j,N=j+1:=⟨N - 1,by omega⟩;obtain rfl:m=n:=(by omega);obtain ⟨r,h1,b,rfl,a⟩:=d s c;exact ⟨b,by rw [kab,h1],a⟩
  | succ k ih=>
   intro m N s hm hN c;obtain ⟨N,rfl⟩:∃ j,N=j+1:=⟨N - 1,by omega⟩;obtain ⟨r,h1,a⟩:=hs m s (by omega) c;cases r with
   | inl s'=>
    obtain ⟨b,e,f⟩:=ih (m+1) N s' (by omega) (by omega) a;exact ⟨b,by rw [kab,h1];exact e,f⟩
   | inr b=>exact ⟨b,by rw [kab,h1],a⟩
 exact key n 0 fuel s0 (by omega) (ka7 hn) h0
theorem k6v {σ β:Type} {x:Option (σ ⊕ β)} (b:β) {Q:β->Prop} (h:x=some (.inr b)) (a:Q b):Ev x fun r=>∃ b,r = .inr b/\Q b:=⟨_,h,b,rfl,a⟩
theorem kg5 {i n:Nat} (h:i<n):decide ((i:Int)<(n:Int))=true:=qj (by omega)
theorem kf1 (n:Nat):decide ((n:Int)<(n:Int))=false:=qf (by omega)
namespace TV
theorem k13 {l:List Tm} {i:Nat} (h:i<l.length):Tm.sizeL (l.take (i+1))=Tm.sizeL (l.take i)+l[i].size:=by rw [List.take_succ_eq_append_getElem h,Tm.sizeL_snoc]
theorem kqk (l:List Tm) (i:Nat):i<=l.length->i<=Tm.sizeL (l.take i)/\Tm.sizeL (l.take i)<=Tm.sizeL l:=by
 intro hi
 induction i with
 | zero=>exact ⟨qaj _,by simp [Tm.sizeL]⟩
 | succ i ih=>
  have h1:=ih (by omega);have c:=k13 (l:=l) (i:=i) (by omega);have d:=Tm.size_pos l[i];refine ⟨by omega,?_⟩;have:Tm.sizeL l=Tm.sizeL (l.take (i+1))+Tm.sizeL (l.drop (i+1)):=by
   have gen:∀ a b:List Tm,Tm.sizeL (a++b)=Tm.sizeL a+Tm.sizeL b:=fun a b=>by
    induction a with
    | nil=>simp [Tm.sizeL]
    | cons x a ih=>simp only [List.cons_append,Tm.sizeL,ih];omega
   rw [<- gen,List.take_append_drop]
  omega
theorem kl0 (t:Tm):Tm.sizeL t.args+1=t.size:=by cases t;rfl
theorem kn0 (l:List Tm):l.length<=Tm.sizeL l:=by have:=(kqk l l.length (qx _)).1;rw [List.take_length] at this;exact this
theorem k2n (g:Tm->Int) (t:Tm):t.pre g=g t::Tm.preL g t.args:=by cases t;rfl
theorem kdd {t x:Tm} (h:x∈t.args):x.size<t.size:=by have:=Tm.sizeL_mem h;have:=kl0 t;omega
theorem args_len (t:Tm):t.args.length<t.size:=by have:=kn0 t.args;have:=kl0 t;omega
theorem k4p (r:Tm->Option Int):∀ (xs:List Tm) (s:Nat),s+Tm.sizeL xs<=1000000->(∀ x∈xs,r x=some (x.size:Int))->xs.foldlM (fun (s:Int) x=>Option.bind (r x) fun v=>some (w64 (s+v))) (s:Int)=some ((s+Tm.sizeL xs:Nat):Int)
 | [],s,_,_=>by simp [Tm.sizeL]
 | x::xs,s,hl,h=>by have hs:Tm.sizeL (x::xs)=x.size+Tm.sizeL xs:=rfl;rw [qbw,h x (qu ..),qa,kc3];have:=k4p r xs (s+x.size) (by omega) fun y hy=>h y (qh _ hy);show List.foldlM _ ((s:Int)+(x.size:Int)) xs=_;rw [show (s:Int)+(x.size:Int)=((s+x.size:Nat):Int) by omega,this,hs];congr 2;omega
def lexC:List Int->List Int->Int
 | x::xs,y::ys=>if x<y then -1 else if y<x then 1 else lexC xs ys
 | _,_=>0
def lexO:List Int->List Int->Unit ⊕ Int
 | x::xs,y::ys=>if x<y then .inr (-1) else if y<x then .inr 1 else lexO xs ys
 | _,_ => .inl ()
theorem kaau:∀ xs ys:List Int,Sum.elim (fun _=>0) id (lexO xs ys)=lexC xs ys
 | [],_=>rfl
 | _::_,[]=>rfl
 | x::xs,y::ys=>by
  simp only [lexO,lexC];split;rfl
  ·split;rfl
   ·exact kaau xs ys
def cmpT (a b:Tm):Int:=if a.size<b.size then -1 else if b.size<a.size then 1 else if lexC a.rules b.rules≠0 then lexC a.rules b.rules else lexC a.arities b.arities
mutual
theorem k9r:∀ (s t:Tm) (xs ys us vs:List Int),s.pre Tm.rule++xs=t.pre Tm.rule++ys->s.pre Tm.nargs++us=t.pre Tm.nargs++vs->s=t/\xs=ys/\us=vs
 | .mk r l, .mk r' l',xs,ys,us,vs,h1,a=>by
  simp only [Tm.pre,List.cons_append,List.cons.injEq] at h1 a;have hr:r=r':=h1.1;have hl:l.length=l'.length:=by have:=a.1;simp only [Tm.nargs,Tm.args] at this;omega
  obtain ⟨e1,e2,e3⟩:=k7h l l' hl xs ys us vs h1.2 a.2;exact ⟨by rw [hr,e1],e2,e3⟩
theorem k7h:∀ (l l':List Tm),l.length=l'.length->∀ (xs ys us vs:List Int),Tm.preL Tm.rule l++xs=Tm.preL Tm.rule l'++ys->Tm.preL Tm.nargs l++us=Tm.preL Tm.nargs l'++vs->l=l'/\xs=ys/\us=vs
 | [],[],_,xs,ys,us,vs,h1,a=>⟨rfl,by simpa [Tm.preL] using h1,by simpa [Tm.preL] using a⟩
 | [],_::_,h,_,_,_,_,_,_=>by simp at h
 | _::_,[],h,_,_,_,_,_,_=>by simp at h
 | t::l,t'::l',h,xs,ys,us,vs,h1,a=>by simp only [Tm.preL,qbh] at h1 a;obtain ⟨e1,e2,e3⟩:=k9r t t' _ _ _ _ h1 a;obtain ⟨e4,e5,e6⟩:=k7h l l' (by simpa using h) xs ys us vs e2 e3;exact ⟨by rw [e1,e4],e5,e6⟩
end
theorem k3g:∀ xs ys:List Int,xs.length=ys.length->lexC xs ys=0->xs=ys
 | [],[],_,_=>rfl
 | [],_::_,h,_=>by simp at h
 | _::_,[],h,_=>by simp at h
 | x::xs,y::ys,h,h1=>by
  simp only [lexC] at h1;split at h1;omega
  ·split at h1;omega
   ·rw [k3g xs ys (by simpa using h) h1,show x=y by omega]
theorem k43:∀ xs:List Int,lexC xs xs=0
 | []=>rfl
 | x::xs=>by simp only [lexC,Int.lt_irrefl,if_false];exact k43 xs
theorem cmpT_eq0 {s t:Tm}:cmpT s t=0↔s=t:=by
 constructor
 ·intro h;unfold cmpT at h;split at h;omega
  ·split at h;omega
   ·have hs:s.size=t.size:=(by omega);split at h;rename_i h0;exact absurd h h0
    ·rename_i h0;have e1:=k3g s.rules t.rules (by rw [Tm.rules_length,Tm.rules_length];exact hs) (by simpa using h0);have e2:=k3g s.arities t.arities (by rw [Tm.arities_length,Tm.arities_length];exact hs) h;exact (k9r s t [] [] [] [] (by simpa [Tm.rules] using e1) (by simpa [Tm.arities] using e2)).1
 ·rintro rfl;unfold cmpT;simp [k43]
end TV
structure TC (S:Nat->Prop) (w:World) (N:Nat) where
 a:Value
 b:Value
 t:Tm
 hN:t.size<=N
 ra:RF S w a (eI t.rule)
 rb:RF S w b (eL 2 eTmR t.args)
section
variable {P:Program} {o:Oper} {st:St} {id:Nat}
end
open Go Go.Proofs
open Go.Shelf
section
variable {st:St} {o:Oper} {id:Nat}
end
end Go.Proofs.YtjpkdegjcilndaaGreatDoor
