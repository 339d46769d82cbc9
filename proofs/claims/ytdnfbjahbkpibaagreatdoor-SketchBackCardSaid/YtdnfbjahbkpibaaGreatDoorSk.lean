import Derived.Test.YtdnfbjahbkpibaaGreatDoorHd
import Derived.Test.YtdnfbjahbkpibaaGreatDoorOpr
import Derived.Test.YtdnfbjahbkpibaaGreatDoorOpr
import Derived.Test.YtdnfbjahbkpibaaGreatDoorVE
import Derived.Test.YtdnfbjahbkpibaaGreatDoorTT
import Derived.Shelf.SlSortCmp.NoneTotal
import Derived.Sort.OwnSortedInts
import Derived.Test.YtdnfbjahbkpibaaGreatDoorSim
import Derived.Shelf.SlLaysF0
import Derived.Ground.SlsfProg
import Derived.Test.YtdnfbjahbkpibaaGreatDoorProg
set_option linter.all false
namespace Go.Proofs.YtdnfbjahbkpibaaGreatDoor
open Go Go.RowKit Go.Proofs.Tryz
def ke7 (a b:BA):Bool:=Op.bytesLess a.toList b.toList
mutual
def cmpV:Va->Va->Int
 | .mk t n s l, .mk t' n' s' l'=>
  if t<t' then -1 else if t'<t then 1 else if n<n' then -1 else if n'<n then 1 else if ke7 s s'=true then -1 else if ke7 s' s=true then 1 else kgc l l'
def kgc:List Va->List Va->Int
 | [],[]=>0
 | [],_::_ => -1
 | _::_,[]=>1
 | x::l,y::m=>if cmpV x y≠0 then cmpV x y else kgc l m
end
def eqV (a b:Va):Bool:=decide (cmpV a b=0)
theorem km4:∀ l:List UInt8,Op.bytesLess l l=false
 | []=>rfl
 | x::l=>by simp [Op.bytesLess,km4 l]
theorem ks5:∀ l m:List UInt8,Op.bytesLess l m=false->Op.bytesLess m l=false->l=m
 | [],[],_,_=>rfl
 | [],y::m,h,_=>by simp [Op.bytesLess] at h
 | x::l,[],_,h=>by simp [Op.bytesLess] at h
 | x::l,y::m,h,a=>by
  simp only [Op.bytesLess,Bool.or_eq_false_iff,Bool.and_eq_false_iff,decide_eq_false_iff_not,qas] at h a;have b:x=y:=by have h1:=h.1;have c:=a.1;exact UInt8.le_antisymm (UInt8.not_lt.1 c) (UInt8.not_lt.1 h1)
  subst b;rw [ks5 l m (h.2.resolve_left fun h=>h rfl) (a.2.resolve_left fun h=>h rfl)]
theorem kue {a b:BA} (h:a.toList=b.toList):a=b:=by rw [ByteArray.toList_eq,ByteArray.toList_eq] at h;obtain ⟨⟨a⟩⟩:=a;obtain ⟨⟨b⟩⟩:=b;simp at h;rw [h]
theorem kzx (a:BA):ke7 a a=false:=km4 _
theorem k6f {a b:BA} (h:ke7 a b=false) (c:ke7 b a=false):a=b:=kue (ks5 _ _ h c)
theorem k81 (l:List Va) (h:∀ x∈l,cmpV x x=0):kgc l l=0:=by
 induction l with
 | nil=>rfl
 | cons x l ih=>
  rw [kgc,qi (by simp [h x (by simp)])];exact ih fun y hy=>h y (by simp [hy])
theorem kab8 (v:Va):cmpV v v=0:=by
 induction v using Va.ind with
 | h t n s l ih=>
  rw [cmpV,qi (by omega),qi (by omega),qi (by omega),qi (by omega),kzx];simp only [qb0,if_false];exact k81 l ih
theorem k6g:∀ (l m:List Va),(∀ x∈l,∀ y,cmpV x y=0->x=y)->kgc l m=0->l=m
 | [],[],_,_=>rfl
 | [],_::_,_,h=>by simp [kgc] at h
 | _::_,[],_,h=>by simp [kgc] at h
 | x::l,y::m,ih,h=>by
  rw [kgc] at h;split at h;rename_i h1;exact absurd h h1
  ·rename_i h1;have h1:cmpV x y=0:=(by omega);rw [ih x (by simp) y h1,k6g l m (fun z a=>ih z (by simp [a])) h]
theorem kahx (v:Va):∀ u,cmpV v u=0->v=u:=by
 induction v using Va.ind with
 | h t n s l ih=>
  rintro ⟨t',n',s',l'⟩ h;rw [cmpV] at h
  repeat' split at h
  all_goals try (exfalso;omega)
  rename_i h1 c d e a b;obtain rfl:t=t':=by omega
  obtain rfl:n=n':=by omega
  obtain rfl:s=s':=k6f (by simpa using a) (by simpa using b);rw [k6g l l' ih h]
theorem kad0 (v:Va):eqV v v=true:=by unfold eqV;rw [kab8];rfl
theorem krj:fuel=18446744073709551615+1:=rfl
theorem kan {n:Nat} (h:n<18446744073709551616):n<fuel:=h
theorem kc0 {n:Int} (h: -9223372036854775808<=n:=by omega) (a:n<=9223372036854775807:=by omega):w64 n=n:=by
 unfold w64 IntKind.wrap IntKind.signed IntKind.bits;simp only;rw [show (2:Int) ^ 64=18446744073709551616 from rfl];by_cases h0:0<=n;have:n % 18446744073709551616=n:=Int.emod_eq_of_lt h0 (by omega);simp [this];omega
 ·have:n % 18446744073709551616=n+18446744073709551616:=by rw [<- Int.add_emod_right,Int.emod_eq_of_lt (by omega) (by omega)]
  simp [this];omega
theorem kai (n:Nat) (h:n<=9223372036854775806:=by omega):w64 ((n:Int)+1)=((n+1:Nat):Int):=by rw [kc0];omega
theorem kag {α:Type} (xs:List α) (n:Nat):idx xs (n:Int)=xs[n]?:=by unfold idx;rw [qo (by omega)];simp
theorem kag7 (s:BA) (n:Nat):byt s (n:Int)=(s[n]?).map fun c=>(c.toNat:Int):=by unfold byt;rw [qo (by omega)];simp
theorem ket {α:Type} {b:Nat} {xs ys:List α} (h:(xs.length+ys.length)*(b+1)<=140737488355328):app b xs ys=some (xs++ys):=by unfold app;rw [qo h]
section
variable {σ β:Type} {step:σ->Option (σ ⊕ β)}
theorem k6i (n:Nat) (S:Nat->σ) (out:Nat->β) (hs:∀ i,i<n->(step (S i)=some (.inl (S (i+1)))/\out i=out (i+1))\/step (S i)=some (.inr (out i))) (a:step (S n)=some (.inr (out n))):
  ∀ (k i:Nat),i<=n->n - i<k->kab step k (S i)=some (out i)
 | 0,i,_,h=>by omega
 | k+1,i,hi,hk=>by
  rw [kab];by_cases h:i=n;subst h;rw [a]
  ·rcases hs i (by omega) with ⟨h1,b⟩ | h1;rw [h1,b];exact k6i n S out hs a k (i+1) (by omega) (by omega)
   ·rw [h1]
theorem kh5 (step:σ->Option (σ ⊕ β)) (n:Nat) (S:Nat->σ) (out:Nat->β) (hs:∀ i,i<n->(step (S i)=some (.inl (S (i+1)))/\out i=out (i+1))\/step (S i)=some (.inr (out i))) (a:step (S n)=some (.inr (out n))) (hn:n<18446744073709551616:=by omega):
  kab step fuel (S 0)=some (out 0):=k6i n S out hs a fuel 0 (qak _) (kan (by omega))
theorem kcc (n:Nat) (S:Nat->σ) (b:β) (hs:∀ i,i<n->step (S i)=some (.inl (S (i+1)))) (a:step (S n)=some (.inr b)) (hn:n<18446744073709551616:=by omega):kab step fuel (S 0)=some b:=
 kh5 _ n S (fun _=>b) (fun i hi => .inl ⟨hs i hi,rfl⟩) a (hn:=hn)
theorem ko6 (step:σ->Option (σ ⊕ β)) (step':σ->Option (σ ⊕ β)) (n:Nat) (S:Nat->σ) (hs:∀ i,i<n->(step (S i)=some (.inl (S (i+1)))/\step' (S i)=some (.inl (S (i+1))))\/∃ b,step (S i)=some (.inr b)/\step' (S i)=some (.inr b)) (b:β) (e:step (S n)=some (.inr b)) (a:step' (S n)=some (.inr b)) (hn:n<18446744073709551616:=by omega):∃ r,kab step fuel (S 0)=some r/\kab step' fuel (S 0)=some r:=by
 have key:∀ (k i:Nat),i<=n->n - i<k->∃ r,kab step k (S i)=some r/\kab step' k (S i)=some r:=by
  intro k
  induction k with
  | zero=>intro i _ h;omega
  | succ k ih=>
   intro i hi hk;rw [kab,kab];by_cases h:i=n;subst h;rw [e,a];exact ⟨b,rfl,rfl⟩
   ·rcases hs i (by omega) with ⟨h1,d⟩ | ⟨c,h1,d⟩;rw [h1,d];exact ih (i+1) (by omega) (by omega)
    ·rw [h1,d];exact ⟨c,rfl,rfl⟩
 exact key fuel 0 (qak _) (kan (by omega))
theorem kkw {α γ:Type} (step:Int×List γ->Option ((Int×List γ) ⊕ List γ)) (xs:List α) (f:α->γ) (base:List γ) (hs:∀ (i:Nat) (x:α),xs[i]?=some x->step ((i:Int),base++(xs.take i).map f)=some (.inl (((i+1:Nat):Int),base++(xs.take i).map f++[f x]))) (a:step ((xs.length:Int),base++xs.map f)=some (.inr (base++xs.map f))) (hn:xs.length<18446744073709551616:=by omega):kab step fuel (0,base)=some (base++xs.map f):=by
 have:=kcc (step:=step) xs.length (fun i=>((i:Int),base++(xs.take i).map f)) (base++xs.map f) (fun i hi=>by
  have h1:xs[i]?=some xs[i]:=qb hi;rw [hs i _ h1];have b:base++(xs.take (i+1)).map f=base++(xs.take i).map f++[f xs[i]]:=by rw [List.take_add_one,h1,List.map_append,qbo];rfl
  rw [b]) (by simpa using a) (hn:=hn)
 simpa using this
end
theorem kjy {σ β σ' β':Type} {step:σ->Option (σ ⊕ β)} {step':σ'->Option (σ' ⊕ β')} (n:Nat) (hn:n<18446744073709551616) (S:Nat->σ) (S':Nat->σ') (Q:β->β'->Prop)
  (hs:∀ i,i<n->(step (S i)=some (.inl (S (i+1)))/\step' (S' i)=some (.inl (S' (i+1))))\/∃ b b',step (S i)=some (.inr b)/\step' (S' i)=some (.inr b')/\Q b b')
  (d:∃ b b',step (S n)=some (.inr b)/\step' (S' n)=some (.inr b')/\Q b b'):∃ r r',kab step fuel (S 0)=some r/\kab step' fuel (S' 0)=some r'/\Q r r':=by
 have key:∀ (k i:Nat),i<=n->n - i<k->∃ r r',kab step k (S i)=some r/\kab step' k (S' i)=some r'/\Q r r':=by
  intro k
  induction k with
  | zero=>intro i _ h;omega
  | succ k ih=>
   intro i hi hk;rw [kab,kab];by_cases h:i=n;subst h;obtain ⟨b,b',h1,a,c⟩:=d;rw [h1,a];exact ⟨b,b',rfl,rfl,c⟩
   ·rcases hs i (by omega) with ⟨h1,a⟩ | ⟨b,b',h1,a,c⟩;rw [h1,a];exact ih (i+1) (by omega) (by omega)
    ·rw [h1,a];exact ⟨b,b',rfl,rfl,c⟩
 exact key fuel 0 (qak _) (kan (by omega))
def runL {σ α β:Type} (f:σ->α->Option (σ ⊕ β)):List α->σ->Option (σ ⊕ β)
 | [],s=>some (.inl s)
 | x::l,s=>Option.bind (f s x) (Sum.elim (fun s'=>runL f l s') (fun b=>some (.inr b)))
theorem kaea {σ α β τ γ:Type} (step:τ->Option (τ ⊕ γ)) (xs:List α) (f:σ->α->Option (σ ⊕ β)) (mk:σ->Int->τ) (out:σ ⊕ β->γ) (c:xs.length<=9223372036854775807) (h:∀ (i:Nat) (x:α) (s:σ),xs[i]?=some x->step (mk s (i:Int))=(f s x).map (Sum.elim (fun s' => .inl (mk s' ((i+1:Nat):Int))) (fun b => .inr (out (.inr b))))) (d:∀ s,step (mk s (xs.length:Int))=some (.inr (out (.inl s)))) (s:σ):kab step fuel (mk s 0)=(runL f xs s).map out:=by
 have key:∀ (k i:Nat) (s:σ),i<=xs.length->xs.length - i<k->kab step k (mk s (i:Int))=(runL f (xs.drop i) s).map out:=by
  intro k
  induction k with
  | zero=>intro i s _ h;omega
  | succ k ih=>
   intro i s hi hk;rw [kab];by_cases hn:i=xs.length;subst hn;rw [d,qbj (qx _)];rfl
   ·have a:i<xs.length:=(by omega);rw [h i xs[i] s (qb a),qao a,runL];cases f s xs[i] with
    | none=>rfl
    | some r=>
     cases r with
     | inl s'=>
      simp only [qa3,qan,qa];exact ih (i+1) s' (by omega) (by omega)
     | inr b=>rfl
 have:=key fuel 0 s (qak _) (kan (by omega));simpa using this
theorem kdx {n i:Nat} (h:i<n):decide ((i:Int)<(n:Int))=true:=ql (by omega)
theorem kcz (n:Nat):decide ((n:Int)<(n:Int))=false:=qg (by omega)
theorem kdk {n m:Nat} (h:n<m) (hm:m<=9223372036854775807):w64 ((n:Int)+1)=((n+1:Nat):Int):=kai _
theorem kbb {α:Type} {xs:List α} {i:Nat} {x:α} (h:xs[i]?=some x):i<xs.length:=(qf.1 h).1
theorem kin {α σ τ:Type} {step:τ->Option (τ ⊕ σ)} (xs:List α) (r:σ->α->Option σ) (mk:Int->σ->τ) (a:xs.length<=9223372036854775807)
  (hs:∀ (i:Nat) (x:α) (s:σ),xs[i]?=some x->step (mk (i:Int) s)=(r s x).map fun v => .inl (mk ((i+1:Nat):Int) v)) (c:∀ s,step (mk (xs.length:Int) s)=some (.inr s)) (s:σ):kab step fuel (mk 0 s)=xs.foldlM r s:=by
 have h:=kaea step xs (fun s x=>(r s x).map (.inl:σ->σ ⊕ Empty)) (fun s i=>mk i s) (Sum.elim id (fun b:Empty=>nomatch b)) a (fun i x s hx=>by rw [hs i x s hx];cases r s x <;> rfl) (fun s=>c s) s;rw [h];clear h hs c
 induction xs generalizing s with
 | nil=>rfl
 | cons x xs ih=>
  rw [runL,qb3];cases hr:r s x with
  | none=>rfl
  | some v=>
   simp only [qa3,qa,qan];exact ih (by simp only [qag] at a;omega) v
theorem k5s {α:Type} (b:Nat) (z:α) (n:Nat) (h:(b+1)*n<=281474976710656:=by omega):mkL b z (n:Int)=some (List.replicate n z):=by
 unfold mkL;have c:b*n+n<=281474976710656:=by rw [qa7,Nat.one_mul] at h;exact h
 have a:(b:Int)*(n:Int)=((b*n:Nat):Int):=(Int.natCast_mul b n).symm;rw [qo ⟨by omega,by rw [a];omega,by omega⟩];simp
set_option maxRecDepth 100000
def Ev {α:Type} (x:Option α) (P:α->Prop):Prop:=∃ v,x=some v/\P v
theorem Ev.eq {α:Type} {x:Option α} {v:α} (h:Ev x (·=v)):x=some v:=by obtain ⟨u,h1,rfl⟩:=h;exact h1
theorem Ev.mono {α:Type} {x:Option α} {P Q:α->Prop} (h:Ev x P) (hp:∀ v,P v->Q v):Ev x Q:=by obtain ⟨v,h1,a⟩:=h;exact ⟨v,h1,hp v a⟩
theorem kk6 {α β:Type} {x:Option α} {k:α->Option β} {P:β->Prop} (h:Ev x fun v=>Ev (k v) P):Ev (Option.bind x k) P:=by obtain ⟨v,rfl,u,h1,a⟩:=h;exact ⟨u,h1,a⟩
theorem keq {α:Type} {c:Bool} {x y:Option α} {P:α->Prop} (h1:c=true->Ev x P) (h0:c=false->Ev y P):Ev (bif c then x else y) P:=by
 cases c;exact h0 rfl
 ·exact h1 rfl
theorem k5y {α β γ:Type} {s:α ⊕ β} {f:α->Option γ} {g:β->Option γ} {P:γ->Prop} (h1:∀ a,s = .inl a->Ev (f a) P) (c:∀ b,s = .inr b->Ev (g b) P):Ev (Sum.elim f g s) P:=by
 cases s with
 | inl a=>exact h1 a rfl
 | inr b=>exact c b rfl
theorem kmb {σ β:Type} {step:σ->Option (σ ⊕ β)} {s0:σ} {Q:β->Prop} (n:Nat) (I:Nat->σ->Prop) (hn:n<18446744073709551616) (h0:I 0 s0)
  (hs:∀ i s,i<n->I i s->Ev (step s) (Sum.elim (I (i+1)) Q)) (d:∀ s,I n s->Ev (step s) fun r=>∃ b,r = .inr b/\Q b):Ev (kab step fuel s0) Q:=by
 have key:∀ (k m N:Nat) (s:σ),m+k=n->k<N->I m s->Ev (kab step N s) Q:=by
  intro k
  induction k with
  | zero=>
   intro m N s hm hN c;obtain ⟨N,rfl⟩:∃ j,N=j+1:=⟨N - 1,by omega⟩;obtain rfl:m=n:=(by omega);obtain ⟨r,h1,b,rfl,a⟩:=d s c;exact ⟨b,by rw [kab,h1],a⟩
  | succ k ih=>
   intro m N s hm hN c;obtain ⟨N,rfl⟩:∃ j,N=j+1:=⟨N - 1,by omega⟩;obtain ⟨r,h1,a⟩:=hs m s (by omega) c;cases r with
   | inl s'=>
    obtain ⟨b,e,f⟩:=ih (m+1) N s' (by omega) (by omega) a;exact ⟨b,by rw [kab,h1];exact e,f⟩
   | inr b=>exact ⟨b,by rw [kab,h1],a⟩
 exact key n 0 fuel s0 (by omega) (kan hn) h0
theorem kaej {σ β:Type} (step:σ->Option (σ ⊕ β)) {s0:σ} (Q:β->Prop) (I:σ->Prop) (μ:σ->Nat) (hn:μ s0<18446744073709551616) (h0:I s0) (hs:∀ s,I s->Ev (step s) (Sum.elim (fun s'=>I s'/\μ s'<μ s) Q)):Ev (kab step fuel s0) Q:=by
 have key:∀ (N:Nat) (s:σ),μ s<N->I s->Ev (kab step N s) Q:=by
  intro N
  induction N with
  | zero=>intro s h;omega
  | succ N ih=>
   intro s h c;obtain ⟨r,h1,a⟩:=hs s c;cases r with
   | inl s'=>
    obtain ⟨b,d,e⟩:=ih s' (by have:=a.2;omega) a.1;exact ⟨b,by rw [kab,h1];exact d,e⟩
   | inr b=>exact ⟨b,by rw [kab,h1],a⟩
 exact key fuel s0 (kan hn) h0
theorem kr4 {σ β:Type} {x:Option (σ ⊕ β)} (b:β) {Q:β->Prop} (h:x=some (.inr b)) (a:Q b):Ev x fun r=>∃ b,r = .inr b/\Q b:=⟨_,h,b,rfl,a⟩
theorem kdr {i n:Nat} (h:i<n):decide ((i:Int)<(n:Int))=true:=ql (by omega)
theorem kcp (n:Nat):decide ((n:Int)<(n:Int))=false:=qg (by omega)
namespace TV
theorem kzu {l:List Tm} {i:Nat} (h:i<l.length):Tm.sizeL (l.take (i+1))=Tm.sizeL (l.take i)+l[i].size:=by rw [qar h,Tm.sizeL_snoc]
theorem kpe (l:List Tm) (i:Nat):i<=l.length->i<=Tm.sizeL (l.take i)/\Tm.sizeL (l.take i)<=Tm.sizeL l:=by
 intro hi
 induction i with
 | zero=>exact ⟨qak _,by simp [Tm.sizeL]⟩
 | succ i ih=>
  have h1:=ih (by omega);have c:=kzu (l:=l) (i:=i) (by omega);have d:=Tm.size_pos l[i];refine ⟨by omega,?_⟩;have:Tm.sizeL l=Tm.sizeL (l.take (i+1))+Tm.sizeL (l.drop (i+1)):=by
   have gen:∀ a b:List Tm,Tm.sizeL (a++b)=Tm.sizeL a+Tm.sizeL b:=fun a b=>by
    induction a with
    | nil=>simp [Tm.sizeL]
    | cons x a ih=>simp only [List.cons_append,Tm.sizeL,ih];omega
   rw [<- gen,List.take_append_drop]
  omega
theorem kfo (t:Tm):Tm.sizeL t.args+1=t.size:=by cases t;rfl
theorem km1 (l:List Tm):l.length<=Tm.sizeL l:=by have:=(kpe l l.length (qx _)).1;rw [qbm] at this;exact this
theorem kqt (g:Tm->Int) (t:Tm):t.pre g=g t::Tm.preL g t.args:=by cases t;rfl
theorem kbm {t x:Tm} (h:x∈t.args):x.size<t.size:=by have:=Tm.sizeL_mem h;have:=kfo t;omega
theorem args_len (t:Tm):t.args.length<t.size:=by have:=km1 t.args;have:=kfo t;omega
theorem kmd (g:Tm->Int) (r:List Int->Tm->Option (List Int)):∀ (xs:List Tm) (acc:List Int),acc.length+Tm.sizeL xs<=1000000->(∀ x∈xs,∀ acc:List Int,acc.length+x.size<=1000000->r acc x=some (acc++x.pre g))->xs.foldlM r acc=some (acc++Tm.preL g xs)
 | [],acc,_,_=>by simp [Tm.preL]
 | x::xs,acc,hl,h=>by have hs:Tm.sizeL (x::xs)=x.size+Tm.sizeL xs:=rfl;rw [qb3,h x (qv ..) acc (by omega)];have:=kmd g r xs (acc++x.pre g) (by rw [qy,Tm.pre_length];omega) fun y hy=>h y (qh _ hy);show List.foldlM r (acc++x.pre g) xs=_;rw [this,qbo];rfl
theorem app1 {acc:List Int} {v:Int} (h:acc.length<=1000000):app 8 acc [v]=some (acc++[v]):=ket (by rw [qah];omega)
theorem k6q:∀ (n:Nat) (t:Tm) (acc:List Int),t.size<=n->acc.length+t.size<=1000000->kck n acc t=some (acc++t.rules)
 | 0,t,acc,h,_=>by have:=Tm.size_pos t;omega
 | n+1,t,acc,h,hl=>by show kg6 (kck n) acc t=_;have b:=args_len t;have c:=kfo t;unfold kg6 khk;rw [qa,app1 (by omega),qa];rw [kin (step:=kgj t (kck n)) t.args (kck n) (fun i s=>(i,s)) (by omega) (fun i x s hx=>by have hi:=kbb hx;simp only [kgj,kdx hi,qe,kag,hx,qa,kdk hi (show t.args.length<=9223372036854775807 by omega)];cases kck n s x <;> rfl) (fun s=>by simp only [kgj,kcz,qd])];rw [kmd Tm.rule _ t.args _ (by rw [qy,qah];omega) fun x hx acc a=>k6q n x acc (by have:=kbm hx;omega) a];show some _=some _;rw [qbo];show _=some (acc++t.pre Tm.rule);rw [kqt];rfl
theorem ky6 (t:Tm) (h:t.size<=1000):kla t=some t.rules:=by have b:=args_len t;have c:=kfo t;unfold kla khk;rw [qa,app1 (by simp),qa];rw [kin (step:=kkd t) t.args (kck fuel) (fun i s=>(i,s)) (by omega) (fun i x s hx=>by have hi:=kbb hx;simp only [kkd,kdx hi,qe,kag,hx,qa,kdk hi (show t.args.length<=9223372036854775807 by omega)];cases kck fuel s x <;> rfl) (fun s=>by simp only [kkd,kcz,qd])];rw [kmd Tm.rule _ t.args _ (by rw [qbz,qah];omega) fun x hx acc a=>k6q fuel x acc (qaz (kan (by omega))) a];show some _=some (t.pre Tm.rule);rw [kqt];rfl
theorem kxo:∀ (n:Nat) (t:Tm) (acc:List Int),t.size<=n->acc.length+t.size<=1000000->kbn n acc t=some (acc++t.arities)
 | 0,t,acc,h,_=>by have:=Tm.size_pos t;omega
 | n+1,t,acc,h,hl=>by show kg4 (kbn n) acc t=_;have b:=args_len t;have c:=kfo t;unfold kg4 kd1;rw [qa,app1 (by omega),qa];rw [kin (step:=kgf t (kbn n)) t.args (kbn n) (fun i s=>(i,s)) (by omega) (fun i x s hx=>by have hi:=kbb hx;simp only [kgf,kdx hi,qe,kag,hx,qa,kdk hi (show t.args.length<=9223372036854775807 by omega)];cases kbn n s x <;> rfl) (fun s=>by simp only [kgf,kcz,qd])];rw [kmd Tm.nargs _ t.args _ (by rw [qy,qah];omega) fun x hx acc a=>kxo n x acc (by have:=kbm hx;omega) a];show some _=some _;rw [qbo];show _=some (acc++t.pre Tm.nargs);rw [kqt];rfl
theorem k5t (t:Tm) (h:t.size<=1000):kh9 t=some t.arities:=by have b:=args_len t;have c:=kfo t;unfold kh9 kd1;rw [qa,app1 (by simp),qa];rw [kin (step:=kgk t) t.args (kbn fuel) (fun i s=>(i,s)) (by omega) (fun i x s hx=>by have hi:=kbb hx;simp only [kgk,kdx hi,qe,kag,hx,qa,kdk hi (show t.args.length<=9223372036854775807 by omega)];cases kbn fuel s x <;> rfl) (fun s=>by simp only [kgk,kcz,qd])];rw [kmd Tm.nargs _ t.args _ (by rw [qbz,qah];omega) fun x hx acc a=>kxo fuel x acc (qaz (kan (by omega))) a];show some _=some (t.pre Tm.nargs);rw [kqt];rfl
theorem k3a (t:Tm) (h:t.size<=1000):kab (kgp t) fuel (0,([]:List Int)++[(t.args.length:Int)])=some t.arities:=by have b:=args_len t;have c:=kfo t;rw [kin (step:=kgp t) t.args (kbn fuel) (fun i s=>(i,s)) (by omega) (fun i x s hx=>by have hi:=kbb hx;simp only [kgp,kdx hi,qe,kag,hx,qa,kdk hi (show t.args.length<=9223372036854775807 by omega)];cases kbn fuel s x <;> rfl) (fun s=>by simp only [kgp,kcz,qd])];rw [kmd Tm.nargs _ t.args _ (by rw [qbz,qah];omega) fun x hx acc a=>kxo fuel x acc (qaz (kan (by omega))) a];show some _=some (t.pre Tm.nargs);rw [kqt];rfl
theorem ku3 (r:Tm->Option Int):∀ (xs:List Tm) (s:Nat),s+Tm.sizeL xs<=1000000->(∀ x∈xs,r x=some (x.size:Int))->xs.foldlM (fun (s:Int) x=>Option.bind (r x) fun v=>some (w64 (s+v))) (s:Int)=some ((s+Tm.sizeL xs:Nat):Int)
 | [],s,_,_=>by simp [Tm.sizeL]
 | x::xs,s,hl,h=>by have hs:Tm.sizeL (x::xs)=x.size+Tm.sizeL xs:=rfl;rw [qb3,h x (qv ..),qa,kc0];have:=ku3 r xs (s+x.size) (by omega) fun y hy=>h y (qh _ hy);show List.foldlM _ ((s:Int)+(x.size:Int)) xs=_;rw [show (s:Int)+(x.size:Int)=((s+x.size:Nat):Int) by omega,this,hs];congr 2;omega
theorem kuy:∀ (n:Nat) (t:Tm),t.size<=n->t.size<=1000->kgg n t=some (t.size:Int)
 | 0,t,h,_=>by have:=Tm.size_pos t;omega
 | n+1,t,h,hl=>by show klp (kgg n) t=_;have a:=args_len t;have b:=kfo t;unfold klp;rw [kin (step:=kk2 t (kgg n)) t.args (fun s x=>Option.bind (kgg n x) fun v=>some (w64 (s+v))) (fun i s=>(s,i)) (by omega) (fun i x s hx=>by have hi:=kbb hx;simp only [kk2,kdx hi,qe,kag,hx,qa,kdk hi (show t.args.length<=9223372036854775807 by omega)];cases kgg n x <;> rfl) (fun s=>by simp only [kk2,kcz,qd])];have:=ku3 (kgg n) t.args 1 (by omega) fun x hx=>kuy n x (by have:=kbm hx;omega) (by have:=kbm hx;omega);rw [show (1:Int)=((1:Nat):Int) from rfl,this,qa];congr 2;omega
def lexC:List Int->List Int->Int
 | x::xs,y::ys=>if x<y then -1 else if y<x then 1 else lexC xs ys
 | _,_=>0
def lexO:List Int->List Int->Unit ⊕ Int
 | x::xs,y::ys=>if x<y then .inr (-1) else if y<x then .inr 1 else lexO xs ys
 | _,_ => .inl ()
theorem k1d:∀ xs ys:List Int,Sum.elim (fun _=>0) id (lexO xs ys)=lexC xs ys
 | [],_=>rfl
 | _::_,[]=>rfl
 | x::xs,y::ys=>by
  simp only [lexO,lexC];split;rfl
  ·split;rfl
   ·exact k1d xs ys
theorem k55 (x y:List Int) (hl:x.length=y.length) (hx:x.length<=1000000):ki1 x y=some (lexC x y):=by
 unfold ki1;have h:=kh5 (kgt x y) x.length (fun i=>(i:Int)) (fun i=>lexO (x.drop i) (y.drop i)) (fun i hi=>by
  have hy:i<y.length:=by omega
  simp only [kgt,kdx hi,qe,kag,qb hi,qb hy,qa,kdk hi (show x.length<=9223372036854775807 by omega),qao hi,qao hy,lexO];by_cases h1:x[i]<y[i];rw [ql h1,qo h1];exact .inr rfl
  ·rw [qg h1,qi h1];by_cases a:y[i]<x[i];rw [ql a,qo a];exact .inr rfl
   ·rw [qg a,qi a];exact .inl ⟨rfl,rfl⟩) (by
  simp only [kgt,kcz,qd,List.drop_length,lexO])
 have b:kab (kgt x y) fuel 0=some (lexO x y):=by simpa using h
 rw [b,qa,<- k1d];cases lexO x y <;> rfl
def cmpT (a b:Tm):Int:=if a.size<b.size then -1 else if b.size<a.size then 1 else if lexC a.rules b.rules≠0 then lexC a.rules b.rules else lexC a.arities b.arities
theorem cmp_prog (a b:Tm) (ha:a.size<=1000) (d:b.size<=1000):ki4 a b=some (cmpT a b):=by
 unfold ki4 cmpT;rw [kuy fuel a (qaz (kan (by omega))) ha,kuy fuel b (qaz (kan (by omega))) d];simp only [qa];by_cases h1:a.size<b.size;rw [qo h1,ql (show (a.size:Int)<(b.size:Int) by omega),qe];rw [qi h1,qg (show ¬ (a.size:Int)<(b.size:Int) by omega),qd];by_cases e:b.size<a.size;rw [qo e,ql (show (b.size:Int)<(a.size:Int) by omega),qe];rw [qi e,qg (show ¬ (b.size:Int)<(a.size:Int) by omega),qd];rw [ky6 a ha,ky6 b d];simp only [qa];rw [k55 a.rules b.rules (by rw [Tm.rules_length,Tm.rules_length];omega) (by rw [Tm.rules_length];omega),qa];by_cases c:lexC a.rules b.rules=0;rw [qi (by simpa using c),c,show ((0:Int) != 0)=false from rfl,qd,k5t a ha,qa,show kd1 b=some () from rfl,qa,app1 (qak _),qa,k3a b d,qa,k55 a.arities b.arities (by rw [Tm.arities_length,Tm.arities_length];omega) (by rw [Tm.arities_length];omega)];rw [qa]
 ·rw [qo c,show (lexC a.rules b.rules != 0)=true by rw [qbg];exact c,qe]
mutual
theorem k7k:∀ (s t:Tm) (xs ys us vs:List Int),s.pre Tm.rule++xs=t.pre Tm.rule++ys->s.pre Tm.nargs++us=t.pre Tm.nargs++vs->s=t/\xs=ys/\us=vs
 | .mk r l, .mk r' l',xs,ys,us,vs,h1,a=>by
  simp only [Tm.pre,List.cons_append,List.cons.injEq] at h1 a;have hr:r=r':=h1.1;have hl:l.length=l'.length:=by have:=a.1;simp only [Tm.nargs,Tm.args] at this;omega
  obtain ⟨e1,e2,e3⟩:=k49 l l' hl xs ys us vs h1.2 a.2;exact ⟨by rw [hr,e1],e2,e3⟩
theorem k49:∀ (l l':List Tm),l.length=l'.length->∀ (xs ys us vs:List Int),Tm.preL Tm.rule l++xs=Tm.preL Tm.rule l'++ys->Tm.preL Tm.nargs l++us=Tm.preL Tm.nargs l'++vs->l=l'/\xs=ys/\us=vs
 | [],[],_,xs,ys,us,vs,h1,a=>⟨rfl,by simpa [Tm.preL] using h1,by simpa [Tm.preL] using a⟩
 | [],_::_,h,_,_,_,_,_,_=>by simp at h
 | _::_,[],h,_,_,_,_,_,_=>by simp at h
 | t::l,t'::l',h,xs,ys,us,vs,h1,a=>by simp only [Tm.preL,qbo] at h1 a;obtain ⟨e1,e2,e3⟩:=k7k t t' _ _ _ _ h1 a;obtain ⟨e4,e5,e6⟩:=k49 l l' (by simpa using h) xs ys us vs e2 e3;exact ⟨by rw [e1,e4],e5,e6⟩
end
structure Ord3 {α:Type} (E:α->α->Prop) (c:α->α->Int):Prop where
 anti:∀ x y,E x y->c y x = -c x y
 trans:∀ x y z,E x y->E y z->E x z->c x y<=0->c y z<=0->c x z<=0
def lex {α:Type} (c d:α->α->Int) (x y:α):Int:=if c x y≠0 then c x y else d x y
theorem Ord3.lex {α:Type} {E:α->α->Prop} {c d:α->α->Int} (a:∀ x y,E x y->E y x) (hc:Ord3 E c) (hd:Ord3 (fun x y=>E x y/\c x y=0) d):Ord3 E (lex c d):=by
 have z:∀ x y,E x y->(c y x=0↔c x y=0):=fun x y e=>by rw [hc.anti x y e];omega
 refine ⟨fun x y e=>?_,fun x y z e1 e2 e3 h1 b=>?_⟩
 ·unfold Go.Proofs.YtdnfbjahbkpibaaGreatDoor.TV.lex;by_cases h:c x y=0;rw [qi (by rw [(z x y e).2 h];decide),qi (by rw [h];decide)];exact hd.anti x y ⟨e,h⟩
  ·rw [qo (fun f=>h ((z x y e).1 f)),qo h];exact hc.anti x y e
 ·unfold Go.Proofs.YtdnfbjahbkpibaaGreatDoor.TV.lex at h1 b ⊢;have k1:c x y<=0:=by split at h1 <;> omega
  have k2:c y z<=0:=by split at b <;> omega
  have k3:=hc.trans x y z e1 e2 e3 k1 k2;by_cases h:c x z=0;have a1:=hc.anti x y e1;have a2:=hc.anti y z e2;have a3:=hc.anti x z e3;have b1:=hc.trans y z x e2 (a _ _ e3) (a _ _ e1) k2 (by omega);have b2:=hc.trans z x y (a _ _ e3) e1 (a _ _ e2) (by omega) k1;have c1:c x y=0:=(by omega);have c2:c y z=0:=(by omega);rw [qi (by rw [c1];decide)] at h1;rw [qi (by rw [c2];decide)] at b;rw [qi (by rw [h];decide)];exact hd.trans x y z ⟨e1,c1⟩ ⟨e2,c2⟩ ⟨e3,h⟩ h1 b
  ·rw [qo h];exact k3
def cmpZ {α:Type} (f:α->Int) (x y:α):Int:=if f x<f y then -1 else if f y<f x then 1 else 0
theorem kae4 {α:Type} {E:α->α->Prop} (f:α->Int):Ord3 E (cmpZ f):=by
 refine ⟨fun x y _=>?_,fun x y z _ _ _ h1 a=>?_⟩;unfold cmpZ;split <;> split <;> omega
 ·unfold cmpZ at *
  split at h1
  ·split at a;rw [qo (by omega)];decide
   ·split at a;omega
    ·rw [qo (by omega)];decide
  ·split at h1;omega
   ·split at a;rw [qo (by omega)];decide
    ·split at a;omega
     ·rw [qi (by omega),qi (by omega)];decide
theorem kvg:∀ xs ys:List Int,xs.length=ys.length->lexC ys xs = -lexC xs ys
 | [],[],_=>rfl
 | [],_::_,h=>by simp at h
 | _::_,[],h=>by simp at h
 | x::xs,y::ys,h=>by
  have ih:=kvg xs ys (by simpa using h);simp only [lexC];rcases Int.lt_trichotomy x y with h1 | h1 | h1;rw [qi (by omega),qo h1,qo h1];rfl;rw [qi (by omega),qi (by omega),qi (by omega),qi (by omega),ih]
  ·rw [qo h1,qi (by omega),qo h1]
theorem ksy:∀ xs ys zs:List Int,xs.length=ys.length->ys.length=zs.length->lexC xs ys<=0->lexC ys zs<=0->lexC xs zs<=0
 | [],_,_,_,_,_,_=>by simp [lexC]
 | _::_,[],_,h,_,_,_=>by simp at h
 | _::_,_::_,[],_,h,_,_=>by simp at h
 | x::xs,y::ys,z::zs,h,g,h1,a=>by
  have ih:=ksy xs ys zs (by simpa using h) (by simpa using g);simp only [lexC] at h1 a ⊢;split at h1
  ·split at a;rw [qo (by omega)];decide
   ·split at a;omega
    ·rw [qo (by omega)];decide
  ·split at h1;omega
   ·split at a;rw [qo (by omega)];decide
    ·split at a;omega
     ·rw [qi (by omega),qi (by omega)];exact ih h1 a
theorem k0z:∀ xs ys:List Int,xs.length=ys.length->lexC xs ys=0->xs=ys
 | [],[],_,_=>rfl
 | [],_::_,h,_=>by simp at h
 | _::_,[],h,_=>by simp at h
 | x::xs,y::ys,h,h1=>by
  simp only [lexC] at h1;split at h1;omega
  ·split at h1;omega
   ·rw [k0z xs ys (by simpa using h) h1,show x=y by omega]
theorem k2r:∀ xs:List Int,lexC xs xs=0
 | []=>rfl
 | x::xs=>by simp only [lexC,Int.lt_irrefl,if_false];exact k2r xs
theorem kad2 (a b:Tm):cmpT a b=lex (cmpZ fun t:Tm=>(t.size:Int)) (lex (fun a b=>lexC a.rules b.rules) (fun a b=>lexC a.arities b.arities)) a b:=by
 unfold cmpT lex cmpZ;by_cases h1:a.size<b.size;rw [qo h1,qo (show (a.size:Int)<(b.size:Int) by omega),qo (by decide)]
 ·rw [qi h1,qi (show ¬ (a.size:Int)<(b.size:Int) by omega)];by_cases c:b.size<a.size;rw [qo c,qo (show (b.size:Int)<(a.size:Int) by omega),qo (by decide)]
  ·rw [qi c,qi (show ¬ (b.size:Int)<(a.size:Int) by omega),qi (show ¬ ((0:Int)≠0) by decide)]
theorem cmpZ_zero {α:Type} {f:α->Int} {x y:α}:cmpZ f x y=0↔f x=f y:=by
 unfold cmpZ;split;omega
 ·split <;> omega
theorem cmpT_ord:Ord3 (fun _ _=>True) cmpT:=by
 have:cmpT=lex (cmpZ fun t:Tm=>(t.size:Int)) (lex (fun a b=>lexC a.rules b.rules) (fun a b=>lexC a.arities b.arities)):=by funext a b;exact kad2 a b
 rw [this];have c:∀ {a b:Tm},cmpZ (fun t:Tm=>(t.size:Int)) a b=0->a.size=b.size:=fun h=>by have:=cmpZ_zero.1 h;omega
 refine Ord3.lex (fun _ _ _=>trivial) (kae4 _) (Ord3.lex (fun x y h=>⟨trivial,by have:=c h.2;exact cmpZ_zero.2 (by omega)⟩) ⟨fun x y h=>?_,fun x y z h1 d _=>?_⟩ ⟨fun x y h=>?_,fun x y z h1 d _=>?_⟩);exact kvg _ _ (by rw [Tm.rules_length,Tm.rules_length];exact c h.2);exact ksy _ _ _ (by rw [Tm.rules_length,Tm.rules_length];exact c h1.2) (by rw [Tm.rules_length,Tm.rules_length];exact c d.2);exact kvg _ _ (by rw [Tm.arities_length,Tm.arities_length];exact c h.1.2)
 ·exact ksy _ _ _ (by rw [Tm.arities_length,Tm.arities_length];exact c h1.1.2) (by rw [Tm.arities_length,Tm.arities_length];exact c d.1.2)
theorem cmpT_eq0 {s t:Tm}:cmpT s t=0↔s=t:=by
 constructor
 ·intro h;unfold cmpT at h;split at h;omega
  ·split at h;omega
   ·have hs:s.size=t.size:=(by omega);split at h;rename_i h0;exact absurd h h0
    ·rename_i h0;have e1:=k0z s.rules t.rules (by rw [Tm.rules_length,Tm.rules_length];exact hs) (by simpa using h0);have e2:=k0z s.arities t.arities (by rw [Tm.arities_length,Tm.arities_length];exact hs) h;exact (k7k s t [] [] [] [] (by simpa [Tm.rules] using e1) (by simpa [Tm.arities] using e2)).1
 ·rintro rfl;unfold cmpT;simp [k2r]
end TV
structure TC (S:Nat->Prop) (w:World) (N:Nat) where
 a:Value
 b:Value
 t:Tm
 hN:t.size<=N
 ra:RF S w a (eI t.rule)
 rb:RF S w b (eL 2 eTmR t.args)
def TC.enc {S:Nat->Prop} {w:World} {N:Nat} (x:TC S w N):List Value:=[x.a,x.b]
theorem TC.one {S:Nat->Prop} {w:World} {N:Nat} (x:TC S w N):∀ v∈x.enc,v.oneCell'=true:=by
 obtain ⟨a,b,t,_,ra,rb⟩:=x;intro v hv;rcases qae.1 hv with rfl | hv;rw [ra.atom_eq];rfl
 ·rw [qav.1 hv];cases rb;rfl
theorem TC.rf {S:Nat->Prop} {w:World} {N:Nat} (x:TC S w N):RF S w (.agg x.enc.toArray) (eTm x.t):=by
 refine .agg rfl (fun y hy=>?_) fun i v y hv hy=>?_;simp only [qae,List.not_mem_nil,or_false] at hy;rcases hy with rfl | rfl <;> rfl
 ·match i with
  | 0=>simp [TC.enc] at hv hy;subst hv hy;exact x.ra
  | 1=>simp [TC.enc] at hv hy;subst hv hy;exact x.rb
  | i+2=>simp at hy
theorem kaf4 {S:Nat->Prop} {w:World} {N:Nat}:∀ (xs:List Tm) (cs:List Value),cs.length=xs.length*2->(∀ t∈xs,t.size<=N) ->
  (∀ (i:Nat) (t:Tm) (j:Nat) (v:Value) (y:FV),xs[i]?=some t->cs[i*2+j]?=some v->(eTmR t).cells[j]?=some y->RF S w v y)->∃ d:List (TC S w N),d.map TC.t=xs/\d.flatMap TC.enc=cs
 | [],cs,hl,_,_=>⟨[],rfl,(qax (by simpa using hl)).symm⟩
 | t::xs,[],hl,_,_=>by simp at hl
 | t::xs,[u],hl,_,_=>by simp at hl;omega
 | t::xs,u::v::cs,hl,hN,hr=>by
  obtain ⟨d,h1,a⟩:=kaf4 xs cs (by simp at hl;omega) (fun s hs=>hN s (qh _ hs)) fun i s j z y hs b hy=>hr (i+1) s j z y (by simpa using hs) (by rw [show (i+1)*2+j=(i*2+j)+1+1 by omega];simpa using b) hy;have hc:(eTmR t).cells=[eI t.rule,eL 2 eTmR t.args]:=by rw [kpi];rfl
  exact ⟨⟨u,v,t,hN t (qv ..),hr 0 t 0 u _ rfl rfl (by rw [hc];rfl),hr 0 t 1 v _ rfl rfl (by rw [hc];rfl)⟩::d,by rw [qa5,h1],by rw [qbr,a];rfl⟩
theorem k91 {α:Type} {enc:α->List Value} (hk:∀ x,(enc x).length=2):∀ (d:List α) (j:Nat),(d.flatMap enc)[j]?=(d[j / 2]?).bind fun x=>(enc x)[j % 2]?
 | [],j=>by simp
 | x::d,j=>by
  have hx:=hk x;rw [qbr]
  match a:enc x,hx with
  | [u,v],_=>
   match j with
   | 0=>simp [a]
   | 1=>simp [a]
   | j+2=>
    have e1:(j+2) / 2=j / 2+1:=(by omega);have e2:(j+2) % 2=j % 2:=(by omega);rw [e1,e2];simpa using k91 hk d j
theorem kaa3 {α:Type} [Inhabited α] (enc:α->List Value) (d:List α) (hk:∀ x,(enc x).length=2:=by exact fun _=>rfl):(Go.Sort.flatK enc 2 d.toArray).toList=d.flatMap enc:=by
 have e:(d.flatMap enc).length=d.length*2:=by
  induction d with
  | nil=>rfl
  | cons x d ih=>rw [qbr,qy,ih,hk,qag];omega
 apply qbw;intro j;by_cases c:j<d.length*2
 ·have h1:=Go.Sort.get_flatK enc 2 d.toArray j (by simpa using c);have a:j / 2<d.length:=by omega
  have b:j % 2<(enc d[j / 2]).length:=by rw [hk];omega
  rw [k91 hk,qb a,qa,qb b,qal,qa6 (by simpa using c)];rw [getElem!_pos _ _ (by simpa using c)] at h1;rw [h1,getElem!_pos d.toArray (j / 2) (by simpa using a)];rw [List.getElem!_eq_getElem?_getD];simp [b]
 ·rw [qa4 (by simp;omega),qa4 (by omega)]
section
variable {P:Program} {o:Oper} {st:St} {id:Nat}
def SortR (cf:Tm->Tm->Int) (xs:List Tm) (e:TypeId) (id:Nat) (st:St) (c:AV) (h:List (Nat×AObj)) (i:List Nat):Prop:=
 c = .fz (.tup [])/\i=st.ids/\∃ ys:List Tm,ys.Perm xs/\ys.Pairwise (fun a b=>cf b a<0->False)/\h=(id, .frow e 2 (ys.map eTmR))::st.heap
theorem kajq {f g:FuncId} {ts:Array TypeId} {X:Operand} {e:TypeId} {n:Nat} {xs:List Tm} {N:Nat} (cf:Tm->Tm->Int)
  (az:∀ (α:Type) [Inhabited α] (enc:α->List Value) (_:∀ x,(enc x).length=2) (_:∀ x,∀ v∈enc x,v.oneCell'=true) (c:α->α->Int) (_:Sort.SWO (ltOf c)) (blk off cap:Nat) (d:Array α) (w:World),CmpLays P g #[] enc 2 c blk off d.size w->Go.Sort.HoldsK enc 2 w blk off d->blk<w.heap.size->d.size<4611686018427387904 ->
   Calls P f #[.slice (some ⟨blk,off,none⟩) d.size cap, .func (.func g) #[] #[]] w fun e w'=>e = .returned (.tuple #[])/\∃ d' n os,Sort.PermIn 0 d.size d d'/\Sort.SortedIn (ltOf c) 0 d.size d'/\w'=sortWorldK enc 2 w blk off n d' os)
  (aj:∀ (p:Option Addr) (cap:Nat) (fv:Value) (w:World),Calls P f #[.slice p 0 cap,fv] w fun e w'=>e = .returned (.tuple #[])/\w'=w)
  (hO:Sort.SWO (ltOf cf)) (hc:∀ s t:Tm,s.size<=N->t.size<=N->@PCall ⟨true⟩ P g [eTm s,eTm t] (eI (cf s t)))
  (hf : ∃ fn, P.funcs[f]? = some fn /\ fn.body.isNone = false /\ (fn.name == "runtime.NumGoroutine") = false)
  (ho:o.op = .call { callee := .value (.func f),args:=#[X, .func g],argTypes:=ts }) (hx:st.eval X = .row id n) (Q:kaa st.heap id=some (.frow e 2 (xs.map eTmR))) (hn:n=xs.length) (hN:∀ t∈xs,t.size<=N) (ak:xs.length<4611686018427387904):
  kfw P o st (SortR cf xs e id st):=by
 subst hn;intro F S0 N0 ψ S a w al;have l:=al.core;obtain ⟨be,⟨hl,am,cs,E,bf,hr⟩,a0⟩:=l.obj id _ Q;rw [qt] at hl E;have ab:=al.eval X;rw [hx] at ab;have hp:a.eval X=ψ.val id:=by
  generalize a.eval X=u at ab;cases ab with
  | row hK bg h1 hv=>exact hv hl.symm
 unfold kdf;rw [ku6 ho hf];rw [show (#[X,Operand.func g].map a.eval)=#[ψ.val id, .func (.func g) #[] #[]] by rw [List.map_toArray,qa5,qa5,List.map_nil,hp];rfl];by_cases hv:ψ.val id = .slice none 0 0
 ·have h0:xs=[]:=by
   rcases E.2 with ⟨_,h0⟩ | ⟨g,cap,cur,an,_⟩;exact qax h0
   ·rw [hv] at an;cases an
  subst h0;rw [hv];refine (aj none 0 _ w).mono ?_;rintro e' w' ⟨rfl,rfl⟩;have r:∀ i,kaa ((id,AObj.frow e 2 (([]:List Tm).map eTmR))::st.heap) i=kaa st.heap i:=fun i=>by
   rw [kac];split;rename_i hi;rw [<- hi,Q]
   ·rfl
  refine ⟨_,rfl,_,_,_,⟨rfl,rfl,[],List.Perm.nil,List.Pairwise.nil,rfl⟩,ψ,S,⟨fun i ob h=>l.obj i ob (by rw [<- r i];exact h),fun i i' ob ob' b h1 h2 I=>l.inj i i' ob ob' b (by rw [<- r i];exact h1) (by rw [<- r i'];exact h2) I,l.lt,l.s0,l.n0,l.fr⟩, .fz (.tup rfl (fun i v x h=>by simp at h)),Fr.refl,Ext.refl,fun _ h=>h,fun _ h=>h,fun _ _ _=>rfl⟩
 ·rcases E.2 with ⟨e0,_⟩ | ⟨blk,cap,cur,B,bh,R,J,a1,V,ac⟩;exact absurd e0 hv;have ao:blk<w.heap.size:=(qap.1 R).1;obtain ⟨d,ad,a2⟩:=kaf4 (S:=S) (w:=w) (N:=N) xs cs E.1 hN fun i t j v y ht hv hy=>hr i (eTmR t) j v y (by rw [qn,ht];rfl) hv hy;have H:d.length=xs.length:=by rw [<- ad,qt]
  cases xs with
  | nil=>
   -- no element
   rw [B];refine (aj _ cap _ w).mono ?_;rintro e' w' ⟨rfl,rfl⟩;have r:∀ i,kaa ((id,AObj.frow e 2 (([]:List Tm).map eTmR))::st.heap) i=kaa st.heap i:=fun i=>by
    rw [kac];split;rename_i hi;rw [<- hi,Q]
    ·rfl
   refine ⟨_,rfl,_,_,_,⟨rfl,rfl,[],List.Perm.nil,List.Pairwise.nil,rfl⟩,ψ,S,⟨fun i ob h=>l.obj i ob (by rw [<- r i];exact h),fun i i' ob ob' b h1 h2 I=>l.inj i i' ob ob' b (by rw [<- r i];exact h1) (by rw [<- r i'];exact h2) I,l.lt,l.s0,l.n0,l.fr⟩, .fz (.tup rfl (fun i v x h=>by simp at h)),Fr.refl,Ext.refl,fun _ h=>h,fun _ h=>h,fun _ _ _=>rfl⟩
  | cons x0 xs0=>
   obtain ⟨y0,bi⟩:∃ y0,y0∈d:=by
    cases d with
    | nil=>simp at ad
    | cons y d=>exact ⟨y,qv ..⟩
   letI:Inhabited (TC S w N):=⟨y0⟩
   have T:cur.toList.take (d.length*2)=d.flatMap (TC.enc (S:=S) (w:=w) (N:=N)):=(by rw [H,ac,a2]);have ae:=kaa3 (TC.enc (S:=S) (w:=w) (N:=N)) d;have hH:Go.Sort.HoldsK (TC.enc (S:=S) (w:=w) (N:=N)) 2 w blk 0 d.toArray:=(by intro j D;have D:j<d.length*2:=(by simpa using D);refine ⟨?_,by simp [World.frozen?,R]⟩;have h1:(cur.toList.take (d.length*2))[j]?=(Go.Sort.flatK (TC.enc (S:=S) (w:=w) (N:=N)) 2 d.toArray).toList[j]?:=(by rw [T,ae]);rw [List.getElem?_take_of_lt D,qal,qal,qa6 (xs:=Go.Sort.flatK (TC.enc (S:=S) (w:=w) (N:=N)) 2 d.toArray) (by simpa using D)] at h1;simp only [World.cell?,R,qb4];simp only [Option.isSome_none,qb0,if_false];rw [h1,getElem!_pos _ _ (by simpa using D)];rfl);have aq:¬ S blk:=fun h=>(a0 blk (.of (by rw [B];rfl))).1 h;have ar:CmpLays P g #[] (TC.enc (S:=S) (w:=w) (N:=N)) 2 (fun x y=>cf x.t y.t) blk 0 d.toArray.size w:=by
    intro m os dk U x y;have O:Same S w (sortWorldK (TC.enc (S:=S) (w:=w) (N:=N)) 2 w blk 0 m dk os):=fun b hb hl=>(by unfold sortWorldK;rw [Go.Sort.heap_grow_old _ _ (by rw [Go.Sort.size_putRowK];exact hl)];have:blk≠b:=fun e=>aq (e ▸ hb);simp [Go.Sort.putRowK,Sort.putRow,Sort.mapBlock,Sort.ahead,qb5,this]);have h:=(hc x.t y.t x.hN y.hN).2 S (sortWorldK (TC.enc (S:=S) (w:=w) (N:=N)) 2 w blk 0 m dk os) #[.agg x.enc.toArray, .agg y.enc.toArray] rfl (fun i v z hv hz=>by
     match i with
     | 0=>simp at hv hz;subst hv hz;exact x.rf.keep O
     | 1=>simp at hv hz;subst hv hz;exact y.rf.keep O
     | i+2=>simp at hz)
    refine Calls.mono (by simpa using h) ?_;rintro e' w' ⟨v,rfl,hv,hg⟩;rw [hv.atom_eq];refine ⟨rfl,w'.drawn - (sortWorldK (TC.enc (S:=S) (w:=w) (N:=N)) 2 w blk 0 m dk os).drawn,w'.heap.extract (sortWorldK (TC.enc (S:=S) (w:=w) (N:=N)) 2 w blk 0 m dk os).heap.size w'.heap.size,?_⟩;generalize sortWorldK (TC.enc (S:=S) (w:=w) (N:=N)) 2 w blk 0 m dk os=W at *
    have a3:=@Below.drawn ⟨true⟩ _ _ _ hg rfl;obtain ⟨af,tp',dr',os',out'⟩:=w';obtain ⟨hp,tp,dr,os,out⟩:=W;have e1:=hg.os;have e2:=hg.tape;have e3:=hg.output;have e4:=hg.size;have e5:=hg.block;simp only at e1 e2 e3 e4 e5 a3;cases e1;cases e2;cases e3;show World.mk _ _ _ _ _=World.mk (hp++af.extract hp.size af.size) _ (dr+(dr' - dr)) _ _;rw [show dr+(dr' - dr)=dr' by omega];congr 1;apply Array.ext_getElem?;intro k;by_cases hk:k<hp.size;rw [qa9 hk,e5 k hk]
    ·rw [Array.getElem?_append_right (by omega),Array.getElem?_extract];by_cases bj:k<af.size;rw [qo (by omega)];congr 1;omega
     ·rw [qi (by omega),qb2 (by omega)]
   have a4:Sort.SWO (ltOf fun x y:TC S w N=>cf x.t y.t):=⟨fun x=>hO.irrefl x.t,fun x y z=>hO.trans x.t y.t z.t,fun x y z=>hO.ntrans x.t y.t z.t⟩;have K:=az (TC S w N) TC.enc (fun _=>rfl) (fun x=>x.one) (fun x y=>cf x.t y.t) a4 blk 0 cap d.toArray w ar hH ao (by simpa [H] using ak);rw [B];rw [show d.toArray.size=(x0::xs0).length by simpa using H] at K;refine K.mono ?_;rintro e' w' ⟨rfl,d',q,os,ag,L,rfl⟩;obtain ⟨p1,_,p3⟩:=ag;have Y:d'.size=d.length:=(by simpa using p1);have a5:d'.toList.Perm d:=(by have h1:(d'.extract 0 (x0::xs0).length)=d':=(by rw [<- H,<- Y];simp);have h2:(d.toArray.extract 0 (x0::xs0).length)=d.toArray:=(by rw [<- H];simp);rw [h1,h2] at p3;exact p3);obtain ⟨dl,Z⟩:∃ dl,dl=d'.toList:=⟨_,rfl⟩;have au:d'=dl.toArray:=(by rw [Z]);subst au;clear Z;have A:dl.length=(x0::xs0).length:=(by rw [<- H];simpa using Y);have G:=kaa3 (TC.enc (S:=S) (w:=w) (N:=N)) dl;have a6:(dl.map TC.t).Perm (x0::xs0):=(by rw [<- ad];exact (by simpa using a5:dl.Perm d).map _);have a7:(dl.map TC.t).Pairwise (fun a b=>cf b a<0->False):=(by rw [List.pairwise_map,List.pairwise_iff_getElem];intro i j hi D a8 av;have:=L i j (qak _) a8 (by rw [<- A];exact D);rw [getElem!_pos dl.toArray j (by simpa using D),getElem!_pos dl.toArray i (by simpa using hi)] at this;simp only [ltOf,List.getElem_toArray,decide_eq_false_iff_not] at this;exact this av);obtain ⟨W,O⟩:∃ W,W=sortWorldK (TC.enc (S:=S) (w:=w) (N:=N)) 2 w blk 0 q dl.toArray os:=⟨_,rfl⟩;have M:w.heap.size<=W.heap.size:=(by rw [O];exact size_sortWorldK_c (TC.enc (S:=S) (w:=w) (N:=N)) 2 w blk 0 q dl.toArray os);have aw:∀ k,k<w.heap.size->k≠blk->W.heap[k]?=w.heap[k]?:=fun k hk I=>(by rw [O];unfold sortWorldK;rw [Go.Sort.heap_grow_old _ _ (by rw [Go.Sort.size_putRowK];exact hk)];simp [Go.Sort.putRowK,Sort.putRow,Sort.mapBlock,Sort.ahead,qb5,Ne.symm I]);have a9:W.heap[blk]?=some (.cells (Sort.putCells _root_.id 0 (Go.Sort.flatK (TC.enc (S:=S) (w:=w) (N:=N)) 2 dl.toArray) cur) e (0,0)):=(by rw [O];unfold sortWorldK;rw [Go.Sort.heap_grow_old _ _ (by rw [Go.Sort.size_putRowK];exact ao)];simp [Go.Sort.putRowK,Sort.putRow,Sort.mapBlock,Sort.ahead,qb5,R,Sort.onCells]);have bk:(Go.Sort.flatK (TC.enc (S:=S) (w:=w) (N:=N)) 2 dl.toArray).size<=cur.size:=(by rw [Go.Sort.size_flatK,V];have:dl.toArray.size=dl.length:=(by simp);rw [this,A];exact qau 2 J);have ah:W.ownsRow 0 e 2 (ψ.val id) (x0::xs0).length (dl.flatMap (TC.enc (S:=S) (w:=w) (N:=N))):=by
    refine ⟨?_, .inr ⟨blk,cap,_,B,qak _,a9,J,a1,by simp [Sort.putCells,V],?_⟩⟩;rw [<- G];simp [A]
    ·rw [<- G];apply qbw;intro j;have ba:(Go.Sort.flatK (TC.enc (S:=S) (w:=w) (N:=N)) 2 dl.toArray).size=(x0::xs0).length*2:=(by rw [Go.Sort.size_flatK];simp [A]);by_cases D:j<(x0::xs0).length*2;rw [List.getElem?_take_of_lt D,qal,qal];have bb:j<cur.size:=(by omega);have ai:j<(Go.Sort.flatK (TC.enc (S:=S) (w:=w) (N:=N)) 2 dl.toArray).size:=(by omega);simp only [Sort.putCells,Array.getElem?_mapIdx,qa6 bb,qa3,qa6 ai,qak,true_and,qb4,qo ai,Nat.sub_zero,_root_.id];rw [getElem!_pos (Go.Sort.flatK (TC.enc (S:=S) (w:=w) (N:=N)) 2 dl.toArray) j ai]
     ·rw [List.getElem?_take_eq_none (by omega),qa4 (by rw [qaf,ba];omega)]
   rw [<- O];have ax:∀ k,k<w.heap.size->¬ Blk (ψ.val id) k->W.heap[k]?=w.heap[k]?:=fun k bc hk=>aw k bc fun e=>hk (.of (by rw [B,e];rfl));have aa:ψ.set id (x0::xs0).length (ψ.val id)=ψ:=by
    unfold Env.set;congr 1
    ·funext j;split;rename_i D;rw [D,hl]
     ·rfl
    ·funext j;split;rename_i D;rw [D]
     ·rfl
   have ay:Same S w W:=fun k hk bd=>aw k bd fun e=>aq (e ▸ hk);obtain ⟨c1,c2,c3⟩:=l.upd (n:=(x0::xs0).length) (v:=ψ.val id) (w':=W) (ob' := .frow e 2 ((dl.map TC.t).map eTmR)) Q M ax (.inr ⟨hl,rfl⟩) (fun b hb => .inl hb) (by
    rw [aa];refine ⟨by rw [hl];simp [A],am,dl.flatMap (TC.enc (S:=S) (w:=w) (N:=N)),by rw [qt,qt,A];exact ah,fun z C=>?_,fun k z j v y C hv hy=>?_⟩;obtain ⟨t,ht,rfl⟩:=qai.1 C;rw [kpi];exact ⟨rfl,fun y hy=>by have hy:y∈[eI t.rule,eL 2 eTmR t.args]:=hy;simp only [qae,List.not_mem_nil,or_false] at hy;rcases hy with rfl | rfl <;> rfl⟩
    ·rw [qn,qn] at C;cases U:dl[k]? with
     | none=>rw [U] at C;simp at C
     | some x=>
      rw [U] at C;simp only [qa3,qc] at C;subst C;rw [kpi] at hy;have hy:[eI x.t.rule,eL 2 eTmR x.t.args][j]?=some y:=hy;have D:j<2:=(qf.1 hy).1;rw [k91 (fun _=>rfl),show (k*2+j) / 2=k by omega,U,qa,show (k*2+j) % 2=j by omega] at hv
      match j,D with
      | 0,_=>simp [TC.enc] at hv hy;subst hv hy;exact x.ra.keep ay
      | 1,_=>simp [TC.enc] at hv hy;subst hv hy;exact x.rb.keep ay)
   rw [aa] at c1;exact ⟨_,rfl,_,_,_,⟨rfl,rfl,dl.map TC.t,a6,a7,rfl⟩,ψ,S,c1, .fz (.tup rfl (fun i v x h=>by simp at h)),⟨by rw [O];rfl,by rw [O];rfl,by rw [O];rfl,M,c3,no0⟩,Ext.refl,fun _ h=>h,fun _ h=>h,c2⟩
end
open Go Go.Proofs Go.Proofs.Tryz
open Go.Shelf Go.Proofs.Tryz
def k6s:Go.Shelf.Ren:=⟨fun | 6=>32 | 15=>64 | 14=>63 | 28=>102 | 29=>103 | 20=>94 | 21=>95 | 22=>96 | 23=>97 | 24=>98 | 25=>99 | 26=>100 | 27=>101 | 46=>126 | 47=>127 | 48=>128 | 49=>129 | 50=>130 | 57=>139 | n=>n,fun | 22=>27 | 24=>29 | 25=>50 | 3=>3 | 39=>111 | 0=>0 | 53=>159 | 55=>161 | 4=>4 | 46=>152 | 45=>151 | 50=>156 | 5=>5 | 9=>9 | 66=>187 | 70=>191 | 76=>202 | 77=>203 | n=>n,fun | n=>n⟩
theorem k72:Go.Proofs.SlLaysF0.n6 prog k6s:={
 mixed:=by kernel_rfl
 f6:=⟨Tryz.f32.name,by decide,func32.trans (qbc some (by kernel_rfl))⟩
 f14:=⟨Tryz.f63.name,by decide,func63.trans (qbc some (by kernel_rfl))⟩
 f15:=func64.trans (qbc some (by kernel_rfl))
 f20:=⟨Tryz.f94.name,by decide,func94.trans (qbc some (by kernel_rfl))⟩
 f21:=⟨Tryz.f95.name,by decide,func95.trans (qbc some (by kernel_rfl))⟩
 f22:=⟨Tryz.f96.name,by decide,func96.trans (qbc some (by kernel_rfl))⟩
 f23:=⟨Tryz.f97.name,by decide,func97.trans (qbc some (by kernel_rfl))⟩
 f24:=⟨Tryz.f98.name,by decide,func98.trans (qbc some (by kernel_rfl))⟩
 f25:=⟨Tryz.f99.name,by decide,func99.trans (qbc some (by kernel_rfl))⟩
 f26:=⟨Tryz.f100.name,by decide,func100.trans (qbc some (by kernel_rfl))⟩
 f27:=⟨Tryz.f101.name,by decide,func101.trans (qbc some (by kernel_rfl))⟩
 f28:=func102.trans (qbc some (by kernel_rfl))
 f29:=func103.trans (qbc some (by kernel_rfl))
 f46:=⟨Tryz.f126.name,by decide,func126.trans (qbc some (by kernel_rfl))⟩
 f47:=func127.trans (qbc some (by kernel_rfl))
 f48:=func128.trans (qbc some (by kernel_rfl))
 f49:=⟨Tryz.f129.name,by decide,func129.trans (qbc some (by kernel_rfl))⟩
 f50:=⟨Tryz.f130.name,by decide,func130.trans (qbc some (by kernel_rfl))⟩
 f57:=⟨Tryz.f139.name,by decide,func139.trans (qbc some (by kernel_rfl))⟩
 t0:=underlying0
 a0:=isAgg0
 z0:=sizeOf0
 v0:=zeroValue0
 t3:=underlying3
 a3:=isAgg3
 z3:=sizeOf3
 v3:=zeroValue3
 t4:=underlying4
 a4:=isAgg4
 z4:=sizeOf4
 v4:=zeroValue4
 t5:=underlying5
 a5:=isAgg5
 z5:=sizeOf5
 v5:=zeroValue5
 t9:=underlying9
 a9:=isAgg9
 z9:=sizeOf9
 v9:=zeroValue9
 t22:=underlying27
 a22:=isAgg27
 z22:=sizeOf27
 v22:=zeroValue27
 t25:=underlying50
 a25:=isAgg50
 z25:=sizeOf50
 v25:=zeroValue50
 t39:=underlying111
 a39:=isAgg111
 z39:=sizeOf111
 v39:=zeroValue111
 t45:=underlying151
 a45:=isAgg151
 z45:=sizeOf151
 v45:=zeroValue151
 t46:=underlying152
 a46:=isAgg152
 z46:=sizeOf152
 v46:=zeroValue152
 t50:=underlying156
 a50:=isAgg156
 z50:=sizeOf156
 v50:=zeroValue156
 t53:=underlying159
 a53:=isAgg159
 z53:=sizeOf159
 v53:=zeroValue159
 t55:=underlying161
 a55:=isAgg161
 z55:=sizeOf161
 v55:=zeroValue161
 t66:=underlying187
 a66:=isAgg187
 z66:=sizeOf187
 v66:=zeroValue187
 t70:=underlying191
 a70:=isAgg191
 z70:=sizeOf191
 v70:=zeroValue191
 t76:=underlying202
 a76:=isAgg202
 z76:=sizeOf202
 v76:=zeroValue202
 t77:=underlying203
 a77:=isAgg203
 z77:=sizeOf203
 v77:=zeroValue203 }
theorem cmpC (s t:Tm) (hs:s.size<=1000) (ht:t.size<=1000):@PCall ⟨true⟩ prog 33 [eTm s,eTm t] (eI (TV.cmpT s t)):=@kmq ⟨true⟩ s t _ (TV.cmp_prog s t hs ht)
theorem kafx:Sort.SWO (ltOf TV.cmpT):=by
 have an:=fun x y=>TV.cmpT_ord.anti x y trivial;have tr:=fun x y z=>TV.cmpT_ord.trans x y z trivial trivial trivial;refine ⟨fun x=>?_,fun x y z h1 a=>?_,fun x y z h1 a=>?_⟩;have:=an x x;simp only [ltOf,decide_eq_false_iff_not];omega
 ·simp only [ltOf,qbn] at h1 a ⊢;have b:=tr x y z (by omega) (by omega);have c:TV.cmpT x z≠0:=fun h=>by have e:=TV.cmpT_eq0.1 h;subst e;have:=an x y;omega
  omega
 ·simp only [ltOf,decide_eq_false_iff_not] at h1 a ⊢;have e1:=an x y;have e2:=an y z;have e3:=an x z;have:=tr z y x (by omega) (by omega);omega
def kgu (xs:List Tm):List Tm:=xs.mergeSort fun x y=>decide (TV.cmpT x y<=0)
theorem k5k {xs ys:List Tm} (h:ys.Perm xs) (hs:ys.Pairwise fun a b=>TV.cmpT b a<0->False):ys=kgu xs:=by
 have an:=fun x y=>TV.cmpT_ord.anti x y trivial;have tr:=fun x y z=>TV.cmpT_ord.trans x y z trivial trivial trivial;refine List.Perm.eq_of_pairwise (le:=fun x y=>TV.cmpT x y<=0) ?_ ?_ ?_ (h.trans (List.mergeSort_perm _ _).symm);intro a b _ _ h1 d;have:=an a b;exact TV.cmpT_eq0.1 (by omega)
 ·exact hs.imp fun {a b} h=>by have:=an a b;have:¬ TV.cmpT b a<0:=h;omega
 ·refine (List.pairwise_mergeSort (le:=fun x y=>decide (TV.cmpT x y<=0)) (fun a b c h1 d=>?_) (fun a b=>?_) xs).imp fun {a b} h=>by simpa using h
  simp only [qbn] at h1 d ⊢;exact tr a b c h1 d
  ·have:=an a b;simp only [qb1,qbn];omega
def kqf (xs:List Tm):Option (List Tm):=bif Nat.blt xs.length 4611686018427387904 && xs.all (fun t=>Nat.ble t.size 1000) then some (kgu xs) else none
theorem kw7 {xs v:List Tm} (h:kqf xs=some v):xs.length<4611686018427387904/\(∀ t∈xs,t.size<=1000)/\v=kgu xs:=by
 unfold kqf at h;cases hc:(Nat.blt xs.length 4611686018427387904 && xs.all (fun t=>Nat.ble t.size 1000)) with
 | false=>rw [hc] at h;cases h
 | true=>
  rw [hc] at h;injection h with h;rw [qr] at hc;exact ⟨qp hc.1,fun t ht=>qp (qu.1 hc.2 t ht),h.symm⟩
theorem k9g {xs v:List Tm} (h:kqf xs=some v):xs.length=v.length:=by rw [(kw7 h).2.2,kgu,List.length_mergeSort]
theorem kak8:∀ args w,(callFunc 33 args).run prog w = .ok (.enter 33 args) w:=enters_of func33 (by kernel_rfl) rfl
section
variable {st:St} {o:Oper} {id:Nat}
theorem kafm (ts:Array TypeId) (X:Operand) (g:Nat) (e:TypeId) (n:Nat) (xs:List Tm) {v:List Tm} (h:kqf xs=some v) (l:o.op = .call { callee := .value (.func 32),args:=#[X, .func 33],argTypes:=ts }) (hx:st.eval X = .row id n) (i:kaa st.heap id=some (.frow e 2 (xs.map eTmR))) (hn:n=xs.length):
  StepA prog o st (.fz (.tup [])) ((id, .frow e 2 (v.map eTmR))::st.heap) st.ids:=by
 obtain ⟨h1,m,rfl⟩:=kw7 h;have hd:=kajq (o:=o) (st:=st) (id:=id) (n:=n) (xs:=xs) (N:=1000) TV.cmpT
  (fun α _ enc hk h1 c q blk off cap d w b r f j=>AnyQ.slices_SortFunc k72 2 (fun w=>by kernel_rfl) (fun w=>by kernel_rfl) enc hk h1 c q 33 #[] blk off cap d w kak8 b r f j)
  (fun p cap fv w=>AnyF.slices_SortFunc_none k72 p cap fv w) kafx cmpC
  ⟨_,func32,by kernel_rfl,by kernel_rfl⟩ l hx i hn m h1
 intro F S0 N0 ψ S a w hs;refine kjv ?_ (hd F S0 N0 ψ S a w hs);rintro u w' ⟨c,k,ids',⟨rfl,rfl,ys,hp,s,rfl⟩,hr⟩;rw [<- k5k hp s];exact hr
end
end Go.Proofs.YtdnfbjahbkpibaaGreatDoor
