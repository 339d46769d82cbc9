import Derived.Test.YtpnnpkmjohkgiaaGreatDoorFin
import Derived.Test.YtpnnpkmjohkgiaaGreatDoorOpm
import Derived.Test.YtpnnpkmjohkgiaaGreatDoorOpo
import Derived.Test.YtpnnpkmjohkgiaaGreatDoorZE
set_option linter.all false
namespace Go.Proofs.YtpnnpkmjohkgiaaGreatDoor
open Go Go.RowKit
def kdv (a b:BA):Bool:=Op.bytesLess a.toList b.toList
mutual
def cmpV:Va->Va->Int
 | .mk t n s l, .mk t' n' s' l'=>
  if t<t' then -1 else if t'<t then 1 else if n<n' then -1 else if n'<n then 1 else if kdv s s'=true then -1 else if kdv s' s=true then 1 else keq l l'
def keq:List Va->List Va->Int
 | [],[]=>0
 | [],_::_ => -1
 | _::_,[]=>1
 | x::l,y::m=>if cmpV x y≠0 then cmpV x y else keq l m
end
def eqV (a b:Va):Bool:=decide (cmpV a b=0)
theorem kic:∀ l:List UInt8,Op.bytesLess l l=false
 | []=>rfl
 | x::l=>by simp [Op.bytesLess,kic l]
theorem kmi:∀ l m:List UInt8,Op.bytesLess l m=false->Op.bytesLess m l=false->l=m
 | [],[],_,_=>rfl
 | [],y::m,h,_=>by simp [Op.bytesLess] at h
 | x::l,[],_,h=>by simp [Op.bytesLess] at h
 | x::l,y::m,h,a=>by
  simp only [Op.bytesLess,Bool.or_eq_false_iff,Bool.and_eq_false_iff,qbe,qar] at h a;have b:x=y:=by have h1:=h.1;have c:=a.1;exact UInt8.le_antisymm (UInt8.not_lt.1 c) (UInt8.not_lt.1 h1)
  subst b;rw [kmi l m (h.2.resolve_left fun h=>h rfl) (a.2.resolve_left fun h=>h rfl)]
theorem km6 {a b:BA} (h:a.toList=b.toList):a=b:=by rw [ByteArray.toList_eq,ByteArray.toList_eq] at h;obtain ⟨⟨a⟩⟩:=a;obtain ⟨⟨b⟩⟩:=b;simp at h;rw [h]
theorem kqi (a:BA):kdv a a=false:=kic _
theorem kuo {a b:BA} (h:kdv a b=false) (c:kdv b a=false):a=b:=km6 (kmi _ _ h c)
theorem kwi (l:List Va) (h:∀ x∈l,cmpV x x=0):keq l l=0:=by
 induction l with
 | nil=>rfl
 | cons x l ih=>
  rw [keq,ql (by simp [h x (by simp)])];exact ih fun y hy=>h y (by simp [hy])
theorem kzj (v:Va):cmpV v v=0:=by
 induction v using Va.ind with
 | h t n s l ih=>
  rw [cmpV,ql (by omega),ql (by omega),ql (by omega),ql (by omega),kqi];simp only [Bool.false_eq_true,if_false];exact kwi l ih
theorem kup:∀ (l m:List Va),(∀ x∈l,∀ y,cmpV x y=0->x=y)->keq l m=0->l=m
 | [],[],_,_=>rfl
 | [],_::_,_,h=>by simp [keq] at h
 | _::_,[],_,h=>by simp [keq] at h
 | x::l,y::m,ih,h=>by
  rw [keq] at h;split at h;rename_i h1;exact absurd h h1
  ·rename_i h1;have h1:cmpV x y=0:=(by omega);rw [ih x (by simp) y h1,kup l m (fun z a=>ih z (by simp [a])) h]
theorem k4s (v:Va):∀ u,cmpV v u=0->v=u:=by
 induction v using Va.ind with
 | h t n s l ih=>
  rintro ⟨t',n',s',l'⟩ h;rw [cmpV] at h
  repeat' split at h
  all_goals try (exfalso;omega)
  rename_i h1 c d e a b;obtain rfl:t=t':=by omega
  obtain rfl:n=n':=by omega
  obtain rfl:s=s':=kuo (by simpa using a) (by simpa using b);rw [kup l l' ih h]
theorem k0z (v:Va):eqV v v=true:=by unfold eqV;rw [kzj];rfl
theorem klc:fuel=18446744073709551615+1:=rfl
theorem kit {n:Nat} (h:n<18446744073709551616):n<fuel:=h
theorem kje {n:Int} (h : -9223372036854775808<=n) (a:n<=9223372036854775807):w64 n=n:=by
 unfold w64 IntKind.wrap IntKind.signed IntKind.bits;simp only;rw [show (2:Int) ^ 64=18446744073709551616 from rfl];by_cases h0:0<=n;have:n % 18446744073709551616=n:=Int.emod_eq_of_lt h0 (by omega);simp [this];omega
 ·have:n % 18446744073709551616=n+18446744073709551616:=by rw [<- Int.add_emod_right,Int.emod_eq_of_lt (by omega) (by omega)]
  simp [this];omega
theorem kch {n:Nat} (h:n<=9223372036854775806):w64 ((n:Int)+1)=((n+1:Nat):Int):=by rw [kje (by omega) (by omega)];omega
theorem kaj {α:Type} (xs:List α) (n:Nat):idx xs (n:Int)=xs[n]?:=by unfold idx;rw [qq (by omega)];simp
theorem k35 (s:BA) (n:Nat):byt s (n:Int)=(s[n]?).map fun c=>(c.toNat:Int):=by unfold byt;rw [qq (by omega)];simp
theorem kpz {α:Type} {b:Nat} {xs ys:List α} (h:(xs.length+ys.length)*(b+1)<=140737488355328):app b xs ys=some (xs++ys):=by unfold app;rw [qq h]
section
variable {σ β:Type} {step:σ->Option (σ ⊕ β)}
theorem kus (n:Nat) (S:Nat->σ) (out:Nat->β) (hs:∀ i,i<n->(step (S i)=some (.inl (S (i+1)))/\out i=out (i+1))\/step (S i)=some (.inr (out i))) (a:step (S n)=some (.inr (out n))):
  ∀ (k i:Nat),i<=n->n - i<k->kac step k (S i)=some (out i)
 | 0,i,_,h=>by omega
 | k+1,i,hi,hk=>by
  rw [kac];by_cases h:i=n;subst h;rw [a]
  ·rcases hs i (by omega) with ⟨h1,b⟩ | h1;rw [h1,b];exact kus n S out hs a k (i+1) (by omega) (by omega)
   ·rw [h1]
theorem kgb (n:Nat) (hn:n<18446744073709551616) (S:Nat->σ) (out:Nat->β) (hs:∀ i,i<n->(step (S i)=some (.inl (S (i+1)))/\out i=out (i+1))\/step (S i)=some (.inr (out i))) (a:step (S n)=some (.inr (out n))):
  kac step fuel (S 0)=some (out 0):=kus n S out hs a fuel 0 (qag _) (kit (by omega))
theorem kmc (n:Nat) (hn:n<18446744073709551616) (S:Nat->σ) (b:β) (hs:∀ i,i<n->step (S i)=some (.inl (S (i+1)))) (a:step (S n)=some (.inr b)):kac step fuel (S 0)=some b:=
 kgb n hn S (fun _=>b) (fun i hi => .inl ⟨hs i hi,rfl⟩) a
theorem kh3 {step':σ->Option (σ ⊕ β)} (n:Nat) (hn:n<18446744073709551616) (S:Nat->σ) (hs:∀ i,i<n->(step (S i)=some (.inl (S (i+1)))/\step' (S i)=some (.inl (S (i+1))))\/∃ b,step (S i)=some (.inr b)/\step' (S i)=some (.inr b))
  (b:β) (e:step (S n)=some (.inr b)) (a:step' (S n)=some (.inr b)):∃ r,kac step fuel (S 0)=some r/\kac step' fuel (S 0)=some r:=by
 have key:∀ (k i:Nat),i<=n->n - i<k->∃ r,kac step k (S i)=some r/\kac step' k (S i)=some r:=by
  intro k
  induction k with
  | zero=>intro i _ h;omega
  | succ k ih=>
   intro i hi hk;rw [kac,kac];by_cases h:i=n;subst h;rw [e,a];exact ⟨b,rfl,rfl⟩
   ·rcases hs i (by omega) with ⟨h1,d⟩ | ⟨c,h1,d⟩;rw [h1,d];exact ih (i+1) (by omega) (by omega)
    ·rw [h1,d];exact ⟨c,rfl,rfl⟩
 exact key fuel 0 (qag _) (kit (by omega))
end
theorem kgw {σ β σ' β':Type} {step:σ->Option (σ ⊕ β)} {step':σ'->Option (σ' ⊕ β')} (n:Nat) (hn:n<18446744073709551616) (S:Nat->σ) (S':Nat->σ') (Q:β->β'->Prop)
  (hs:∀ i,i<n->(step (S i)=some (.inl (S (i+1)))/\step' (S' i)=some (.inl (S' (i+1))))\/∃ b b',step (S i)=some (.inr b)/\step' (S' i)=some (.inr b')/\Q b b')
  (d:∃ b b',step (S n)=some (.inr b)/\step' (S' n)=some (.inr b')/\Q b b'):∃ r r',kac step fuel (S 0)=some r/\kac step' fuel (S' 0)=some r'/\Q r r':=by
 have key:∀ (k i:Nat),i<=n->n - i<k->∃ r r',kac step k (S i)=some r/\kac step' k (S' i)=some r'/\Q r r':=by
  intro k
  induction k with
  | zero=>intro i _ h;omega
  | succ k ih=>
   intro i hi hk;rw [kac,kac];by_cases h:i=n;subst h;obtain ⟨b,b',h1,a,c⟩:=d;rw [h1,a];exact ⟨b,b',rfl,rfl,c⟩
   ·rcases hs i (by omega) with ⟨h1,a⟩ | ⟨b,b',h1,a,c⟩;rw [h1,a];exact ih (i+1) (by omega) (by omega)
    ·rw [h1,a];exact ⟨b,b',rfl,rfl,c⟩
 exact key fuel 0 (qag _) (kit (by omega))
theorem kdf {n i:Nat} (h:i<n):decide ((i:Int)<(n:Int))=true:=qk (by omega)
theorem kcn (n:Nat):decide ((n:Int)<(n:Int))=false:=qi (by omega)
theorem kbs {n m:Nat} (h:n<m) (hm:m<=9223372036854775807):w64 ((n:Int)+1)=((n+1:Nat):Int):=kch (by omega)
theorem keu {α:Type} {xs:List α} {i:Nat} {x:α} (h:xs[i]?=some x):i<xs.length:=(qg.1 h).1
theorem kji {β:Type} {step:Int->Option (Int ⊕ β)} (n:Nat) (hn:n<18446744073709551616) (bad:Nat->Bool) (b:Nat->β) (miss:β) (hs:∀ i,i<n->step (i:Int)=if bad i=true then some (.inr (b i)) else some (.inl ((i+1:Nat):Int))) (f:step (n:Int)=some (.inr miss)):
  (∃ i,i<n/\bad i=true/\(∀ j,j<i->bad j=false)/\kac step fuel 0=some (b i))\/((∀ i,i<n->bad i=false)/\kac step fuel 0=some miss):=by
 have key:∀ (k i:Nat),i<=n->n - i<k->(∀ j,j<i->bad j=false)->(∃ m,m<n/\bad m=true/\(∀ j,j<m->bad j=false)/\kac step k (i:Int)=some (b m))\/((∀ i,i<n->bad i=false)/\kac step k (i:Int)=some miss):=by
  intro k
  induction k with
  | zero=>intro i _ h;omega
  | succ k ih=>
   intro i hi hk c;rw [kac];by_cases d:i=n;subst d;rw [f];exact .inr ⟨c,rfl⟩
   ·rw [hs i (by omega)];by_cases a:bad i=true;rw [qq a];exact .inl ⟨i,by omega,a,c,rfl⟩
    ·rw [ql a];exact ih (i+1) (by omega) (by omega) fun j g=>by
      by_cases e:j=i;subst e;simpa using a
      ·exact c j (by omega)
 have:=key fuel 0 (qag _) (kit (by omega)) fun j g=>by omega
 simpa using this
set_option maxRecDepth 100000
def Ev {α:Type} (x:Option α) (P:α->Prop):Prop:=∃ v,x=some v/\P v
theorem Ev.mono {α:Type} {x:Option α} {P Q:α->Prop} (h:Ev x P) (hp:∀ v,P v->Q v):Ev x Q:=by obtain ⟨v,h1,a⟩:=h;exact ⟨v,h1,hp v a⟩
theorem kgp {α β:Type} {x:Option α} {k:α->Option β} {P:β->Prop} (h:Ev x fun v=>Ev (k v) P):Ev (Option.bind x k) P:=by obtain ⟨v,rfl,u,h1,a⟩:=h;exact ⟨u,h1,a⟩
theorem k4e {σ β:Type} {step:σ->Option (σ ⊕ β)} {s0:σ} {Q:β->Prop} (n:Nat) (I:Nat->σ->Prop) (hn:n<18446744073709551616) (h0:I 0 s0)
  (hs:∀ i s,i<n->I i s->Ev (step s) (Sum.elim (I (i+1)) Q)) (d:∀ s,I n s->Ev (step s) fun r=>∃ b,r = .inr b/\Q b):Ev (kac step fuel s0) Q:=by
 have key:∀ (k m N:Nat) (s:σ),m+k=n->k<N->I m s->Ev (kac step N s) Q:=by
  intro k
  induction k with
  | zero=>
   intro m N s hm e c;obtain ⟨N,rfl⟩:∃ j,N=j+1:=⟨N - 1,by omega⟩;obtain rfl:m=n:=(by omega);obtain ⟨r,h1,b,rfl,a⟩:=d s c;exact ⟨b,by rw [kac,h1],a⟩
  | succ k ih=>
   intro m N s hm e c;obtain ⟨N,rfl⟩:∃ j,N=j+1:=⟨N - 1,by omega⟩;obtain ⟨r,h1,a⟩:=hs m s (by omega) c;cases r with
   | inl s'=>
    obtain ⟨b,f,g⟩:=ih (m+1) N s' (by omega) (by omega) a;exact ⟨b,by rw [kac,h1];exact f,g⟩
   | inr b=>exact ⟨b,by rw [kac,h1],a⟩
 exact key n 0 fuel s0 (by omega) (kit hn) h0
theorem kfx {α σ τ β:Type} {xs:List α} {step:σ->Option (σ ⊕ β)} {Q:β->Prop} (mk:Nat->τ->σ) (I:Nat->τ->Prop) {t0:τ} (hn:xs.length<=9223372036854775807) (h0:I 0 t0)
  (hs:∀ i t (hi:i<xs.length),I i t->Ev (step (mk i t)) (Sum.elim (fun s=>∃ t',s=mk (i+1) t'/\I (i+1) t') Q)) (a:∀ t,I xs.length t->Ev (step (mk xs.length t)) fun r=>∃ b,r = .inr b/\Q b):Ev (kac step fuel (mk 0 t0)) Q:=by
 refine k4e xs.length (fun i s=>∃ t,s=mk i t/\I i t) (by omega) ⟨t0,rfl,h0⟩ (fun i s hi ⟨t,e,h⟩=>?_) (fun s ⟨t,e,h⟩=>?_);subst e;exact hs i t hi h
 ·subst e;exact a t h
abbrev Opn:=Sac
abbrev Nod:=Saa
abbrev Spa:=Sad
def cmpI:List Int->List Int->Int
 | [],[]=>0
 | [],_::_ => -1
 | _::_,[]=>1
 | x::xs,y::ys=>if x<y then -1 else if y<x then 1 else cmpI xs ys
def kge (a b:Opn):Int:=if a.f_Rule≠b.f_Rule then cmpI [a.f_Rule] [b.f_Rule] else cmpI a.f_Args b.f_Args
def AscP (l:List Int) (n:Nat):Prop:=(∀ x∈l,0<=x/\x<(n:Int))/\∀ (i:Nat) (x y:Int),l[i]?=some x->l[i+1]?=some y->x<y
def szAt (ns:List Nod) (a:Int):Int:=((ns[a.toNat]?).map (·.f_Size)).getD 0
def syAt (ns:List Nod) (a:Int):Int:=((ns[a.toNat]?).map (·.f_Symbol)).getD 0
structure OptP (ns:List Nod) (i:Nat) (n:Nod) (o:Opn):Prop where
 rule:0<=o.f_Rule
 args:∀ a∈o.f_Args,0<=a/\a<(i:Int)
 size:1+(o.f_Args.map (szAt ns)).sum=n.f_Size
structure NodP (ns:List Nod) (i:Nat) (n:Nod):Prop where
 sym:0<=n.f_Symbol
 size:1<=n.f_Size/\n.f_Size<=24
 opt:∀ o∈n.f_Options,OptP ns i n o
 asc:∀ (k:Nat) (o p:Opn),n.f_Options[k]?=some o->n.f_Options[k+1]?=some p->kge o p<0
def optN (ns:List Nod):Nat:=(ns.map fun n=>n.f_Options.length).sum
def ConP (ns:List Nod):Prop:=∀ (i k:Nat) (n m:Nod) (o p:Opn),ns[i]?=some n->ns[k]?=some m->o∈n.f_Options->p∈m.f_Options->o.f_Rule=p.f_Rule ->
 n.f_Symbol=m.f_Symbol/\o.f_Args.map (syAt ns)=p.f_Args.map (syAt ns)
structure kgd (s:Spa):Prop where
 nodes:s.f_Nodes.length<=4096
 roots:AscP s.f_Roots s.f_Nodes.length
 node:∀ (i:Nat) (n:Nod),s.f_Nodes[i]?=some n->NodP s.f_Nodes i n
 opts:optN s.f_Nodes<=32768
 con:ConP s.f_Nodes
section
variable {s:Spa} {f p:Nat->Bool}
end
end Go.Proofs.YtpnnpkmjohkgiaaGreatDoor
