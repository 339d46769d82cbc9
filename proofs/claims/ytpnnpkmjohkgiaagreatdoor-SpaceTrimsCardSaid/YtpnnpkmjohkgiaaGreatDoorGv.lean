import Derived.Test.YtpnnpkmjohkgiaaGreatDoorDrawE
import Derived.Test.YtpnnpkmjohkgiaaGreatDoorOpm
import Derived.Test.YtpnnpkmjohkgiaaGreatDoorOpo
import Derived.Test.YtpnnpkmjohkgiaaGreatDoorTy
import Derived.ChangeMaps5
import Derived.Test.YtpnnpkmjohkgiaaGreatDoorZE
set_option linter.all false
namespace Go.Proofs.YtpnnpkmjohkgiaaGreatDoor
open Go Go.RowKit
theorem kkl {n:Nat} (h:n<18446744073709551616):n<fuel:=h
theorem kd8 {n:Int} (h : -9223372036854775808<=n) (a:n<=9223372036854775807):w64 n=n:=by
 unfold w64 IntKind.wrap IntKind.signed IntKind.bits;simp only;rw [show (2:Int) ^ 64=18446744073709551616 from rfl];by_cases h0:0<=n;have:n % 18446744073709551616=n:=Int.emod_eq_of_lt h0 (by omega);simp [this];omega
 ·have:n % 18446744073709551616=n+18446744073709551616:=by rw [<- Int.add_emod_right,Int.emod_eq_of_lt (by omega) (by omega)]
  simp [this];omega
theorem kvg {n:Nat} (h:n<=9223372036854775806):w64 ((n:Int)+1)=((n+1:Nat):Int):=by rw [kd8 (by omega) (by omega)];omega
theorem kaj {α:Type} (xs:List α) (n:Nat):idx xs (n:Int)=xs[n]?:=by unfold idx;rw [qq (by omega)];simp
theorem keu {α:Type} {b:Nat} {xs ys:List α} (h:(xs.length+ys.length)*(b+1)<=140737488355328):app b xs ys=some (xs++ys):=by unfold app;rw [qq h]
section
variable {σ β:Type} {step:σ->Option (σ ⊕ β)}
theorem kpz (n:Nat) (S:Nat->σ) (out:Nat->β) (hs:∀ i,i<n->(step (S i)=some (.inl (S (i+1)))/\out i=out (i+1))\/step (S i)=some (.inr (out i))) (a:step (S n)=some (.inr (out n))):
  ∀ (k i:Nat),i<=n->n - i<k->kah step k (S i)=some (out i)
 | 0,i,_,h=>by omega
 | k+1,i,hi,hk=>by
  rw [kah];by_cases h:i=n;subst h;rw [a]
  ·rcases hs i (by omega) with ⟨h1,b⟩ | h1;rw [h1,b];exact kpz n S out hs a k (i+1) (by omega) (by omega)
   ·rw [h1]
theorem kjd (n:Nat) (hn:n<18446744073709551616) (S:Nat->σ) (out:Nat->β) (hs:∀ i,i<n->(step (S i)=some (.inl (S (i+1)))/\out i=out (i+1))\/step (S i)=some (.inr (out i))) (a:step (S n)=some (.inr (out n))):
  kah step fuel (S 0)=some (out 0):=kpz n S out hs a fuel 0 (qar _) (kkl (by omega))
theorem kik (n:Nat) (hn:n<18446744073709551616) (S:Nat->σ) (b:β) (hs:∀ i,i<n->step (S i)=some (.inl (S (i+1)))) (a:step (S n)=some (.inr b)):kah step fuel (S 0)=some b:=
 kjd n hn S (fun _=>b) (fun i hi => .inl ⟨hs i hi,rfl⟩) a
end
theorem ka0 {n i:Nat} (h:i<n):decide ((i:Int)<(n:Int))=true:=qaa (by omega)
theorem kap (n:Nat):decide ((n:Int)<(n:Int))=false:=q9 (by omega)
theorem kal {n m:Nat} (h:n<m) (hm:m<=9223372036854775807):w64 ((n:Int)+1)=((n+1:Nat):Int):=kvg (by omega)
theorem kbe {α:Type} {xs:List α} {i:Nat} {x:α} (h:xs[i]?=some x):i<xs.length:=(qd.1 h).1
theorem kfu {β:Type} {step:Int->Option (Int ⊕ β)} (n:Nat) (hn:n<18446744073709551616) (bad:Nat->Bool) (b:Nat->β) (miss:β) (hs:∀ i,i<n->step (i:Int)=if bad i=true then some (.inr (b i)) else some (.inl ((i+1:Nat):Int))) (f:step (n:Int)=some (.inr miss)):
  (∃ i,i<n/\bad i=true/\(∀ j,j<i->bad j=false)/\kah step fuel 0=some (b i))\/((∀ i,i<n->bad i=false)/\kah step fuel 0=some miss):=by
 have key:∀ (k i:Nat),i<=n->n - i<k->(∀ j,j<i->bad j=false)->(∃ m,m<n/\bad m=true/\(∀ j,j<m->bad j=false)/\kah step k (i:Int)=some (b m))\/((∀ i,i<n->bad i=false)/\kah step k (i:Int)=some miss):=by
  intro k
  induction k with
  | zero=>intro i _ h;omega
  | succ k ih=>
   intro i hi hk c;rw [kah];by_cases d:i=n;subst d;rw [f];exact .inr ⟨c,rfl⟩
   ·rw [hs i (by omega)];by_cases a:bad i=true;rw [qq a];exact .inl ⟨i,by omega,a,c,rfl⟩
    ·rw [qh a];exact ih (i+1) (by omega) (by omega) fun j g=>by
      by_cases e:j=i;subst e;simpa using a
      ·exact c j (by omega)
 have:=key fuel 0 (qar _) (kkl (by omega)) fun j g=>by omega
 simpa using this
theorem kig {α:Type} (b:Nat) (z:α) (n:Nat) (h:(b+1)*n<=281474976710656):mkL b z (n:Int)=some (List.replicate n z):=by
 unfold mkL;have c:b*n+n<=281474976710656:=by rw [qa4,Nat.one_mul] at h;exact h
 have a:(b:Int)*(n:Int)=((b*n:Nat):Int):=(Int.natCast_mul b n).symm;rw [qq ⟨by omega,by rw [a];omega,by omega⟩];simp
set_option maxRecDepth 100000
def Ev {α:Type} (x:Option α) (P:α->Prop):Prop:=∃ v,x=some v/\P v
theorem Ev.mono {α:Type} {x:Option α} {P Q:α->Prop} (h:Ev x P) (hp:∀ v,P v->Q v):Ev x Q:=by obtain ⟨v,h1,a⟩:=h;exact ⟨v,h1,hp v a⟩
theorem kcd {α β:Type} {x:Option α} {k:α->Option β} {P:β->Prop} (h:Ev x fun v=>Ev (k v) P):Ev (Option.bind x k) P:=by obtain ⟨v,rfl,u,h1,a⟩:=h;exact ⟨u,h1,a⟩
theorem kye {σ β:Type} {step:σ->Option (σ ⊕ β)} {s0:σ} {Q:β->Prop} (n:Nat) (I:Nat->σ->Prop) (hn:n<18446744073709551616) (h0:I 0 s0)
  (hs:∀ i s,i<n->I i s->Ev (step s) (Sum.elim (I (i+1)) Q)) (d:∀ s,I n s->Ev (step s) fun r=>∃ b,r = .inr b/\Q b):Ev (kah step fuel s0) Q:=by
 have key:∀ (k m N:Nat) (s:σ),m+k=n->k<N->I m s->Ev (kah step N s) Q:=by
  intro k
  induction k with
  | zero=>
   intro m N s hm e c;obtain ⟨N,rfl⟩:∃ j,N=j+1:=⟨N - 1,by omega⟩;obtain rfl:m=n:=(by omega);obtain ⟨r,h1,b,rfl,a⟩:=d s c;exact ⟨b,by rw [kah,h1],a⟩
  | succ k ih=>
   intro m N s hm e c;obtain ⟨N,rfl⟩:∃ j,N=j+1:=⟨N - 1,by omega⟩;obtain ⟨r,h1,a⟩:=hs m s (by omega) c;cases r with
   | inl s'=>
    obtain ⟨b,f,g⟩:=ih (m+1) N s' (by omega) (by omega) a;exact ⟨b,by rw [kah,h1];exact f,g⟩
   | inr b=>exact ⟨b,by rw [kah,h1],a⟩
 exact key n 0 fuel s0 (by omega) (kkl hn) h0
theorem kle {σ β:Type} {step:σ->Option (σ ⊕ β)} {s0:σ} {Q:β->Prop} (I:σ->Prop) (μ:σ->Nat) (hn:μ s0<18446744073709551616) (h0:I s0)
  (hs:∀ s,I s->Ev (step s) (Sum.elim (fun s'=>I s'/\μ s'<μ s) Q)):Ev (kah step fuel s0) Q:=by
 have key:∀ (N:Nat) (s:σ),μ s<N->I s->Ev (kah step N s) Q:=by
  intro N
  induction N with
  | zero=>intro s h;omega
  | succ N ih=>
   intro s h c;obtain ⟨r,h1,a⟩:=hs s c;cases r with
   | inl s'=>
    obtain ⟨b,d,e⟩:=ih s' (by have:=a.2;omega) a.1;exact ⟨b,by rw [kah,h1];exact d,e⟩
   | inr b=>exact ⟨b,by rw [kah,h1],a⟩
 exact key fuel s0 (kkl hn) h0
theorem ka3 {α σ τ β:Type} {xs:List α} {step:σ->Option (σ ⊕ β)} {Q:β->Prop} (mk:Nat->τ->σ) (I:Nat->τ->Prop) {t0:τ} (hn:xs.length<=9223372036854775807) (h0:I 0 t0)
  (hs:∀ i t (hi:i<xs.length),I i t->Ev (step (mk i t)) (Sum.elim (fun s=>∃ t',s=mk (i+1) t'/\I (i+1) t') Q)) (a:∀ t,I xs.length t->Ev (step (mk xs.length t)) fun r=>∃ b,r = .inr b/\Q b):Ev (kah step fuel (mk 0 t0)) Q:=by
 refine kye xs.length (fun i s=>∃ t,s=mk i t/\I i t) (by omega) ⟨t0,rfl,h0⟩ (fun i s hi ⟨t,e,h⟩=>?_) (fun s ⟨t,e,h⟩=>?_);subst e;exact hs i t hi h
 ·subst e;exact a t h
open Go Go.RowKit Go.ChangeShapes Go.WideShapes Go.ChangeAt Go.ChangeMaps
section
variable {T:Type} {P:Program} {H:Type} {enc:TypeId×Value->H} {w:World} {base:Nat} {spare:Nat->Bool} {held:Bool}
theorem ksq {R:List Value->T->Prop} {ec:T->FV} {size:Nat} {v:Value} {xs:List T} (g:0<size) (h:RepSl Any w size R v xs)
  (f:∀ cs x,x∈xs->R cs x->(ec x).cells.length=size/\(∀ y∈(ec x).cells,y.single=true)/\∀ (j:Nat) (u:Value) (y:FV),cs[j]?=some u->(ec x).cells[j]?=some y->RF Any w u y):RF Any w v (eL size ec xs):=by
 obtain ⟨A,cap,rfl,h1,k,l⟩:=h;have e:∀ i:Nat,∃ cs:List Value,∀ x,xs[i]?=some x->∃ b o,A=some ⟨b,o,none⟩/\At w b (o+i*size) cs/\cs.length=size/\R cs x:=fun i=>by
  cases d:xs[i]? with
  | none=>exact ⟨[],fun x h=>by cases h⟩
  | some x=>
   obtain ⟨b,o,cs,e1,_,e2,e3,e4⟩:=l i x d;exact ⟨cs,fun y hy=>by injection hy with hy;subst hy;exact ⟨b,o,e1,e2,e3,e4⟩⟩
 obtain ⟨css,c⟩:=Classical.axiomOfChoice e;refine .lst css (by simp) h1 k g (fun i x d=>?_) (fun i x d=>?_) fun i x j v y d hv hy=>?_;simp only [qr,qp] at d;obtain ⟨z,a,rfl⟩:=d;obtain ⟨b,o,e1,e2,_⟩:=c i z a;exact ⟨b,o,e1,trivial,e2⟩;simp only [qr,qp] at d;obtain ⟨z,a,rfl⟩:=d;obtain ⟨b,o,e1,e2,e3,e4⟩:=c i z a;obtain ⟨g1,g2,_⟩:=f _ z (qm a) e4;exact ⟨e3,g1,g2⟩
 ·simp only [qr,qp] at d;obtain ⟨z,a,rfl⟩:=d;obtain ⟨b,o,e1,e2,e3,e4⟩:=c i z a;exact (f _ z (qm a) e4).2.2 j v y hv hy
theorem k1i {x:Value} {cs:List Value} (a:cs=[x]) (c:x.oneCell'=true):(FV.atom x).cells.length=1/\(∀ y∈(FV.atom x).cells,y.single=true)/\∀ (j:Nat) (u:Value) (y:FV),cs[j]?=some u->(FV.atom x).cells[j]?=some y->RF Any w u y:=by
 subst a;refine ⟨rfl,fun y hy=>?_,fun j u y b hy=>?_⟩;simp [FV.cells] at hy;subst hy;exact c
 ·cases j with
  | zero=>
   simp [FV.cells] at b hy;subst b hy;exact .atom c
  | succ j=>simp at b
theorem kui {f:FuncId} {args:List FV} {vs:Array Value} (hp:PCall P f args (eB true)) (hs:vs.size=args.length) (hr:∀ (i:Nat) (v:Value) (x:FV),vs[i]?=some v->args[i]?=some x->RF Any w v x):
  Calls P f vs w fun e w'=>e = .returned (.bool true)/\Below w.heap.size w w':=by
 refine (hp.2 Any w vs hs hr).mono ?_;rintro e w' ⟨v,rfl,h1,a⟩;rw [h1.atom_eq];exact ⟨rfl,a⟩
end
mutual
def kxc (B:Nat):Va->Prop
 | .mk _ _ _ l=>l.length<=B/\kt9 B l
def kt9 (B:Nat):List Va->Prop
 | []=>True
 | x::l=>kxc B x/\kt9 B l
end
def okV (v:Va):Prop:=depV v<=1000000/\kxc 9223372036854775807 v
structure GoodR (l:La) (r:Ru):Prop where
 sym0:0<=r.symbol
 sym1:r.symbol<(l.symbols.length:Int)
 kind:r.kind=1\/r.kind=2\/r.kind=3
 noargs:r.kind≠3->r.args=[]
 args:∀ a∈r.args,0<=a/\a<(l.symbols.length:Int)
 few:r.args.length<=5
 fine:okV r.const
structure GoodL (l:La):Prop where
 inputs:l.inputs.length<=4
 sym1:1<=l.symbols.length
 sym16:l.symbols.length<=16
 rules:l.rules.length<=96
 good:∀ r∈l.rules,GoodR l r
open Go Go.RowKit Go.ChangeShapes Go.WideShapes Go.ChangeAt
section
variable {w:World}
def CRw (w:World) (cs:List Value) (x:FV) (size:Nat):Prop:=x.cells.length=size/\(∀ y∈x.cells,y.single=true)/\∀ (j:Nat) (u:Value) (y:FV),cs[j]?=some u->x.cells[j]?=some y->RF Any w u y
theorem km6 {cs:List Value} {xs:List FV} (hl:cs.length=xs.length) (h:∀ (j:Nat) (y:FV),xs[j]?=some y->y.single=true/\∀ u,cs[j]?=some u->RF Any w u y):CRw w cs (.agg xs) xs.length:=by refine ⟨rfl,fun y hy=>?_,fun j u y a hy=>(h j y hy).2 u a⟩;obtain ⟨j,b⟩:=qaq.1 hy;exact (h j y b).1
theorem kqh {v:Value} {ns:List Int} (h:Ints Any w v ns):RF Any w v (eL 1 eI ns):=
 ksq (R:=IntR) (by omega) h fun cs x _ a=>k1i a.1 rfl
theorem k2f {cs:List Value} {xs:List FV} (hl:cs.length=xs.length) (h:CRw w cs (.agg xs) xs.length):RF Any w (.agg cs.toArray) (.agg xs):=
 .agg (by simpa using hl) (fun x a=>h.2.1 x a) fun i v x hv a=>h.2.2 i v x (by simpa using hv) a
end
section
variable {H:Type} {enc:TypeId×Value->H} {w:World} {base:Nat} {spare:Nat->Bool} {held:Bool}
end
end Go.Proofs.YtpnnpkmjohkgiaaGreatDoor
