import Derived.Test.YtnlhjbnpjefjgabGreatDoorHd
import Derived.Test.YtnlhjbnpjefjgabGreatDoorOpo
import Derived.Test.YtnlhjbnpjefjgabGreatDoorOpo
import Derived.Test.YtnlhjbnpjefjgabGreatDoorVE
import Derived.Test.YtnlhjbnpjefjgabGreatDoorTT
import Derived.Shelf.SlSortCmp.NoneTotal
import Derived.Sort.OwnSortedInts
import Derived.Test.YtnlhjbnpjefjgabGreatDoorSim
import Derived.Shelf.SlLaysF0
import Derived.Ground.SlsfProg
import Derived.Test.YtnlhjbnpjefjgabGreatDoorProg
set_option linter.all false
namespace Go.Proofs.YtnlhjbnpjefjgabGreatDoor
open Go Go.RowKit Go.Proofs.Tryz
theorem ke6 {n:Nat} (h:n<18446744073709551616):n<fuel:=h
theorem k08 {n:Int} (h: -9223372036854775808<=n:=by omega) (a:n<=9223372036854775807:=by omega):w64 n=n:=by
 unfold w64 IntKind.wrap IntKind.signed IntKind.bits;simp only;rw [show (2:Int) ^ 64=18446744073709551616 from rfl];by_cases h0:0<=n;have:n % 18446744073709551616=n:=Int.emod_eq_of_lt h0 (by omega);simp [this];omega
 ·have:n % 18446744073709551616=n+18446744073709551616:=by rw [<- Int.add_emod_right,Int.emod_eq_of_lt (by omega) (by omega)]
  simp [this];omega
theorem kgx (n:Nat) (h:n<=9223372036854775806:=by omega):w64 ((n:Int)+1)=((n+1:Nat):Int):=by rw [k08];omega
theorem kbt {α:Type} (xs:List α) (n:Nat):idx xs (n:Int)=xs[n]?:=by unfold idx;rw [qt (by omega)];simp
theorem kml {α:Type} {b:Nat} {xs ys:List α} (h:(xs.length+ys.length)*(b+1)<=140737488355328):app b xs ys=some (xs++ys):=by unfold app;rw [qt h]
section
variable {σ β:Type} {step:σ->Option (σ ⊕ β)}
theorem k1y (n:Nat) (S:Nat->σ) (out:Nat->β) (hs:∀ i,i<n->(step (S i)=some (.inl (S (i+1)))/\out i=out (i+1))\/step (S i)=some (.inr (out i))) (a:step (S n)=some (.inr (out n))):
  ∀ (k i:Nat),i<=n->n - i<k->kai step k (S i)=some (out i)
 | 0,i,_,h=>by omega
 | k+1,i,hi,hk=>by
  rw [kai];by_cases h:i=n;subst h;rw [a]
  ·rcases hs i (by omega) with ⟨h1,b⟩ | h1;rw [h1,b];exact k1y n S out hs a k (i+1) (by omega) (by omega)
   ·rw [h1]
theorem kx6 (n:Nat) (hn:n<18446744073709551616) (S:Nat->σ) (out:Nat->β) (hs:∀ i,i<n->(step (S i)=some (.inl (S (i+1)))/\out i=out (i+1))\/step (S i)=some (.inr (out i))) (a:step (S n)=some (.inr (out n))):
  kai step fuel (S 0)=some (out 0):=k1y n S out hs a fuel 0 (qas _) (ke6 (by omega))
theorem k67 (n:Nat) (hn:n<18446744073709551616) (S:Nat->σ) (b:β) (hs:∀ i,i<n->step (S i)=some (.inl (S (i+1)))) (a:step (S n)=some (.inr b)):kai step fuel (S 0)=some b:=
 kx6 n hn S (fun _=>b) (fun i hi => .inl ⟨hs i hi,rfl⟩) a
end
def runL {σ α β:Type} (f:σ->α->Option (σ ⊕ β)):List α->σ->Option (σ ⊕ β)
 | [],s=>some (.inl s)
 | x::l,s=>Option.bind (f s x) (Sum.elim (fun s'=>runL f l s') (fun b=>some (.inr b)))
theorem k7o {σ α β τ γ:Type} (step:τ->Option (τ ⊕ γ)) (xs:List α) (f:σ->α->Option (σ ⊕ β)) (mk:σ->Int->τ) (out:σ ⊕ β->γ) (c:xs.length<=9223372036854775807) (h:∀ (i:Nat) (x:α) (s:σ),xs[i]?=some x->step (mk s (i:Int))=(f s x).map (Sum.elim (fun s' => .inl (mk s' ((i+1:Nat):Int))) (fun b => .inr (out (.inr b))))) (d:∀ s,step (mk s (xs.length:Int))=some (.inr (out (.inl s)))) (s:σ):kai step fuel (mk s 0)=(runL f xs s).map out:=by
 have key:∀ (k i:Nat) (s:σ),i<=xs.length->xs.length - i<k->kai step k (mk s (i:Int))=(runL f (xs.drop i) s).map out:=by
  intro k
  induction k with
  | zero=>intro i s _ h;omega
  | succ k ih=>
   intro i s hi hk;rw [kai];by_cases hn:i=xs.length;subst hn;rw [d,List.drop_eq_nil_of_le (qu _)];rfl
   ·have a:i<xs.length:=(by omega);rw [h i xs[i] s (qa a),List.drop_eq_getElem_cons a,runL];cases f s xs[i] with
    | none=>rfl
    | some r=>
     cases r with
     | inl s'=>
      simp only [qai,qad,qh];exact ih (i+1) s' (by omega) (by omega)
     | inr b=>rfl
 have:=key fuel 0 s (qas _) (ke6 (by omega));simpa using this
theorem koe {n i:Nat} (h:i<n):decide ((i:Int)<(n:Int))=true:=qau (by omega)
theorem kl3 (n:Nat):decide ((n:Int)<(n:Int))=false:=qax (by omega)
theorem kh6 {n m:Nat} (h:n<m) (hm:m<=9223372036854775807):w64 ((n:Int)+1)=((n+1:Nat):Int):=kgx _
theorem kmv {α:Type} {xs:List α} {i:Nat} {x:α} (h:xs[i]?=some x):i<xs.length:=(qd.1 h).1
theorem kly {α σ τ:Type} {step:τ->Option (τ ⊕ σ)} (xs:List α) (r:σ->α->Option σ) (mk:Int->σ->τ) (a:xs.length<=9223372036854775807)
  (hs:∀ (i:Nat) (x:α) (s:σ),xs[i]?=some x->step (mk (i:Int) s)=(r s x).map fun v => .inl (mk ((i+1:Nat):Int) v)) (c:∀ s,step (mk (xs.length:Int) s)=some (.inr s)) (s:σ):kai step fuel (mk 0 s)=xs.foldlM r s:=by
 have h:=k7o step xs (fun s x=>(r s x).map (.inl:σ->σ ⊕ Empty)) (fun s i=>mk i s) (Sum.elim id (fun b:Empty=>nomatch b)) a (fun i x s d=>by rw [hs i x s d];cases r s x <;> rfl) (fun s=>c s) s;rw [h];clear h hs c
 induction xs generalizing s with
 | nil=>rfl
 | cons x xs ih=>
  rw [runL,List.foldlM_cons];cases hr:r s x with
  | none=>rfl
  | some v=>
   simp only [qai,qh,qad];exact ih (by simp only [qbp] at a;omega) v
theorem kacz {α:Type} (b:Nat) (z:α) (n:Nat) (h:(b+1)*n<=281474976710656):mkL b z (n:Int)=some (List.replicate n z):=by
 unfold mkL;have c:b*n+n<=281474976710656:=by rw [qbd,Nat.one_mul] at h;exact h
 have a:(b:Int)*(n:Int)=((b*n:Nat):Int):=(Int.natCast_mul b n).symm;rw [qt ⟨by omega,by rw [a];omega,by omega⟩];simp
set_option maxRecDepth 100000
namespace TV
theorem k4s (l:List Tm) (i:Nat) (h:i<l.length):Tm.sizeL (l.take (i+1))=Tm.sizeL (l.take i)+l[i].size:=by rw [qay h,Tm.sizeL_snoc]
theorem ky6 (l:List Tm) (i:Nat):i<=l.length->i<=Tm.sizeL (l.take i)/\Tm.sizeL (l.take i)<=Tm.sizeL l:=by
 intro hi
 induction i with
 | zero=>exact ⟨qas _,by simp [Tm.sizeL]⟩
 | succ i ih=>
  have h1:=ih (by omega);have c:=k4s l i (by omega);have d:=Tm.size_pos l[i];refine ⟨by omega,?_⟩;have:Tm.sizeL l=Tm.sizeL (l.take (i+1))+Tm.sizeL (l.drop (i+1)):=by
   have gen:∀ a b:List Tm,Tm.sizeL (a++b)=Tm.sizeL a+Tm.sizeL b:=fun a b=>by
    induction a with
    | nil=>simp [Tm.sizeL]
    | cons x a ih=>simp only [qbo,Tm.sizeL,ih];omega
   rw [<- gen,List.take_append_drop]
  omega
theorem kfz (t:Tm):Tm.sizeL t.args+1=t.size:=by cases t;rfl
theorem kz6 (l:List Tm):l.length<=Tm.sizeL l:=by have:=(ky6 l l.length (qu _)).1;rw [List.take_length] at this;exact this
theorem kti (g:Tm->Int) (t:Tm):t.pre g=g t::Tm.preL g t.args:=by cases t;rfl
theorem kpm {t x:Tm} (h:x∈t.args):x.size<t.size:=by have:=Tm.sizeL_mem h;have:=kfz t;omega
theorem klu (t:Tm):t.args.length<t.size:=by have:=kz6 t.args;have:=kfz t;omega
theorem kkk (g:Tm->Int) (r:List Int->Tm->Option (List Int)):∀ (xs:List Tm) (acc:List Int),acc.length+Tm.sizeL xs<=1000000->(∀ x∈xs,∀ acc:List Int,acc.length+x.size<=1000000->r acc x=some (acc++x.pre g))->xs.foldlM r acc=some (acc++Tm.preL g xs)
 | [],acc,_,_=>by simp [Tm.preL]
 | x::xs,acc,hl,h=>by have hs:Tm.sizeL (x::xs)=x.size+Tm.sizeL xs:=rfl;rw [List.foldlM_cons,h x (qn ..) acc (by omega)];have:=kkk g r xs (acc++x.pre g) (by rw [qaf,Tm.pre_length];omega) fun y hy=>h y (qe _ hy);show List.foldlM r (acc++x.pre g) xs=_;rw [this,qa0];rfl
theorem app1 {acc:List Int} {v:Int} (h:acc.length<=1000000):app 8 acc [v]=some (acc++[v]):=kml (by rw [qbf];omega)
theorem k19:∀ (n:Nat) (t:Tm) (acc:List Int),t.size<=n->acc.length+t.size<=1000000->kbo n acc t=some (acc++t.rules)
 | 0,t,acc,h,_=>by have:=Tm.size_pos t;omega
 | n+1,t,acc,h,hl=>by show kev (kbo n) acc t=_;have c:=klu t;have d:=kfz t;unfold kev ke5;rw [qh,app1 (by omega),qh];rw [kly (step:=kee t (kbo n)) t.args (kbo n) (fun i s=>(i,s)) (by omega) (fun i x s b=>by have hi:=kmv b;simp only [kee,koe hi,qr,kbt,b,qh,kh6 hi (show t.args.length<=9223372036854775807 by omega)];cases kbo n s x <;> rfl) (fun s=>by simp only [kee,kl3,qw])];rw [kkk Tm.rule _ t.args _ (by rw [qaf,qbf];omega) fun x b acc a=>k19 n x acc (by have:=kpm b;omega) a];show some _=some _;rw [qa0];show _=some (acc++t.pre Tm.rule);rw [kti];rfl
theorem kvz (t:Tm) (h:t.size<=1000):kir t=some t.rules:=by have c:=klu t;have d:=kfz t;unfold kir ke5;rw [qh,app1 (by simp),qh];rw [kly (step:=khe t) t.args (kbo fuel) (fun i s=>(i,s)) (by omega) (fun i x s b=>by have hi:=kmv b;simp only [khe,koe hi,qr,kbt,b,qh,kh6 hi (show t.args.length<=9223372036854775807 by omega)];cases kbo fuel s x <;> rfl) (fun s=>by simp only [khe,kl3,qw])];rw [kkk Tm.rule _ t.args _ (by rw [List.nil_append,qbf];omega) fun x b acc a=>k19 fuel x acc (Nat.le_of_lt (ke6 (by omega))) a];show some _=some (t.pre Tm.rule);rw [kti];rfl
theorem ku1:∀ (n:Nat) (t:Tm) (acc:List Int),t.size<=n->acc.length+t.size<=1000000->ka4 n acc t=some (acc++t.arities)
 | 0,t,acc,h,_=>by have:=Tm.size_pos t;omega
 | n+1,t,acc,h,hl=>by show ket (ka4 n) acc t=_;have c:=klu t;have d:=kfz t;unfold ket kco;rw [qh,app1 (by omega),qh];rw [kly (step:=kd9 t (ka4 n)) t.args (ka4 n) (fun i s=>(i,s)) (by omega) (fun i x s b=>by have hi:=kmv b;simp only [kd9,koe hi,qr,kbt,b,qh,kh6 hi (show t.args.length<=9223372036854775807 by omega)];cases ka4 n s x <;> rfl) (fun s=>by simp only [kd9,kl3,qw])];rw [kkk Tm.nargs _ t.args _ (by rw [qaf,qbf];omega) fun x b acc a=>ku1 n x acc (by have:=kpm b;omega) a];show some _=some _;rw [qa0];show _=some (acc++t.pre Tm.nargs);rw [kti];rfl
theorem k1a (t:Tm) (h:t.size<=1000):kfq t=some t.arities:=by have c:=klu t;have d:=kfz t;unfold kfq kco;rw [qh,app1 (by simp),qh];rw [kly (step:=keg t) t.args (ka4 fuel) (fun i s=>(i,s)) (by omega) (fun i x s b=>by have hi:=kmv b;simp only [keg,koe hi,qr,kbt,b,qh,kh6 hi (show t.args.length<=9223372036854775807 by omega)];cases ka4 fuel s x <;> rfl) (fun s=>by simp only [keg,kl3,qw])];rw [kkk Tm.nargs _ t.args _ (by rw [List.nil_append,qbf];omega) fun x b acc a=>ku1 fuel x acc (Nat.le_of_lt (ke6 (by omega))) a];show some _=some (t.pre Tm.nargs);rw [kti];rfl
theorem ky5 (t:Tm) (h:t.size<=1000):kai (kek t) fuel (0,([]:List Int)++[(t.args.length:Int)])=some t.arities:=by have c:=klu t;have d:=kfz t;rw [kly (step:=kek t) t.args (ka4 fuel) (fun i s=>(i,s)) (by omega) (fun i x s b=>by have hi:=kmv b;simp only [kek,koe hi,qr,kbt,b,qh,kh6 hi (show t.args.length<=9223372036854775807 by omega)];cases ka4 fuel s x <;> rfl) (fun s=>by simp only [kek,kl3,qw])];rw [kkk Tm.nargs _ t.args _ (by rw [List.nil_append,qbf];omega) fun x b acc a=>ku1 fuel x acc (Nat.le_of_lt (ke6 (by omega))) a];show some _=some (t.pre Tm.nargs);rw [kti];rfl
theorem kyi (r:Tm->Option Int):∀ (xs:List Tm) (s:Nat),s+Tm.sizeL xs<=1000000->(∀ x∈xs,r x=some (x.size:Int))->xs.foldlM (fun (s:Int) x=>Option.bind (r x) fun v=>some (w64 (s+v))) (s:Int)=some ((s+Tm.sizeL xs:Nat):Int)
 | [],s,_,_=>by simp [Tm.sizeL]
 | x::xs,s,hl,h=>by have hs:Tm.sizeL (x::xs)=x.size+Tm.sizeL xs:=rfl;rw [List.foldlM_cons,h x (qn ..),qh,k08];have:=kyi r xs (s+x.size) (by omega) fun y hy=>h y (qe _ hy);show List.foldlM _ ((s:Int)+(x.size:Int)) xs=_;rw [show (s:Int)+(x.size:Int)=((s+x.size:Nat):Int) by omega,this,hs];congr 2;omega
theorem ksv:∀ (n:Nat) (t:Tm),t.size<=n->t.size<=1000->keb n t=some (t.size:Int)
 | 0,t,h,_=>by have:=Tm.size_pos t;omega
 | n+1,t,h,hl=>by show kjj (keb n) t=_;have b:=klu t;have c:=kfz t;unfold kjj;rw [kly (step:=kij t (keb n)) t.args (fun s x=>Option.bind (keb n x) fun v=>some (w64 (s+v))) (fun i s=>(s,i)) (by omega) (fun i x s a=>by have hi:=kmv a;simp only [kij,koe hi,qr,kbt,a,qh,kh6 hi (show t.args.length<=9223372036854775807 by omega)];cases keb n x <;> rfl) (fun s=>by simp only [kij,kl3,qw])];have:=kyi (keb n) t.args 1 (by omega) fun x a=>ksv n x (by have:=kpm a;omega) (by have:=kpm a;omega);rw [show (1:Int)=((1:Nat):Int) from rfl,this,qh];congr 2;omega
def lexC:List Int->List Int->Int
 | x::xs,y::ys=>if x<y then -1 else if y<x then 1 else lexC xs ys
 | _,_=>0
def lexO:List Int->List Int->Unit ⊕ Int
 | x::xs,y::ys=>if x<y then .inr (-1) else if y<x then .inr 1 else lexO xs ys
 | _,_ => .inl ()
theorem k3p:∀ xs ys:List Int,Sum.elim (fun _=>0) id (lexO xs ys)=lexC xs ys
 | [],_=>rfl
 | _::_,[]=>rfl
 | x::xs,y::ys=>by
  simp only [lexO,lexC];split;rfl
  ·split;rfl
   ·exact k3p xs ys
theorem k1n (x y:List Int) (hl:x.length=y.length) (c:x.length<=1000000):kge x y=some (lexC x y):=by
 unfold kge;have h:=kx6 (step:=ken x y) x.length (by omega) (fun i=>(i:Int)) (fun i=>lexO (x.drop i) (y.drop i)) (fun i hi=>by
  have hy:i<y.length:=by omega
  simp only [ken,koe hi,qr,kbt,qa hi,qa hy,qh,kh6 hi (show x.length<=9223372036854775807 by omega),List.drop_eq_getElem_cons hi,List.drop_eq_getElem_cons hy,lexO];by_cases h1:x[i]<y[i];rw [qau h1,qt h1];exact .inr rfl
  ·rw [qax h1,qq h1];by_cases a:y[i]<x[i];rw [qau a,qt a];exact .inr rfl
   ·rw [qax a,qq a];exact .inl ⟨rfl,rfl⟩) (by
  simp only [ken,kl3,qw,List.drop_length,lexO])
 have b:kai (ken x y) fuel 0=some (lexO x y):=by simpa using h
 rw [b,qh,<- k3p];cases lexO x y <;> rfl
def cmpT (a b:Tm):Int:=if a.size<b.size then -1 else if b.size<a.size then 1 else if lexC a.rules b.rules≠0 then lexC a.rules b.rules else lexC a.arities b.arities
theorem cmp_prog (a b:Tm) (ha:a.size<=1000) (d:b.size<=1000):kkt a b=some (cmpT a b):=by
 unfold kkt cmpT;rw [ksv fuel a (Nat.le_of_lt (ke6 (by omega))) ha,ksv fuel b (Nat.le_of_lt (ke6 (by omega))) d];simp only [qh];by_cases h1:a.size<b.size;rw [qt h1,qau (show (a.size:Int)<(b.size:Int) by omega),qr];rw [qq h1,qax (show ¬ (a.size:Int)<(b.size:Int) by omega),qw];by_cases e:b.size<a.size;rw [qt e,qau (show (b.size:Int)<(a.size:Int) by omega),qr];rw [qq e,qax (show ¬ (b.size:Int)<(a.size:Int) by omega),qw];rw [kvz a ha,kvz b d];simp only [qh];rw [k1n a.rules b.rules (by rw [Tm.rules_length,Tm.rules_length];omega) (by rw [Tm.rules_length];omega),qh];by_cases c:lexC a.rules b.rules=0;rw [qq (by simpa using c),c,show ((0:Int) != 0)=false from rfl,qw,k1a a ha,qh,show kco b=some () from rfl,qh,app1 (qas _),qh,ky5 b d,qh,k1n a.arities b.arities (by rw [Tm.arities_length,Tm.arities_length];omega) (by rw [Tm.arities_length];omega)];rw [qh]
 ·rw [qt c,show (lexC a.rules b.rules != 0)=true by rw [bne_iff_ne];exact c,qr]
mutual
theorem k2y:∀ (s t:Tm) (xs ys us vs:List Int),s.pre Tm.rule++xs=t.pre Tm.rule++ys->s.pre Tm.nargs++us=t.pre Tm.nargs++vs->s=t/\xs=ys/\us=vs
 | .mk r l, .mk r' l',xs,ys,us,vs,h1,a=>by
  simp only [Tm.pre,qbo,List.cons.injEq] at h1 a;have hr:r=r':=h1.1;have hl:l.length=l'.length:=by have:=a.1;simp only [Tm.nargs,Tm.args] at this;omega
  obtain ⟨e1,e2,e3⟩:=k0o l l' hl xs ys us vs h1.2 a.2;exact ⟨by rw [hr,e1],e2,e3⟩
theorem k0o:∀ (l l':List Tm),l.length=l'.length->∀ (xs ys us vs:List Int),Tm.preL Tm.rule l++xs=Tm.preL Tm.rule l'++ys->Tm.preL Tm.nargs l++us=Tm.preL Tm.nargs l'++vs->l=l'/\xs=ys/\us=vs
 | [],[],_,xs,ys,us,vs,h1,a=>⟨rfl,by simpa [Tm.preL] using h1,by simpa [Tm.preL] using a⟩
 | [],_::_,h,_,_,_,_,_,_=>by simp at h
 | _::_,[],h,_,_,_,_,_,_=>by simp at h
 | t::l,t'::l',h,xs,ys,us,vs,h1,a=>by simp only [Tm.preL,qa0] at h1 a;obtain ⟨e1,e2,e3⟩:=k2y t t' _ _ _ _ h1 a;obtain ⟨e4,e5,e6⟩:=k0o l l' (by simpa using h) xs ys us vs e2 e3;exact ⟨by rw [e1,e4],e5,e6⟩
end
structure Ord3 {α:Type} (E:α->α->Prop) (c:α->α->Int):Prop where
 anti:∀ x y,E x y->c y x = -c x y
 trans:∀ x y z,E x y->E y z->E x z->c x y<=0->c y z<=0->c x z<=0
def lex {α:Type} (c d:α->α->Int) (x y:α):Int:=if c x y≠0 then c x y else d x y
theorem Ord3.lex {α:Type} {E:α->α->Prop} {c d:α->α->Int} (a:∀ x y,E x y->E y x) (hc:Ord3 E c) (f:Ord3 (fun x y=>E x y/\c x y=0) d):Ord3 E (lex c d):=by
 have z:∀ x y,E x y->(c y x=0↔c x y=0):=fun x y e=>by rw [hc.anti x y e];omega
 refine ⟨fun x y e=>?_,fun x y z e1 e2 e3 h1 b=>?_⟩
 ·unfold Go.Proofs.YtnlhjbnpjefjgabGreatDoor.TV.lex;by_cases h:c x y=0;rw [qq (by rw [(z x y e).2 h];decide),qq (by rw [h];decide)];exact f.anti x y ⟨e,h⟩
  ·rw [qt (fun g=>h ((z x y e).1 g)),qt h];exact hc.anti x y e
 ·unfold Go.Proofs.YtnlhjbnpjefjgabGreatDoor.TV.lex at h1 b ⊢;have k1:c x y<=0:=by split at h1 <;> omega
  have k2:c y z<=0:=by split at b <;> omega
  have k3:=hc.trans x y z e1 e2 e3 k1 k2;by_cases h:c x z=0;have a1:=hc.anti x y e1;have a2:=hc.anti y z e2;have a3:=hc.anti x z e3;have b1:=hc.trans y z x e2 (a _ _ e3) (a _ _ e1) k2 (by omega);have b2:=hc.trans z x y (a _ _ e3) e1 (a _ _ e2) (by omega) k1;have c1:c x y=0:=(by omega);have c2:c y z=0:=(by omega);rw [qq (by rw [c1];decide)] at h1;rw [qq (by rw [c2];decide)] at b;rw [qq (by rw [h];decide)];exact f.trans x y z ⟨e1,c1⟩ ⟨e2,c2⟩ ⟨e3,h⟩ h1 b
  ·rw [qt h];exact k3
def cmpZ {α:Type} (f:α->Int) (x y:α):Int:=if f x<f y then -1 else if f y<f x then 1 else 0
theorem k8e {α:Type} {E:α->α->Prop} (f:α->Int):Ord3 E (cmpZ f):=by
 refine ⟨fun x y _=>?_,fun x y z _ _ _ h1 a=>?_⟩;unfold cmpZ;split <;> split <;> omega
 ·unfold cmpZ at *
  split at h1
  ·split at a;rw [qt (by omega)];decide
   ·split at a;omega
    ·rw [qt (by omega)];decide
  ·split at h1;omega
   ·split at a;rw [qt (by omega)];decide
    ·split at a;omega
     ·rw [qq (by omega),qq (by omega)];decide
theorem kte:∀ xs ys:List Int,xs.length=ys.length->lexC ys xs = -lexC xs ys
 | [],[],_=>rfl
 | [],_::_,h=>by simp at h
 | _::_,[],h=>by simp at h
 | x::xs,y::ys,h=>by
  have ih:=kte xs ys (by simpa using h);simp only [lexC];rcases Int.lt_trichotomy x y with h1 | h1 | h1;rw [qq (by omega),qt h1,qt h1];rfl;rw [qq (by omega),qq (by omega),qq (by omega),qq (by omega),ih]
  ·rw [qt h1,qq (by omega),qt h1]
theorem kq0:∀ xs ys zs:List Int,xs.length=ys.length->ys.length=zs.length->lexC xs ys<=0->lexC ys zs<=0->lexC xs zs<=0
 | [],_,_,_,_,_,_=>by simp [lexC]
 | _::_,[],_,h,_,_,_=>by simp at h
 | _::_,_::_,[],_,h,_,_=>by simp at h
 | x::xs,y::ys,z::zs,h,g,h1,a=>by
  have ih:=kq0 xs ys zs (by simpa using h) (by simpa using g);simp only [lexC] at h1 a ⊢;split at h1
  ·split at a;rw [qt (by omega)];decide
   ·split at a;omega
    ·rw [qt (by omega)];decide
  ·split at h1;omega
   ·split at a;rw [qt (by omega)];decide
    ·split at a;omega
     ·rw [qq (by omega),qq (by omega)];exact ih h1 a
theorem kxp:∀ xs ys:List Int,xs.length=ys.length->lexC xs ys=0->xs=ys
 | [],[],_,_=>rfl
 | [],_::_,h,_=>by simp at h
 | _::_,[],h,_=>by simp at h
 | x::xs,y::ys,h,h1=>by
  simp only [lexC] at h1;split at h1;omega
  ·split at h1;omega
   ·rw [kxp xs ys (by simpa using h) h1,show x=y by omega]
theorem kyp:∀ xs:List Int,lexC xs xs=0
 | []=>rfl
 | x::xs=>by simp only [lexC,Int.lt_irrefl,if_false];exact kyp xs
theorem k7c (a b:Tm):cmpT a b=lex (cmpZ fun t:Tm=>(t.size:Int)) (lex (fun a b=>lexC a.rules b.rules) (fun a b=>lexC a.arities b.arities)) a b:=by
 unfold cmpT lex cmpZ;by_cases h1:a.size<b.size;rw [qt h1,qt (show (a.size:Int)<(b.size:Int) by omega),qt (by decide)]
 ·rw [qq h1,qq (show ¬ (a.size:Int)<(b.size:Int) by omega)];by_cases c:b.size<a.size;rw [qt c,qt (show (b.size:Int)<(a.size:Int) by omega),qt (by decide)]
  ·rw [qq c,qq (show ¬ (b.size:Int)<(a.size:Int) by omega),qq (show ¬ ((0:Int)≠0) by decide)]
theorem cmpZ_zero {α:Type} {f:α->Int} {x y:α}:cmpZ f x y=0↔f x=f y:=by
 unfold cmpZ;split;omega
 ·split <;> omega
theorem cmpT_ord:Ord3 (fun _ _=>True) cmpT:=by
 have:cmpT=lex (cmpZ fun t:Tm=>(t.size:Int)) (lex (fun a b=>lexC a.rules b.rules) (fun a b=>lexC a.arities b.arities)):=by funext a b;exact k7c a b
 rw [this];have c:∀ {a b:Tm},cmpZ (fun t:Tm=>(t.size:Int)) a b=0->a.size=b.size:=fun h=>by have:=cmpZ_zero.1 h;omega
 refine Ord3.lex (fun _ _ _=>trivial) (k8e _) (Ord3.lex (fun x y h=>⟨trivial,by have:=c h.2;exact cmpZ_zero.2 (by omega)⟩) ⟨fun x y h=>?_,fun x y z h1 d _=>?_⟩ ⟨fun x y h=>?_,fun x y z h1 d _=>?_⟩);exact kte _ _ (by rw [Tm.rules_length,Tm.rules_length];exact c h.2);exact kq0 _ _ _ (by rw [Tm.rules_length,Tm.rules_length];exact c h1.2) (by rw [Tm.rules_length,Tm.rules_length];exact c d.2);exact kte _ _ (by rw [Tm.arities_length,Tm.arities_length];exact c h.1.2)
 ·exact kq0 _ _ _ (by rw [Tm.arities_length,Tm.arities_length];exact c h1.1.2) (by rw [Tm.arities_length,Tm.arities_length];exact c d.1.2)
theorem cmpT_eq0 {s t:Tm}:cmpT s t=0↔s=t:=by
 constructor
 ·intro h;unfold cmpT at h;split at h;omega
  ·split at h;omega
   ·have hs:s.size=t.size:=(by omega);split at h;rename_i h0;exact absurd h h0
    ·rename_i h0;have e1:=kxp s.rules t.rules (by rw [Tm.rules_length,Tm.rules_length];exact hs) (by simpa using h0);have e2:=kxp s.arities t.arities (by rw [Tm.arities_length,Tm.arities_length];exact hs) h;exact (k2y s t [] [] [] [] (by simpa [Tm.rules] using e1) (by simpa [Tm.arities] using e2)).1
 ·rintro rfl;unfold cmpT;simp [kyp]
end TV
structure TC (S:Nat->Prop) (w:World) (N:Nat) where
 a:Value
 b:Value
 t:Tm
 hN:t.size<=N
 ra:RF S w a (eI t.rule)
 rb:RF S w b (eL 2 eTmR t.args)
def TC.enc {S:Nat->Prop} {w:World} {N:Nat} (x:TC S w N):List Value:=[x.a,x.b]
theorem TC.one {S:Nat->Prop} {w:World} {N:Nat} (x:TC S w N):∀ v∈x.enc,v.oneCell'=true:=by
 obtain ⟨a,b,t,_,ra,rb⟩:=x;intro v hv;rcases qan.1 hv with rfl | hv;rw [ra.atom_eq];rfl
 ·rw [qaa.1 hv];cases rb;rfl
theorem TC.rf {S:Nat->Prop} {w:World} {N:Nat} (x:TC S w N):RF S w (.agg x.enc.toArray) (eTm x.t):=by
 refine .agg rfl (fun y hy=>?_) fun i v y hv hy=>?_;simp only [qan,List.not_mem_nil,or_false] at hy;rcases hy with rfl | rfl <;> rfl
 ·match i with
  | 0=>simp [TC.enc] at hv hy;subst hv hy;exact x.ra
  | 1=>simp [TC.enc] at hv hy;subst hv hy;exact x.rb
  | i+2=>simp at hy
theorem k8y {S:Nat->Prop} {w:World} {N:Nat}:∀ (xs:List Tm) (cs:List Value),cs.length=xs.length*2->(∀ t∈xs,t.size<=N) ->
  (∀ (i:Nat) (t:Tm) (j:Nat) (v:Value) (y:FV),xs[i]?=some t->cs[i*2+j]?=some v->(eTmR t).cells[j]?=some y->RF S w v y)->∃ d:List (TC S w N),d.map TC.t=xs/\d.flatMap TC.enc=cs
 | [],cs,hl,_,_=>⟨[],rfl,(qa2 (by simpa using hl)).symm⟩
 | t::xs,[],hl,_,_=>by simp at hl
 | t::xs,[u],hl,_,_=>by simp at hl;omega
 | t::xs,u::v::cs,hl,hN,hr=>by
  obtain ⟨d,h1,a⟩:=k8y xs cs (by simp at hl;omega) (fun s hs=>hN s (qe _ hs)) fun i s j z y hs b hy=>hr (i+1) s j z y (by simpa using hs) (by rw [show (i+1)*2+j=(i*2+j)+1+1 by omega];simpa using b) hy;have hc:(eTmR t).cells=[eI t.rule,eL 2 eTmR t.args]:=by rw [knf];rfl
  exact ⟨⟨u,v,t,hN t (qn ..),hr 0 t 0 u _ rfl rfl (by rw [hc];rfl),hr 0 t 1 v _ rfl rfl (by rw [hc];rfl)⟩::d,by rw [qao,h1],by rw [qbk,a];rfl⟩
theorem k4w {α:Type} {enc:α->List Value} (hk:∀ x,(enc x).length=2):∀ (d:List α) (j:Nat),(d.flatMap enc)[j]?=(d[j / 2]?).bind fun x=>(enc x)[j % 2]?
 | [],j=>by simp
 | x::d,j=>by
  have b:=hk x;rw [qbk]
  match a:enc x,b with
  | [u,v],_=>
   match j with
   | 0=>simp [a]
   | 1=>simp [a]
   | j+2=>
    have e1:(j+2) / 2=j / 2+1:=(by omega);have e2:(j+2) % 2=j % 2:=(by omega);rw [e1,e2];simpa using k4w hk d j
theorem k5o {α:Type} [Inhabited α] (enc:α->List Value) (d:List α) (hk:∀ x,(enc x).length=2:=by exact fun _=>rfl):(Go.Sort.flatK enc 2 d.toArray).toList=d.flatMap enc:=by
 have e:(d.flatMap enc).length=d.length*2:=by
  induction d with
  | nil=>rfl
  | cons x d ih=>rw [qbk,qaf,ih,hk,qbp];omega
 apply List.ext_getElem?;intro j;by_cases c:j<d.length*2
 ·have h1:=Go.Sort.get_flatK enc 2 d.toArray j (by simpa using c);have a:j / 2<d.length:=by omega
  have b:j % 2<(enc d[j / 2]).length:=by rw [hk];omega
  rw [k4w hk,qa a,qh,qa b,qal,qa8 (by simpa using c)];rw [getElem!_pos _ _ (by simpa using c)] at h1;rw [h1,getElem!_pos d.toArray (j / 2) (by simpa using a)];rw [List.getElem!_eq_getElem?_getD];simp [b]
 ·rw [qaz (by simp;omega),qaz (by omega)]
section
variable {P:Program} {o:Oper} {st:St} {id:Nat}
def SortR (cf:Tm->Tm->Int) (xs:List Tm) (e:TypeId) (id:Nat) (st:St) (c:AV) (h:List (Nat×AObj)) (i:List Nat):Prop:=
 c = .fz (.tup [])/\i=st.ids/\∃ ys:List Tm,ys.Perm xs/\ys.Pairwise (fun a b=>cf b a<0->False)/\h=(id, .frow e 2 (ys.map eTmR))::st.heap
theorem kabv {f g:FuncId} {ts:Array TypeId} {X:Operand} {e:TypeId} {n:Nat} {xs:List Tm} {N:Nat} (cf:Tm->Tm->Int)
  (az:∀ (α:Type) [Inhabited α] (enc:α->List Value) (_:∀ x,(enc x).length=2) (_:∀ x,∀ v∈enc x,v.oneCell'=true) (c:α->α->Int) (_:Sort.SWO (ltOf c)) (blk off cap:Nat) (d:Array α) (w:World),CmpLays P g #[] enc 2 c blk off d.size w->Go.Sort.HoldsK enc 2 w blk off d->blk<w.heap.size->d.size<4611686018427387904 ->
   Calls P f #[.slice (some ⟨blk,off,none⟩) d.size cap, .func (.func g) #[] #[]] w fun e w'=>e = .returned (.tuple #[])/\∃ d' n os,Sort.PermIn 0 d.size d d'/\Sort.SortedIn (ltOf c) 0 d.size d'/\w'=sortWorldK enc 2 w blk off n d' os)
  (aj:∀ (p:Option Addr) (cap:Nat) (fv:Value) (w:World),Calls P f #[.slice p 0 cap,fv] w fun e w'=>e = .returned (.tuple #[])/\w'=w)
  (hO:Sort.SWO (ltOf cf)) (hc:∀ s t:Tm,s.size<=N->t.size<=N->@PCall ⟨true⟩ P g [eTm s,eTm t] (eI (cf s t)))
  (hf : ∃ fn, P.funcs[f]? = some fn /\ fn.body.isNone = false /\ (fn.name == "runtime.NumGoroutine") = false)
  (ho:o.op = .call { callee := .value (.func f),args:=#[X, .func g],argTypes:=ts }) (hx:st.eval X = .row id n) (Q:kaa st.heap id=some (.frow e 2 (xs.map eTmR))) (hn:n=xs.length) (hN:∀ t∈xs,t.size<=N) (ak:xs.length<4611686018427387904):
  kgd P o st (SortR cf xs e id st):=by
 subst hn;intro F S0 N0 ψ S a w al;have l:=al.core;obtain ⟨be,⟨hl,am,cs,E,bf,hr⟩,a0⟩:=l.obj id _ Q;rw [qj] at hl E;have ab:=al.eval X;rw [hx] at ab;have hp:a.eval X=ψ.val id:=by
  generalize a.eval X=u at ab;cases ab with
  | row hK bg h1 hv=>exact hv hl.symm
 unfold kbx;rw [kpo ho hf];rw [show (#[X,Operand.func g].map a.eval)=#[ψ.val id, .func (.func g) #[] #[]] by rw [List.map_toArray,qao,qao,List.map_nil,hp];rfl];by_cases hv:ψ.val id = .slice none 0 0
 ·have h0:xs=[]:=by
   rcases E.2 with ⟨_,h0⟩ | ⟨g,cap,cur,an,_⟩;exact qa2 h0
   ·rw [hv] at an;cases an
  subst h0;rw [hv];refine (aj none 0 _ w).mono ?_;rintro e' w' ⟨rfl,rfl⟩;have r:∀ i,kaa ((id,AObj.frow e 2 (([]:List Tm).map eTmR))::st.heap) i=kaa st.heap i:=fun i=>by
   rw [kae];split;rename_i hi;rw [<- hi,Q]
   ·rfl
  refine ⟨_,rfl,_,_,_,⟨rfl,rfl,[],List.Perm.nil,List.Pairwise.nil,rfl⟩,ψ,S,⟨fun i ob h=>l.obj i ob (by rw [<- r i];exact h),fun i i' ob ob' b h1 h2 I=>l.inj i i' ob ob' b (by rw [<- r i];exact h1) (by rw [<- r i'];exact h2) I,l.lt,l.s0,l.n0,l.fr⟩, .fz (.tup rfl (fun i v x h=>by simp at h)),Fr.refl,Ext.refl,fun _ h=>h,fun _ h=>h,fun _ _ _=>rfl⟩
 ·rcases E.2 with ⟨e0,_⟩ | ⟨blk,cap,cur,B,bh,R,J,a1,V,ac⟩;exact absurd e0 hv;have ao:blk<w.heap.size:=(qar.1 R).1;obtain ⟨d,ad,a2⟩:=k8y (S:=S) (w:=w) (N:=N) xs cs E.1 hN fun i t j v y ht hv hy=>hr i (eTmR t) j v y (by rw [qg,ht];rfl) hv hy;have H:d.length=xs.length:=by rw [<- ad,qj]
  cases xs with
  | nil=>
   -- no element
   rw [B];refine (aj _ cap _ w).mono ?_;rintro e' w' ⟨rfl,rfl⟩;have r:∀ i,kaa ((id,AObj.frow e 2 (([]:List Tm).map eTmR))::st.heap) i=kaa st.heap i:=fun i=>by
    rw [kae];split;rename_i hi;rw [<- hi,Q]
    ·rfl
   refine ⟨_,rfl,_,_,_,⟨rfl,rfl,[],List.Perm.nil,List.Pairwise.nil,rfl⟩,ψ,S,⟨fun i ob h=>l.obj i ob (by rw [<- r i];exact h),fun i i' ob ob' b h1 h2 I=>l.inj i i' ob ob' b (by rw [<- r i];exact h1) (by rw [<- r i'];exact h2) I,l.lt,l.s0,l.n0,l.fr⟩, .fz (.tup rfl (fun i v x h=>by simp at h)),Fr.refl,Ext.refl,fun _ h=>h,fun _ h=>h,fun _ _ _=>rfl⟩
  | cons x0 xs0=>
   obtain ⟨y0,bi⟩:∃ y0,y0∈d:=by
    cases d with
    | nil=>simp at ad
    | cons y d=>exact ⟨y,qn ..⟩
   letI:Inhabited (TC S w N):=⟨y0⟩
   have T:cur.toList.take (d.length*2)=d.flatMap (TC.enc (S:=S) (w:=w) (N:=N)):=(by rw [H,ac,a2]);have ae:=k5o (TC.enc (S:=S) (w:=w) (N:=N)) d;have hH:Go.Sort.HoldsK (TC.enc (S:=S) (w:=w) (N:=N)) 2 w blk 0 d.toArray:=(by intro j D;have D:j<d.length*2:=(by simpa using D);refine ⟨?_,by simp [World.frozen?,R]⟩;have h1:(cur.toList.take (d.length*2))[j]?=(Go.Sort.flatK (TC.enc (S:=S) (w:=w) (N:=N)) 2 d.toArray).toList[j]?:=(by rw [T,ae]);rw [List.getElem?_take_of_lt D,qal,qal,qa8 (xs:=Go.Sort.flatK (TC.enc (S:=S) (w:=w) (N:=N)) 2 d.toArray) (by simpa using D)] at h1;simp only [World.cell?,R,Nat.zero_add];simp only [Option.isSome_none,Bool.false_eq_true,if_false];rw [h1,getElem!_pos _ _ (by simpa using D)];rfl);have aq:¬ S blk:=fun h=>(a0 blk (.of (by rw [B];rfl))).1 h;have ar:CmpLays P g #[] (TC.enc (S:=S) (w:=w) (N:=N)) 2 (fun x y=>cf x.t y.t) blk 0 d.toArray.size w:=by
    intro m os dk U x y;have O:Same S w (sortWorldK (TC.enc (S:=S) (w:=w) (N:=N)) 2 w blk 0 m dk os):=fun b hb hl=>(by unfold sortWorldK;rw [Go.Sort.heap_grow_old _ _ (by rw [Go.Sort.size_putRowK];exact hl)];have:blk≠b:=fun e=>aq (e ▸ hb);simp [Go.Sort.putRowK,Sort.putRow,Sort.mapBlock,Sort.ahead,qbt,this]);have h:=(hc x.t y.t x.hN y.hN).2 S (sortWorldK (TC.enc (S:=S) (w:=w) (N:=N)) 2 w blk 0 m dk os) #[.agg x.enc.toArray, .agg y.enc.toArray] rfl (fun i v z hv hz=>by
     match i with
     | 0=>simp at hv hz;subst hv hz;exact x.rf.keep O
     | 1=>simp at hv hz;subst hv hz;exact y.rf.keep O
     | i+2=>simp at hz)
    refine Calls.mono (by simpa using h) ?_;rintro e' w' ⟨v,rfl,hv,hg⟩;rw [hv.atom_eq];refine ⟨rfl,w'.drawn - (sortWorldK (TC.enc (S:=S) (w:=w) (N:=N)) 2 w blk 0 m dk os).drawn,w'.heap.extract (sortWorldK (TC.enc (S:=S) (w:=w) (N:=N)) 2 w blk 0 m dk os).heap.size w'.heap.size,?_⟩;generalize sortWorldK (TC.enc (S:=S) (w:=w) (N:=N)) 2 w blk 0 m dk os=W at *
    have a3:=@Below.drawn ⟨true⟩ _ _ _ hg rfl;obtain ⟨af,tp',dr',os',out'⟩:=w';obtain ⟨hp,tp,dr,os,out⟩:=W;have e1:=hg.os;have e2:=hg.tape;have e3:=hg.output;have e4:=hg.size;have e5:=hg.block;simp only at e1 e2 e3 e4 e5 a3;cases e1;cases e2;cases e3;show World.mk _ _ _ _ _=World.mk (hp++af.extract hp.size af.size) _ (dr+(dr' - dr)) _ _;rw [show dr+(dr' - dr)=dr' by omega];congr 1;apply Array.ext_getElem?;intro k;by_cases hk:k<hp.size;rw [qa4 hk,e5 k hk]
    ·rw [Array.getElem?_append_right (by omega),Array.getElem?_extract];by_cases bj:k<af.size;rw [qt (by omega)];congr 1;omega
     ·rw [qq (by omega),Array.getElem?_eq_none (by omega)]
   have a4:Sort.SWO (ltOf fun x y:TC S w N=>cf x.t y.t):=⟨fun x=>hO.irrefl x.t,fun x y z=>hO.trans x.t y.t z.t,fun x y z=>hO.ntrans x.t y.t z.t⟩;have K:=az (TC S w N) TC.enc (fun _=>rfl) (fun x=>x.one) (fun x y=>cf x.t y.t) a4 blk 0 cap d.toArray w ar hH ao (by simpa [H] using ak);rw [B];rw [show d.toArray.size=(x0::xs0).length by simpa using H] at K;refine K.mono ?_;rintro e' w' ⟨rfl,d',q,os,ag,L,rfl⟩;obtain ⟨p1,_,p3⟩:=ag;have Y:d'.size=d.length:=(by simpa using p1);have a5:d'.toList.Perm d:=(by have h1:(d'.extract 0 (x0::xs0).length)=d':=(by rw [<- H,<- Y];simp);have h2:(d.toArray.extract 0 (x0::xs0).length)=d.toArray:=(by rw [<- H];simp);rw [h1,h2] at p3;exact p3);obtain ⟨dl,Z⟩:∃ dl,dl=d'.toList:=⟨_,rfl⟩;have au:d'=dl.toArray:=(by rw [Z]);subst au;clear Z;have A:dl.length=(x0::xs0).length:=(by rw [<- H];simpa using Y);have G:=k5o (TC.enc (S:=S) (w:=w) (N:=N)) dl;have a6:(dl.map TC.t).Perm (x0::xs0):=(by rw [<- ad];exact (by simpa using a5:dl.Perm d).map _);have a7:(dl.map TC.t).Pairwise (fun a b=>cf b a<0->False):=(by rw [List.pairwise_map,List.pairwise_iff_getElem];intro i j hi D a8 av;have:=L i j (qas _) a8 (by rw [<- A];exact D);rw [getElem!_pos dl.toArray j (by simpa using D),getElem!_pos dl.toArray i (by simpa using hi)] at this;simp only [ltOf,List.getElem_toArray,decide_eq_false_iff_not] at this;exact this av);obtain ⟨W,O⟩:∃ W,W=sortWorldK (TC.enc (S:=S) (w:=w) (N:=N)) 2 w blk 0 q dl.toArray os:=⟨_,rfl⟩;have M:w.heap.size<=W.heap.size:=(by rw [O];exact size_sortWorldK_c (TC.enc (S:=S) (w:=w) (N:=N)) 2 w blk 0 q dl.toArray os);have aw:∀ k,k<w.heap.size->k≠blk->W.heap[k]?=w.heap[k]?:=fun k hk I=>(by rw [O];unfold sortWorldK;rw [Go.Sort.heap_grow_old _ _ (by rw [Go.Sort.size_putRowK];exact hk)];simp [Go.Sort.putRowK,Sort.putRow,Sort.mapBlock,Sort.ahead,qbt,Ne.symm I]);have a9:W.heap[blk]?=some (.cells (Sort.putCells _root_.id 0 (Go.Sort.flatK (TC.enc (S:=S) (w:=w) (N:=N)) 2 dl.toArray) cur) e (0,0)):=(by rw [O];unfold sortWorldK;rw [Go.Sort.heap_grow_old _ _ (by rw [Go.Sort.size_putRowK];exact ao)];simp [Go.Sort.putRowK,Sort.putRow,Sort.mapBlock,Sort.ahead,qbt,R,Sort.onCells]);have bk:(Go.Sort.flatK (TC.enc (S:=S) (w:=w) (N:=N)) 2 dl.toArray).size<=cur.size:=(by rw [Go.Sort.size_flatK,V];have:dl.toArray.size=dl.length:=(by simp);rw [this,A];exact qbg 2 J);have ah:W.ownsRow 0 e 2 (ψ.val id) (x0::xs0).length (dl.flatMap (TC.enc (S:=S) (w:=w) (N:=N))):=by
    refine ⟨?_, .inr ⟨blk,cap,_,B,qas _,a9,J,a1,by simp [Sort.putCells,V],?_⟩⟩;rw [<- G];simp [A]
    ·rw [<- G];apply List.ext_getElem?;intro j;have ba:(Go.Sort.flatK (TC.enc (S:=S) (w:=w) (N:=N)) 2 dl.toArray).size=(x0::xs0).length*2:=(by rw [Go.Sort.size_flatK];simp [A]);by_cases D:j<(x0::xs0).length*2;rw [List.getElem?_take_of_lt D,qal,qal];have bb:j<cur.size:=(by omega);have ai:j<(Go.Sort.flatK (TC.enc (S:=S) (w:=w) (N:=N)) 2 dl.toArray).size:=(by omega);simp only [Sort.putCells,Array.getElem?_mapIdx,qa8 bb,qai,qa8 ai,qas,true_and,Nat.zero_add,qt ai,Nat.sub_zero,_root_.id];rw [getElem!_pos (Go.Sort.flatK (TC.enc (S:=S) (w:=w) (N:=N)) 2 dl.toArray) j ai]
     ·rw [List.getElem?_take_eq_none (by omega),qaz (by rw [qav,ba];omega)]
   rw [<- O];have ax:∀ k,k<w.heap.size->¬ Blk (ψ.val id) k->W.heap[k]?=w.heap[k]?:=fun k bc hk=>aw k bc fun e=>hk (.of (by rw [B,e];rfl));have aa:ψ.set id (x0::xs0).length (ψ.val id)=ψ:=by
    unfold Env.set;congr 1
    ·funext j;split;rename_i D;rw [D,hl]
     ·rfl
    ·funext j;split;rename_i D;rw [D]
     ·rfl
   have ay:Same S w W:=fun k hk bd=>aw k bd fun e=>aq (e ▸ hk);obtain ⟨c1,c2,c3⟩:=l.upd (n:=(x0::xs0).length) (v:=ψ.val id) (w':=W) (ob' := .frow e 2 ((dl.map TC.t).map eTmR)) Q M ax (.inr ⟨hl,rfl⟩) (fun b hb => .inl hb) (by
    rw [aa];refine ⟨by rw [hl];simp [A],am,dl.flatMap (TC.enc (S:=S) (w:=w) (N:=N)),by rw [qj,qj,A];exact ah,fun z C=>?_,fun k z j v y C hv hy=>?_⟩;obtain ⟨t,ht,rfl⟩:=qx.1 C;rw [knf];exact ⟨rfl,fun y hy=>by have hy:y∈[eI t.rule,eL 2 eTmR t.args]:=hy;simp only [qan,List.not_mem_nil,or_false] at hy;rcases hy with rfl | rfl <;> rfl⟩
    ·rw [qg,qg] at C;cases U:dl[k]? with
     | none=>rw [U] at C;simp at C
     | some x=>
      rw [U] at C;simp only [qai,qb] at C;subst C;rw [knf] at hy;have hy:[eI x.t.rule,eL 2 eTmR x.t.args][j]?=some y:=hy;have D:j<2:=(qd.1 hy).1;rw [k4w (fun _=>rfl),show (k*2+j) / 2=k by omega,U,qh,show (k*2+j) % 2=j by omega] at hv
      match j,D with
      | 0,_=>simp [TC.enc] at hv hy;subst hv hy;exact x.ra.keep ay
      | 1,_=>simp [TC.enc] at hv hy;subst hv hy;exact x.rb.keep ay)
   rw [aa] at c1;exact ⟨_,rfl,_,_,_,⟨rfl,rfl,dl.map TC.t,a6,a7,rfl⟩,ψ,S,c1, .fz (.tup rfl (fun i v x h=>by simp at h)),⟨by rw [O];rfl,by rw [O];rfl,by rw [O];rfl,M,c3,no0⟩,Ext.refl,fun _ h=>h,fun _ h=>h,c2⟩
end
open Go Go.Proofs Go.Proofs.Tryz
open Go.Shelf Go.Proofs.Tryz
def k2b:Go.Shelf.Ren:=⟨fun | 6=>33 | 15=>71 | 14=>81 | 28=>119 | 29=>120 | 20=>124 | 21=>125 | 22=>126 | 23=>127 | 24=>128 | 25=>129 | 26=>130 | 27=>131 | 46=>167 | 47=>162 | 48=>163 | 49=>168 | 50=>169 | 57=>183 | n=>n,fun | 22=>41 | 24=>50 | 25=>58 | 3=>3 | 39=>111 | 0=>0 | 53=>149 | 55=>152 | 4=>4 | 46=>163 | 45=>162 | 50=>167 | 5=>5 | 9=>9 | 66=>200 | 70=>204 | 76=>214 | 77=>215 | n=>n,fun | n=>n⟩
theorem k3g:Go.Proofs.SlLaysF0.n6 prog k2b:={
 mixed:=by kernel_rfl
 f6:=⟨Tryz.f33.name,by decide,func33.trans (qah some (by kernel_rfl))⟩
 f14:=⟨Tryz.f81.name,by decide,func81.trans (qah some (by kernel_rfl))⟩
 f15:=func71.trans (qah some (by kernel_rfl))
 f20:=⟨Tryz.f124.name,by decide,func124.trans (qah some (by kernel_rfl))⟩
 f21:=⟨Tryz.f125.name,by decide,func125.trans (qah some (by kernel_rfl))⟩
 f22:=⟨Tryz.f126.name,by decide,func126.trans (qah some (by kernel_rfl))⟩
 f23:=⟨Tryz.f127.name,by decide,func127.trans (qah some (by kernel_rfl))⟩
 f24:=⟨Tryz.f128.name,by decide,func128.trans (qah some (by kernel_rfl))⟩
 f25:=⟨Tryz.f129.name,by decide,func129.trans (qah some (by kernel_rfl))⟩
 f26:=⟨Tryz.f130.name,by decide,func130.trans (qah some (by kernel_rfl))⟩
 f27:=⟨Tryz.f131.name,by decide,func131.trans (qah some (by kernel_rfl))⟩
 f28:=func119.trans (qah some (by kernel_rfl))
 f29:=func120.trans (qah some (by kernel_rfl))
 f46:=⟨Tryz.f167.name,by decide,func167.trans (qah some (by kernel_rfl))⟩
 f47:=func162.trans (qah some (by kernel_rfl))
 f48:=func163.trans (qah some (by kernel_rfl))
 f49:=⟨Tryz.f168.name,by decide,func168.trans (qah some (by kernel_rfl))⟩
 f50:=⟨Tryz.f169.name,by decide,func169.trans (qah some (by kernel_rfl))⟩
 f57:=⟨Tryz.f183.name,by decide,func183.trans (qah some (by kernel_rfl))⟩
 t0:=underlying0
 a0:=isAgg0
 z0:=sizeOf0
 v0:=zeroValue0
 t3:=underlying3
 a3:=isAgg3
 z3:=sizeOf3
 v3:=zeroValue3
 t4:=underlying4
 a4:=isAgg4
 z4:=sizeOf4
 v4:=zeroValue4
 t5:=underlying5
 a5:=isAgg5
 z5:=sizeOf5
 v5:=zeroValue5
 t9:=underlying9
 a9:=isAgg9
 z9:=sizeOf9
 v9:=zeroValue9
 t22:=underlying41
 a22:=isAgg41
 z22:=sizeOf41
 v22:=zeroValue41
 t25:=underlying58
 a25:=isAgg58
 z25:=sizeOf58
 v25:=zeroValue58
 t39:=underlying111
 a39:=isAgg111
 z39:=sizeOf111
 v39:=zeroValue111
 t45:=underlying162
 a45:=isAgg162
 z45:=sizeOf162
 v45:=zeroValue162
 t46:=underlying163
 a46:=isAgg163
 z46:=sizeOf163
 v46:=zeroValue163
 t50:=underlying167
 a50:=isAgg167
 z50:=sizeOf167
 v50:=zeroValue167
 t53:=underlying149
 a53:=isAgg149
 z53:=sizeOf149
 v53:=zeroValue149
 t55:=underlying152
 a55:=isAgg152
 z55:=sizeOf152
 v55:=zeroValue152
 t66:=underlying200
 a66:=isAgg200
 z66:=sizeOf200
 v66:=zeroValue200
 t70:=underlying204
 a70:=isAgg204
 z70:=sizeOf204
 v70:=zeroValue204
 t76:=underlying214
 a76:=isAgg214
 z76:=sizeOf214
 v76:=zeroValue214
 t77:=underlying215
 a77:=isAgg215
 z77:=sizeOf215
 v77:=zeroValue215 }
theorem cmpC (s t:Tm) (hs:s.size<=1000) (ht:t.size<=1000):@PCall ⟨true⟩ prog 34 [eTm s,eTm t] (eI (TV.cmpT s t)):=@kvv ⟨true⟩ s t _ (TV.cmp_prog s t hs ht)
theorem k8u:Sort.SWO (ltOf TV.cmpT):=by
 have an:=fun x y=>TV.cmpT_ord.anti x y trivial;have tr:=fun x y z=>TV.cmpT_ord.trans x y z trivial trivial trivial;refine ⟨fun x=>?_,fun x y z h1 a=>?_,fun x y z h1 a=>?_⟩;have:=an x x;simp only [ltOf,decide_eq_false_iff_not];omega
 ·simp only [ltOf,qa3] at h1 a ⊢;have b:=tr x y z (by omega) (by omega);have c:TV.cmpT x z≠0:=fun h=>by have e:=TV.cmpT_eq0.1 h;subst e;have:=an x y;omega
  omega
 ·simp only [ltOf,decide_eq_false_iff_not] at h1 a ⊢;have e1:=an x y;have e2:=an y z;have e3:=an x z;have:=tr z y x (by omega) (by omega);omega
def kiu (xs:List Tm):List Tm:=xs.mergeSort fun x y=>decide (TV.cmpT x y<=0)
theorem ks8 {xs ys:List Tm} (h:ys.Perm xs) (hs:ys.Pairwise fun a b=>TV.cmpT b a<0->False):ys=kiu xs:=by
 have an:=fun x y=>TV.cmpT_ord.anti x y trivial;have tr:=fun x y z=>TV.cmpT_ord.trans x y z trivial trivial trivial;refine List.Perm.eq_of_pairwise (le:=fun x y=>TV.cmpT x y<=0) ?_ ?_ ?_ (h.trans (List.mergeSort_perm _ _).symm);intro a b _ _ h1 d;have:=an a b;exact TV.cmpT_eq0.1 (by omega)
 ·exact hs.imp fun {a b} h=>by have:=an a b;have:¬ TV.cmpT b a<0:=h;omega
 ·refine (List.pairwise_mergeSort (le:=fun x y=>decide (TV.cmpT x y<=0)) (fun a b c h1 d=>?_) (fun a b=>?_) xs).imp fun {a b} h=>by simpa using h
  simp only [qa3] at h1 d ⊢;exact tr a b c h1 d
  ·have:=an a b;simp only [qbm,qa3];omega
def kmp (xs:List Tm):Option (List Tm):=bif Nat.blt xs.length 4611686018427387904 && xs.all (fun t=>Nat.ble t.size 1000) then some (kiu xs) else none
theorem kup {xs v:List Tm} (h:kmp xs=some v):xs.length<4611686018427387904/\(∀ t∈xs,t.size<=1000)/\v=kiu xs:=by
 unfold kmp at h;cases hc:(Nat.blt xs.length 4611686018427387904 && xs.all (fun t=>Nat.ble t.size 1000)) with
 | false=>rw [hc] at h;cases h
 | true=>
  rw [hc] at h;injection h with h;rw [qo] at hc;exact ⟨qi hc.1,fun t ht=>qi (qk.1 hc.2 t ht),h.symm⟩
theorem k4g {xs v:List Tm} (h:kmp xs=some v):xs.length=v.length:=by rw [(kup h).2.2,kiu,List.length_mergeSort]
theorem kac6:∀ args w,(callFunc 34 args).run prog w = .ok (.enter 34 args) w:=enters_of func34 (by kernel_rfl) rfl
section
variable {st:St} {o:Oper} {id:Nat}
theorem k8p (ts:Array TypeId) (X:Operand) (g:Nat) (e:TypeId) (n:Nat) (xs:List Tm) {v:List Tm} (h:kmp xs=some v) (ho:o.op = .call { callee := .value (.func 33),args:=#[X, .func 34],argTypes:=ts }) (l:st.eval X = .row id n) (i:kaa st.heap id=some (.frow e 2 (xs.map eTmR))) (hn:n=xs.length):
  StepA prog o st (.fz (.tup [])) ((id, .frow e 2 (v.map eTmR))::st.heap) st.ids:=by
 obtain ⟨h1,m,rfl⟩:=kup h;have q:=kabv (o:=o) (st:=st) (id:=id) (n:=n) (xs:=xs) (N:=1000) TV.cmpT
  (fun α _ enc hk h1 c r blk off cap d w b s f j=>AnyQ.slices_SortFunc k3g 2 (fun w=>by kernel_rfl) (fun w=>by kernel_rfl) enc hk h1 c r 34 #[] blk off cap d w kac6 b s f j)
  (fun p cap fv w=>AnyF.slices_SortFunc_none k3g p cap fv w) k8u cmpC
  ⟨_,func33,by kernel_rfl,by kernel_rfl⟩ ho l i hn m h1
 intro F S0 N0 ψ S a w hs;refine kim ?_ (q F S0 N0 ψ S a w hs);rintro u w' ⟨c,k,ids',⟨rfl,rfl,ys,hp,t,rfl⟩,hr⟩;rw [<- ks8 hp t];exact hr
end
end Go.Proofs.YtnlhjbnpjefjgabGreatDoor
